/- frame.Frame, hoardingref07.Frame, bytes.Clone: what they answer. -/
import Derived.Test.YtckofpdhcpabnaaFrTy
import Derived.Test.YtckofpdhcpabnaaFrFirst
namespace Go.Proofs.Ytckofpdhcpabnaa
open Go.RowKit

def by4 (n : Nat) : List UInt8 := [UInt8.ofNat (n / 16777216), UInt8.ofNat (n / 65536), UInt8.ofNat (n / 256), UInt8.ofNat n]

/-- what both Frames answer -/
def FrameP (l : List UInt8) (w : World) (e : Ending) (w' : World) : Prop :=
  Below w.heap.size w w' ∧ (l.length = 0 → e = .returned (.tuple #[.slice none 0 0, .int .i64 2])) ∧
  (524288 < l.length → e = .returned (.tuple #[.slice none 0 0, .int .i64 3])) ∧
  (1 ≤ l.length → l.length ≤ 524288 → ∃ A c, e = .returned (.tuple #[.slice A (l.length + 4) c, .int .i64 0]) ∧ w'.ownsRow w.heap.size 5 1 (.slice A (l.length + 4) c) (l.length + 4) (bv (by4 l.length ++ l)))

theorem by4_bv (n : Nat) (h : n ≤ 524288) : bv (by4 n) = [.int .u8 ((n : Int) / 16777216), .int .u8 ((n : Int) / 65536), .int .u8 ((n : Int) / 256 % 256), .int .u8 ((n : Int) % 256)] := by
  have e1 : (((UInt8.ofNat (n / 16777216)).toNat : Nat) : Int) = (n : Int) / 16777216 := by rw [UInt8.toNat_ofNat']; omega
  have e2 : (((UInt8.ofNat (n / 65536)).toNat : Nat) : Int) = (n : Int) / 65536 := by rw [UInt8.toNat_ofNat']; omega
  have e3 : (((UInt8.ofNat (n / 256)).toNat : Nat) : Int) = (n : Int) / 256 % 256 := by rw [UInt8.toNat_ofNat']; omega
  have e4 : (((UInt8.ofNat n).toNat : Nat) : Int) = (n : Int) % 256 := by rw [UInt8.toNat_ofNat']; omega
  simp only [bv, by4, List.map_cons, List.map_nil, e1, e2, e3, e4]

set_option maxHeartbeats 1000000 in
theorem frame_any (A : Option Addr) (n c : Nat) (l : List UInt8) (w : World) (hr : Rd w 1 A n c (bv l)) :
    Calls Try.prog 26 #[.slice A n c] w (FrameP l w) := by
  have hc := hr.cap
  have hm := hr.max
  unfold maxLen at hm
  have hl := hr.blen
  by_cases h0 : n = 0
  · have ht : (((n : Nat) : Int) == 0) = true := by simp [h0]
    have HL := Lib.hid hl
    have H0 := Lib.hid h0
    clear hl h0
    go_enter Try.func26, Try.ntmps26
    go_wp2
    go_ret2
    refine ⟨Below.refl _ _, fun _ => rfl, ?_, ?_⟩
    · intro h; have := HL.out; have := H0.out; omega
    · intro h; have := HL.out; have := H0.out; omega
  have ht : (((n : Nat) : Int) == 0) = false := by simp; omega
  have hp : 1 ≤ n := by omega
  by_cases h1 : 524288 < n
  · have HL := Lib.hid hl
    have H0 := Lib.hid h0
    clear hl h0
    go_enter Try.func26, Try.ntmps26
    go_wp2_with (go_at_call 46; refine (size_no _ (by omega) (by omega) (by omega) _).mono ?_; rintro e w' ⟨rfl, rfl⟩)
    go_ret2
    refine ⟨Below.refl _ _, ?_, fun _ => rfl, ?_⟩
    · intro h; have := HL.out; have := H0.out; omega
    · intro h; have := HL.out; omega
  have ht2 : (((n : Nat) : Int) + 4 == 0) = false := by simp; omega
  have HL := Lib.hid hl
  have H0 := Lib.hid h0
  clear hl h0
  go_enter Try.func26, Try.ntmps26
  go_wp2_with (go_at_call 46; refine (size_yes _ (by omega) (by omega) _).mono ?_; rintro e w' ⟨rfl, rfl⟩)
  go_loopw [5, 6] (fun o s wr => ∃ (k : Nat) (A' : Option Addr) (c' : Nat), ((k = 0 ∧ s = .int .i64 24) ∨ (k = 1 ∧ s = .int .i64 16) ∨ (k = 2 ∧ s = .int .i64 8) ∨ (k = 3 ∧ s = .int .i64 0) ∨ (k = 4 ∧ s = .int .i64 (-8))) ∧ o = .slice A' k c' ∧
      wr.ownsRow w.heap.size 5 1 (.slice A' k c') k (bv ((by4 n).take k)) ∧ Below w.heap.size w wr) (fun _ s _ => (intOf s + 8).toNat)
  case atStart => exact ⟨0, none, 0, .inl ⟨rfl, rfl⟩, rfl, World.ownsRow_nil _ _ _ _, Below.refl _ _⟩
  case round =>
    obtain ⟨k, A', c', hk, rfl, hown, hB⟩ := hrel
    rcases hk with ⟨rfl, rfl⟩ | ⟨rfl, rfl⟩ | ⟨rfl, rfl⟩ | ⟨rfl, rfl⟩ | ⟨rfl, rfl⟩
    · have HB := Lib.hid hB
      have HO := Lib.hid hown
      clear hB hown
      go_wp2_with (at_builtin; refine app_u8 rfl (.tmp 20) (.tmp 25) rfl w.heap.size A' c' _ _ rfl (HO.out.alloc _) _ _ _ [UInt8.ofNat (n / 16777216)] rfl (by refine Rd.one _ _ _ _ ?_; rw [UInt8.toNat_ofNat']; (try rw [IntKind.wrap_u8']); omega) (by omega) (by have := HB.out.size; simp; omega) ?_; intro A1 c1 w1 ho1 hg1 hat1 hn1; have HO1 := Lib.hid ho1; have HG1 := Lib.hid hg1; clear ho1 hg1 hat1 hn1)
      go_roundw
      case rel => exact ⟨1, A1, c1, by simp, rfl, HO1.out, below_app (HB.out.alloc HB.out.size _) (HO.out.alloc _) HG1.out (by have := HB.out.size; simp; omega)⟩
      case measure => simp [intOf]
    · have HB := Lib.hid hB
      have HO := Lib.hid hown
      clear hB hown
      go_wp2_with (at_builtin; refine app_u8 rfl (.tmp 20) (.tmp 25) rfl w.heap.size A' c' _ _ rfl (HO.out.alloc _) _ _ _ [UInt8.ofNat (n / 65536)] rfl (by refine Rd.one _ _ _ _ ?_; rw [UInt8.toNat_ofNat']; (try rw [IntKind.wrap_u8']); omega) (by omega) (by have := HB.out.size; simp; omega) ?_; intro A1 c1 w1 ho1 hg1 hat1 hn1; have HO1 := Lib.hid ho1; have HG1 := Lib.hid hg1; clear ho1 hg1 hat1 hn1)
      go_roundw
      case rel => exact ⟨2, A1, c1, by simp, rfl, HO1.out, below_app (HB.out.alloc HB.out.size _) (HO.out.alloc _) HG1.out (by have := HB.out.size; simp; omega)⟩
      case measure => simp [intOf]
    · have HB := Lib.hid hB
      have HO := Lib.hid hown
      clear hB hown
      go_wp2_with (at_builtin; refine app_u8 rfl (.tmp 20) (.tmp 25) rfl w.heap.size A' c' _ _ rfl (HO.out.alloc _) _ _ _ [UInt8.ofNat (n / 256)] rfl (by refine Rd.one _ _ _ _ ?_; rw [UInt8.toNat_ofNat']; (try rw [IntKind.wrap_u8']); omega) (by omega) (by have := HB.out.size; simp; omega) ?_; intro A1 c1 w1 ho1 hg1 hat1 hn1; have HO1 := Lib.hid ho1; have HG1 := Lib.hid hg1; clear ho1 hg1 hat1 hn1)
      go_roundw
      case rel => exact ⟨3, A1, c1, by simp, rfl, HO1.out, below_app (HB.out.alloc HB.out.size _) (HO.out.alloc _) HG1.out (by have := HB.out.size; simp; omega)⟩
      case measure => simp [intOf]
    · have HB := Lib.hid hB
      have HO := Lib.hid hown
      clear hB hown
      go_wp2_with (at_builtin; refine app_u8 rfl (.tmp 20) (.tmp 25) rfl w.heap.size A' c' _ _ rfl (HO.out.alloc _) _ _ _ [UInt8.ofNat n] rfl (by refine Rd.one _ _ _ _ ?_; rw [UInt8.toNat_ofNat']; (try rw [IntKind.wrap_u8']); omega) (by omega) (by have := HB.out.size; simp; omega) ?_; intro A1 c1 w1 ho1 hg1 hat1 hn1; have HO1 := Lib.hid ho1; have HG1 := Lib.hid hg1; clear ho1 hg1 hat1 hn1)
      go_roundw
      case rel => exact ⟨4, A1, c1, by simp, rfl, HO1.out, below_app (HB.out.alloc HB.out.size _) (HO.out.alloc _) HG1.out (by have := HB.out.size; simp; omega)⟩
      case measure => simp [intOf]
    · have HB := Lib.hid hB
      have HO := Lib.hid hown
      clear hB hown
      go_wp2_with (at_builtin; refine app_u8 rfl (.tmp 27) (.tmp 28) rfl w.heap.size A' c' _ _ rfl HO.out _ _ _ l rfl (hr.below HB.out) (by omega) HB.out.size ?_; intro A1 c1 w1 ho1 hg1 hat1 hn1; have HO1 := Lib.hid ho1; have HG1 := Lib.hid hg1; clear ho1 hg1 hat1 hn1)
      go_ret2
      have hl := HL.out
      have hB1 : Below w.heap.size w w1 := below_app HB.out HO.out HG1.out HB.out.size
      refine ⟨hB1, ?_, ?_, ?_⟩
      · intro h; omega
      · intro h; omega
      · intro _ _
        have h1 := HO1.out
        refine ⟨A1, c1, ?_, ?_⟩
        · rw [hl, Nat.add_comm]; rfl
        · rw [hl, Nat.add_comm n 4]; exact h1

set_option maxHeartbeats 1000000 in
theorem rframe_any (A : Option Addr) (n c : Nat) (l : List UInt8) (w : World) (hr : Rd w 1 A n c (bv l)) :
    Calls Try.prog 10 #[.slice A n c] w (FrameP l w) := by
  have hc := hr.cap
  have hm := hr.max
  unfold maxLen at hm
  have hl := hr.blen
  by_cases h0 : n = 0
  · have ht : (((n : Nat) : Int) == 0) = true := by simp [h0]
    have HL := Lib.hid hl
    have H0 := Lib.hid h0
    clear hl h0
    go_enter Try.func10, Try.ntmps10
    go_wp2
    go_ret2
    refine ⟨Below.refl _ _, fun _ => rfl, ?_, ?_⟩
    · intro h; have := HL.out; have := H0.out; omega
    · intro h; have := HL.out; have := H0.out; omega
  have ht : (((n : Nat) : Int) == 0) = false := by simp; omega
  have hp : 1 ≤ n := by omega
  by_cases h1 : 524288 < n
  · have HL := Lib.hid hl
    have H0 := Lib.hid h0
    clear hl h0
    go_enter Try.func10, Try.ntmps10
    go_wp2
    go_ret2
    refine ⟨Below.refl _ _, ?_, fun _ => rfl, ?_⟩
    · intro h; have := HL.out; have := H0.out; omega
    · intro h; have := HL.out; omega
  have HL := Lib.hid hl
  have H0 := Lib.hid h0
  clear hl h0
  have hown : (w.alloc (.cells #[.int .u8 ((n : Int) / 16777216), .int .u8 ((n : Int) / 65536), .int .u8 ((n : Int) / 256 % 256), .int .u8 ((n : Int) % 256)] 5)).ownsRow w.heap.size 5 1
      (.slice (some ⟨w.heap.size, 0, none⟩) 4 4) 4 (bv (by4 n)) := by
    rw [by4_bv n (by omega)]
    exact World.ownsRow_lit (base := w.heap.size) (e := 5) (size := 1) w #[.int .u8 ((n : Int) / 16777216), .int .u8 ((n : Int) / 65536), .int .u8 ((n : Int) / 256 % 256), .int .u8 ((n : Int) % 256)] 4 (Nat.le_refl _) (by simp [maxLen]) rfl
  have HO := Lib.hid hown
  clear hown
  go_enter Try.func10, Try.ntmps10
  go_wp2_with (at_builtin; refine app_u8 rfl (.tmp 22) (.tmp 23) rfl w.heap.size _ 4 4 (by4 n) rfl HO.out _ _ _ l rfl (hr.alloc _) (by omega) (by simp) ?_; intro A1 c1 w1 ho1 hg1 hat1 hn1; have HO1 := Lib.hid ho1; have HG1 := Lib.hid hg1; clear ho1 hg1 hat1 hn1)
  go_ret2
  have hl := HL.out
  have hB1 : Below w.heap.size w w1 := below_app ((Below.refl _ _).alloc (Nat.le_refl _) _) HO.out HG1.out (by simp)
  refine ⟨hB1, ?_, ?_, ?_⟩
  · intro h; omega
  · intro h; omega
  · intro _ _
    have h1 := HO1.out
    refine ⟨A1, c1, ?_, ?_⟩
    · rw [hl, Nat.add_comm]; rfl
    · rw [hl, Nat.add_comm n 4]; exact h1
end Go.Proofs.Ytckofpdhcpabnaa
