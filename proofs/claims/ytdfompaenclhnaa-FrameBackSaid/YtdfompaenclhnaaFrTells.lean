/- wakes; the law FrameTells. -/
import Derived.Test.YtdfompaenclhnaaFrFrame
namespace Go.Proofs.Ytdfompaenclhnaa
open Go.RowKit

def Yes (w : World) (e : Ending) (w' : World) : Prop := e = .returned (.bool true) ∧ Below w.heap.size w w'

set_option maxHeartbeats 1000000 in
theorem wakes_any (w : World) : Calls Try.prog 9 #[] w (Yes w) := by
  have s1 : sizeN 1 = 5 := by decide
  have s0 : sizeN 0 = 0 := by decide
  have hf := frame_any (some ⟨w.heap.size, 0, none⟩) 1 1 [65] (w.alloc (.cells #[.int .u8 65] 5)) (Rd.one w _ 65 65 rfl)
  go_enter Try.func9, Try.ntmps9
  go_wp2_with fail
  refine hf.mono ?_
  rintro e w1 ⟨hB, -, -, h3⟩
  obtain ⟨A, c, rfl, ho⟩ := h3 (by simp) (by simp)
  have hr : Rd w1 1 A 5 c (bv [0, 0, 0, 1, 65]) := Rd.of_own ho
  have hs := run_str (P := Try.prog) w1 22 5 9 Try.underlying22 Try.underlying5 Try.underlying9 hr
  have HB := Lib.hid hB
  clear hr ho h3 hf hB
  go_wp2_with (go_at_call 12; refine (size_any _ (by omega) (by omega) _).mono ?_; rintro e w' ⟨rfl, rfl⟩)
  go_ret
  exact ⟨rfl, ((Below.refl _ w).alloc (Nat.le_refl _) _).trans (HB.out.mono (by simp))⟩

theorem err_eql (a b : Int) (h : a = b) : (a == b) = true := by simp [h]

set_option maxHeartbeats 1000000 in
theorem frameTells_walk (w : World) (A : Option Addr) (n c : Nat) (l : List UInt8) (hr : Rd w 1 A n c (bv l)) (x : Int) (hx1 : -9223372036854775808 ≤ x) (hx2 : x ≤ 9223372036854775807) :
    Calls Try.prog 3 #[.slice A n c, .int .i64 x] w (Yes w) := by
  have hc := hr.cap
  have hm := hr.max
  unfold maxLen at hm
  have hl := hr.blen
  by_cases h0 : 2000 < n
  · clear hl
    go_enter Try.func3, Try.ntmps3
    go_wp2_with (go_at_call 9; refine (wakes_any _).mono ?_; rintro e w1 ⟨rfl, HB⟩)
    go_ret
    exact ⟨rfl, HB⟩
  by_cases h1 : n = 0
  · subst h1
    have HL := Lib.hid hl
    clear hl
    go_enter Try.func3, Try.ntmps3
    go_wp2_with fail
    refine (frame_any _ _ _ l _ hr).mono ?_
    rintro e w1 ⟨HB, h2, -, -⟩
    obtain rfl := h2 HL.out
    have hr1 := Lib.hid (hr.below HB)
    go_wp2_with fail
    refine (rframe_any _ _ _ l _ hr1.out).mono ?_
    rintro e w2 ⟨HB2, h3, -, -⟩
    obtain rfl := h3 HL.out
    have hs := run_str (P := Try.prog) w2 22 5 9 Try.underlying22 Try.underlying5 Try.underlying9 (show Rd w2 1 none 0 0 (bv []) from Rd.nil w2 1)
    have HB3 := Lib.hid (HB.trans (HB2.mono HB.size))
    clear h2 h3 HB HB2 hr1
    go_wp2_with (first
      | (go_at_call 12; refine (size_any _ (by omega) (by omega) _).mono ?_; rintro e w' ⟨rfl, rfl⟩)
      | (go_at_call 13; refine (rsize_any _ (by omega) (by omega) _).mono ?_; rintro e w' ⟨rfl, rfl⟩)
      | (go_at_call 9; refine (wakes_any _).mono ?_; rintro e w1 ⟨rfl, HB4⟩))
    go_ret
    exact ⟨rfl, HB3.out.trans (HB4.mono HB3.out.size)⟩
  have HL := Lib.hid hl
  have H1 : 1 ≤ l.length := by omega
  have H2 : l.length ≤ 524288 := by omega
  clear hl
  go_enter Try.func3, Try.ntmps3
  go_wp2_with fail
  refine (frame_any _ _ _ l _ hr).mono ?_
  rintro e w1 ⟨HB, -, -, h2⟩
  obtain ⟨A1, c1, rfl, ho1⟩ := h2 H1 H2
  have hr1 := Lib.hid (hr.below HB)
  have Hr1 := Lib.hid (Rd.of_own ho1)
  clear ho1 h2
  go_wp2_with fail
  refine (rframe_any _ _ _ l _ hr1.out).mono ?_
  rintro e w2 ⟨HB2, -, -, h3⟩
  obtain ⟨A2, c2, rfl, ho2⟩ := h3 H1 H2
  have hs1 := run_str (P := Try.prog) w2 22 5 9 Try.underlying22 Try.underlying5 Try.underlying9 (Hr1.out.below HB2)
  have hs2 := run_str (P := Try.prog) w2 22 5 9 Try.underlying22 Try.underlying5 Try.underlying9 (Rd.of_own ho2)
  have HB3 := Lib.hid (HB.trans (HB2.mono HB.size))
  clear h3 HB HB2 hr1 ho2 Hr1
  go_wp2_with (first
      | (go_at_call 12; refine (size_any _ (by omega) (by omega) _).mono ?_; rintro e w' ⟨rfl, rfl⟩)
      | (go_at_call 13; refine (rsize_any _ (by omega) (by omega) _).mono ?_; rintro e w' ⟨rfl, rfl⟩)
      | (go_at_call 9; refine (wakes_any _).mono ?_; rintro e w1 ⟨rfl, HB4⟩))
  go_ret
  exact ⟨rfl, HB3.out.trans (HB4.mono HB3.out.size)⟩
end Go.Proofs.Ytdfompaenclhnaa
