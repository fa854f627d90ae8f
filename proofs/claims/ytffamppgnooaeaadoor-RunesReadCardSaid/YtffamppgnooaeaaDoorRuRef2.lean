/- hoardingref01.Bytes. -/
import Derived.Test.YtffamppgnooaeaaDoorRuFour
import Derived.Test.YtffamppgnooaeaaDoorRuEsc2
import Derived.Test.YtffamppgnooaeaaDoorBase
namespace Go.Proofs.YtffamppgnooaeaaDoor
open Go.RowKit
set_option linter.unusedVariables false
set_option linter.unusedSimpArgs false

theorem rd_fresh (w : World) (t : TypeId) (l : List UInt8) (hl : l.length ≤ 4) : Rd (w.alloc (.cells (bv l).toArray t)) 1 (some ⟨w.heap.size, 0, none⟩) l.length l.length (bv l) := by
  have := Rd.lit w 1 l.length (bv l).toArray t (0, 0) (by simp) (by unfold maxLen; omega)
  simpa using this
theorem str_fresh (w : World) (l : List UInt8) (hl : l.length ≤ 4) : (convert 37 9 (.slice (some ⟨w.heap.size, 0, none⟩) l.length l.length)).run Tryd.prog (w.alloc (.cells (bv l).toArray 5)) = .ok (.string ⟨l.toArray⟩) (w.alloc (.cells (bv l).toArray 5)) :=
  run_str (P := Tryd.prog) _ 37 5 9 Tryd.underlying37 Tryd.underlying5 Tryd.underlying9 (rd_fresh w _ l hl)
theorem str1 (w : World) (a : Int) (x : UInt8) (ha : a = (x.toNat : Int)) : (convert 37 9 (.slice (some ⟨w.heap.size, 0, none⟩) 1 1)).run Tryd.prog (w.alloc (.cells #[.int .u8 a] 5)) = .ok (.string ⟨#[x]⟩) (w.alloc (.cells #[.int .u8 a] 5)) := by subst ha; exact str_fresh w [x] (by simp)
theorem str2 (w : World) (a b : Int) (x y : UInt8) (ha : a = (x.toNat : Int)) (hb : b = (y.toNat : Int)) : (convert 37 9 (.slice (some ⟨w.heap.size, 0, none⟩) 2 2)).run Tryd.prog (w.alloc (.cells #[.int .u8 a, .int .u8 b] 5)) = .ok (.string ⟨#[x, y]⟩) (w.alloc (.cells #[.int .u8 a, .int .u8 b] 5)) := by subst ha; subst hb; exact str_fresh w [x, y] (by simp)
theorem str3 (w : World) (a b c : Int) (x y z : UInt8) (ha : a = (x.toNat : Int)) (hb : b = (y.toNat : Int)) (hc : c = (z.toNat : Int)) : (convert 37 9 (.slice (some ⟨w.heap.size, 0, none⟩) 3 3)).run Tryd.prog (w.alloc (.cells #[.int .u8 a, .int .u8 b, .int .u8 c] 5)) = .ok (.string ⟨#[x, y, z]⟩) (w.alloc (.cells #[.int .u8 a, .int .u8 b, .int .u8 c] 5)) := by subst ha; subst hb; subst hc; exact str_fresh w [x, y, z] (by simp)
theorem str4 (w : World) (a b c d : Int) (x y z t : UInt8) (ha : a = (x.toNat : Int)) (hb : b = (y.toNat : Int)) (hc : c = (z.toNat : Int)) (hd : d = (t.toNat : Int)) : (convert 37 9 (.slice (some ⟨w.heap.size, 0, none⟩) 4 4)).run Tryd.prog (w.alloc (.cells #[.int .u8 a, .int .u8 b, .int .u8 c, .int .u8 d] 5)) = .ok (.string ⟨#[x, y, z, t]⟩) (w.alloc (.cells #[.int .u8 a, .int .u8 b, .int .u8 c, .int .u8 d] 5)) := by subst ha; subst hb; subst hc; subst hd; exact str_fresh w [x, y, z, t] (by simp)
theorem ofn {n : Nat} (h : n < 256) : ((UInt8.ofNat n).toNat : Int) = (n : Int) := by rw [ofNat_toNat' h]
def RBytesP (l : List UInt8) (w : World) (e : Ending) (w' : World) : Prop := e = .returned (.string ⟨l.toArray⟩) ∧ Below w.heap.size w w'
set_option maxRecDepth 1000000 in
set_option maxHeartbeats 4000000 in
theorem rbytes1 (r : Nat) (h : r < 128) (w : World) (l : List UInt8) (hl : l = uB r) : Calls Tryd.prog 28 #[.int .i64 (r : Nat)] w (RBytesP l w) := by
  obtain ⟨x0, hE, hh0⟩ : ∃ x0 : UInt8, l = [x0] ∧ (r : Int) = (x0.toNat : Int) :=
    ⟨UInt8.ofNat (r), by rw [hl]; unfold uB; rw [if_pos h], by rw [ofn (by omega)] <;> omega⟩
  have HE := Lib.hid hE
  have HH0 := Lib.hid hh0
  clear hE hl hh0
  go_enter Tryd.func28, Tryd.ntmps28
  go_wp2_with fail
  rw [str1 w _ x0 HH0.out]
  go_wp2_with fail
  go_ret
  exact ⟨by rw [HE.out]; rfl, (Below.refl _ w).alloc (Nat.le_refl _) _⟩
set_option maxRecDepth 1000000 in
set_option maxHeartbeats 4000000 in
theorem rbytes2 (r : Nat) (g : 128 ≤ r) (h : r < 2048) (w : World) (l : List UInt8) (hl : l = uB r) : Calls Tryd.prog 28 #[.int .i64 (r : Nat)] w (RBytesP l w) := by
  obtain ⟨x0, x1, hE, hh0, hh1⟩ : ∃ x0 x1 : UInt8, l = [x0, x1] ∧ (192 + (r : Int) / 64) = (x0.toNat : Int) ∧ (128 + (r : Int) % 64) = (x1.toNat : Int) :=
    ⟨UInt8.ofNat (0xC0 + r / 64), UInt8.ofNat (0x80 + r % 64), by rw [hl]; unfold uB; rw [if_neg (by omega), if_pos h], by rw [ofn (by omega)] <;> omega, by rw [ofn (by omega)] <;> omega⟩
  have HE := Lib.hid hE
  have HH0 := Lib.hid hh0
  have HH1 := Lib.hid hh1
  clear hE hl hh0 hh1
  go_enter Tryd.func28, Tryd.ntmps28
  go_wp2_with fail
  rw [str2 w _ _ x0 x1 HH0.out HH1.out]
  go_wp2_with fail
  go_ret
  exact ⟨by rw [HE.out]; rfl, (Below.refl _ w).alloc (Nat.le_refl _) _⟩
set_option maxRecDepth 1000000 in
set_option maxHeartbeats 4000000 in
theorem rbytes3 (r : Nat) (g : 2048 ≤ r) (h : r < 65536) (w : World) (l : List UInt8) (hl : l = uB r) : Calls Tryd.prog 28 #[.int .i64 (r : Nat)] w (RBytesP l w) := by
  obtain ⟨x0, x1, x2, hE, hh0, hh1, hh2⟩ : ∃ x0 x1 x2 : UInt8, l = [x0, x1, x2] ∧ (224 + (r : Int) / 4096) = (x0.toNat : Int) ∧ (128 + (r : Int) / 64 % 64) = (x1.toNat : Int) ∧ (128 + (r : Int) % 64) = (x2.toNat : Int) :=
    ⟨UInt8.ofNat (0xE0 + r / 4096), UInt8.ofNat (0x80 + r / 64 % 64), UInt8.ofNat (0x80 + r % 64), by rw [hl]; unfold uB; rw [if_neg (by omega), if_neg (by omega), if_pos h], by rw [ofn (by omega)] <;> omega, by rw [ofn (by omega)] <;> omega, by rw [ofn (by omega)] <;> omega⟩
  have HE := Lib.hid hE
  have HH0 := Lib.hid hh0
  have HH1 := Lib.hid hh1
  have HH2 := Lib.hid hh2
  clear hE hl hh0 hh1 hh2
  go_enter Tryd.func28, Tryd.ntmps28
  go_wp2_with fail
  rw [str3 w _ _ _ x0 x1 x2 HH0.out HH1.out HH2.out]
  go_wp2_with fail
  go_ret
  exact ⟨by rw [HE.out]; rfl, (Below.refl _ w).alloc (Nat.le_refl _) _⟩
set_option maxRecDepth 1000000 in
set_option maxHeartbeats 4000000 in
theorem rbytes4 (r : Nat) (g : 65536 ≤ r) (h : r < 1114112) (w : World) (l : List UInt8) (hl : l = uB r) : Calls Tryd.prog 28 #[.int .i64 (r : Nat)] w (RBytesP l w) := by
  obtain ⟨x0, x1, x2, x3, hE, hh0, hh1, hh2, hh3⟩ : ∃ x0 x1 x2 x3 : UInt8, l = [x0, x1, x2, x3] ∧ (240 + (r : Int) / 262144) = (x0.toNat : Int) ∧ (128 + (r : Int) / 4096 % 64) = (x1.toNat : Int) ∧ (128 + (r : Int) / 64 % 64) = (x2.toNat : Int) ∧ (128 + (r : Int) % 64) = (x3.toNat : Int) :=
    ⟨UInt8.ofNat (0xF0 + r / 262144), UInt8.ofNat (0x80 + r / 4096 % 64), UInt8.ofNat (0x80 + r / 64 % 64), UInt8.ofNat (0x80 + r % 64), by rw [hl]; unfold uB; rw [if_neg (by omega), if_neg (by omega), if_neg (by omega)], by rw [ofn (by omega)] <;> omega, by rw [ofn (by omega)] <;> omega, by rw [ofn (by omega)] <;> omega, by rw [ofn (by omega)] <;> omega⟩
  have HE := Lib.hid hE
  have HH0 := Lib.hid hh0
  have HH1 := Lib.hid hh1
  have HH2 := Lib.hid hh2
  have HH3 := Lib.hid hh3
  clear hE hl hh0 hh1 hh2 hh3
  go_enter Tryd.func28, Tryd.ntmps28
  go_wp2_with fail
  rw [str4 w _ _ _ _ x0 x1 x2 x3 HH0.out HH1.out HH2.out HH3.out]
  go_wp2_with fail
  go_ret
  exact ⟨by rw [HE.out]; rfl, (Below.refl _ w).alloc (Nat.le_refl _) _⟩
theorem rbytes_any (r : Nat) (hr : r < 1114112) (w : World) : Calls Tryd.prog 28 #[.int .i64 (r : Nat)] w (RBytesP (uB r) w) := by
  by_cases h1 : r < 128
  · exact rbytes1 r h1 w _ rfl
  by_cases h2 : r < 2048
  · exact rbytes2 r (by omega) h2 w _ rfl
  by_cases h3 : r < 65536
  · exact rbytes3 r (by omega) h3 w _ rfl
  · exact rbytes4 r (by omega) hr w _ rfl
end Go.Proofs.YtffamppgnooaeaaDoor
