/- hoardingref01.One, the laws. -/
import Derived.Test.YtffamppgnooaeaaDoorRuUnq
import Derived.LoopN
namespace Go.Proofs.YtffamppgnooaeaaDoor
open Go.RowKit Go.Lib
set_option linter.unusedVariables false
set_option linter.unusedSimpArgs false

theorem oneN_0 {n b0 b1 b2 b3 : Nat} (h : 128 ≤ b0) (h2 : b0 < 192 ∨ 248 ≤ b0) : oneN n b0 b1 b2 b3 = (0, 0) := by
  unfold oneN
  split
  · rfl
  · rw [if_neg (by omega), if_neg (by omega), if_neg (by omega), if_neg (by omega)]
theorem oneN_2 {n b0 b1 b2 b3 : Nat} (hn : 1 ≤ n) (h : 192 ≤ b0) (h2 : b0 < 224) : oneN n b0 b1 b2 b3 = if n < 2 ∨ b1 < 128 ∨ 191 < b1 ∨ b0 % 32 * 64 + b1 - 128 < 128 then (0, 0) else (b0 % 32 * 64 + b1 - 128, 2) := by
  unfold oneN
  rw [if_neg (by omega), if_neg (by omega), if_pos ⟨h, h2⟩]
theorem oneN_3 {n b0 b1 b2 b3 : Nat} (hn : 1 ≤ n) (h : 224 ≤ b0) (h2 : b0 < 240) : oneN n b0 b1 b2 b3 = if n < 3 ∨ b1 < 128 ∨ 191 < b1 ∨ b2 < 128 ∨ 191 < b2 ∨ (b0 % 16 * 64 + b1 - 128) * 64 + b2 - 128 < 2048 ∨ 55296 ≤ (b0 % 16 * 64 + b1 - 128) * 64 + b2 - 128 ∧ (b0 % 16 * 64 + b1 - 128) * 64 + b2 - 128 ≤ 57343 then (0, 0) else ((b0 % 16 * 64 + b1 - 128) * 64 + b2 - 128, 3) := by
  unfold oneN
  rw [if_neg (by omega), if_neg (by omega), if_neg (by omega), if_pos ⟨h, h2⟩]
theorem oneN_4 {n b0 b1 b2 b3 : Nat} (hn : 1 ≤ n) (h : 240 ≤ b0) (h2 : b0 < 248) : oneN n b0 b1 b2 b3 = if n < 4 ∨ b1 < 128 ∨ 191 < b1 ∨ b2 < 128 ∨ 191 < b2 ∨ b3 < 128 ∨ 191 < b3 ∨ ((b0 % 8 * 64 + b1 - 128) * 64 + b2 - 128) * 64 + b3 - 128 < 65536 ∨ 1114111 < ((b0 % 8 * 64 + b1 - 128) * 64 + b2 - 128) * 64 + b3 - 128 then (0, 0) else (((b0 % 8 * 64 + b1 - 128) * 64 + b2 - 128) * 64 + b3 - 128, 4) := by
  unfold oneN
  rw [if_neg (by omega), if_neg (by omega), if_neg (by omega), if_neg (by omega), if_pos ⟨h, h2⟩]
theorem and31 : ∀ c : Fin 256, bits .and .i64 ((c.val : Nat) : Int) 31 = ((c.val % 32 : Nat) : Int) := by decide +kernel
theorem and15' : ∀ c : Fin 256, bits .and .i64 ((c.val : Nat) : Int) 15 = ((c.val % 16 : Nat) : Int) := by decide +kernel
theorem and7 : ∀ c : Fin 256, bits .and .i64 ((c.val : Nat) : Int) 7 = ((c.val % 8 : Nat) : Int) := by decide +kernel
theorem nb_at (s : ByteArray) (i : Nat) (h : i < s.size) {x : UInt8} (hx : s[i] = x) : nb s.data.toList i = x.toNat := by
  unfold nb; rw [List.getD_eq_getElem?_getD, Lib.data_getElem? s i h, hx]; rfl
def OneP (l : List UInt8) (w : World) (e : Ending) (w' : World) : Prop := e = .returned (.tuple #[.int .i64 ((oneL l).1 : Nat), .int .i64 ((oneL l).2 : Nat)]) ∧ w' = w
theorem one_none {l : List UInt8} {w : World} (h : oneL l = (0, 0)) : OneP l w (.returned (.tuple #[.int .i64 0, .int .i64 0])) w := ⟨by rw [h]; rfl, rfl⟩
theorem one_some {l : List UInt8} {w : World} {r n : Nat} {x y : Int} (h : oneL l = (r, n)) (hx : x = (r : Int)) (hy : y = (n : Int)) : OneP l w (.returned (.tuple #[.int .i64 x, .int .i64 y])) w := ⟨by rw [h, hx, hy], rfl⟩
end Go.Proofs.YtffamppgnooaeaaDoor
