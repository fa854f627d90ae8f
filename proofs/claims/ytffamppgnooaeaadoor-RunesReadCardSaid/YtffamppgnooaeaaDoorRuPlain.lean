/- Plain: runes, texts between quotes. No program is named here. -/
import Derived.Lib.ValidLaws
namespace Go.Proofs.YtffamppgnooaeaaDoor
open Go.Lib
set_option linter.unusedVariables false
set_option linter.unusedSimpArgs false

/-- byte i, 0 behind the end -/
def nb (l : List UInt8) (i : Nat) : Nat := (l.getD i 0).toNat
theorem nb_lt (l : List UInt8) (i : Nat) : nb l i < 256 := UInt8.toNat_lt _
/-- the rune at the head, as the document has it: how many bytes; 0: none -/
def oneN (n b0 b1 b2 b3 : Nat) : Nat × Nat :=
  if n = 0 then (0, 0) else if b0 < 128 then (b0, 1)
  else if 192 ≤ b0 ∧ b0 < 224 then (if n < 2 ∨ b1 < 128 ∨ 191 < b1 ∨ b0 % 32 * 64 + b1 - 128 < 128 then (0, 0) else (b0 % 32 * 64 + b1 - 128, 2))
  else if 224 ≤ b0 ∧ b0 < 240 then (if n < 3 ∨ b1 < 128 ∨ 191 < b1 ∨ b2 < 128 ∨ 191 < b2 ∨ (b0 % 16 * 64 + b1 - 128) * 64 + b2 - 128 < 2048 ∨ 55296 ≤ (b0 % 16 * 64 + b1 - 128) * 64 + b2 - 128 ∧ (b0 % 16 * 64 + b1 - 128) * 64 + b2 - 128 ≤ 57343 then (0, 0) else ((b0 % 16 * 64 + b1 - 128) * 64 + b2 - 128, 3))
  else if 240 ≤ b0 ∧ b0 < 248 then (if n < 4 ∨ b1 < 128 ∨ 191 < b1 ∨ b2 < 128 ∨ 191 < b2 ∨ b3 < 128 ∨ 191 < b3 ∨ ((b0 % 8 * 64 + b1 - 128) * 64 + b2 - 128) * 64 + b3 - 128 < 65536 ∨ 1114111 < ((b0 % 8 * 64 + b1 - 128) * 64 + b2 - 128) * 64 + b3 - 128 then (0, 0) else (((b0 % 8 * 64 + b1 - 128) * 64 + b2 - 128) * 64 + b3 - 128, 4))
  else (0, 0)
def oneL (l : List UInt8) : Nat × Nat := oneN l.length (nb l 0) (nb l 1) (nb l 2) (nb l 3)

set_option maxRecDepth 100000 in
set_option maxHeartbeats 4000000 in
theorem oneN_decode (n b0 b1 b2 b3 : Nat) (hn : 1 ≤ n) (h0 : b0 < 256) (h1 : b1 < 256) (h2 : b2 < 256) (h3 : b3 < 256) :
    ((oneN n b0 b1 b2 b3).2 = 0 ∧ decodeN n b0 b1 b2 b3 = (65533, 1)) ∨ (1 ≤ (oneN n b0 b1 b2 b3).2 ∧ (oneN n b0 b1 b2 b3).2 ≤ n ∧ decodeN n b0 b1 b2 b3 = oneN n b0 b1 b2 b3 ∧ ¬ ((oneN n b0 b1 b2 b3).1 = 65533 ∧ (oneN n b0 b1 b2 b3).2 = 1)) := by
  obtain ⟨p, hp⟩ : ∃ p, oneN n b0 b1 b2 b3 = p := ⟨_, rfl⟩
  rw [hp]
  unfold oneN at hp
  repeat' split at hp
  all_goals subst hp
  all_goals
    first
    | (exfalso; omega)
    | (refine .inl ⟨rfl, ?_⟩; unfold decodeN; repeat' split
       all_goals first | rfl | (exfalso; omega))
    | (refine .inr ⟨by simp, by simp only; omega, ?_, by simp only; omega⟩; unfold decodeN; repeat' split
       all_goals first | (exfalso; omega) | (apply Prod.ext <;> simp only <;> omega))
theorem decodeL_nb (l : List UInt8) : decodeL l = decodeN l.length (nb l 0) (nb l 1) (nb l 2) (nb l 3) := by
  rw [decodeL_N]; rfl
theorem oneL_decode (l : List UInt8) (hne : l ≠ []) : ((oneL l).2 = 0 ∧ decodeL l = (65533, 1)) ∨ (1 ≤ (oneL l).2 ∧ (oneL l).2 ≤ l.length ∧ decodeL l = oneL l ∧ ¬ ((oneL l).1 = 65533 ∧ (oneL l).2 = 1)) := by
  have := oneN_decode l.length (nb l 0) (nb l 1) (nb l 2) (nb l 3) (List.length_pos_iff.2 hne) (nb_lt _ _) (nb_lt _ _) (nb_lt _ _) (nb_lt _ _)
  rwa [← decodeL_nb] at this
end Go.Proofs.YtffamppgnooaeaaDoor
