/- Plain: how a text is written, and how it is read. No program is named here. -/
import Derived.Test.YtffamppgnooaeaaDoorRuPlain
namespace Go.Proofs.YtffamppgnooaeaaDoor
open Go.Lib
set_option linter.unusedVariables false
set_option linter.unusedSimpArgs false

def shortQ (c : UInt8) : Option UInt8 := if c = 34 then some 34 else if c = 92 then some 92 else if c = 8 then some 98 else if c = 9 then some 116 else if c = 10 then some 110 else if c = 12 then some 102 else if c = 13 then some 114 else none
def hexD (n : Nat) : UInt8 := if n < 10 then UInt8.ofNat (48 + n) else UInt8.ofNat (87 + n)
/-- how a byte is written -/
def escB (c : UInt8) : List UInt8 := match shortQ c with
  | some x => [92, x]
  | none => if c.toNat < 32 then [92, 117, 48, 48, hexD (c.toNat / 16), hexD (c.toNat % 16)] else [c]
def quoteB (s : List UInt8) : List UInt8 := 34 :: (s.flatMap escB ++ [34])

def hexV (c : Nat) : Option Nat := if 48 ≤ c ∧ c ≤ 57 then some (c - 48) else if 97 ≤ c ∧ c ≤ 102 then some (c - 87) else if 65 ≤ c ∧ c ≤ 70 then some (c - 55) else none
def four4 (a b c d : Option Nat) : Option Nat := match a, b, c, d with
  | some a, some b, some c, some d => some (((a * 16 + b) * 16 + c) * 16 + d)
  | _, _, _, _ => none
/-- four digits at place i -/
def fourL (l : List UInt8) (i : Nat) : Option Nat := if l.length < i + 4 then none else four4 (hexV (nb l i)) (hexV (nb l (i + 1))) (hexV (nb l (i + 2))) (hexV (nb l (i + 3)))
/-- a rune's bytes -/
def uB (r : Nat) : List UInt8 :=
  if r < 128 then [UInt8.ofNat r] else if r < 2048 then [UInt8.ofNat (192 + r / 64), UInt8.ofNat (128 + r % 64)]
  else if r < 65536 then [UInt8.ofNat (224 + r / 4096), UInt8.ofNat (128 + r / 64 % 64), UInt8.ofNat (128 + r % 64)]
  else [UInt8.ofNat (240 + r / 262144), UInt8.ofNat (128 + r / 4096 % 64), UInt8.ofNat (128 + r / 64 % 64), UInt8.ofNat (128 + r % 64)]
/-- the second half of a pair, the first one being r -/
def pairL (l : List UInt8) (r : Nat) : List UInt8 × Nat :=
  if l.length < 8 ∨ nb l 6 ≠ 92 ∨ nb l 7 ≠ 117 then ([], 0) else match fourL l 8 with
  | none => ([], 0)
  | some low => if low < 56320 ∨ 57343 < low then ([], 0) else (uB (65536 + 1024 * (r - 55296) + (low - 56320)), 12)
/-- what an escape at the head stands for, and how many bytes it has; 0: it is none -/
def escL (l : List UInt8) : List UInt8 × Nat :=
  if l.length < 2 then ([], 0) else
  let x := nb l 1
  if x = 34 ∨ x = 92 ∨ x = 47 then ([UInt8.ofNat x], 2) else if x = 98 then ([8], 2) else if x = 102 then ([12], 2) else if x = 110 then ([10], 2) else if x = 114 then ([13], 2) else if x = 116 then ([9], 2)
  else if x = 117 then (match fourL l 2 with
    | none => ([], 0)
    | some r => if 56320 ≤ r ∧ r ≤ 57343 then ([], 0) else if r < 55296 ∨ 57343 < r then (uB r, 6) else pairL l r)
  else ([], 0)
def unqGo : Nat → List UInt8 → List UInt8 → Nat → List UInt8 × Nat × Nat
  | 0, _, _, pos => ([], pos, 10)
  | f + 1, l, out, pos => if l = [] then ([], pos, 10) else
    if nb l 0 = 34 then (out, pos + 1, 0) else
    if nb l 0 = 92 then (if (escL l).2 = 0 then ([], pos, 10) else unqGo f (l.drop (escL l).2) (out ++ (escL l).1) (pos + (escL l).2)) else
    if nb l 0 < 32 ∨ (oneL l).2 = 0 then ([], pos, 10) else unqGo f (l.drop (oneL l).2) (out ++ l.take (oneL l).2) (pos + (oneL l).2)
def unqL (l out : List UInt8) (pos : Nat) : List UInt8 × Nat × Nat := unqGo l.length l out pos
theorem fourL_len {l : List UInt8} {i r : Nat} (h : fourL l i = some r) : i + 4 ≤ l.length := by
  unfold fourL at h
  split at h
  · cases h
  · omega
theorem hexV_lt {c r : Nat} (h : hexV c = some r) : r < 16 := by
  unfold hexV at h
  repeat' split at h
  all_goals first | (injection h with h; omega) | cases h
theorem four4_lt {a b c d : Nat} {r : Nat} (h : four4 (hexV a) (hexV b) (hexV c) (hexV d) = some r) : r < 65536 := by
  unfold four4 at h
  split at h
  · rename_i h1 h2 h3 h4
    have := hexV_lt h1; have := hexV_lt h2; have := hexV_lt h3; have := hexV_lt h4
    injection h with h; omega
  · cases h
theorem fourL_lt {l : List UInt8} {i r : Nat} (h : fourL l i = some r) : r < 65536 := by
  unfold fourL at h
  split at h
  · cases h
  · exact four4_lt h
theorem pairL_le (l : List UInt8) (r : Nat) : (pairL l r).2 = 0 ∨ ((pairL l r).2 = 12 ∧ 12 ≤ l.length) := by
  unfold pairL
  split
  · left; rfl
  · cases h : fourL l 8 with
    | none => left; rfl
    | some low =>
      have := fourL_len h
      simp only
      split
      · left; rfl
      · right; exact ⟨rfl, by omega⟩
theorem escL_le (l : List UInt8) : (escL l).2 ≤ l.length := by
  unfold escL
  by_cases h : l.length < 2
  · rw [if_pos h]; simp
  · rw [if_neg h]
    simp only
    repeat' split
    all_goals first
      | (simp only; omega)
      | (rename_i hf _ _; have := fourL_len hf; simp only; omega)
      | (rename_i r _ _ _; rcases pairL_le l r with h1 | h1 <;> omega)
theorem oneL_le (l : List UInt8) : (oneL l).2 ≤ l.length := by
  by_cases h : l = []
  · subst h; exact Nat.le_refl _
  · rcases oneL_decode l h with h1 | h1 <;> omega
theorem unqGo_fuel : ∀ (n m : Nat) (l out : List UInt8) (pos : Nat), l.length ≤ n → l.length ≤ m → unqGo n l out pos = unqGo m l out pos
  | 0, m, l, out, pos, hn, _ => by
    have : l = [] := List.eq_nil_of_length_eq_zero (by omega)
    subst this
    cases m with
    | zero => rfl
    | succ m => unfold unqGo; rfl
  | n + 1, 0, l, out, pos, _, hm => by
    have : l = [] := List.eq_nil_of_length_eq_zero (by omega)
    subst this
    unfold unqGo; rfl
  | n + 1, m + 1, l, out, pos, hn, hm => by
    unfold unqGo
    by_cases hne : l = []
    · rw [if_pos hne, if_pos hne]
    · have hl : 0 < l.length := List.length_pos_iff.2 hne
      rw [if_neg hne, if_neg hne]
      split
      · rfl
      · split
        · split
          · rfl
          · rename_i h0
            exact unqGo_fuel n m _ _ _ (by rw [List.length_drop]; omega) (by rw [List.length_drop]; omega)
        · split
          · rfl
          · rename_i h0
            exact unqGo_fuel n m _ _ _ (by rw [List.length_drop]; omega) (by rw [List.length_drop]; omega)
theorem unqL_nil (out : List UInt8) (pos : Nat) : unqL [] out pos = ([], pos, 10) := rfl
theorem unqL_step (l out : List UInt8) (pos : Nat) (hne : l ≠ []) : unqL l out pos =
    if nb l 0 = 34 then (out, pos + 1, 0) else
    if nb l 0 = 92 then (if (escL l).2 = 0 then ([], pos, 10) else unqL (l.drop (escL l).2) (out ++ (escL l).1) (pos + (escL l).2)) else
    if nb l 0 < 32 ∨ (oneL l).2 = 0 then ([], pos, 10) else unqL (l.drop (oneL l).2) (out ++ l.take (oneL l).2) (pos + (oneL l).2) := by
  have hl : 0 < l.length := List.length_pos_iff.2 hne
  obtain ⟨n, hn⟩ : ∃ n, l.length = n + 1 := ⟨l.length - 1, by omega⟩
  unfold unqL
  rw [hn]
  show (if l = [] then _ else _) = _
  rw [if_neg hne]
  split
  · rfl
  · split
    · split
      · rfl
      · exact unqGo_fuel _ _ _ _ _ (by rw [List.length_drop]; omega) (Nat.le_refl _)
    · split
      · rfl
      · exact unqGo_fuel _ _ _ _ _ (by rw [List.length_drop]; omega) (Nat.le_refl _)
/-- what Unquote answers, from place i on -/
def unquoteL (b : List UInt8) (i : Int) : List UInt8 × Int × Int :=
  if i < 0 ∨ (b.length : Int) < i then ([], 0, 2) else
  if i = b.length ∨ nb b i.toNat ≠ 34 then ([], i, 10) else
  let r := unqL (b.drop (i.toNat + 1)) [] (i.toNat + 1)
  (r.1, (r.2.1 : Nat), (r.2.2 : Nat))
end Go.Proofs.YtffamppgnooaeaaDoor
