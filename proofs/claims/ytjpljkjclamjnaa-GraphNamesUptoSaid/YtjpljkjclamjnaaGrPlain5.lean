/- How many nodes are not reached yet. -/
import Derived.Test.YtjpljkjclamjnaaGrPlain4
namespace Go.Proofs.Ytjpljkjclamjnaa
def unk : Nat → (Nat → Nat) → Nat
  | 0, _ => 0
  | n + 1, f => unk n f + if f n = 0 then 1 else 0
theorem unk_le (f f' : Nat → Nat) (h : ∀ i, f' i = 0 → f i = 0) : ∀ n, unk n f' ≤ unk n f
  | 0 => Nat.le_refl _
  | n + 1 => by
    have := unk_le f f' h n
    have h1 := h n
    unfold unk
    by_cases h2 : f' n = 0
    · rw [if_pos h2, if_pos (h1 h2)]; omega
    · rw [if_neg h2]; omega
theorem unk_lt (f f' : Nat → Nat) (h : ∀ i, f' i = 0 → f i = 0) {j : Nat} (h1 : f j = 0) (h2 : f' j ≠ 0) : ∀ n, j < n → unk n f' < unk n f
  | 0, hj => by omega
  | n + 1, hj => by
    unfold unk
    by_cases e : j = n
    · subst e
      have := unk_le f f' h j
      rw [if_pos h1, if_neg h2]; omega
    · have := unk_lt f f' h h1 h2 n (by omega)
      have h3 := h n
      by_cases h4 : f' n = 0
      · rw [if_pos h4, if_pos (h3 h4)]; omega
      · rw [if_neg h4]; omega
theorem unk_zero : ∀ n, unk n (fun _ => 0) = n
  | 0 => rfl
  | n + 1 => by unfold unk; rw [unk_zero n, if_pos rfl]
end Go.Proofs.Ytjpljkjclamjnaa
