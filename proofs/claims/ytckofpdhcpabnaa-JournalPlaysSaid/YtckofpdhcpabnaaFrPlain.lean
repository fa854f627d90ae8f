/- Plain laws of frames: no program is named here. -/
import Derived.Test.YtckofpdhcpabnaaBase
namespace Go.Proofs.Ytckofpdhcpabnaa
open Go.RowKit

def sizeN (n : Int) : Int := if n < 1 ∨ 524288 < n then 0 else n + 4

/-- big-endian -/
def beN (l : List UInt8) : Nat := l.foldl (fun n c => n * 256 + c.toNat) 0
theorem beN_snoc (l : List UInt8) (b : UInt8) : beN (l ++ [b]) = beN l * 256 + b.toNat := by simp [beN]
theorem be_aux (l : List UInt8) : ∀ a : Nat, l.foldl (fun n c => n * 256 + c.toNat) a < (a + 1) * 256 ^ l.length := by
  induction l with
  | nil => intro a; simp
  | cons b l ih =>
    intro a
    have hb := b.toNat_lt
    refine Nat.lt_of_lt_of_le (ih _) ?_
    rw [List.length_cons, Nat.pow_succ, Nat.mul_comm (256 ^ l.length), ← Nat.mul_assoc]
    exact Nat.mul_le_mul_right _ (by show a * 256 + b.toNat + 1 ≤ _; omega)
theorem beN_lt (l : List UInt8) : beN l < 256 ^ l.length := by have := be_aux l 0; simpa [beN] using this
theorem take_snoc {α : Type} (l : List α) (k : Nat) (h : k < l.length) : l.take (k + 1) = l.take k ++ [l[k]] := by
  rw [List.take_succ_eq_append_getElem h]

theorem or_i64 (a b : Nat) (ha : a < 9223372036854775808) (h : a % 256 = 0) (hb : b < 256) : bits .or .i64 (a : Int) (b : Int) = ((a + b : Nat) : Int) := by
  have e1 : ∀ x : Nat, x < 9223372036854775808 → (BitVec.ofInt 64 (x : Int)).toNat = x := fun x hx => by
    rw [BitVec.ofInt_natCast, BitVec.toNat_ofNat]; exact Nat.mod_eq_of_lt (by omega)
  have e2 : a ||| b = a + b := nat_join8 a b h hb
  show IntKind.i64.wrap ((BitVec.ofInt 64 (a : Int) ||| BitVec.ofInt 64 (b : Int)).toNat : Int) = _
  rw [BitVec.toNat_or, e1 a ha, e1 b (by omega), IntKind.wrap_i64, e2]
  omega

theorem or_i64' (a b : Nat) (ha : a < 36028797018963968) (hb : b < 256) : bits .or .i64 ((a : Int) * 256) (b : Int) = (a : Int) * 256 + (b : Int) := by
  have := or_i64 (a * 256) b (by omega) (by omega) hb
  rw [show ((a * 256 : Nat) : Int) = (a : Int) * 256 from by omega] at this
  rw [this]
  omega

/-- the first frame's load -/
def firstF (l : List UInt8) : Option (List UInt8) :=
  if l.length < 4 then none else
  if beN (l.take 4) < 1 ∨ 524288 < beN (l.take 4) ∨ l.length < beN (l.take 4) + 4 then none else
  some ((l.drop 4).take (beN (l.take 4)))

theorem firstF_len {l x : List UInt8} (h : firstF l = some x) : x.length + 4 ≤ l.length ∧ 1 ≤ x.length ∧ x.length ≤ 524288 ∧ x.length = beN (l.take 4) ∧ x = (l.drop 4).take x.length := by
  unfold firstF at h
  split at h
  · cases h
  · split at h
    · cases h
    · injection h with h
      have e1 : x.length = beN (l.take 4) := by rw [← h, List.length_take, List.length_drop]; omega
      exact ⟨by omega, by omega, by omega, e1, by rw [e1]; exact h.symm⟩

/-- the loads that bytes begin with -/
def loads (l : List UInt8) : List (List UInt8) :=
  match h : firstF l with
  | none => []
  | some x => x :: loads (l.drop (x.length + 4))
termination_by l.length
decreasing_by have := firstF_len h; rw [List.length_drop]; omega

theorem loads_none {l : List UInt8} (h : firstF l = none) : loads l = [] := by
  rw [loads]; split
  · rfl
  · rename_i x hx; rw [h] at hx; cases hx
theorem loads_some {l x : List UInt8} (h : firstF l = some x) : loads l = x :: loads (l.drop (x.length + 4)) := by
  rw [loads]; split
  · rename_i hx; rw [h] at hx; cases hx
  · rename_i y hx; rw [h] at hx; injection hx with hx; subst hx; rfl

/-- how many bytes loads take -/
def szs : List (List UInt8) → Nat
  | [] => 0
  | x :: r => x.length + 4 + szs r
@[simp] theorem szs_nil : szs [] = 0 := rfl
theorem szs_append (a b : List (List UInt8)) : szs (a ++ b) = szs a + szs b := by
  induction a with
  | nil => simp [szs]
  | cons x a ih => simp only [List.cons_append, szs, ih]; omega
theorem szs_snoc (a : List (List UInt8)) (x : List UInt8) : szs (a ++ [x]) = szs a + (x.length + 4) := by rw [szs_append]; simp [szs]
theorem loads_le : ∀ (n : Nat) (l : List UInt8), l.length = n → szs (loads l) ≤ l.length := by
  intro n
  induction n using Nat.strongRecOn with
  | _ n ih =>
    intro l hl
    cases h : firstF l with
    | none => rw [loads_none h]; simp
    | some x =>
      have := firstF_len h
      rw [loads_some h, szs]
      have := ih (l.length - (x.length + 4)) (by omega) (l.drop (x.length + 4)) (by rw [List.length_drop])
      rw [List.length_drop] at this
      omega
theorem length_le_szs (xs : List (List UInt8)) : xs.length ≤ szs xs := by
  induction xs with
  | nil => simp
  | cons x xs ih => simp only [List.length_cons, szs]; omega
theorem loads_mem : ∀ (n : Nat) (l : List UInt8), l.length = n → ∀ x ∈ loads l, 1 ≤ x.length ∧ x.length ≤ 524288 := by
  intro n
  induction n using Nat.strongRecOn with
  | _ n ih =>
    intro l hl y hy
    cases h : firstF l with
    | none => rw [loads_none h] at hy; cases hy
    | some x =>
      have h1 := firstF_len h
      rw [loads_some h] at hy
      rcases List.mem_cons.1 hy with rfl | hy
      · omega
      · exact ih (l.length - (x.length + 4)) (by omega) (l.drop (x.length + 4)) (by rw [List.length_drop]) y hy
end Go.Proofs.Ytckofpdhcpabnaa
