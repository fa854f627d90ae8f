/- Plain laws: frames are scanned back. -/
import Derived.Test.YtckofpdhcpabnaaFrFrame
namespace Go.Proofs.Ytckofpdhcpabnaa
open Go.RowKit

theorem by4_len (n : Nat) : (by4 n).length = 4 := rfl
theorem by4_be (n : Nat) (h : n < 4294967296) : beN (by4 n) = n := by
  simp only [by4, beN, List.foldl_cons, List.foldl_nil, UInt8.toNat_ofNat']
  omega
theorem firstF_frame (l r : List UInt8) (h1 : 1 ≤ l.length) (h2 : l.length ≤ 524288) : firstF (by4 l.length ++ l ++ r) = some l := by
  have e1 : (by4 l.length ++ l ++ r).take 4 = by4 l.length := by
    rw [List.append_assoc, List.take_append_of_le_length (by rw [by4_len]; exact Nat.le_refl _)]
    exact List.take_of_length_le (by rw [by4_len]; exact Nat.le_refl _)
  have e2 : (by4 l.length ++ l ++ r).drop 4 = l ++ r := by
    rw [List.append_assoc, List.drop_append_of_le_length (by rw [by4_len]; exact Nat.le_refl _), List.drop_of_length_le (by rw [by4_len]; exact Nat.le_refl _)]
    rfl
  unfold firstF
  rw [e1, e2, by4_be _ (by omega)]
  rw [if_neg (by simp only [List.length_append, by4_len]; omega), if_neg (by simp only [List.length_append, by4_len]; omega)]
  rw [List.take_append_of_le_length (Nat.le_refl _), List.take_of_length_le (Nat.le_refl _)]
theorem loads_frame (l r : List UInt8) (h1 : 1 ≤ l.length) (h2 : l.length ≤ 524288) : loads (by4 l.length ++ l ++ r) = l :: loads r := by
  rw [loads_some (firstF_frame l r h1 h2)]
  congr 1
  rw [List.drop_append, List.drop_of_length_le (by simp only [List.length_append, by4_len]; omega)]
  simp only [List.length_append, by4_len]
  rw [show l.length + 4 - (4 + l.length) = 0 from by omega]
  rfl
theorem loads_nil : loads [] = [] := loads_none (by simp [firstF])
theorem loads_one (l : List UInt8) (h1 : 1 ≤ l.length) (h2 : l.length ≤ 524288) : loads (by4 l.length ++ l) = [l] := by
  have := loads_frame l [] h1 h2
  rwa [List.append_nil, loads_nil] at this

theorem firstF_take {l x : List UInt8} (h : firstF l = some x) (m : Nat) (hm : x.length + 4 ≤ m) (r : List UInt8) : firstF (l.take m ++ r) = some x := by
  obtain ⟨h1, h2, h3, h4, h5⟩ := firstF_len h
  have e0 : (l.take m).length = min m l.length := List.length_take
  have e1 : (l.take m ++ r).take 4 = l.take 4 := by
    rw [List.take_append_of_le_length (by omega), List.take_take, Nat.min_eq_left (by omega)]
  have e2 : ((l.take m ++ r).drop 4).take x.length = x := by
    rw [List.drop_append_of_le_length (by omega), List.take_append_of_le_length (by rw [List.length_drop]; omega), List.drop_take, List.take_take, Nat.min_eq_left (by omega)]
    exact h5.symm
  unfold firstF
  rw [e1, ← h4, if_neg (by rw [List.length_append]; omega), if_neg (by rw [List.length_append]; omega), e2]
theorem loads_join : ∀ (n : Nat) (l r : List UInt8), l.length = n → loads (l.take (szs (loads l)) ++ r) = loads l ++ loads r := by
  intro n
  induction n using Nat.strongRecOn with
  | _ n ih =>
    intro l r hl
    cases h : firstF l with
    | none => rw [loads_none h]; simp
    | some x =>
      obtain ⟨h1, h2, h3, h4, h5⟩ := firstF_len h
      rw [loads_some h, szs]
      have hle := loads_le _ (l.drop (x.length + 4)) rfl
      rw [List.length_drop] at hle
      rw [loads_some (firstF_take h _ (Nat.le_add_right _ _) r), List.cons_append]
      congr 1
      rw [List.drop_append_of_le_length (by rw [List.length_take]; omega), List.drop_take, Nat.add_sub_cancel_left]
      exact ih _ (by omega) (l.drop (x.length + 4)) r (List.length_drop)
end Go.Proofs.Ytckofpdhcpabnaa
