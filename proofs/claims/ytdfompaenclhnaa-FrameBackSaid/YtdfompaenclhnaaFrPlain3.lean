/- Plain laws: a row of frames, cut anywhere, scans as the loads that are whole in it. -/
import Derived.Test.YtdfompaenclhnaaFrPlain2
namespace Go.Proofs.Ytdfompaenclhnaa
open Go.RowKit

/-- frames one behind the other -/
def frs (ps : List (List UInt8)) : List UInt8 := ps.flatMap fun x => by4 x.length ++ x
@[simp] theorem frs_nil : frs [] = [] := rfl
theorem frs_cons (x : List UInt8) (ps : List (List UInt8)) : frs (x :: ps) = by4 x.length ++ x ++ frs ps := by simp [frs]
theorem frs_snoc (ps : List (List UInt8)) (x : List UInt8) : frs (ps ++ [x]) = frs ps ++ (by4 x.length ++ x) := by simp [frs]
theorem frs_len (ps : List (List UInt8)) : (frs ps).length = szs ps := by
  induction ps with
  | nil => rfl
  | cons x ps ih => rw [frs_cons, szs]; simp only [List.length_append, by4_len, ih]; omega

def okl (ps : List (List UInt8)) : Prop := ∀ x ∈ ps, 1 ≤ x.length ∧ x.length ≤ 524288
theorem loads_frs : ∀ (ps : List (List UInt8)), okl ps → loads (frs ps) = ps
  | [], _ => loads_nil
  | x :: ps, h => by
    rw [frs_cons, loads_frame x _ (h x (by simp)).1 (h x (by simp)).2, loads_frs ps (fun y hy => h y (by simp [hy]))]

/-- how many loads are whole in the first cut bytes -/
def wholes : List (List UInt8) → Nat → Nat
  | [], _ => 0
  | x :: ps, cut => if x.length + 4 ≤ cut then wholes ps (cut - (x.length + 4)) + 1 else 0
theorem wholes_le : ∀ (ps : List (List UInt8)) (cut : Nat), wholes ps cut ≤ ps.length
  | [], _ => Nat.le_refl _
  | x :: ps, cut => by
    unfold wholes
    split
    · have := wholes_le ps (cut - (x.length + 4)); simp only [List.length_cons]; omega
    · exact Nat.zero_le _
theorem wholes_iff : ∀ (ps : List (List UInt8)) (cut k : Nat), k < ps.length → (k < wholes ps cut ↔ szs (ps.take (k + 1)) ≤ cut)
  | [], _, _, h => by simp at h
  | x :: ps, cut, k, h => by
    rw [wholes, List.take_succ_cons, szs]
    by_cases hx : x.length + 4 ≤ cut
    · rw [if_pos hx]
      cases k with
      | zero => simp; exact hx
      | succ k =>
        have := wholes_iff ps (cut - (x.length + 4)) k (by simpa using h)
        omega
    · rw [if_neg hx]; omega
theorem firstF_short (x r : List UInt8) (cut : Nat) (h1 : 1 ≤ x.length) (h2 : x.length ≤ 524288) (h : cut < x.length + 4) : firstF ((by4 x.length ++ x ++ r).take cut) = none := by
  unfold firstF
  have hl : ((by4 x.length ++ x ++ r).take cut).length ≤ cut := List.length_take_le _ _
  by_cases h4 : ((by4 x.length ++ x ++ r).take cut).length < 4
  · rw [if_pos h4]
  · have e1 : ((by4 x.length ++ x ++ r).take cut).take 4 = by4 x.length := by
      rw [List.take_take, Nat.min_eq_left (by omega), List.append_assoc, List.take_append_of_le_length (by rw [by4_len]; exact Nat.le_refl _)]
      exact List.take_of_length_le (by rw [by4_len]; exact Nat.le_refl _)
    rw [if_neg h4, e1, by4_be _ (by omega), if_pos (by omega)]
theorem loads_cut : ∀ (ps : List (List UInt8)) (cut : Nat), okl ps → loads ((frs ps).take cut) = ps.take (wholes ps cut)
  | [], cut, _ => by simp [loads_nil]
  | x :: ps, cut, h => by
    have hx := h x (by simp)
    rw [frs_cons, wholes]
    by_cases hc : x.length + 4 ≤ cut
    · rw [if_pos hc, List.take_append, show (by4 x.length ++ x).length = x.length + 4 from by simp only [List.length_append, by4_len]; omega,
        List.take_of_length_le (l := by4 x.length ++ x) (by simp only [List.length_append, by4_len]; omega), loads_frame x _ hx.1 hx.2, List.take_succ_cons, loads_cut ps _ (fun y hy => h y (by simp [hy]))]
    · rw [if_neg hc, loads_none (firstF_short x _ cut hx.1 hx.2 (by omega))]; rfl

/-- the loads that are framed -/
def kept (ls : List (List UInt8)) : List (List UInt8) := ls.filter fun x => decide (x ≠ [])
theorem kept_snoc_no (ls : List (List UInt8)) (x : List UInt8) (h : x.length = 0) : kept (ls ++ [x]) = kept ls := by
  have : x = [] := List.eq_nil_of_length_eq_zero h
  subst this; simp [kept]
theorem kept_snoc_yes (ls : List (List UInt8)) (x : List UInt8) (h : 1 ≤ x.length) : kept (ls ++ [x]) = kept ls ++ [x] := by
  have : x ≠ [] := by rintro rfl; simp at h
  simp [kept, this]

/-- where each one ends -/
def endsOf (ps : List (List UInt8)) : List Nat := (List.range ps.length).map fun i => szs (ps.take (i + 1))
theorem endsOf_len (ps : List (List UInt8)) : (endsOf ps).length = ps.length := by simp [endsOf]
theorem endsOf_snoc (ps : List (List UInt8)) (x : List UInt8) : endsOf (ps ++ [x]) = endsOf ps ++ [szs (ps ++ [x])] := by
  unfold endsOf
  rw [List.length_append, List.length_singleton, List.range_succ, List.map_append, List.map_singleton]
  congr 1
  · refine List.map_congr_left fun i hi => ?_
    rw [List.take_append_of_le_length (by have := List.mem_range.1 hi; omega)]
  · rw [List.take_of_length_le (by simp)]
theorem endsOf_get (ps : List (List UInt8)) (k : Nat) (h : k < ps.length) : (endsOf ps)[k]? = some (szs (ps.take (k + 1))) := by simp [endsOf, h]
theorem szs_take_le (ps : List (List UInt8)) (k : Nat) : szs (ps.take k) ≤ szs ps := by
  have := szs_append (ps.take k) (ps.drop k)
  rw [List.take_append_drop] at this
  omega
end Go.Proofs.Ytdfompaenclhnaa
