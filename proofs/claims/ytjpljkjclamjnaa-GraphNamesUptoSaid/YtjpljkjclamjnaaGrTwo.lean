/- Two slices of rows, each row its own block. -/
import Derived.Test.YtjpljkjclamjnaaGrPlain7
namespace Go.Proofs.Ytjpljkjclamjnaa
open Go.RowKit
set_option linter.unusedVariables false
set_option linter.unusedSimpArgs false

structure Two (W : World) (p q n : Nat) (V1 : Nat → Option Addr × Nat) (R1 : Nat → List Nat) (V2 : Nat → Option Addr × Nat) (R2 : Nat → List Nat) : Prop where
  r1 : RowsI W p n V1 R1
  r2 : RowsI W q n V2 R2
  pq : p ≠ q
  sep : ∀ j k, j < n → k < n → blk (V1 j).1 = none ∨ blk (V1 j).1 ≠ blk (V2 k).1
section
variable {W W' w2 : World} {p q n : Nat} {V1 V2 : Nat → Option Addr × Nat} {R1 R2 : Nat → List Nat}
theorem Two.symm (h : Two W p q n V1 R1 V2 R2) : Two W q p n V2 R2 V1 R1 := ⟨h.r2, h.r1, h.pq.symm, fun j k hj hk => by
  rcases h.sep k j hk hj with e | e
  · cases hb : blk (V2 j).1 with
    | none => exact .inl rfl
    | some g => right; rw [e]; simp
  · exact .inr (fun e2 => e e2.symm)⟩
theorem Two.below (h : Two W p q n V1 R1 V2 R2) (hb : Below W.heap.size W W') : Two W' p q n V1 R1 V2 R2 := ⟨h.r1.below hb, h.r2.below hb, h.pq, h.sep⟩
theorem Two.drew (h : Two W p q n V1 R1 V2 R2) : Two W.drew p q n V1 R1 V2 R2 := h.below ((Below.refl _ W).drewN 1)
theorem Two.alloc (h : Two W p q n V1 R1 V2 R2) (ob : Obj) : Two (W.alloc ob) p q n V1 R1 V2 R2 := h.below ((Below.refl _ W).alloc (Nat.le_refl _) ob)
theorem Two.new (w : World) (n : Nat) : Two ((w.alloc (.cells ((List.range n).map (slV (fun _ => (none, 0)) fun _ => [])).toArray 25)).alloc (.cells ((List.range n).map (slV (fun _ => (none, 0)) fun _ => [])).toArray 25)) w.heap.size (w.heap.size + 1) n (fun _ => (none, 0)) (fun _ => []) (fun _ => (none, 0)) (fun _ => []) := by
  have h1 := (RowsI.new w n).below ((Below.refl _ _).alloc (Nat.le_refl _) (.cells ((List.range n).map (slV (fun _ => (none, 0)) fun _ => [])).toArray 25))
  have h2 := RowsI.new (w.alloc (.cells ((List.range n).map (slV (fun _ => (none, 0)) fun _ => [])).toArray 25)) n
  rw [World.size_alloc] at h2
  exact ⟨h1, h2, by omega, fun _ _ _ _ => .inl rfl⟩
/-- a row of the first is appended to, its header stored -/
theorem Two.app (h : Two W p q n V1 R1 V2 R2) {x : Nat} (hx : x < n) {zs : List Nat} {A' : Option Addr} {c' m : Nat} (hm : m = (R1 x).length + zs.length) (ho : IOw w2 (p + 1) A' m c' (cI (R1 x) ++ cI zs)) (hg : W.grownBy w2 (blk (V1 x).1))
    (hA : A' = (V1 x).1 ∨ A' = some ⟨W.heap.size, 0, none⟩) : Two (w2.setCell ⟨p, x, none⟩ (.slice A' m c')) p q n (fup V1 x (A', c')) (fup R1 x (R1 x ++ zs)) V2 R2 := by
  have hsz := hg.size
  have hne2 : ∀ k, k < n → blk (V2 k).1 ≠ some p := fun k hk => Ow.ne_blk (h.r2.own k hk) h.r1.bk (by decide)
  have hneq : blk (V1 x).1 ≠ some q := Ow.ne_blk (h.r1.own x hx) h.r2.bk (by decide)
  refine ⟨h.r1.app hx hm ho hg (hA.imp id (fun e g hg => by rw [e] at hg; injection hg with hg; exact Nat.le_of_eq hg)), ⟨?_, fun k hk => ?_, h.r2.sep⟩, h.pq, fun j k hj hk => ?_⟩
  · exact (h.r2.bk.grown hg hneq).setOther _ _ (fun e => h.pq e.symm)
  · refine Ow.setOther (Ow.grown (h.r2.own k hk) hg ?_) _ _ (hne2 k hk)
    rcases h.symm.sep k x hk hx with e | e
    · exact .inl e
    · exact .inr e
  · by_cases e : j = x
    · subst e
      rw [fup_same]
      rcases hA with rfl | rfl
      · exact h.sep j k hj hk
      · right
        intro e2
        have := ((h.r2.own k hk).lt e2.symm).2
        simp at this
    · rw [fup_other _ _ e]
      exact h.sep j k hj hk
end
/-- read as leans -/
theorem RowsI.ii {W : World} {b n : Nat} {V : Nat → Option Addr × Nat} {R : Nat → List Nat} {L : List (List Nat)} (h : RowsI W b n V R) (hL : L.length = n) (hR : ∀ z, z < n → R z = lean' L z) (hok : okG L) (hn : n ≤ 1000) : II W (some ⟨b, 0, none⟩) n n (cL L) := by
  refine ⟨by simpa using hL, Nat.le_refl _, by unfold maxLen; omega, fun i x hx => ?_, fun x hx z hz => ?_⟩
  · have hi : i < L.length := by have := (List.getElem?_eq_some_iff.1 hx).1; simpa using this
    rw [cL_get hi] at hx
    injection hx with hx
    subst hx
    have hin : i < n := by omega
    have hc := h.cell hin
    have ho := (h.own i hin).rd
    rw [hR i hin] at hc ho
    exact ⟨_, (V i).1, (V i).2, rfl, by rw [add_plain, Nat.zero_add, cI_len]; exact hc, by rw [cI_len]; exact ho⟩
  · simp only [cL, List.mem_map] at hx
    obtain ⟨r, hr, rfl⟩ := hx
    simp only [cI, List.mem_map] at hz
    obtain ⟨y, hy, rfl⟩ := hz
    obtain ⟨i, hi, rfl⟩ := List.getElem_of_mem hr
    have := hok i y (by simp [lean', List.getD_eq_getElem?_getD, hi, hy])
    omega
/-- what has been filled in -/
structure TwI (L : List (List Nat)) (n i k : Nat) (R1 R2 : Nat → List Nat) : Prop where
  a : ∀ z, z < n → R1 z = if n - 1 - z < i then (lean' L (n - 1 - z)).map (fun x => n - 1 - x) else if n - 1 - z = i then ((lean' L i).take k).map (fun x => n - 1 - x) else []
  b : ∀ z, z < n → R2 z = if z < i then dbl (lean' L z) else if z = i then dbl ((lean' L i).take k) else []
theorem TwI.start (L : List (List Nat)) (n : Nat) : TwI L n 0 0 (fun _ => []) (fun _ => []) := ⟨fun z _ => by simp, fun z _ => by simp [dbl]⟩
theorem TwI.next {L : List (List Nat)} {n i : Nat} {R1 R2 : Nat → List Nat} (h : TwI L n i (lean' L i).length R1 R2) : TwI L n (i + 1) 0 R1 R2 := by
  refine ⟨fun z hz => ?_, fun z hz => ?_⟩
  · rw [h.a z hz, List.take_length]
    by_cases h1 : n - 1 - z < i
    · rw [if_pos h1, if_pos (by omega)]
    · rw [if_neg h1]
      by_cases h2 : n - 1 - z = i
      · rw [if_pos h2, if_pos (by omega), h2]
      · rw [if_neg h2, if_neg (by omega)]; simp
  · rw [h.b z hz, List.take_length]
    by_cases h1 : z < i
    · rw [if_pos h1, if_pos (by omega)]
    · rw [if_neg h1]
      by_cases h2 : z = i
      · rw [if_pos h2, if_pos (by omega), h2]
      · rw [if_neg h2, if_neg (by omega)]; simp [dbl]
theorem TwI.step {L : List (List Nat)} {n i k x : Nat} {R1 R2 : Nat → List Nat} (h : TwI L n i k R1 R2) (hi : i < n) (hx : (lean' L i)[k]? = some x) : TwI L n i (k + 1) (fup R1 (n - 1 - i) (R1 (n - 1 - i) ++ [n - 1 - x])) (fup R2 i (R2 i ++ [x, x])) := by
  refine ⟨fun z hz => ?_, fun z hz => ?_⟩
  · by_cases e : z = n - 1 - i
    · subst e
      rw [fup_same, h.a _ hz, if_neg (by omega), if_pos (by omega), if_neg (by omega), if_pos (by omega), take_one hx, List.map_append]
      rfl
    · rw [fup_other _ _ e, h.a z hz]
      by_cases h1 : n - 1 - z < i
      · rw [if_pos h1, if_pos h1]
      · rw [if_neg h1, if_neg h1, if_neg (by omega), if_neg (by omega)]
  · by_cases e : z = i
    · subst e
      rw [fup_same, h.b _ hz, if_neg (by omega), if_pos rfl, if_neg (by omega), if_pos rfl, take_one hx, dbl_snoc]
    · rw [fup_other _ _ e, h.b z hz]
      by_cases h1 : z < i
      · rw [if_pos h1, if_pos h1]
      · rw [if_neg h1, if_neg h1, if_neg e, if_neg e]
theorem TwI.len {L : List (List Nat)} {n i k : Nat} {R1 R2 : Nat → List Nat} (h : TwI L n i k R1 R2) (hi : i < n) : (R1 (n - 1 - i)).length ≤ k ∧ (R2 i).length ≤ 2 * k := by
  have hl : ((lean' L i).take k).length ≤ k := by rw [List.length_take]; omega
  rw [h.a _ (by omega), h.b _ hi, if_neg (by omega), if_pos (by omega), if_neg (by omega), if_pos rfl, List.length_map, dbl_len]
  omega
theorem TwI.done {L : List (List Nat)} {n : Nat} {R1 R2 : Nat → List Nat} (h : TwI L n n 0 R1 R2) (hL : L.length = n) : (∀ z, z < n → R1 z = lean' (tnL L) z) ∧ (∀ z, z < n → R2 z = lean' (twL L) z) := by
  subst hL
  refine ⟨fun z hz => ?_, fun z hz => ?_⟩
  · rw [h.a z hz, if_pos (by omega), tnL_lean hz]
  · rw [h.b z hz, if_pos hz]
    simp [lean', twL, List.getD_eq_getElem?_getD, hz]
end Go.Proofs.Ytjpljkjclamjnaa
