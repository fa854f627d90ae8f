/- XRgI inside a fence. -/
import Derived.Test.YtfjhomegjceilaaRgI
import Derived.OrdersIn
namespace Go.Proofs.Ytfjhomegjceilaa
open Go
set_option linter.unnecessarySimpa false
section
variable {F : Fence} {n : Nat} {P : Program} {l : List Oper} {Q : Exit → Act → World → Prop}
theorem wpAnyIn_inv (hu : rgUp l = true) (Inv : (Nat → Bool) → Act → World → Prop)
    (hstep : ∀ (L : Nat → Bool) (a : Act) (w : World) (i : Nat) (o : Oper), Inv L a w → L i = false → l[i]? = some o → (∀ e ∈ o.after, Region.binds .any e = true → L e.on = true) →
      ∀ K' : Act → World → Prop, Shut (∀ a' w', Inv (fun j => if j = i then true else L j) a' w' → K' a' w') → Region.wanted o (yielded l.toArray a.tmps) = true ∧ Oper.wpIn F n P o a w K' Q)
    (hdone : ∀ (L : Nat → Bool) (a : Act) (w : World), Inv L a w → (∀ i, i < l.length → L i = true) → Q .normal a w) :
    ∀ (f : Nat) (ls : Array Bool) (a : Act) (w : World), ls.size = l.length → ls.toList.count false = f → Inv (fun j => ls.getD j false) a w → wpAnyIn F n P .any l.toArray Q f ls a w := by
  intro f
  induction f with
  | zero =>
    intro ls a w hs hc hI
    have hall : ∀ i, i < l.length → ls.getD i false = true := by
      intro i hi
      cases hb : ls.getD i false with
      | true => rfl
      | false =>
        exfalso
        have h1 : false ∈ ls.toList := by
          have : ls[i]? = some false := by
            have h2 : i < ls.size := by omega
            simp [h2] at hb ⊢
            exact hb
          rw [Array.mem_toList_iff]
          exact Array.mem_of_getElem? this
        exact absurd (List.count_pos_iff.2 h1) (by omega)
    refine ⟨?_, hdone _ a w hI hall⟩
    cases hr : Region.ready .any l.toArray ls with
    | nil => rfl
    | cons j r =>
      exfalso
      obtain ⟨h1, o, ho, _⟩ := mem_ready.1 (show j ∈ Region.ready .any l.toArray ls by rw [hr]; exact List.mem_cons_self ..)
      have hj : j < l.length := by have := (Array.getElem?_eq_some_iff.1 ho).1; simpa using this
      have := hall j hj
      rw [getD_both h1] at this
      cases this
  | succ f ih =>
    intro ls a w hs hc hI
    refine ⟨fun hr => hdone _ a w hI (ready_all hu hs hr), fun i hi => ?_⟩
    obtain ⟨h1, o, ho, hall⟩ := mem_ready.1 hi
    have hj : i < l.length := by have := (Array.getElem?_eq_some_iff.1 ho).1; simpa using this
    have ho' : l[i]? = some o := by simpa using ho
    have hcnt : (ls.setIfInBounds i true).toList.count false = f := by
      have h2 : ls.toList[i]? = some false := by
        have h3 : i < ls.size := by omega
        have h4 := getD_both h1
        simp [h3] at h4 ⊢
        exact h4
      have := count_set_true _ _ h2
      rw [Array.toList_setIfInBounds]
      omega
    have e : (fun j => (ls.setIfInBounds i true).getD j false) = (fun j => if j = i then true else ls.getD j false) := by
      funext j
      by_cases hji : j = i
      · subst hji
        have h3 : j < ls.size := by omega
        simp [h3]
      · rw [getD_set_ne false (Ne.symm hji), if_neg hji]
    have hh := hstep _ a w i o hI (getD_both h1) ho' hall (wpAnyIn F n P .any l.toArray Q f (ls.setIfInBounds i true)) (fun a' w' hI' => ih _ a' w' (by simpa using hs) hcnt (by rw [e]; exact hI'))
    unfold wpOpIn
    rw [ho]
    simp only
    rw [if_pos hh.1]
    exact hh.2
/-- the same inside a fence, in a round too: every operation is carried out -/
theorem wpIn_region_inv {id : Nat} {a : Act} {w : World} (hm : P.follows .mixedOrders = true) (hu : rgUp l = true) (Inv : (Nat → Bool) → Act → World → Prop) (h0 : Inv (fun _ => false) a w.drew)
    (hstep : ∀ (L : Nat → Bool) (a : Act) (w : World) (i : Nat) (o : Oper), Inv L a w → L i = false → l[i]? = some o → (∀ e ∈ o.after, Region.binds .any e = true → L e.on = true) →
      ∀ K' : Act → World → Prop, Shut (∀ a' w', Inv (fun j => if j = i then true else L j) a' w' → K' a' w') → Region.wanted o (yielded l.toArray a.tmps) = true ∧ Oper.wpIn F n P o a w K' Q)
    (hdone : ∀ (L : Nat → Bool) (a : Act) (w : World), Inv L a w → (∀ i, i < l.length → L i = true) → Q .normal a w) : (Code.region id l.toArray true).wpIn F n P Q a w := by
  refine wpIn_region_any hm (wpAnyIn_inv hu Inv hstep hdone _ _ a _ (by simp) (by simp) ?_)
  have e : (fun j => (Array.replicate l.toArray.size false).getD j false) = (fun _ => false) := by
    funext j
    exact getD_replicate_false _ _
  rw [e]
  exact h0
end
end Go.Proofs.Ytfjhomegjceilaa
