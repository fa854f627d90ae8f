/- A region that draws its order: its first operations only read, the others come one behind the other: at the wide fence, in a round too. No program is named here. -/
import Derived.Test.YtmljdppdaaoehaaGreatDoorRange
import Derived.StillTail
import Derived.StillTailTactics
import Derived.OrdersIn
namespace Go.Proofs.YtmljdppdaaoehaaGreatDoor
open Go Go.RowKit
set_option linter.unusedVariables false
section
variable {F : Fence} {n : Nat} {P : Program} {ops : Array Oper} {w : World} {md : Region.Mode}

theorem wpIn_of_still {o : Oper} {a : Act} {K : Act → Prop} {K' : Act → World → Prop} {Q : Exit → Act → World → Prop} (hF : ∀ f, F.fn f) (hd : F.depth = none) (hc : ∀ {f args} {R : Ending → World → Prop}, Calls P f args w R → CallsIn F (n - 1) P f args w R)
    (ho : ∀ c, o.op ≠ .defer c) (hK : ∀ a', K a' → K' a' w) (h : o.still P a w K) : o.wpIn F n P a w K' Q := by
  unfold Oper.wpIn
  refine ⟨fun f _ => hF f, ?_⟩
  rw [Oper.semAt_eq _ _ _ ho]
  unfold Oper.still at h
  generalize (execOp a.eval o).run P w = r at h ⊢
  cases r with
  | halt x w' => simp only [Oper.stillUpon] at h
  | ok nx w' =>
    cases nx <;> simp only [Oper.stillUpon] at h
    case value v => obtain ⟨rfl, h⟩ := h; exact hK _ h
    case skip => obtain ⟨rfl, h⟩ := h; exact hK _ h
    case enter f args =>
      obtain ⟨rfl, v, h1, h2⟩ := h
      refine ⟨fun e => (by rw [hd] at e; cases e), (hc h1).mono ?_⟩
      rintro e w'' ⟨rfl, rfl⟩
      exact hK _ h2
theorem wpOpIn_of_stOp {i : Nat} {a : Act} {K : Act → Prop} {K' : Act → World → Prop} {Q' : Exit → Act → World → Prop} (hF : ∀ f, F.fn f) (hd : F.depth = none) (hc : ∀ {f args} {R : Ending → World → Prop}, Calls P f args w R → CallsIn F (n - 1) P f args w R)
    (ho : ∀ o ∈ ops.toList, ∀ c, o.op ≠ .defer c) (h : ∀ a, K a → K' a w) (hh : stOp P ops w i K a) : wpOpIn F n P ops Q' i K' a w := by
  unfold stOp at hh
  unfold wpOpIn
  cases hi : ops[i]? with
  | none => rw [hi] at hh; exact h _ hh
  | some o =>
    rw [hi] at hh
    simp only at hh ⊢
    have hod := ho o (by simpa using Array.mem_of_getElem? hi)
    split
    · rename_i hw; rw [if_pos hw] at hh; exact wpIn_of_still hF hd hc hod h hh
    · rename_i hw; rw [if_neg hw] at hh; exact ⟨fun f _ => hF f, h _ hh⟩
theorem wpAnyIn_of_head {m g : Nat} {L : Array Bool → Act → Prop} {Q' : Exit → Act → World → Prop} (hF : ∀ f, F.fn f) (hd : F.depth = none) (hc : ∀ {f args} {R : Ending → World → Prop}, Calls P f args w R → CallsIn F (n - 1) P f args w R)
    (ho : ∀ o ∈ ops.toList, ∀ c, o.op ≠ .defer c) (hL : ∀ listed a, L listed a → wpAnyIn F n P md ops Q' g listed a w) :
    ∀ (f : Nat) (listed : Array Bool) (a : Act), wpAnyL P md ops w m L f listed a → wpAnyIn F n P md ops Q' (f + g) listed a w
  | 0, listed, a, h => by rw [Nat.zero_add]; exact hL _ _ h
  | f + 1, listed, a, h => by
    rw [show f + 1 + g = (f + g) + 1 by omega]
    exact ⟨fun h0 => absurd h0 h.1, fun i hi => wpOpIn_of_stOp hF hd hc ho (fun a' h' => wpAnyIn_of_head hF hd hc ho hL f _ a' h') (h.2 i hi).2⟩
theorem wpAnyIn_of_seq {Q' : Exit → Act → World → Prop} : ∀ (l : List Oper) (k : Nat) (listed : Array Bool) (a : Act) (w : World), (∀ j, l[j]? = ops[k + j]?) →
    Region.seqB md ops l.length k listed = true → wpListIn F n P ops Q' l a w → wpAnyIn F n P md ops Q' l.length listed a w
  | [], _, _, _, _, _, hB, h => ⟨by simpa [Region.seqB] using hB, h⟩
  | o :: l, k, listed, a, w, hl, hB, h => by
    have h0 : ops[k]? = some o := by simpa using (hl 0).symm
    simp only [List.length_cons, Region.seqB, Bool.and_eq_true, decide_eq_true_eq] at hB
    refine ⟨fun h1 => (by rw [hB.1] at h1; cases h1), fun i hi => ?_⟩
    rw [hB.1] at hi
    have hik : i = k := by simpa using hi
    subst hik
    have hw : wpOpIn F n P ops Q' i (wpListIn F n P ops Q' l) a w := by unfold wpOpIn; simp only [h0]; exact h
    exact wpOpIn_mono (fun a' w' h' => wpAnyIn_of_seq l (i + 1) _ a' w' (fun j => by have := hl (j + 1); simpa [Nat.add_assoc, Nat.add_comm 1 j] using this) hB.2 h') hw
theorem wpIn_region_still_tail {id : Nat} {Q : Exit → Act → World → Prop} {a : Act} {l : List Oper} (hF : ∀ f, F.fn f) (hd : F.depth = none) (hc : ∀ {f args w} {R : Ending → World → Prop}, Calls P f args w R → CallsIn F (n - 1) P f args w R)
    (k : Nat) (hm : P.follows .mixedOrders = true) (hB : Region.lexTailB .any l.toArray k = true) (hdf : l.all (fun o => match o.op with | .defer _ => false | _ => true) = true)
    (h : wpStill P l.toArray w.drew (fun a' => wpListIn F n P l.toArray Q (l.drop k) a' w.drew) (l.take k) a) : (Code.region id l.toArray true).wpIn F n P Q a w := by
  simp only [Region.lexTailB, Bool.and_eq_true, decide_eq_true_eq] at hB
  obtain ⟨⟨⟨⟨hsel, hn⟩, hs⟩, hcb⟩, hlex⟩ := hB
  have ho : ∀ o ∈ l.toArray.toList, ∀ c, o.op ≠ .defer c := by
    intro o hom c e
    have := List.all_eq_true.1 hdf o hom
    rw [e] at this
    cases this
  have hn' : k < l.length := by simpa using hn
  have htl : (l.take k).length = k := by simp; omega
  have hdl : (l.drop k).length = l.toArray.size - k := by simp
  have inv0 : HeadInv .any l.toArray k (Array.replicate l.toArray.size false) :=
    ⟨by simp, fun j oj _ hl => (by rw [getD_replicate_false] at hl; cases hl), fun t _ ht => getD_in (by simpa using ht) (getD_replicate_false _ _)⟩
  have H := wpAnyL_lex (md := .any) (g := l.toArray.size - k) hsel hs hcb hn (l.take k) 0 _ a (fun j hj => by
    have hj' : j < k := by rw [htl] at hj; exact hj
    simp [hj']) (by simpa using htl) inv0 (by rw [htl]; exact hlex) h
  refine wpIn_region_any hm ?_
  have := wpAnyIn_of_head (F := F) (n := n) (Q' := Q) (g := l.toArray.size - k) hF hd hc ho (fun listed a' hL => by
    have := wpAnyIn_of_seq (F := F) (n := n) (md := .any) (Q' := Q) (l.drop k) k listed a' w.drew (fun j => by simp [List.getElem?_drop]) (by rw [hdl]; exact hL.1) hL.2
    rwa [hdl] at this) _ _ _ H
  rw [htl, show k + (l.toArray.size - k) = l.toArray.size by omega] at this
  exact this
end
end Go.Proofs.YtmljdppdaaoehaaGreatDoor
