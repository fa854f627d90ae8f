/- A region that draws its order and only reads, in a round's frame. No program is named here. -/
import Derived.Test.YtffamppgnooaeaaDoorRange
import Derived.Sort.BigQuietIn
namespace Go.Proofs.YtffamppgnooaeaaDoor
open Go.RowKit

section
variable {F : Fence} {n : Nat} {P : Program} {lp : Nat}

theorem wpIn_in_round {o : Oper} {a : Act} {w : World} {K : Act → World → Prop} {Q : Exit → Act → World → Prop} (ho : ∀ c, o.op ≠ .defer c) (h : o.wpIn F n P a w K Q) : o.wpIn (F.inRound lp) n P a w K Q := by
  unfold Oper.wpIn at *
  refine ⟨h.1, ?_⟩
  have h2 := h.2
  rw [Oper.semAt_eq _ _ _ ho] at h2 ⊢
  generalize (execOp a.eval o).run P w = r at *
  exact h2

theorem wpOpIn_in_round {ops : Array Oper} {i : Nat} {a : Act} {w : World} {K : Act → World → Prop} {Q : Exit → Act → World → Prop} (ho : ∀ o ∈ ops.toList, ∀ c, o.op ≠ .defer c) (h : wpOpIn F n P ops Q i K a w) : wpOpIn (F.inRound lp) n P ops Q i K a w := by
  unfold wpOpIn at *
  cases hi : ops[i]? with
  | none => rw [hi] at h; exact h
  | some o =>
    rw [hi] at h
    simp only at h ⊢
    split at h
    · rename_i hw
      rw [if_pos hw]
      exact wpIn_in_round (ho o (by simpa using Array.mem_of_getElem? hi)) h
    · rename_i hw
      rw [if_neg hw]
      exact h

theorem wpAnyIn_in_round {md : Region.Mode} {ops : Array Oper} {Q : Exit → Act → World → Prop} (ho : ∀ o ∈ ops.toList, ∀ c, o.op ≠ .defer c) : ∀ (fuel : Nat) (listed : Array Bool) (a : Act) (w : World),
    wpAnyIn F n P md ops Q fuel listed a w → wpAnyIn (F.inRound lp) n P md ops Q fuel listed a w
  | 0, _, _, _, h => h
  | fuel + 1, _, _, _, h => ⟨h.1, fun i hi => wpOpIn_in_round ho (wpOpIn_mono (fun a w => wpAnyIn_in_round ho fuel _ a w) (h.2 i hi))⟩

theorem wpIn_region_quiet_round {id : Nat} {Q : Exit → Act → World → Prop} {a : Act} {w : World} {l : List Oper} (hro : F.round = none) (hm : P.follows .mixedOrders = true) (hB : Region.lexB .any l.toArray = true)
    (hd : l.all (fun o => match o.op with | .defer _ => false | _ => true) = true)
    (h : wpQuietIn F n P l.toArray (fun w' => ∃ n, w' = w.drewN n) (fun a' => ∀ w', (∃ n, w' = w.drewN n) → Q .normal a' w') l a) : (Code.region id l.toArray true).wpIn (F.inRound lp) n P Q a w := by
  simp only [Region.lexB, Bool.and_eq_true] at hB
  have ho : ∀ o ∈ l.toArray.toList, ∀ c, o.op ≠ .defer c := by
    intro o hom c e
    have := List.all_eq_true.1 hd o hom
    rw [e] at this
    cases this
  refine wpIn_region_any hm (wpAnyIn_in_round ho _ _ _ _ (wpAnyIn_of_quiet (C := fun w' => ∃ n, w' = w.drewN n) (Q := fun a' => ∀ w', (∃ n, w' = w.drewN n) → Q .normal a' w') hro (fun _ w' hw' h => h w' hw') _ _ _ _ ⟨1, rfl⟩ ?_))
  have := wpAnyQIn_lex (F := F) (n := n) (C := fun w' => ∃ n, w' = w.drewN n) (md := .any) hB.1 l 0 (Array.replicate l.toArray.size false) a (by simp) (by simpa using hB.2) h
  simpa using this
end
end Go.Proofs.YtffamppgnooaeaaDoor
