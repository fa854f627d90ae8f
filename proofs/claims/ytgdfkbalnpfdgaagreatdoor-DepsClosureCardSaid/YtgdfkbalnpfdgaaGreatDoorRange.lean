/- A range over a function at the wide fence: what is handed to a round may be spoken of in the round's world (V); which blocks the iterator leans on (K). No program is named here. -/
import Derived.RangeFuncNested
import Derived.RangeFuncBox
import Derived.RangeFuncLeaves
import Derived.RangeFuncCalls
import Derived.OwnWalkIn
import Derived.TacticsInMore
import Derived.LoopNIn
import Derived.LoopIn
import Derived.Test.YtgdfkbalnpfdgaaGreatDoorBase
namespace Go.Proofs.YtgdfkbalnpfdgaaGreatDoor
open Go.RowKit
structure Keeps (K : Nat → Prop) (W W' : World) : Prop where
 os : W'.os = W.os
 tape : W'.tape = W.tape
 output : W'.output = W.output
 size : W.heap.size ≤ W'.heap.size
 block : ∀ k, K k → W'.heap[k]? = W.heap[k]?
theorem Keeps.refl (K : Nat → Prop) (W : World) : Keeps K W W := ⟨rfl, rfl, rfl, Nat.le_refl _, fun _ _ => rfl⟩
theorem Keeps.trans {K : Nat → Prop} {A B C : World} (h : Keeps K A B) (k : Keeps K B C) : Keeps K A C :=
 ⟨k.os.trans h.os, k.tape.trans h.tape, k.output.trans h.output, Nat.le_trans h.size k.size, fun i hi => (k.block i hi).trans (h.block i hi)⟩
theorem Keeps.of_below {K : Nat → Prop} {B : Nat} {W W' : World} (h : Below B W W') (hK : ∀ k, K k → k < B) : Keeps K W W' :=
 ⟨h.os, h.tape, h.output, h.size, fun k hk => h.block k (hK k hk)⟩
theorem Keeps.below {B : Nat} {W W' : World} (h : Keeps (· < B) W W') : Below B W W' := ⟨h.os, h.tape, h.output, h.size, h.block⟩
theorem Keeps.mono {K K' : Nat → Prop} {W W' : World} (h : Keeps K W W') (hK : ∀ k, K' k → K k) : Keeps K' W W' := ⟨h.os, h.tape, h.output, h.size, fun k hk => h.block k (hK k hk)⟩
theorem Keeps.grown {K : Nat → Prop} {W W' : World} {row : Option Nat} (hg : W.grownBy W' row) (hK : ∀ k, K k → k < W.heap.size) (hr : ∀ k, row = some k → ¬ K k) : Keeps K W W' :=
 ⟨hg.os, hg.tape, hg.output, hg.size, fun k hk => hg.block k (hK k hk) (fun e => hr k e.symm hk)⟩
def Lasts {β : Type} (J : β → World → Prop) : Prop := ∀ s W W', J s W → Below W.heap.size W W' → J s W'
theorem grown_none_of_below {W W' : World} (h : Below W.heap.size W W') : W.grownBy W' none := ⟨h.os, h.tape, h.output, h.size, fun k hk _ => h.block k hk⟩
def bodyOut {α : Type} (B : Nat) (K : Nat → Prop) (I : List α → World → Prop) (Ix : Code → List α → World → Prop) (xs : List α) (W : World) : Exit → Act → World → Prop
 | .normal, _, W' => KeepsFrom B W W' ∧ Keeps K W W' ∧ I xs W'
 | .ret, _, W' => KeepsFrom B W W' ∧ Ix .ret xs W'
 | .exit id, _, W' => KeepsFrom B W W' ∧ Ix (.exit id) xs W'
 | .goto t, _, W' => KeepsFrom B W W' ∧ Ix (.goto t) xs W'
 | .panic _, _, _ => False
 | .outgrown, _, _ => False
def RecAt (rec : LoopState → Option Code → Loop) (l D : Nat) (st : LoopState) (p : Option Code) (W : World) : Prop :=
 W.heap[l]? = some (.loop (rec st p)) ∧ W.heap[D]? = some (.deferred (some []))
theorem Keeps.putObj {K : Nat → Prop} {l : Nat} (hl : ¬ K l) (W : World) (o : Obj) : Keeps K W (W.putObj l o) :=
 ⟨rfl, rfl, rfl, by simp, fun _ hk => World.putObj_heap_other (fun e => hl (e ▸ hk))⟩
section
variable {α : Type} {P : Program} {n : Nat} {g : Operand} {ps : Array Tmp} {assign body : Code} {Q : Exit → Act → World → Prop} {a : Act} {w : World}
end
theorem Rd.own {w w' : World} {sz n c : Nat} {A : Option Addr} {xs : List Value} {row : Option Nat} (h : Rd w sz A n c xs) (hg : w.grownBy w' row) (hr : ∀ r, row = some r → ∃ o : Obj, w.heap[r]? = some o ∧ o.isCells = false) : Rd w' sz A n c xs :=
 ⟨h.len, h.cap, h.max, fun j u hu => by obtain ⟨ad, e, hc⟩ := h.at_ j u hu; exact ⟨ad, e, cell_kept hc hg hr⟩⟩
end Go.Proofs.YtgdfkbalnpfdgaaGreatDoor
