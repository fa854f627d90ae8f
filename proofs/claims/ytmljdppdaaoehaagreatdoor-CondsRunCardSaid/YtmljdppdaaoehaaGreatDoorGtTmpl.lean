/- hoardingref17.weight, Great: walks. -/
import Derived.Test.YtmljdppdaaoehaaGreatDoorGtRows
import Derived.Deep.DeepCutAuto
namespace Go.Proofs.YtmljdppdaaoehaaGreatDoor
open Go.RowKit
set_option linter.unusedVariables false
set_option linter.unusedSimpArgs false

/-- behind the names that are leant on: the nested ones, and what stands behind -/
def inK (f : Tm → Nat) (os : List Ou) (rs : List Rs) (l : List Tm) (m : Nat) : Nat := if 10000 < efold f m l then efold f m l else rsGo f os (efold f m l) rs
def prK (f : Tm → Nat) (os : List Ou) (rs : List Rs) (r : Rs) : Option Nat → Nat
  | none => 10000
  | some m => inK f os rs r.inner (m + mins r.depends)
theorem rsGo_cons (f : Tm → Nat) (os : List Ou) (n : Nat) (r : Rs) (rs : List Rs) (h : ¬ (60 < r.props.length ∨ 60 < r.depends.length ∨ 3 < r.inner.length)) :
    rsGo f os n (r :: rs) = prK f os rs r (prGo (n + (1 + min (r.id.size + r.type.size + r.cond.size) 10000)) r.props) := by
  simp only [rsGo]
  rw [if_neg h]
  cases prGo (n + (1 + min (r.id.size + r.type.size + r.cond.size) 10000)) r.props <;> rfl
theorem prGo_drop {l : List Pr} {i : Nat} {x : Pr} (h : l[i]? = some x) (m : Nat) : prGo m (l.drop i) = if xGreat x.e then none else prGo (m + (min x.name.size 10000 + x.e.parts)) (l.drop (i + 1)) := by rw [drop_cons h]; rfl
theorem ouGo_drop {l : List Ou} {i : Nat} {x : Ou} (h : l[i]? = some x) (m : Nat) : ouGo m (l.drop i) = if xGreat x.e then 10000 else ouGo (m + (min (x.name.size + x.cond.size) 10000 + x.e.parts)) (l.drop (i + 1)) := by rw [drop_cons h]; rfl
theorem inK_go {f : Tm → Nat} {os : List Ou} {rs : List Rs} {x : Tm} {l : List Tm} {m : Nat} (h : m ≤ 10000) : inK f os rs (x :: l) m = inK f os rs l (m + f x) := by unfold inK; rw [efold_go h]
theorem inK_stop {f : Tm → Nat} {os : List Ou} {rs : List Rs} {l : List Tm} {m : Nat} (h : 10000 < m) : inK f os rs l m = m := by unfold inK; rw [efold_stop h, if_pos h]
theorem inK_nil {f : Tm → Nat} {os : List Ou} {rs : List Rs} {m : Nat} (h : m ≤ 10000) : inK f os rs [] m = rsGo f os m rs := by unfold inK; rw [efold_nil, if_neg (by omega)]
theorem xG_parts {x : Ex} (h : xGreat x = false) : xW 30 x ≤ 9999 ∧ x.parts ≤ 3000 := by
  have h1 : xW 30 x ≤ 3000 := by simpa [xGreat] using h
  have := parts_le 30 x (by omega)
  omega

def TmOut (k n : Nat) (w : World) (e : Ending) (w' : World) : Prop := e = .returned (.int .i64 (n : Nat)) ∧ n ≤ 10000000 + 1000000 * k ∧ Below w.heap.size w w'
end Go.Proofs.YtmljdppdaaoehaaGreatDoor
