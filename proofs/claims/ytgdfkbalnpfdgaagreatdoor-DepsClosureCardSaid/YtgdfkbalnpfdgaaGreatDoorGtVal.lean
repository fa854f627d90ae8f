/- hoardingref03.weight, Great: walks. -/
import Derived.Deep.LoopGhost
import Derived.Test.YtgdfkbalnpfdgaaGreatDoorGtPure
namespace Go.Proofs.YtgdfkbalnpfdgaaGreatDoor
open Go.RowKit
set_option linter.unusedVariables false
set_option linter.unusedSimpArgs false
theorem drop_cons {α : Type} {l : List α} {i : Nat} {x : α} (h : l[i]? = some x) : l.drop i = x :: l.drop (i + 1) := by
 have hi := (List.getElem?_eq_some_iff.1 h).1
 rw [List.drop_eq_getElem_cons hi, (List.getElem?_eq_some_iff.1 h).2]
theorem get_lt {α : Type} {l : List α} {i : Nat} (h : i < l.length) : ∃ x, l[i]? = some x := ⟨_, List.getElem?_eq_getElem h⟩
theorem run_min {P : Program} {w : World} {ts : Array TypeId} {t : TypeId} {a b : Int} {n : Int} (h : min a b = n) : (Builtin.min_ ts t #[.int .i64 a, .int .i64 b]).run P w = .ok (.int .i64 n) w := by
 subst h
 simp only [Builtin.min_, List.foldlM, Builtin.min2]
 by_cases hab : a ≤ b
 ·simp [Builtin.min2]; split <;> omega
 ·simp [Builtin.min2]; split <;> omega
end Go.Proofs.YtgdfkbalnpfdgaaGreatDoor
