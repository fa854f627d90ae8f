/- Opening rows that come in: conditions, texts, givens. -/
import Derived.Test.YthcnfgpilncooaaGreatDoorTi
import Derived.ProofKit
namespace Go.Proofs.YthcnfgpilncooaaGreatDoor
open Go.RowKit Go.ChangeShapes Go.WideShapes Go.ChangeAt
set_option linter.unusedVariables false

section
variable {H : Type} {enc : TypeId × Value → H} {w : World} {base : Nat} {held : Bool}
theorem closed_conds : closedB Tryz.prog [23, 116, 87, 89, 9, 54, 3] = true := by kernel_rfl
theorem closed_texts : closedB Tryz.prog [45, 9] = true := by kernel_rfl
theorem closed_givens : closedB Tryz.prog [28, 59, 57, 55, 45, 9, 4, 54, 3] = true := by kernel_rfl
theorem open_conds {A : Option Addr} {n c : Nat} {d : DataW H} {p : List MemPlace} (h : DataW.Trod enc Tryz.prog w base (fun _ => true) held 23 (.slice A n c) d p) (hw : ∀ z ∈ d.weights Tryz.prog 23, z ≤ reachBytes) :
    ∃ l : List Cd, n = l.length ∧ Ls (fun k => k < w.heap.size) w 15 224 Cd.tr A c l := by
  obtain ⟨fuel, hf⟩ := h
  obtain ⟨ts, h1, h2⟩ := trod_fits closed_conds (fun _ h => h) fuel _ _ _ rfl hf hw
  obtain ⟨l, rfl⟩ := fits_conds h1
  obtain ⟨A', c', _, e, h3, _⟩ := at_row.1 (by simpa [Value.cells] using h2)
  injection e with e _
  injection e with e1 e2 e3
  subst e1; subst e2; subst e3
  exact ⟨l, rfl, h3⟩
theorem open_texts {A : Option Addr} {n c : Nat} {d : DataW H} {p : List MemPlace} (h : DataW.Trod enc Tryz.prog w base (fun _ => true) held 45 (.slice A n c) d p) (hw : ∀ z ∈ d.weights Tryz.prog 45, z ≤ reachBytes) :
    ∃ l : List ByteArray, n = l.length ∧ Ss (fun k => k < w.heap.size) w A c l := by
  obtain ⟨fuel, hf⟩ := h
  obtain ⟨ts, h1, h2⟩ := trod_fits closed_texts (fun _ h => h) fuel _ _ _ rfl hf hw
  obtain ⟨l, rfl⟩ := fits_strs h1
  obtain ⟨A', c', _, e, h3, _⟩ := at_str.1 (by simpa [Value.cells] using h2)
  injection e with e _
  injection e with e1 e2 e3
  subst e1; subst e2; subst e3
  exact ⟨l, rfl, h3⟩
theorem open_givens {A : Option Addr} {n c : Nat} {d : DataW H} {p : List MemPlace} (h : DataW.Trod enc Tryz.prog w base (fun _ => true) held 28 (.slice A n c) d p) (hw : ∀ z ∈ d.weights Tryz.prog 28, z ≤ reachBytes) :
    ∃ l : List Gv, n = l.length ∧ Ls (fun k => k < w.heap.size) w 8 104 Gv.tr A c l := by
  obtain ⟨fuel, hf⟩ := h
  obtain ⟨ts, h1, h2⟩ := trod_fits closed_givens (fun _ h => h) fuel _ _ _ rfl hf hw
  obtain ⟨l, rfl⟩ := fits_givens h1
  obtain ⟨A', c', _, e, h3, _⟩ := at_row.1 (by simpa [Value.cells] using h2)
  injection e with e _
  injection e with e1 e2 e3
  subst e1; subst e2; subst e3
  exact ⟨l, rfl, h3⟩
theorem trod_lt' {t : TypeId} {v : Value} {d : DataW H} {ps : List MemPlace} {P : Program} (h : DataW.Trod enc P w 0 (fun _ => true) true t v d ps) : ∀ x ∈ ps, x.block < w.heap.size := by
  obtain ⟨m, hm⟩ := h; exact DataW.trod_lt m _ _ _ hm
end
end Go.Proofs.YthcnfgpilncooaaGreatDoor
