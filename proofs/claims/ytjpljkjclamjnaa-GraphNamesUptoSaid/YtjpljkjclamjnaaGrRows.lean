/- A slice of int slices that the call has made: each row its own block. -/
import Derived.Test.YtjpljkjclamjnaaGrRIs
namespace Go.Proofs.Ytjpljkjclamjnaa
open Go.RowKit
set_option linter.unusedVariables false
set_option linter.unusedSimpArgs false

def fup {α : Type} (f : Nat → α) (k : Nat) (y : α) : Nat → α := fun j => if j = k then y else f j
theorem fup_same {α : Type} (f : Nat → α) (k : Nat) (y : α) : fup f k y k = y := if_pos rfl
theorem fup_other {α : Type} (f : Nat → α) {k j : Nat} (y : α) (h : j ≠ k) : fup f k y j = f j := if_neg h
def slV (V : Nat → Option Addr × Nat) (R : Nat → List Nat) (k : Nat) : Value := .slice (V k).1 (R k).length (V k).2
structure RowsI (w : World) (b n : Nat) (V : Nat → Option Addr × Nat) (R : Nat → List Nat) : Prop where
  bk : Blk w b ((List.range n).map (slV V R)).toArray 25
  own : ∀ k, k < n → IOw w (b + 1) (V k).1 (R k).length (V k).2 (cI (R k))
  sep : ∀ j k, j < n → k < n → j ≠ k → blk (V j).1 = none ∨ blk (V j).1 ≠ blk (V k).1
theorem made_rows (n : Nat) : madeCells #[.slice none 0 0] n = ((List.range n).map (slV (fun _ => (none, 0)) fun _ => [])).toArray := by
  apply Array.ext
  · simp [madeCells]
  · intro i h1 h2
    simp [madeCells, slV, Nat.mod_one]
theorem info_ints : (Try.prog.info? 25).map (fun i => (i.zero, i.size, i.bytes)) = some (some (.slice none 0 0), 1, 24) := by kernel_rfl
theorem make_rows (n : Nat) (h : n ≤ 1000000) (w : World) : (Instr.makeSlice 22 (.int .i64 (n : Int)) (.int .i64 (n : Int))).run Try.prog w = .ok (.slice (some ⟨w.heap.size, 0, none⟩) n n) (w.alloc (.cells ((List.range n).map (slV (fun _ => (none, 0)) fun _ => [])).toArray 25)) := by
  have := run_make_row' (P := Try.prog) 22 25 (.slice none 0 0) 24 Try.underlying22 info_ints rfl .i64 .i64 n (by omega) (by omega) w
  rw [made_rows] at this
  exact this
theorem RowsI.new (w : World) (n : Nat) : RowsI (w.alloc (.cells ((List.range n).map (slV (fun _ => (none, 0)) fun _ => [])).toArray 25)) w.heap.size n (fun _ => (none, 0)) (fun _ => []) :=
  ⟨Blk.new _ _ _, fun k hk => Ow.nil _ _ _ _, fun j k _ _ _ => .inl rfl⟩
section
variable {w w2 : World} {b n : Nat} {V : Nat → Option Addr × Nat} {R : Nat → List Nat}
theorem RowsI.cell (h : RowsI w b n V R) {k : Nat} (hk : k < n) : w.cell? ⟨b, k, none⟩ = some (.slice (V k).1 (R k).length (V k).2) := Blk.cell h.bk k (by simp [hk, slV])
theorem RowsI.frozen (h : RowsI w b n V R) (k : Nat) : w.frozen? ⟨b, k, none⟩ = false := Blk.frozen h.bk k
theorem RowsI.only {F : Nat → Prop} {w' : World} (h : RowsI w b n V R) (ho : Only F w w') (hF : ∀ k, b ≤ k → k < w.heap.size → ¬ F k) : RowsI w' b n V R :=
  ⟨h.bk.only ho (hF b (Nat.le_refl _) h.bk.lt), fun k hk => (h.own k hk).only ho (fun g hg => hF g (by have := ((h.own k hk).lt hg).1; omega) ((h.own k hk).lt hg).2), h.sep⟩
theorem RowsI.below {w' : World} (h : RowsI w b n V R) (hb : Below w.heap.size w w') : RowsI w' b n V R :=
  ⟨h.bk.below hb, fun k hk => (h.own k hk).below hb, h.sep⟩
/-- row x is appended to, the new header stored -/
theorem RowsI.app (h : RowsI w b n V R) {x : Nat} (hx : x < n) {zs : List Nat} {A' : Option Addr} {c' m : Nat} (hm : m = (R x).length + zs.length) (ho : IOw w2 (b + 1) A' m c' (cI (R x) ++ cI zs)) (hg : w.grownBy w2 (blk (V x).1))
    (hA : A' = (V x).1 ∨ ∀ g, blk A' = some g → w.heap.size ≤ g) : RowsI (w2.setCell ⟨b, x, none⟩ (.slice A' m c')) b n (fup V x (A', c')) (fup R x (R x ++ zs)) := by
  subst hm
  have hbx : blk (V x).1 ≠ some b := fun e => by have := ((h.own x hx).lt e).1; omega
  have hoth : ∀ k, k < n → k ≠ x → IOw w2 (b + 1) (V k).1 (R k).length (V k).2 (cI (R k)) := fun k hk hkx => (h.own k hk).grown hg (h.sep k x hk hx hkx)
  have hset : ∀ {A : Option Addr} {m c : Nat} {l : List Int}, IOw w2 (b + 1) A m c l → IOw (w2.setCell ⟨b, x, none⟩ (.slice A' ((R x).length + zs.length) c')) (b + 1) A m c l := fun hh =>
    Ow.setOther hh _ _ (fun e => by have := (hh.lt e).1; simp only [] at this; omega)
  refine ⟨?_, fun k hk => ?_, fun j k hj hk hjk => ?_⟩
  · refine ((h.bk.grown hg hbx).set x _).eq ?_
    apply Array.ext
    · simp
    · intro i h1 h2
      simp only [List.setIfInBounds_toArray, List.getElem_toArray, List.getElem_set, List.getElem_map, List.getElem_range, slV]
      by_cases e : x = i
      · subst e; simp [fup_same]
      · rw [if_neg e, fup_other _ _ (fun h => e h.symm), fup_other _ _ (fun h => e h.symm)]
  · by_cases e : k = x
    · subst e
      rw [fup_same, fup_same, cI_app, List.length_append]
      exact hset ho
    · rw [fup_other _ _ e, fup_other _ _ e]
      exact hset (hoth k hk e)
  · have key : ∀ k, k < n → k ≠ x → blk (V k).1 = none ∨ blk (V k).1 ≠ blk A' := fun k hk hkx => by
      rcases hA with rfl | hA
      · exact h.sep k x hk hx hkx
      · cases hb : blk (V k).1 with
        | none => exact .inl rfl
        | some g => exact .inr (fun e => by have h1 := hA g e.symm; have := ((h.own k hk).lt hb).2; omega)
    by_cases e : j = x
    · subst e
      rw [fup_same, fup_other _ _ (fun h => hjk h.symm)]
      rcases key k hk (fun h => hjk h.symm) with h1 | h1
      · cases hb : blk A' with
        | none => exact .inl rfl
        | some g => exact .inr (by rw [h1]; simp)
      · exact .inr (fun e => h1 e.symm)
    · by_cases e2 : k = x
      · subst e2
        rw [fup_same, fup_other _ _ e]
        exact key j hj e
      · rw [fup_other _ _ e, fup_other _ _ e2]
        exact h.sep j k hj hk hjk
end
end Go.Proofs.Ytjpljkjclamjnaa
