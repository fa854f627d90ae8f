/- The builder in memory. -/
import Derived.Test.YtmljdppdaaoehaaGreatDoorNs3
namespace Go.Proofs.YtmljdppdaaoehaaGreatDoor
open Go.RowKit
set_option linter.unusedVariables false
set_option linter.unusedSimpArgs false

/-- readable: no block that may turn, in the memory that is there, nor the one just below B -/
def Sf (B : Nat) (F : Nat → Prop) (w : World) (k : Nat) : Prop := ¬ F k ∧ k < w.heap.size ∧ k + 1 ≠ B
/-- the builder's blocks -/
def Mu (q : Nat) (A1 A2 A3 : Option Addr) (k : Nat) : Prop := k = q ∨ blk A1 = some k ∨ blk A2 = some k ∨ blk A3 = some k
/-- what was read is read behind a step that turns F's blocks alone -/
structure Go1 (F F' : Nat → Prop) (w w' : World) : Prop where
  only : Only F w w'
  less : ∀ k, k < w.heap.size → F' k → F k
theorem Go1.refl (F : Nat → Prop) (w : World) : Go1 F F w w := ⟨Only.refl F w, fun _ _ h => h⟩
theorem Go1.trans {F F' F'' : Nat → Prop} {a b c : World} (h : Go1 F F' a b) (k : Go1 F' F'' b c) : Go1 F F'' a c :=
  ⟨h.only.trans k.only h.less, fun i hi hf => h.less i hi (k.less i (Nat.lt_of_lt_of_le hi h.only.size) hf)⟩
theorem Go1.of_below {F : Nat → Prop} {a b : World} (h : Below a.heap.size a b) : Go1 F F a b := ⟨Only.of_below h F, fun _ _ h => h⟩
section
variable {B : Nat} {F F' : Nat → Prop} {w w' : World}
theorem Go1.sf (h : Go1 F F' w w') : ∀ k, Sf B F w k → Sf B F' w' k := fun k hk => ⟨fun hf => hk.1 (h.less k hk.2.1 hf), Nat.lt_of_lt_of_le hk.2.1 h.only.size, hk.2.2⟩
theorem Trs.at.go (h : Go1 F F' w w') {ts : List Tr} {vs : List Value} (ht : Trs.at (Sf B F w) w ts vs) : Trs.at (Sf B F' w') w' ts vs :=
  Trs.at.keep (fun p hp hs => cell_only h.only hp hs.1) h.sf ts vs ht
theorem Ls.go {α : Type} {tr : α → List Tr} {sz b c : Nat} {A : Option Addr} {l : List α} (h : Go1 F F' w w') (hl : Ls (Sf B F w) w sz b tr A c l) : Ls (Sf B F' w') w' sz b tr A c l :=
  hl.keep (fun p hp hs => cell_only h.only hp hs.1) h.sf
theorem Blk.go (h : Go1 F F' w w') {q : Nat} {cs : Array Value} {t : TypeId} (hb : Blk w q cs t) (hq : ¬ F q) : Blk w' q cs t := hb.only h.only hq
theorem Cel.go (h : Go1 F F' w w') {a : Addr} {cs : List Value} (hc : Cel w a cs) (hq : ¬ F a.block) : Cel w' a cs := fun j u hu => by
  have h1 := hc j u hu
  rw [cell_only h.only (World.block_lt_of_cell? w _ h1) (by split <;> exact hq)]; exact h1
end

/-- rows of different element types lie apart -/
theorem Ow.ne {w : World} {B B' : Nat} {e e' : TypeId} {sz sz' n n' c c' : Nat} {A A' : Option Addr} {xs xs' : List Value} (h : Ow w B e sz A n c xs) (h' : Ow w B' e' sz' A' n' c' xs') (hne : e ≠ e') : blk A = none ∨ blk A ≠ blk A' := by
  rcases h.2 with ⟨rfl, _, _⟩ | ⟨g, cur, rfl, _, hg, _⟩
  · exact .inl rfl
  · rcases h'.2 with ⟨rfl, _, _⟩ | ⟨g', cur', rfl, _, hg', _⟩
    · right; simp [blk]
    · right
      intro he
      simp [blk] at he
      subst he
      rw [hg] at hg'
      injection hg' with hg'
      injection hg' with _ ht
      exact hne ht

/-- the builder's rows -/
structure Rw where
  A1 : Option Addr
  c1 : Nat
  x1 : List Value
  A2 : Option Addr
  c2 : Nat
  x2 : List Value
  A3 : Option Addr
  c3 : Nat
  x3 : List Value
def Rw.mu (R : Rw) (q : Nat) : Nat → Prop := Mu q R.A1 R.A2 R.A3
section
variable {B q : Nat} {R : Rw} {s : BS} {w w' : World}
/-- the step of an append to a row, and its store into the builder -/
theorem mu_step {F : Nat → Prop} {A : Option Addr} {w1 w2 : World} (hg : w1.grownBy w2 (blk A)) (i : Nat) (u : Value) (hq : F q) (hA : ∀ k, blk A = some k → F k) :
    Only F w1 (w2.setCell ⟨q, i, none⟩ u) :=
  ((Only.of_grown hg).mono (fun k _ e => hA k e.symm)).setCell _ _ (fun _ => hq)
theorem mu_new {A A' : Option Addr} {w1 : World} (hat : A' = A ∨ A' = some ⟨w1.heap.size, 0, none⟩) {k : Nat} (hk : k < w1.heap.size) (h : blk A' = some k) : blk A = some k := by
  rcases hat with rfl | rfl
  · exact h
  · simp [blk] at h; omega
end
end Go.Proofs.YtmljdppdaaoehaaGreatDoor
