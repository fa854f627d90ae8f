/- The builder in memory. -/
import Derived.Test.YtnimfdfdpkineaaNs3
namespace Go.Proofs.Ytnimfdfdpkineaa
open Go.RowKit
set_option linter.unusedVariables false
set_option linter.unusedSimpArgs false

/-- readable: no block that may turn, in the memory that is there, nor the one just below B -/
def Sf (B : Nat) (F : Nat → Prop) (w : World) (k : Nat) : Prop := ¬ F k ∧ k < w.heap.size ∧ k + 1 ≠ B
/-- the builder's blocks -/
def Mu (q : Nat) (A1 A2 A3 : Option Addr) (k : Nat) : Prop := k = q ∨ blk A1 = some k ∨ blk A2 = some k ∨ blk A3 = some k
/-- what was read is read behind a step that turns F's blocks alone -/
structure Go1 (F F' : Nat → Prop) (w w' : World) : Prop where
  only : Only F w w'
  less : ∀ k, k < w.heap.size → F' k → F k
theorem Go1.refl (F : Nat → Prop) (w : World) : Go1 F F w w := ⟨Only.refl F w, fun _ _ h => h⟩
theorem Go1.trans {F F' F'' : Nat → Prop} {a b c : World} (h : Go1 F F' a b) (k : Go1 F' F'' b c) : Go1 F F'' a c :=
  ⟨h.only.trans k.only h.less, fun i hi hf => h.less i hi (k.less i (Nat.lt_of_lt_of_le hi h.only.size) hf)⟩
theorem Go1.of_below {F : Nat → Prop} {a b : World} (h : Below a.heap.size a b) : Go1 F F a b := ⟨Only.of_below h F, fun _ _ h => h⟩
section
variable {B : Nat} {F F' : Nat → Prop} {w w' : World}
theorem Go1.sf (h : Go1 F F' w w') : ∀ k, Sf B F w k → Sf B F' w' k := fun k hk => ⟨fun hf => hk.1 (h.less k hk.2.1 hf), Nat.lt_of_lt_of_le hk.2.1 h.only.size, hk.2.2⟩
theorem Trs.at.go (h : Go1 F F' w w') {ts : List Tr} {vs : List Value} (ht : Trs.at (Sf B F w) w ts vs) : Trs.at (Sf B F' w') w' ts vs :=
  Trs.at.keep (fun p hp hs => cell_only h.only hp hs.1) h.sf ts vs ht
theorem Ls.go {α : Type} {tr : α → List Tr} {sz b c : Nat} {A : Option Addr} {l : List α} (h : Go1 F F' w w') (hl : Ls (Sf B F w) w sz b tr A c l) : Ls (Sf B F' w') w' sz b tr A c l :=
  hl.keep (fun p hp hs => cell_only h.only hp hs.1) h.sf
theorem Blk.go (h : Go1 F F' w w') {q : Nat} {cs : Array Value} {t : TypeId} (hb : Blk w q cs t) (hq : ¬ F q) : Blk w' q cs t := hb.only h.only hq
theorem Cel.go (h : Go1 F F' w w') {a : Addr} {cs : List Value} (hc : Cel w a cs) (hq : ¬ F a.block) : Cel w' a cs := fun j u hu => by
  have h1 := hc j u hu
  rw [cell_only h.only (World.block_lt_of_cell? w _ h1) (by split <;> exact hq)]; exact h1
end

/-- rows of different element types lie apart -/
theorem Ow.ne {w : World} {B B' : Nat} {e e' : TypeId} {sz sz' n n' c c' : Nat} {A A' : Option Addr} {xs xs' : List Value} (h : Ow w B e sz A n c xs) (h' : Ow w B' e' sz' A' n' c' xs') (hne : e ≠ e') : blk A = none ∨ blk A ≠ blk A' := by
  rcases h.2 with ⟨rfl, _, _⟩ | ⟨g, cur, rfl, _, hg, _⟩
  · exact .inl rfl
  · rcases h'.2 with ⟨rfl, _, _⟩ | ⟨g', cur', rfl, _, hg', _⟩
    · right; simp [blk]
    · right
      intro he
      simp [blk] at he
      subst he
      rw [hg] at hg'
      injection hg' with hg'
      injection hg' with _ ht
      exact hne ht

/-- the builder's rows -/
structure Rw where
  A1 : Option Addr
  c1 : Nat
  x1 : List Value
  A2 : Option Addr
  c2 : Nat
  x2 : List Value
  A3 : Option Addr
  c3 : Nat
  x3 : List Value
def Rw.mu (R : Rw) (q : Nat) : Nat → Prop := Mu q R.A1 R.A2 R.A3
structure Bd (B : Nat) (w : World) (q : Nat) (R : Rw) (s : BS) : Prop where
  box : Blk w q #[.slice R.A1 s.sc.length R.c1, .slice R.A2 s.nd.length R.c2, .slice R.A3 s.wt.length R.c3] 57
  hq : B ≤ q
  r1 : Ow w B 52 7 R.A1 s.sc.length R.c1 R.x1
  r2 : Ow w B 44 11 R.A2 s.nd.length R.c2 R.x2
  r3 : Ow w B 31 1 R.A3 s.wt.length R.c3 R.x3
  t1 : Trs.at (Sf B (R.mu q) w) w (s.sc.flatMap Sc.tr) R.x1
  t2 : Trs.at (Sf B (R.mu q) w) w (s.nd.flatMap Nd.tr) R.x2
  t3 : Trs.at (Sf B (R.mu q) w) w (s.wt.map sTr) R.x3
  t4 : ∀ i, i < s.nd.length → R.x2[i * 11 + 10]? = some (.slice none 0 0)
section
variable {B q : Nat} {R : Rw} {s : BS} {w w' : World}
theorem Bd.mu_lt (h : Bd B w q R s) {k : Nat} (hk : R.mu q k) : B ≤ k ∧ k < w.heap.size := by
  rcases hk with rfl | hk | hk | hk
  · exact ⟨h.hq, h.box.lt⟩
  · exact h.r1.lt hk
  · exact h.r2.lt hk
  · exact h.r3.lt hk
theorem Bd.below (h : Bd B w q R s) (hb : Below w.heap.size w w') : Bd B w' q R s := by
  have hg : Go1 (R.mu q) (R.mu q) w w' := Go1.of_below hb
  exact ⟨h.box.below hb, h.hq, h.r1.below hb, h.r2.below hb, h.r3.below hb, h.t1.go hg, h.t2.go hg, h.t3.go hg, h.t4⟩
/-- the step of an append to a row, and its store into the builder -/
theorem mu_step {F : Nat → Prop} {A : Option Addr} {w1 w2 : World} (hg : w1.grownBy w2 (blk A)) (i : Nat) (u : Value) (hq : F q) (hA : ∀ k, blk A = some k → F k) :
    Only F w1 (w2.setCell ⟨q, i, none⟩ u) :=
  ((Only.of_grown hg).mono (fun k _ e => hA k e.symm)).setCell _ _ (fun _ => hq)
theorem mu_new {A A' : Option Addr} {w1 : World} (hat : A' = A ∨ A' = some ⟨w1.heap.size, 0, none⟩) {k : Nat} (hk : k < w1.heap.size) (h : blk A' = some k) : blk A = some k := by
  rcases hat with rfl | rfl
  · exact h
  · simp [blk] at h; omega
theorem Bd.add1 (h : Bd B w q R s) {w1 w2 : World} (hb : Below w.heap.size w w1) {n : Sc} {cs : List Value} {A' : Option Addr} {c' : Nat}
    (hn : Trs.at (Sf B (R.mu q) w1) w1 n.tr cs) (ho : Ow w2 B 52 7 A' (s.sc.length + 1) c' (R.x1 ++ cs)) (hg : w1.grownBy w2 (blk R.A1)) (hat : A' = R.A1 ∨ A' = some ⟨w1.heap.size, 0, none⟩) :
    ∃ R' : Rw, Bd B (w2.setCell ⟨q, 0, none⟩ (.slice A' (s.sc.length + 1) c')) q R' ⟨s.sc ++ [n], s.nd, s.wt⟩ ∧ Go1 (R.mu q) (R'.mu q) w (w2.setCell ⟨q, 0, none⟩ (.slice A' (s.sc.length + 1) c')) := by
  have h' := h.below hb
  refine ⟨{ R with A1 := A', c1 := c', x1 := R.x1 ++ cs }, ?_⟩
  have hgo : Go1 (R.mu q) (Rw.mu { R with A1 := A', c1 := c', x1 := R.x1 ++ cs } q) w1 (w2.setCell ⟨q, 0, none⟩ (.slice A' (s.sc.length + 1) c')) :=
    ⟨mu_step hg 0 _ (.inl rfl) (fun k hk => .inr (.inl hk)), fun k hk hf => by
      rcases hf with hf | hf | hf | hf
      · exact .inl hf
      · exact .inr (.inl (mu_new hat hk hf))
      · exact .inr (.inr (.inl hf))
      · exact .inr (.inr (.inr hf))⟩
  have hbq : blk R.A1 ≠ some q := h'.r1.ne_blk h'.box (by decide)
  have hblk2 := h'.box.grown hg hbq
  have hb2 : blk R.A2 = none ∨ blk R.A2 ≠ blk R.A1 := h'.r2.ne h'.r1 (by decide)
  have hb3 : blk R.A3 = none ∨ blk R.A3 ≠ blk R.A1 := h'.r3.ne h'.r1 (by decide)
  have k2 := (h'.r2.grown hg hb2).setOther ⟨q, 0, none⟩ (.slice A' (s.sc.length + 1) c') (h'.r2.ne_blk h'.box (by decide))
  have k3 := (h'.r3.grown hg hb3).setOther ⟨q, 0, none⟩ (.slice A' (s.sc.length + 1) c') (h'.r3.ne_blk h'.box (by decide))
  have k1 := ho.setOther ⟨q, 0, none⟩ (.slice A' (s.sc.length + 1) c') (ho.ne_blk hblk2 (by decide))
  have s1 : Trs.at (Sf B (Rw.mu { R with A1 := A', c1 := c', x1 := R.x1 ++ cs } q) (w2.setCell ⟨q, 0, none⟩ (.slice A' (s.sc.length + 1) c'))) (w2.setCell ⟨q, 0, none⟩ (.slice A' (s.sc.length + 1) c')) ((s.sc ++ [n]).flatMap Sc.tr) (R.x1 ++ cs) := by
    rw [List.flatMap_append]
    exact Trs.at.app.2 ⟨_, _, rfl, h'.t1.go hgo, by simpa using hn.go hgo⟩
  have s2 := h'.t2.go hgo
  have s3 := h'.t3.go hgo
  exact ⟨⟨(hblk2.set 0 _).eq (by simp), h.hq, by rw [List.length_append]; exact k1, k2, k3, s1, s2, s3, h.t4⟩, (Go1.of_below hb).trans hgo⟩
theorem Bd.add2 (h : Bd B w q R s) {w1 w2 : World} (hb : Below w.heap.size w w1) {n : Nd} {cs : List Value} {A' : Option Addr} {c' : Nat}
    (hn : Trs.at (Sf B (R.mu q) w1) w1 n.tr cs) (h10 : cs[10]? = some (.slice none 0 0)) (ho : Ow w2 B 44 11 A' (s.nd.length + 1) c' (R.x2 ++ cs)) (hg : w1.grownBy w2 (blk R.A2)) (hat : A' = R.A2 ∨ A' = some ⟨w1.heap.size, 0, none⟩) :
    ∃ R' : Rw, Bd B (w2.setCell ⟨q, 1, none⟩ (.slice A' (s.nd.length + 1) c')) q R' ⟨s.sc, s.nd ++ [n], s.wt⟩ ∧ Go1 (R.mu q) (R'.mu q) w (w2.setCell ⟨q, 1, none⟩ (.slice A' (s.nd.length + 1) c')) := by
  have h' := h.below hb
  refine ⟨{ R with A2 := A', c2 := c', x2 := R.x2 ++ cs }, ?_⟩
  have hgo : Go1 (R.mu q) (Rw.mu { R with A2 := A', c2 := c', x2 := R.x2 ++ cs } q) w1 (w2.setCell ⟨q, 1, none⟩ (.slice A' (s.nd.length + 1) c')) :=
    ⟨mu_step hg 1 _ (.inl rfl) (fun k hk => .inr (.inr (.inl hk))), fun k hk hf => by
      rcases hf with hf | hf | hf | hf
      · exact .inl hf
      · exact .inr (.inl hf)
      · exact .inr (.inr (.inl (mu_new hat hk hf)))
      · exact .inr (.inr (.inr hf))⟩
  have hbq : blk R.A2 ≠ some q := h'.r2.ne_blk h'.box (by decide)
  have hblk2 := h'.box.grown hg hbq
  have hb1 : blk R.A1 = none ∨ blk R.A1 ≠ blk R.A2 := h'.r1.ne h'.r2 (by decide)
  have hb3 : blk R.A3 = none ∨ blk R.A3 ≠ blk R.A2 := h'.r3.ne h'.r2 (by decide)
  have k1 := (h'.r1.grown hg hb1).setOther ⟨q, 1, none⟩ (.slice A' (s.nd.length + 1) c') (h'.r1.ne_blk h'.box (by decide))
  have k3 := (h'.r3.grown hg hb3).setOther ⟨q, 1, none⟩ (.slice A' (s.nd.length + 1) c') (h'.r3.ne_blk h'.box (by decide))
  have k2 := ho.setOther ⟨q, 1, none⟩ (.slice A' (s.nd.length + 1) c') (ho.ne_blk hblk2 (by decide))
  have s2 : Trs.at (Sf B (Rw.mu { R with A2 := A', c2 := c', x2 := R.x2 ++ cs } q) (w2.setCell ⟨q, 1, none⟩ (.slice A' (s.nd.length + 1) c'))) (w2.setCell ⟨q, 1, none⟩ (.slice A' (s.nd.length + 1) c')) ((s.nd ++ [n]).flatMap Nd.tr) (R.x2 ++ cs) := by
    rw [List.flatMap_append]
    exact Trs.at.app.2 ⟨_, _, rfl, h'.t2.go hgo, by simpa using hn.go hgo⟩
  have s1 := h'.t1.go hgo
  have s3 := h'.t3.go hgo
  refine ⟨⟨(hblk2.set 1 _).eq (by simp), h.hq, k1, by rw [List.length_append]; exact k2, k3, s1, s2, s3, fun i hi => ?_⟩, (Go1.of_below hb).trans hgo⟩
  have hl2 : R.x2.length = s.nd.length * 11 := h'.r2.rd.len
  rw [List.length_append, List.length_singleton] at hi
  show (R.x2 ++ cs)[i * 11 + 10]? = _
  rcases Nat.lt_or_ge i s.nd.length with h0 | h0
  · rw [List.getElem?_append_left (by omega)]; exact h.t4 i h0
  · rw [List.getElem?_append_right (by omega), hl2, show i * 11 + 10 - s.nd.length * 11 = 10 by omega]; exact h10
theorem Bd.add3 (h : Bd B w q R s) {w1 w2 : World} (hb : Below w.heap.size w w1) {n : List ByteArray} {cs : List Value} {A' : Option Addr} {c' : Nat}
    (hn : Trs.at (Sf B (R.mu q) w1) w1 [sTr n] cs) (ho : Ow w2 B 31 1 A' (s.wt.length + 1) c' (R.x3 ++ cs)) (hg : w1.grownBy w2 (blk R.A3)) (hat : A' = R.A3 ∨ A' = some ⟨w1.heap.size, 0, none⟩) :
    ∃ R' : Rw, Bd B (w2.setCell ⟨q, 2, none⟩ (.slice A' (s.wt.length + 1) c')) q R' ⟨s.sc, s.nd, s.wt ++ [n]⟩ ∧ Go1 (R.mu q) (R'.mu q) w (w2.setCell ⟨q, 2, none⟩ (.slice A' (s.wt.length + 1) c')) := by
  have h' := h.below hb
  refine ⟨{ R with A3 := A', c3 := c', x3 := R.x3 ++ cs }, ?_⟩
  have hgo : Go1 (R.mu q) (Rw.mu { R with A3 := A', c3 := c', x3 := R.x3 ++ cs } q) w1 (w2.setCell ⟨q, 2, none⟩ (.slice A' (s.wt.length + 1) c')) :=
    ⟨mu_step hg 2 _ (.inl rfl) (fun k hk => .inr (.inr (.inr hk))), fun k hk hf => by
      rcases hf with hf | hf | hf | hf
      · exact .inl hf
      · exact .inr (.inl hf)
      · exact .inr (.inr (.inl hf))
      · exact .inr (.inr (.inr (mu_new hat hk hf)))⟩
  have hbq : blk R.A3 ≠ some q := h'.r3.ne_blk h'.box (by decide)
  have hblk2 := h'.box.grown hg hbq
  have hb1 : blk R.A1 = none ∨ blk R.A1 ≠ blk R.A3 := h'.r1.ne h'.r3 (by decide)
  have hb2 : blk R.A2 = none ∨ blk R.A2 ≠ blk R.A3 := h'.r2.ne h'.r3 (by decide)
  have k1 := (h'.r1.grown hg hb1).setOther ⟨q, 2, none⟩ (.slice A' (s.wt.length + 1) c') (h'.r1.ne_blk h'.box (by decide))
  have k2 := (h'.r2.grown hg hb2).setOther ⟨q, 2, none⟩ (.slice A' (s.wt.length + 1) c') (h'.r2.ne_blk h'.box (by decide))
  have k3 := ho.setOther ⟨q, 2, none⟩ (.slice A' (s.wt.length + 1) c') (ho.ne_blk hblk2 (by decide))
  have s3 : Trs.at (Sf B (Rw.mu { R with A3 := A', c3 := c', x3 := R.x3 ++ cs } q) (w2.setCell ⟨q, 2, none⟩ (.slice A' (s.wt.length + 1) c'))) (w2.setCell ⟨q, 2, none⟩ (.slice A' (s.wt.length + 1) c')) ((s.wt ++ [n]).map sTr) (R.x3 ++ cs) := by
    rw [List.map_append]
    exact Trs.at.app.2 ⟨_, _, rfl, h'.t3.go hgo, hn.go hgo⟩
  have s1 := h'.t1.go hgo
  have s2 := h'.t2.go hgo
  exact ⟨⟨(hblk2.set 2 _).eq (by simp), h.hq, k1, k2, by rw [List.length_append]; exact k3, s1, s2, s3, h.t4⟩, (Go1.of_below hb).trans hgo⟩
end
end Go.Proofs.Ytnimfdfdpkineaa
