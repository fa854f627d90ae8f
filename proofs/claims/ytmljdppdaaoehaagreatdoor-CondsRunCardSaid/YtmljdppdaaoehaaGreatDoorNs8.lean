/- The flat in memory while what comes after what is found: the nodes' row, one node's texts under way; a map from texts. -/
import Derived.Test.YtmljdppdaaoehaaGreatDoorNs4
import Derived.Test.YtmljdppdaaoehaaGreatDoorNs6
import Derived.Maps.OwnSet
import Derived.Maps.OwnOps
import Derived.Maps.Views
import Derived.StringKeys
namespace Go.Proofs.YtmljdppdaaoehaaGreatDoor
open Go.RowKit
open Go.Maps (Keyed)
open Go.WideMaps (keyOf_string_mk)
set_option linter.unusedVariables false
set_option linter.unusedSimpArgs false

/-! ### A map from texts to truth -/
theorem zero_bool (w : World) : (zeroValue 4).run Tryz.prog w = .ok (.bool false) w := by kernel_rfl
theorem key_str : Keyed Tryz.prog 9 := Go.Maps.string_keyed Tryz.underlying9
theorem skey_of {s : ByteArray} (hs : s.size ≤ maxLen) : keyOf Tryz.prog 9 (.string s) = some (.string s.data.toList) := keyOf_string_mk Tryz.underlying9 hs
theorem isKey_str (l : List UInt8) : WideAt.IsKeyLit (.string l) := by unfold WideAt.IsKeyLit; trivial
theorem ownsMap_same {H : Type} {P : Program} {k : TypeId} {R : Value → Option (DataW H × List MemPlace)} {w w' : World} {b n : Nat} {D : DataW H} (h : w.ownsMap P k R b n D) (hb : w'.heap[b]? = w.heap[b]?) : w'.ownsMap P k R b n D := by
  obtain ⟨es, clock, h1, h2⟩ := h
  exact ⟨es, clock, hb.trans h1, h2⟩
/-- block b is a map[string]bool that holds the texts of l, and no others -/
def MS (w : World) (b n : Nat) (l : List ByteArray) : Prop :=
  ∃ D : DataW Unit, w.ownsMap Tryz.prog 9 (plainElem Tryz.prog 4) b n D ∧ Go.Maps.IsMap D ∧ ∀ s : ByteArray, D.atKey (.string s.data.toList) (.lit (.bool false)) = .lit (.bool (sHas s l))
section
variable {w w' : World} {b n : Nat} {l : List ByteArray}
theorem MS.new (w : World) : MS (w.alloc (.map #[] 0)) w.heap.size 0 [] := ⟨.map [], World.ownsMap_made _ _ _ _, ⟨[], rfl⟩, fun k => rfl⟩
theorem MS.only {F : Nat → Prop} (h : MS w b n l) (ho : Only F w w') (hF : ¬ F b) : MS w' b n l := by
  obtain ⟨D, h1, h2, h3⟩ := h
  exact ⟨D, ownsMap_same h1 (ho.block b h1.lt hF), h2, h3⟩
theorem MS.lt (h : MS w b n l) : b < w.heap.size := by obtain ⟨D, h1, _⟩ := h; exact h1.lt
theorem MS.below (h : MS w b n l) (hb : Below w.heap.size w w') : MS w' b n l := h.only (Only.of_below hb (fun _ => False)) (fun h => h)
theorem MS.ne {B sz m c : Nat} {e : TypeId} {A : Option Addr} {xs : List Value} (h : MS w b n l) (ho : Ow w B e sz A m c xs) : blk A ≠ some b := by
  obtain ⟨D, ⟨es, clock, h1, _⟩, _⟩ := h
  rcases ho.2 with ⟨rfl, _, _⟩ | ⟨g, cur, rfl, _, hg, _⟩
  · simp [blk]
  · simp only [blk, Option.map_some]
    intro e
    injection e with e
    subst e
    rw [hg] at h1; cases h1
/-- ids[d] -/
theorem MS.look (h : MS w b n l) {d : ByteArray} (hd : d.size ≤ maxLen) : (Instr.lookup 59 (.map (some b)) (.string d) false).run Tryz.prog w = .ok (.bool (sHas d l)) w := by
  obtain ⟨D, g1, g2, g3⟩ := h
  obtain ⟨v, ps, hrun, hv⟩ := g1.lookup key_str Tryz.underlying59 (zero_bool w) (plainElem_bool Tryz.underlying4 false) (skey_of hd)
  rw [g3 d] at hv
  rw [hrun]
  have hu : Tryz.prog.underlying 4 = some .bool := Tryz.underlying4
  unfold plainElem at hv
  rw [hu] at hv
  cases v <;> simp_all
end
theorem bytes_ne {s d : ByteArray} (h : s ≠ d) : s.data.toList ≠ d.data.toList := fun e => h (by
  cases s; cases d
  simp at e
  rw [e])
theorem sHas_app {s d : ByteArray} {l : List ByteArray} : sHas s (l ++ [d]) = (sHas s l || bEq s d) := by simp [sHas, List.any_append]
section
variable {w : World} {ops : Array Oper} {rest : List Oper} {o : Oper} {a : Act} {Q : Exit → Act → World → Prop}
/-- ids[d] = true -/
theorem put_MS (hg : o.guard = none) (m x v : Operand) (hop : o.op = Op.mapUpdate 59 m x v) (b n : Nat) (l : List ByteArray) (hm : a.eval m = .map (some b)) (h : MS w b n l) (hn : n < maxLen)
    (d : ByteArray) (hd : d.size ≤ maxLen) (hx : a.eval x = .string d) (hv : a.eval v = .bool true)
    (hK : ∀ w', MS w' b (n + 1) (l ++ [d]) → w.grownBy w' (some b) → wpList Tryz.prog ops Q rest (a.put o.dst undef) w') : wpList Tryz.prog ops Q (o :: rest) a w := by
  obtain ⟨D, g1, g2, g3⟩ := h
  refine wpList_mapUpdate_own w hg m x v 59 hop 9 4 key_str Tryz.underlying59 _ b n D hm g1 hn _ _ (.string d.data.toList) hx hv (skey_of hd) (.lit (.bool true)) [] (plainElem_bool Tryz.underlying4 true) (fun w' h1 h2 => hK w' ⟨_, h1, g2.put _ _, fun s => ?_⟩ h2)
  rw [sHas_app]
  by_cases hj : s = d
  · subst hj
    rw [Go.Maps.atKey_put_same g2 (isKey_str _), bEq_iff.2 rfl]
    simp
  · rw [Go.Maps.atKey_put_other (fun e => bytes_ne hj (by injection e)), g3 s]
    have : bEq s d = false := by
      cases hb : bEq s d with
      | false => rfl
      | true => exact absurd (bEq_iff.1 hb) hj
    rw [this]; simp
end

/-! ### Nodes' cells -/
theorem Nd.at_iff {S : Nat → Prop} {w : World} {v : Nd} {cs : List Value} : Trs.at S w v.tr cs ↔ ∃ rcs G gc A c, cs = .string v.id :: .int .i64 v.scope :: (rcs ++ [.slice G v.guards.length gc, .slice A v.after.length c]) ∧ v.id.size ≤ 140737488351232 ∧ (Lit.int .i64 v.scope).wf = true ∧ Trs.at S w v.r.tr rcs ∧ Ls S w 2 24 Gd.tr G gc v.guards ∧ Ss S w A c v.after := by
  unfold Nd.tr
  constructor
  · intro h
    obtain ⟨_, rfl, h0, h⟩ := at_leaf.1 h
    obtain ⟨_, rfl, h1, h⟩ := at_leaf.1 h
    obtain ⟨ts, _, rfl, h2, h⟩ := Trs.at.app.1 h
    obtain ⟨G, gc, _, rfl, h4, h⟩ := at_row.1 h
    obtain ⟨A, c, _, rfl, h5, h⟩ := at_str.1 h
    obtain rfl := at_nil.1 h
    exact ⟨ts, G, gc, A, c, rfl, h0, h1, h2, h4, h5⟩
  · rintro ⟨ts, G, gc, A, c, rfl, h0, h1, h2, h4, h5⟩
    exact at_leaf.2 ⟨_, rfl, h0, at_leaf.2 ⟨_, rfl, h1, Trs.at.app.2 ⟨_, _, rfl, h2, at_row.2 ⟨_, _, _, rfl, h4, at_str.2 ⟨_, _, _, rfl, h5, at_nil.2 rfl⟩⟩⟩⟩⟩
/-- the cells of one node: eleven -/
theorem Nd.cells {S : Nat → Prop} {w : World} {v : Nd} {cs : List Value} (h : Trs.at S w v.tr cs) : ∃ x : Nc, cs = x.cs ∧ x.id = v.id := by
  obtain ⟨rcs, G, gc, A, c, rfl, h0, h1, h2, h4, h5⟩ := Nd.at_iff.1 h
  obtain ⟨A1, a, B1, b, C1, c1, rfl, _⟩ := Rs.at_iff.1 h2
  exact ⟨⟨v.id, v.scope, _, _, _, A1, _, a, B1, _, b, _, C1, _, c1, G, _, gc, A, _, c⟩, rfl, rfl⟩
theorem nd_cells {S : Nat → Prop} {w : World} : ∀ {l : List Nd} {vs : List Value}, Trs.at S w (l.flatMap Nd.tr) vs → ∃ xs : List Nc, vs = xs.flatMap Nc.cs ∧ xs.map Nc.id = l.map Nd.id
  | [], vs, h => ⟨[], at_nil.1 h, rfl⟩
  | n :: l, vs, h => by
    rw [List.flatMap_cons] at h
    obtain ⟨cs, vs', rfl, h1, h2⟩ := Trs.at.app.1 h
    obtain ⟨x, rfl, h3⟩ := Nd.cells h1
    obtain ⟨xs, rfl, h4⟩ := nd_cells h2
    exact ⟨x :: xs, by simp, by simp [h3, h4]⟩
theorem nc_set (A : Option Addr) (n c : Nat) : ∀ (xs : List Nc) (i : Nat), ∃ ys : List Nc, (xs.flatMap Nc.cs).set (i * 11 + 10) (.slice A n c) = ys.flatMap Nc.cs ∧ ys.map Nc.id = xs.map Nc.id
  | [], i => ⟨[], by simp, rfl⟩
  | x :: xs, 0 => ⟨{ x with A := A, an := n, ac := c } :: xs, by simp [Nc.cs], by simp⟩
  | x :: xs, i + 1 => by
    obtain ⟨ys, h1, h2⟩ := nc_set A n c xs i
    refine ⟨x :: ys, ?_, by simp [h2]⟩
    rw [List.flatMap_cons, List.flatMap_cons, List.set_append_right _ _ (by rw [Nc.len]; omega), Nc.len, show (i + 1) * 11 + 10 - 11 = i * 11 + 10 by omega, h1]
/-- one node's texts are put in their place -/
theorem nd_set {S : Nat → Prop} {w : World} {A : Option Addr} {c : Nat} {af : List ByteArray} (ha : Ss S w A c af) : ∀ {l : List Nd} {vs : List Value} {i : Nat} {n : Nd}, Trs.at S w (l.flatMap Nd.tr) vs → l[i]? = some n →
    Trs.at S w ((l.set i ⟨n.id, n.scope, n.r, n.guards, af⟩).flatMap Nd.tr) (vs.set (i * 11 + 10) (.slice A af.length c))
  | [], vs, i, n, h, hn => by simp at hn
  | m :: l, vs, i, n, h, hn => by
    rw [List.flatMap_cons] at h
    obtain ⟨cs, vs', rfl, h1, h2⟩ := Trs.at.app.1 h
    have hcl : cs.length = 11 := h1.len.trans m.trlen
    cases i with
    | zero =>
      simp at hn; subst hn
      rw [List.set_cons_zero, List.flatMap_cons, List.set_append_left _ _ (by omega)]
      refine Trs.at.app.2 ⟨_, _, rfl, ?_, h2⟩
      obtain ⟨rcs, G, gc, A0, c0, rfl, g0, g1, g2, g4, g5⟩ := Nd.at_iff.1 h1
      obtain ⟨A1, a, B1, b, C1, c1, rfl, _⟩ := Rs.at_iff.1 g2
      exact Nd.at_iff.2 ⟨_, G, gc, A, c, rfl, g0, g1, g2, g4, ha⟩
    | succ i =>
      rw [List.set_cons_succ, List.flatMap_cons, List.set_append_right _ _ (by omega), hcl, show (i + 1) * 11 + 10 - 11 = i * 11 + 10 by omega]
      exact Trs.at.app.2 ⟨_, _, rfl, h1, nd_set ha h2 (by simpa using hn)⟩
theorem set_same' {α : Type} {xs : List α} {j : Nat} {u : α} (h : xs[j]? = some u) : xs.set j u = xs := by
  apply List.ext_getElem?
  intro k
  rw [List.getElem?_set]
  split
  · next hk =>
    subst hk
    rw [if_pos (List.getElem?_eq_some_iff.1 h).1, h]
  · rfl
theorem set_same {xs : List Value} {j : Nat} {u : Value} (h : j < xs.length → xs[j]? = some u) : xs.set j u = xs := by
  apply List.ext_getElem?
  intro k
  rw [List.getElem?_set]
  split
  · next hk =>
    subst hk
    split
    · next hl => exact (h hl).symm
    · next hl => rw [List.getElem?_eq_none (by omega)]
  · rfl

/-! ### The state under way -/
theorem Ow.setAt {w : World} {base sz n c g j : Nat} {e : TypeId} {xs : List Value} (h : Ow w base e sz (some ⟨g, 0, none⟩) n c xs) (u : Value) : Ow (w.setCell ⟨g, j, none⟩ u) base e sz (some ⟨g, 0, none⟩) n c (xs.set j u) := by
  obtain ⟨hl, h2⟩ := h
  refine ⟨by simpa using hl, ?_⟩
  rcases h2 with ⟨h0, _⟩ | ⟨g', cur, hA, hb, hg, hn, hm, hcs, ht⟩
  · cases h0
  · injection hA with hA
    injection hA with hA
    subst hA
    have hb2 : Blk w g cur e := hg
    refine .inr ⟨g, cur.setIfInBounds j u, rfl, hb, hb2.set j u, hn, hm, by simpa using hcs, ?_⟩
    rw [Array.toList_setIfInBounds, List.take_set, ht]
theorem Ow.fro {w : World} {base sz n c g : Nat} {e : TypeId} {xs : List Value} (h : Ow w base e sz (some ⟨g, 0, none⟩) n c xs) (j : Nat) : w.frozen? ⟨g, j, none⟩ = false := by
  rcases h.2 with ⟨h0, _⟩ | ⟨g', cur, hA, hb, hg, _⟩
  · cases h0
  · injection hA with hA
    injection hA with hA
    subst hA
    have hb2 : Blk w g cur e := hg
    exact hb2.frozen j
def Fx (R : Rw) (q : Nat) (A : Option Addr) (k : Nat) : Prop := R.mu q k ∨ blk A = some k
section
variable {B q i : Nat} {R : Rw} {s : BS} {pre : List Nd} {xb : List Value} {A : Option Addr} {c : Nat} {l : List ByteArray} {w w' : World}
end
end Go.Proofs.YtmljdppdaaoehaaGreatDoor
