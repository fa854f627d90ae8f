/- nest.Flatten, plain laws for its walk. -/
import Derived.Test.YtgdfkbalnpfdgaaGreatDoorNs9
import Derived.Test.YtgdfkbalnpfdgaaGreatDoorNs5
namespace Go.Proofs.YtgdfkbalnpfdgaaGreatDoor
open Go.RowKit
set_option linter.unusedVariables false
set_option linter.unusedSimpArgs false
def afTake (ids : List ByteArray) (ns : List Nd) (ws : List (List ByteArray)) (j : Nat) : List Nd := (afAll ids ns ws).take j ++ ns.drop j
theorem afTake_zero {ids : List ByteArray} {ns : List Nd} {ws : List (List ByteArray)} : afTake ids ns ws 0 = ns := by simp [afTake]
theorem afTake_all {ids : List ByteArray} {ns : List Nd} {ws : List (List ByteArray)} {j : Nat} (hl : ws.length = ns.length) (hj : ns.length ≤ j) : afTake ids ns ws j = afAll ids ns ws := by
 unfold afTake
 rw [List.take_of_length_le (by rw [afAll_len hl]; exact hj), List.drop_of_length_le hj, List.append_nil]
theorem afTake_get {ids : List ByteArray} {ns : List Nd} {ws : List (List ByteArray)} {j : Nat} {n : Nd} (hl : ws.length = ns.length) (hn : ns[j]? = some n) : (afTake ids ns ws j)[j]? = some n := by
 have hj := (List.getElem?_eq_some_iff.1 hn).1
 unfold afTake
 have h1 : ((afAll ids ns ws).take j).length = j := by rw [List.length_take, afAll_len hl]; omega
 rw [List.getElem?_append_right (by omega), h1, Nat.sub_self, List.getElem?_drop]
 simpa using hn
theorem afTake_set {ids : List ByteArray} {ns : List Nd} {ws : List (List ByteArray)} {j : Nat} {n : Nd} {wl : List ByteArray} (hl : ws.length = ns.length) (hn : ns[j]? = some n) (hw : ws[j]? = some wl) (h0 : n.after = []) :
 (afTake ids ns ws j).set j ⟨n.id, n.scope, n.r, n.guards, afGo ids [] wl⟩ = afTake ids ns ws (j + 1) := by
 have hj := (List.getElem?_eq_some_iff.1 hn).1
 have h1 : ((afAll ids ns ws).take j).length = j := by rw [List.length_take, afAll_len hl]; omega
 have h2 := afAll_get (ids := ids) hn hw
 rw [h0] at h2
 unfold afTake
 rw [List.set_append_right _ _ (by omega), h1, Nat.sub_self, List.take_add_one, h2, drop_cons hn, List.set_cons_zero]
 simp
theorem afGo_drop {ids l : List ByteArray} {w : List ByteArray} {j : Nat} {d : ByteArray} (h : w[j]? = some d) : afGo ids l (w.drop j) = afGo ids (afOne ids l d) (w.drop (j + 1)) := by rw [drop_cons h]; rfl
theorem undGo_drop {ids l : List ByteArray} {w : List Nat} {j k : Nat} (h : w[j]? = some k) : undGo ids l (w.drop j) = undGo ids (addOne l (ids.getD k ByteArray.empty)) (w.drop (j + 1)) := by rw [drop_cons h]; rfl
theorem addOne_len (a : List ByteArray) (d : ByteArray) : (addOne a d).length ≤ a.length + 1 := by unfold addOne; split <;> simp
theorem unds_get {d : ByteArray} {l : List ByteArray} {j k : Nat} (h : (unds d 0 l)[j]? = some k) : ∃ x, l[k]? = some x := by
 obtain ⟨i, rfl, x, h1, _⟩ := unds_mem (List.mem_of_getElem? h)
 exact ⟨x, by simpa using h1⟩
def Fine (l : List ByteArray) (n : Nat) : Prop := l.length ≤ n ∧ ∀ x ∈ l, x.size ≤ 140737488351232
theorem Fine.add {l : List ByteArray} {n : Nat} {d : ByteArray} (h : Fine l n) (hd : d.size ≤ 20000) : Fine (addOne l d) (n + 1) :=
 ⟨Nat.le_trans (addOne_len _ _) (by have := h.1; omega), fun x hx => (addOne_mem hx).elim (fun h1 => h.2 x h1) (fun e => by subst e; omega)⟩
theorem Fine.le {l : List ByteArray} {n m : Nat} (h : Fine l n) (hm : n ≤ m) : Fine l m := ⟨Nat.le_trans h.1 hm, h.2⟩
theorem Bd.init {S : Nat → Prop} {w : World} {B b q : Nat} {t : Tm} {vs : List Value} (hb : B ≤ b) (hq : B ≤ q) (hbk : Blk w b (.int .i64 (-1) :: .string ByteArray.empty :: (vs ++ [.slice none 0 0])).toArray 76)
 (hqk : Blk w q #[.slice (some ⟨b, 0, none⟩) 1 1, .slice none 0 0, .slice none 0 0] 123) (ht : Trs.at S w (bareT t).tr vs) (hS : ∀ k, S k → k ≠ q ∧ k ≠ b ∧ k < w.heap.size ∧ k + 1 ≠ B) :
 Bd B w q ⟨some ⟨b, 0, none⟩, 1, .int .i64 (-1) :: .string ByteArray.empty :: (vs ++ [.slice none 0 0]), none, 0, [], none, 0, []⟩ (bs0 t) := by
 have hl : vs.length = 4 := ht.len.trans (Tm.trlen _)
 have hm : ∀ k, S k → Sf B (Rw.mu ⟨some ⟨b, 0, none⟩, 1, .int .i64 (-1) :: .string ByteArray.empty :: (vs ++ [.slice none 0 0]), none, 0, [], none, 0, []⟩ q) w k := by
  intro k hk
  obtain ⟨h1, h2, h3⟩ := hS k hk
  refine ⟨fun hf => ?_, h3⟩
  rcases hf with hf | hf | hf | hf
  ·exact h1 hf
  ·simp [blk] at hf; exact h2 hf.symm
  ·simp [blk] at hf
  ·simp [blk] at hf
 refine ⟨hqk, hq, ⟨by simp [hl, bs0], .inr ⟨b, _, rfl, hb, hbk, by simp [bs0], by simp [maxLen], by simp [hl], ?_⟩⟩, Ow.nil _ _ _ _, Ow.nil _ _ _ _, ?_, at_nil.2 rfl, at_nil.2 rfl, fun i hi => by simp [bs0] at hi⟩
 ·rw [List.take_of_length_le (by simp [hl, bs0])]
 ·have h1 := Sc.at_iff (S := Sf B (Rw.mu ⟨some ⟨b, 0, none⟩, 1, .int .i64 (-1) :: .string ByteArray.empty :: (vs ++ [.slice none 0 0]), none, 0, [], none, 0, []⟩ q) w) (w := w) (v := ⟨-1, ByteArray.empty, bareT t, []⟩) (cs := .int .i64 (-1) :: .string ByteArray.empty :: (vs ++ [.slice none 0 0]))
  simp only [bs0, List.flatMap_cons, List.flatMap_nil, List.append_nil]
  exact h1.2 ⟨vs, none, 0, rfl, by show (Lit.int .i64 (-1)).wf = true; decide, by show ByteArray.empty.size ≤ 140737488351232; decide, ht.mono hm, Ls.nil _ _ _ _ (by omega) _⟩
theorem ar0_ok (t : Tm) : (ar0).ok (bs0 t) := ⟨by decide, by decide, by decide, by simp [ar0], by simp [ar0], ⟨_, rfl, by show ByteArray.empty.size ≤ 3002 * ar0.depth; decide⟩⟩
theorem bs0_ok (t : Tm) : (bs0 t).ok := ⟨by simp [bs0], by simp [bs0], rfl, by simp [bs0]⟩
theorem Only.below' {F : Nat → Prop} {w w2 w3 : World} (ho : Only F w2 w3) (hb : Below w.heap.size w w2) (hF : ∀ k, F k → w.heap.size ≤ k) : Below w.heap.size w w3 :=
 hb.trans (ho.below hb.size hF)
def FlatOut (r : Int × List Sc × List Nd) (w : World) (e : Ending) (w' : World) : Prop :=
 Below w.heap.size w w' ∧ ∃ A1 c1 A2 c2, e = .returned (.tuple #[.agg #[.slice A1 r.2.1.length c1, .slice A2 r.2.2.length c2], .int .i64 r.1]) ∧
  Ls (fun k => k < w'.heap.size) w' 7 144 Sc.tr A1 c1 r.2.1 ∧ Ls (fun k => k < w'.heap.size) w' 11 200 Nd.tr A2 c2 r.2.2
theorem Sx.flat {B q : Nat} {R : Rw} {s : BS} {i : Nat} {pre : List Nd} {xb : List Value} {w : World} (h : Sx B q R s i pre xb none 0 [] w) (hi : s.nd.length ≤ i) (h1 : s.sc.length ≤ 1000000) (h2 : s.nd.length ≤ 1000000) :
 Ls (fun k => k < w.heap.size ∧ k + 1 ≠ B) w 7 144 Sc.tr R.A1 R.c1 s.sc ∧ Ls (fun k => k < w.heap.size ∧ k + 1 ≠ B) w 11 200 Nd.tr R.A2 R.c2 pre := by
 have hm : ∀ k, Sf B (Fx R q none) w k → k < w.heap.size ∧ k + 1 ≠ B := fun k hk => hk.2
 have hr1 := h.r1.rd
 have hr2 := h.r2.rd
 have hl := h.xlen
 have hpl : pre.length = s.nd.length := by have := congrArg List.length h.ids; simpa using this
 rw [set_same (fun hj => by omega)] at hr2
 refine ⟨⟨by omega, by omega, hr1.cap, hr1.max, fun ad e _ => ⟨(h.r1.lt (by rw [e]; rfl)).2, by have := (h.r1.lt (g := ad.block) (by rw [e]; rfl)).1; omega⟩, _, hr1, h.t1.mono hm⟩, ⟨by omega, by omega, by rw [hpl]; exact hr2.cap, hr2.max, fun ad e _ => ⟨(h.r2.lt (by rw [e]; rfl)).2, by have := (h.r2.lt (g := ad.block) (by rw [e]; rfl)).1; omega⟩, _, by rw [hpl]; exact hr2, h.t2.mono hm⟩⟩
theorem Sx.apart {B B' q i c n c' sz : Nat} {R : Rw} {s : BS} {pre : List Nd} {xb : List Value} {A A' : Option Addr} {l : List ByteArray} {w : World} {xs : List Value} (h : Sx B q R s i pre xb A c l w) (ho : Ow w B' 3 sz A' n c' xs) : ∀ g, blk A' = some g → ¬ Fx R q A g := by
 intro g hg hf
 have key : ∀ {B'' : Nat} {e : TypeId} {sz' n' c'' : Nat} {A'' : Option Addr} {xs' : List Value}, Ow w B'' e sz' A'' n' c'' xs' → 3 ≠ e → blk A'' = some g → False := fun ho' hne e1 => by
  rcases ho.ne ho' hne with e2 | e2
  ·rw [e2] at hg; cases hg
  ·exact e2 (hg.trans e1.symm)
 rcases hf with hf | hf
 ·rcases hf with hf | hf | hf | hf
  ·exact ho.ne_blk h.box (by decide) (hg.trans (by rw [hf]))
  ·exact key h.r1 (by decide) hf
  ·exact key h.r2 (by decide) hf
  ·exact key h.r3 (by decide) hf
 ·exact key h.ra (by decide) hf
theorem Sx.mapart {B q i c b n : Nat} {R : Rw} {s : BS} {pre : List Nd} {xb : List Value} {A : Option Addr} {l ks : List ByteArray} {w : World} (h : Sx B q R s i pre xb A c l w) (hm : MS w b n ks) : ¬ Fx R q A b := by
 intro hf
 rcases hf with hf | hf
 ·rcases hf with hf | hf | hf | hf
  ·obtain ⟨D, ⟨es, clock, h1, _⟩, _⟩ := hm
   have := h.box
   unfold Blk at this
   rw [← hf, h1] at this; cases this
  ·exact hm.ne h.r1 hf
  ·exact hm.ne h.r2 hf
  ·exact hm.ne h.r3 hf
 ·exact hm.ne h.ra hf
theorem Sx.bapart {B q i c nb : Nat} {R : Rw} {s : BS} {pre : List Nd} {xb : List Value} {A : Option Addr} {l : List ByteArray} {w : World} {u : Value} (h : Sx B q R s i pre xb A c l w) (hb : Boxed w nb 88 u) : ¬ Fx R q A nb := by
 have hb' := Blk.boxed hb
 intro hf
 rcases hf with hf | hf
 ·rcases hf with hf | hf | hf | hf
  ·have := h.box
   unfold Blk at this hb'
   rw [← hf, hb'] at this
   injection this with this
   injection this with _ this
   exact absurd this (by decide)
  ·exact h.r1.ne_blk hb' (by decide) hf
  ·exact h.r2.ne_blk hb' (by decide) hf
  ·exact h.r3.ne_blk hb' (by decide) hf
 ·exact h.ra.ne_blk hb' (by decide) hf
theorem Sx.nodes {B q i c : Nat} {R : Rw} {s : BS} {pre : List Nd} {xb : List Value} {A : Option Addr} {l : List ByteArray} {w : World} (h : Sx B q R s i pre xb A c l w) : ∃ ys : List Nc, ys.map Nc.id = s.nd.map Nd.id ∧ ys.length = s.nd.length ∧ Rd w 11 R.A2 ys.length R.c2 (ys.flatMap Nc.cs) := by
 obtain ⟨xs, h1, h2⟩ := nd_cells h.t2
 obtain ⟨ys, h3, h4⟩ := nc_set A l.length c xs i
 have h5 : ys.map Nc.id = s.nd.map Nd.id := by rw [h4, h2, h.ids]
 have h6 : ys.length = s.nd.length := by have := congrArg List.length h5; simpa using this
 refine ⟨ys, h5, h6, ?_⟩
 have := h.r2.rd
 rw [h1, h3] at this
 rw [h6]; exact this
theorem wt_at {S : Nat → Prop} {w : World} : ∀ {ws : List (List ByteArray)} {vs : List Value} {j : Nat} {wl : List ByteArray}, Trs.at S w (ws.map sTr) vs → ws[j]? = some wl → ∃ A c, vs[j]? = some (.slice A wl.length c) ∧ Ss S w A c wl
 | [], vs, j, wl, h, hj => by simp at hj
 | l :: ws, vs, j, wl, h, hj => by
   rw [List.map_cons] at h
   obtain ⟨A, c, vs', rfl, h1, h2⟩ := at_str.1 h
   cases j with
   | zero => simp at hj; subst hj; exact ⟨A, c, rfl, h1⟩
   | succ j =>
     obtain ⟨A', c', h3, h4⟩ := wt_at (j := j) h2 (by simpa using hj)
     exact ⟨A', c', by simpa using h3, h4⟩
theorem Sx.wait {B q i c j : Nat} {R : Rw} {s : BS} {pre : List Nd} {xb : List Value} {A : Option Addr} {l wl : List ByteArray} {w : World} (h : Sx B q R s i pre xb A c l w) (hw : s.wt[j]? = some wl) :
 ∃ ad Aw cw, R.A3 = some ad ∧ w.cell? (ad.add j) = some (.slice Aw wl.length cw) ∧ Ss (Sf B (Fx R q A) w) w Aw cw wl := by
 obtain ⟨Aw, cw, h1, h2⟩ := wt_at h.t3 hw
 obtain ⟨ad, h3, h4⟩ := h.r3.rd.at_ _ _ h1
 exact ⟨ad, Aw, cw, h3, h4, h2⟩
theorem Ow.some0 {w : World} {B sz n c : Nat} {e : TypeId} {A : Option Addr} {xs : List Value} (h : Ow w B e sz A n c xs) (hn : 0 < n) : ∃ g, A = some ⟨g, 0, none⟩ := by
 rcases h.2 with ⟨_, h0, _⟩ | ⟨g, _, hA, _⟩
 ·omega
 ·exact ⟨g, hA⟩
theorem Sx.lo {B q i c : Nat} {R : Rw} {s : BS} {pre : List Nd} {xb : List Value} {A : Option Addr} {l : List ByteArray} {w : World} (h : Sx B q R s i pre xb A c l w) : ∀ k, Fx R q A k → B ≤ k := by
 intro k hk
 rcases hk with hk | hk
 ·rcases hk with hk | hk | hk | hk
  ·rw [hk]; exact h.hq
  ·exact (h.r1.lt hk).1
  ·exact (h.r2.lt hk).1
  ·exact (h.r3.lt hk).1
 ·exact (h.ra.lt hk).1
theorem Sx.big {B q i c : Nat} {R : Rw} {s : BS} {pre : List Nd} {xb : List Value} {A : Option Addr} {l : List ByteArray} {w : World} (h : Sx B q R s i pre xb A c l w) : B ≤ w.heap.size := Nat.le_of_lt (Nat.lt_of_le_of_lt h.hq h.box.lt)
theorem Sx.idcell {B q i c g k : Nat} {R : Rw} {s : BS} {pre : List Nd} {xb : List Value} {A : Option Addr} {l : List ByteArray} {w : World} {z : ByteArray} (h : Sx B q R s i pre xb A c l w) (hA2 : R.A2 = some ⟨g, 0, none⟩) (hk : (s.nd.map Nd.id)[k]? = some z) : w.cell? ⟨g, k * 11, none⟩ = some (.string z) := by
 obtain ⟨ys, h1, h2, h3⟩ := h.nodes
 rw [← h1, List.getElem?_map] at hk
 obtain ⟨x, hx, rfl⟩ := Option.map_eq_some_iff.1 hk
 obtain ⟨ad, had, hc⟩ := h3.ncell hx
 rw [hA2] at had
 injection had with had
 subst had
 have := hc 0 _ rfl
 rw [if_pos rfl, add_plain, Nat.zero_add] at this
 exact this
theorem Sx.under {B q i c : Nat} {R : Rw} {s : BS} {pre : List Nd} {xb : List Value} {A : Option Addr} {l : List ByteArray} {w : World} (h : Sx B q R s i pre xb A c l w) (A1 : Option Addr) (n1 c1 : Nat) (d : ByteArray) (hn : s.nd.length ≤ 1000) (hd : d.size ≤ 100000) (hi : ∀ x ∈ s.nd, x.id.size ≤ 20000) :
 Calls Tryz.prog 48 #[.agg #[.slice A1 n1 c1, .slice R.A2 s.nd.length R.c2], .string d] w (UndOut (unds d 0 (s.nd.map Nd.id)) w) := by
 obtain ⟨ys, h1, h2, h3⟩ := h.nodes
 have := under_any R.A2 A1 n1 c1 R.c2 ys d w h3 (by omega) hd (fun x hx => by
  have h4 : x.id ∈ s.nd.map Nd.id := by rw [← h1]; exact List.mem_map.2 ⟨x, hx, rfl⟩
  obtain ⟨n, hn, e⟩ := List.mem_map.1 h4
  have := hi n hn
  rw [← e]; omega)
 rw [h2, h1] at this
 exact this
structure Fl (B q : Nat) (R : Rw) (s : BS) (i : Nat) (pre : List Nd) (xb : List Value) (mb nb : Nat) (u : Value) (fb : Nat) (w0 : World) (A : Option Addr) (c : Nat) (l : List ByteArray) (w : World) : Prop where
 sx : Sx B q R s i pre xb A c l w
 ms : MS w mb s.nd.length (s.nd.map Nd.id)
 bx : Boxed w nb 88 u
 fl : Blk w fb #[.slice none 0 0, .slice none 0 0] 34
 be : Below w0.heap.size w0 w
 hw : w0.heap.size ≤ B
 nf : fb + 1 = B
section
variable {B q i mb nb fb c : Nat} {R : Rw} {s : BS} {pre : List Nd} {xb : List Value} {u : Value} {w0 w w' : World} {A : Option Addr} {l : List ByteArray}
theorem Fl.below (h : Fl B q R s i pre xb mb nb u fb w0 A c l w) (hb : Below w.heap.size w w') : Fl B q R s i pre xb mb nb u fb w0 A c l w' :=
 ⟨h.sx.below hb, h.ms.below hb, (Blk.boxed h.bx).below hb, h.fl.below hb, h.be.trans (hb.mono h.be.size), h.hw, h.nf⟩
theorem Fl.go (h : Fl B q R s i pre xb mb nb u fb w0 A c l w) {A' : Option Addr} {c' : Nat} {l' : List ByteArray} (hs : Sx B q R s i pre xb A' c' l' w') (hg : Go1 (Fx R q A) (Fx R q A') w w') : Fl B q R s i pre xb mb nb u fb w0 A' c' l' w' :=
 ⟨hs, h.ms.only hg.only (h.sx.mapart h.ms), (Blk.boxed h.bx).only hg.only (h.sx.bapart h.bx), h.fl.only hg.only (fun hf => by have := h.sx.lo _ hf; have := h.nf; omega), hg.only.below' h.be (fun k hk => Nat.le_trans h.hw (h.sx.lo _ hk)), h.hw, h.nf⟩
end
end Go.Proofs.YtgdfkbalnpfdgaaGreatDoor
