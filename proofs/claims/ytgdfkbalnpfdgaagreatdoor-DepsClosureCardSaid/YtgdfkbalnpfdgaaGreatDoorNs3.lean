/- What nest.Flatten makes: plain. -/
import Derived.Test.YtgdfkbalnpfdgaaGreatDoorNs1
namespace Go.Proofs.YtgdfkbalnpfdgaaGreatDoor
set_option linter.unusedVariables false
set_option linter.unusedSimpArgs false
structure Ar where
 scope : Nat
 guards : List Gd
 after : List ByteArray
 depth : Nat
structure BS where
 sc : List Sc
 nd : List Nd
 wt : List (List ByteArray)
def stackT : ByteArray := ⟨#[83, 116, 97, 99, 107]⟩
def gOf (x : Ar) (r : Rs) : List Gd := if bEq r.cond ByteArray.empty then x.guards else x.guards ++ [⟨x.scope, r.cond⟩]
def aOf (pre : ByteArray) (x : Ar) (r : Rs) : List ByteArray := x.after ++ r.depends.map fun d => pre ++ d
def bareT (t : Tm) : Tm := ⟨t.params, t.conds, [], t.outs⟩
def yOf (pre : ByteArray) (x : Ar) (r : Rs) (n : Nat) : Ar := ⟨n, gOf x r, aOf pre x r, x.depth + 1⟩
def BS.node (s : BS) (pre : ByteArray) (x : Ar) (r : Rs) : BS := ⟨s.sc, s.nd ++ [⟨pre ++ r.id, x.scope, r, gOf x r, []⟩], s.wt ++ [aOf pre x r]⟩
def BS.scope (s : BS) (pre : ByteArray) (x : Ar) (r : Rs) (t : Tm) : BS := ⟨s.sc ++ [⟨x.scope, pre ++ r.id ++ dot, bareT t, r.props⟩], s.nd, s.wt⟩
def rsPut (f : Tm → Ar → BS → Option BS) (pre : ByteArray) (x : Ar) : List Rs → BS → Option BS
 | [], s => some s
 | r :: rs, s =>
   if bEq r.type stackT then
    match r.inner with
    | [t] => if x.depth = 2 then none else
      match f t (yOf pre x r s.sc.length) (s.scope pre x r t) with
      | none => none
      | some s' => rsPut f pre x rs s'
    | _ => none
   else if 0 < r.inner.length then none else rsPut f pre x rs (s.node pre x r)
def putF : Nat → Tm → Ar → BS → Option BS
 | 0, _, _, _ => none
 | k + 1, t, x, s => rsPut (putF k) ((s.sc[x.scope]?.map Sc.pre).getD ByteArray.empty) x t.res s
def cp : Nat → Nat
 | 0 => 250000
 | 1 => 4000
 | 2 => 60
 | _ => 0
def BS.big (s : BS) (n : Nat) : Prop := s.sc.length ≤ n ∧ s.nd.length ≤ n ∧ s.wt.length ≤ n
structure Ar.ok (x : Ar) (s : BS) : Prop where
 depth : x.depth ≤ 2
 guards : x.guards.length ≤ x.depth
 after : x.after.length ≤ 60 * x.depth
 sizes : ∀ d ∈ x.after, d.size ≤ 20000
 names : ∀ g ∈ x.guards, g.name.size ≤ 20000 ∧ 0 ≤ g.scope ∧ g.scope ≤ 1000000
 scope : ∃ c, s.sc[x.scope]? = some c ∧ c.pre.size ≤ 3002 * x.depth
structure BS.ok (s : BS) : Prop where
 ids : ∀ n ∈ s.nd, n.id.size ≤ 20000
 wts : ∀ l ∈ s.wt, l.length ≤ 180 ∧ ∀ d ∈ l, d.size ≤ 20000
 len : s.wt.length = s.nd.length
 afs : ∀ n ∈ s.nd, n.after = []
def rOk (k : Nat) (r : Rs) : Prop := r.props.length ≤ 60 ∧ r.depends.length ≤ 60 ∧ r.inner.length ≤ 3 ∧ r.id.size + r.type.size + r.cond.size ≤ 3000 ∧ (∀ d ∈ r.depends, d.size ≤ 3000) ∧ ∀ t' ∈ r.inner, Tm.ok k t'
theorem size_app (a b : ByteArray) : (a ++ b).size = a.size + b.size := ByteArray.size_append
theorem gOf_len (x : Ar) (r : Rs) : (gOf x r).length ≤ x.guards.length + 1 := by unfold gOf; split <;> simp
theorem aOf_len (pre : ByteArray) (x : Ar) (r : Rs) : (aOf pre x r).length = x.after.length + r.depends.length := by unfold aOf; simp
theorem aOf_sizes {pre : ByteArray} {x : Ar} {r : Rs} {s : BS} {k : Nat} (hx : x.ok s) (hp : pre.size ≤ 3002 * x.depth) (hr : rOk k r) : ∀ d ∈ aOf pre x r, d.size ≤ 20000 := by
 intro d hd
 unfold aOf at hd
 rcases List.mem_append.1 hd with hd | hd
 ·exact hx.sizes d hd
 ·obtain ⟨d', h1, rfl⟩ := List.mem_map.1 hd
  have := hr.2.2.2.2.1 d' h1
  have := hx.depth
  rw [size_app]; omega
theorem gOf_names {x : Ar} {r : Rs} {s : BS} {k : Nat} (hx : x.ok s) (hr : rOk k r) (hs : x.scope ≤ 1000000) : ∀ g ∈ gOf x r, g.name.size ≤ 20000 ∧ 0 ≤ g.scope ∧ g.scope ≤ 1000000 := by
 intro g hg
 unfold gOf at hg
 split at hg
 ·exact hx.names g hg
 ·rcases List.mem_append.1 hg with hg | hg
  ·exact hx.names g hg
  ·rw [List.mem_singleton] at hg; subst hg
   have := hr.2.2.2.1
   exact ⟨by show r.cond.size ≤ 20000; omega, by show (0 : Int) ≤ (x.scope : Int); omega, by show (x.scope : Int) ≤ 1000000; omega⟩
theorem BS.node_ok {s : BS} {pre : ByteArray} {x : Ar} {r : Rs} {k : Nat} (h : s.ok) (hx : x.ok s) (hp : pre.size ≤ 3002 * x.depth) (hr : rOk k r) : (s.node pre x r).ok := by
 have hd := hx.depth
 refine ⟨fun n hn => ?_, fun l hl => ?_, by simp [BS.node, h.len], fun n hn => ?_⟩
 ·rcases List.mem_append.1 hn with hn | hn
  ·exact h.ids n hn
  ·rw [List.mem_singleton] at hn; subst hn
   have := hr.2.2.2.1
   show (pre ++ r.id).size ≤ 20000
   rw [size_app]; omega
 ·rcases List.mem_append.1 hl with hl | hl
  ·exact h.wts l hl
  ·rw [List.mem_singleton] at hl; subst hl
   refine ⟨?_, aOf_sizes hx hp hr⟩
   have := hx.after
   have := hr.2.1
   rw [aOf_len]; omega
 ·rcases List.mem_append.1 hn with hn | hn
  ·exact h.afs n hn
  ·rw [List.mem_singleton] at hn; subst hn; rfl
theorem BS.scope_ok {s : BS} {pre : ByteArray} {x : Ar} {r : Rs} {t : Tm} (h : s.ok) : (s.scope pre x r t).ok := ⟨h.ids, h.wts, h.len, h.afs⟩
theorem yOf_ok {s : BS} {pre : ByteArray} {x : Ar} {r : Rs} {t : Tm} {k : Nat} (hx : x.ok s) (hp : pre.size ≤ 3002 * x.depth) (hr : rOk k r) (hd : x.depth ≠ 2) (hs : x.scope ≤ 1000000) : (yOf pre x r s.sc.length).ok (s.scope pre x r t) := by
 have h1 := hx.depth
 have h2 := hx.guards
 have h3 := hx.after
 have h4 := gOf_len x r
 have h5 := hr.2.1
 have h6 := hr.2.2.2.1
 refine ⟨by show x.depth + 1 ≤ 2; omega, by show (gOf x r).length ≤ x.depth + 1; omega, ?_, aOf_sizes hx hp hr, gOf_names hx hr hs, ?_⟩
 ·show (aOf pre x r).length ≤ 60 * (x.depth + 1)
  rw [aOf_len]; omega
 ·refine ⟨⟨x.scope, pre ++ r.id ++ dot, bareT t, r.props⟩, by simp [BS.scope, yOf], ?_⟩
  show (pre ++ r.id ++ dot).size ≤ 3002 * (x.depth + 1)
  rw [size_app, size_app]
  have : dot.size = 1 := rfl
  omega
theorem Ar.ok.more {x : Ar} {s s' : BS} (h : x.ok s) (hp : ∃ l, s'.sc = s.sc ++ l) : x.ok s' := by
 obtain ⟨l, hl⟩ := hp
 obtain ⟨c, h1, h2⟩ := h.scope
 exact ⟨h.depth, h.guards, h.after, h.sizes, h.names, c, by rw [hl, List.getElem?_append_left (List.getElem?_eq_some_iff.1 h1).1]; exact h1, h2⟩
structure Put (s s' : BS) (n : Nat) : Prop where
 ok : s'.ok
 sc : ∃ l, s'.sc = s.sc ++ l
 big : s'.sc.length ≤ s.sc.length + n ∧ s'.nd.length ≤ s.nd.length + n ∧ s'.wt.length ≤ s.wt.length + n
theorem put_rs {f : Tm → Ar → BS → Option BS} {pre : ByteArray} {x : Ar} {k : Nat} (hpre : pre.size ≤ 3002 * x.depth) (hxs : x.scope ≤ 1000000)
 (hf : x.depth < 2 → ∀ (t : Tm) (y : Ar) (s s' : BS), Tm.ok k t → y.depth = x.depth + 1 → y.ok s → s.ok → s.sc.length + cp (x.depth + 1) ≤ 1000000 → f t y s = some s' → Put s s' (cp (x.depth + 1))) :
 ∀ (l : List Rs) (s s' : BS), (∀ r ∈ l, rOk k r) → x.ok s → s.ok → s.sc.length + l.length * (1 + cp (x.depth + 1)) ≤ 1000000 → rsPut f pre x l s = some s' → Put s s' (l.length * (1 + cp (x.depth + 1)))
 | [], s, s', _, _, hs, _, h => by
   simp only [rsPut, Option.some.injEq] at h
   subst h
   exact ⟨hs, ⟨[], by simp⟩, by simp⟩
 | r :: l, s, s', hl, hx, hs, hb, h => by
   have hr := hl r (by simp)
   simp only [List.length_cons, Nat.succ_mul] at hb
   have hd := hx.depth
   simp only [rsPut] at h
   split at h
   ·split at h
    ·next t ht =>
     split at h
     ·cases h
     ·next hd2 =>
      split at h
      ·cases h
      ·next s1 hs1 =>
       have h1 := hf (by omega) t _ _ _ (hr.2.2.2.2.2 t (by rw [ht]; simp)) rfl (yOf_ok hx hpre hr hd2 hxs) (BS.scope_ok hs) (by simp only [BS.scope, List.length_append, List.length_cons, List.length_nil]; omega) hs1
       have hx1 : x.ok s1 := hx.more (by obtain ⟨l1, hl1⟩ := h1.sc; exact ⟨_, by rw [hl1, BS.scope, List.append_assoc]⟩)
       have h2 := put_rs hpre hxs hf l s1 s' (fun r' hr' => hl r' (by simp [hr'])) hx1 h1.ok (by have := h1.big.1; simp only [BS.scope, List.length_append, List.length_cons, List.length_nil] at this; omega) h
       obtain ⟨l1, hl1⟩ := h1.sc
       obtain ⟨l2, hl2⟩ := h2.sc
       obtain ⟨a1, a2, a3⟩ := h1.big
       obtain ⟨b1, b2, b3⟩ := h2.big
       refine ⟨h2.ok, ⟨_, by rw [hl2, hl1, BS.scope, List.append_assoc, List.append_assoc]⟩, ?_⟩
       simp only [BS.scope, List.length_append, List.length_cons, List.length_nil] at a1 a2 a3
       simp only [List.length_cons, Nat.succ_mul]
       omega
    ·cases h
   ·split at h
    ·cases h
    ·have h2 := put_rs hpre hxs hf l _ s' (fun r' hr' => hl r' (by simp [hr'])) (hx.more ⟨[], by simp [BS.node]⟩) (BS.node_ok hs hx hpre hr) (by show s.sc.length + _ ≤ _; omega) h
     obtain ⟨l2, hl2⟩ := h2.sc
     obtain ⟨b1, b2, b3⟩ := h2.big
     refine ⟨h2.ok, ⟨l2, by rw [hl2, BS.node]⟩, ?_⟩
     simp only [BS.node, List.length_append, List.length_cons, List.length_nil] at b1 b2 b3
     simp only [List.length_cons, Nat.succ_mul]
     omega
theorem pre_of {s : BS} {x : Ar} (hx : x.ok s) : ((s.sc[x.scope]?.map Sc.pre).getD ByteArray.empty).size ≤ 3002 * x.depth := by
 obtain ⟨c, h1, h2⟩ := hx.scope
 rw [h1]; exact h2
theorem ok_rs {k : Nat} {t : Tm} (h : t.ok (k + 1)) : t.res.length ≤ 60 ∧ ∀ r ∈ t.res, rOk k r := h
theorem put_put : ∀ (k : Nat) (t : Tm) (x : Ar) (s s' : BS), t.ok k → x.ok s → s.ok → s.sc.length + cp x.depth ≤ 1000000 → putF k t x s = some s' → Put s s' (cp x.depth)
 | 0, t, x, s, s', ht, _, _, _, _ => by simp [Tm.ok] at ht
 | k + 1, t, x, s, s', ht, hx, hs, hb, h => by
   obtain ⟨h1, h2⟩ := ok_rs ht
   have hd := hx.depth
   have hsc : x.scope ≤ 1000000 := by
    obtain ⟨c, hc, _⟩ := hx.scope
    have := (List.getElem?_eq_some_iff.1 hc).1
    omega
   have hlen : t.res.length * (1 + cp (x.depth + 1)) ≤ cp x.depth := by
    match hx' : x.depth, hd with
    | 0, _ => have : cp (0 + 1) = 4000 := rfl
              have : cp 0 = 250000 := rfl
              rw [‹cp (0 + 1) = 4000›, ‹cp 0 = 250000›]; omega
    | 1, _ => have h3 : cp (1 + 1) = 60 := rfl
              have h4 : cp 1 = 4000 := rfl
              rw [h3, h4]; omega
    | 2, _ => have h3 : cp (2 + 1) = 0 := rfl
              have h4 : cp 2 = 60 := rfl
              rw [h3, h4]; omega
   have := put_rs (f := putF k) (pre_of hx) hsc (fun _ t' y s1 s2 ht' hy hyo hs1 hb1 h' => by
    have := put_put k t' y s1 s2 ht' hyo hs1 (by rw [hy]; exact hb1) h'
    rwa [hy] at this) t.res s s' h2 hx hs (by omega) h
   obtain ⟨p1, p2, p3⟩ := this
   exact ⟨p1, p2, by omega⟩
open Go.RowKit
set_option linter.unusedVariables false
set_option linter.unusedSimpArgs false
def Sf (B : Nat) (F : Nat → Prop) (w : World) (k : Nat) : Prop := ¬ F k ∧ k < w.heap.size ∧ k + 1 ≠ B
def Mu (q : Nat) (A1 A2 A3 : Option Addr) (k : Nat) : Prop := k = q ∨ blk A1 = some k ∨ blk A2 = some k ∨ blk A3 = some k
structure Go1 (F F' : Nat → Prop) (w w' : World) : Prop where
 only : Only F w w'
 less : ∀ k, k < w.heap.size → F' k → F k
theorem Go1.refl (F : Nat → Prop) (w : World) : Go1 F F w w := ⟨Only.refl F w, fun _ _ h => h⟩
theorem Go1.trans {F F' F'' : Nat → Prop} {a b c : World} (h : Go1 F F' a b) (k : Go1 F' F'' b c) : Go1 F F'' a c :=
 ⟨h.only.trans k.only h.less, fun i hi hf => h.less i hi (k.less i (Nat.lt_of_lt_of_le hi h.only.size) hf)⟩
theorem Go1.of_below {F : Nat → Prop} {a b : World} (h : Below a.heap.size a b) : Go1 F F a b := ⟨Only.of_below h F, fun _ _ h => h⟩
section
variable {B : Nat} {F F' : Nat → Prop} {w w' : World}
theorem Go1.sf (h : Go1 F F' w w') : ∀ k, Sf B F w k → Sf B F' w' k := fun k hk => ⟨fun hf => hk.1 (h.less k hk.2.1 hf), Nat.lt_of_lt_of_le hk.2.1 h.only.size, hk.2.2⟩
theorem Trs.at.go (h : Go1 F F' w w') {ts : List Tr} {vs : List Value} (ht : Trs.at (Sf B F w) w ts vs) : Trs.at (Sf B F' w') w' ts vs :=
 Trs.at.keep (fun p hp hs => cell_only h.only hp hs.1) h.sf ts vs ht
theorem Ls.go {α : Type} {tr : α → List Tr} {sz b c : Nat} {A : Option Addr} {l : List α} (h : Go1 F F' w w') (hl : Ls (Sf B F w) w sz b tr A c l) : Ls (Sf B F' w') w' sz b tr A c l :=
 hl.keep (fun p hp hs => cell_only h.only hp hs.1) h.sf
theorem Blk.go (h : Go1 F F' w w') {q : Nat} {cs : Array Value} {t : TypeId} (hb : Blk w q cs t) (hq : ¬ F q) : Blk w' q cs t := hb.only h.only hq
theorem Cel.go (h : Go1 F F' w w') {a : Addr} {cs : List Value} (hc : Cel w a cs) (hq : ¬ F a.block) : Cel w' a cs := fun j u hu => by
 have h1 := hc j u hu
 rw [cell_only h.only (World.block_lt_of_cell? w _ h1) (by split <;> exact hq)]; exact h1
end
theorem Ow.ne {w : World} {B B' : Nat} {e e' : TypeId} {sz sz' n n' c c' : Nat} {A A' : Option Addr} {xs xs' : List Value} (h : Ow w B e sz A n c xs) (h' : Ow w B' e' sz' A' n' c' xs') (hne : e ≠ e') : blk A = none ∨ blk A ≠ blk A' := by
 rcases h.2 with ⟨rfl, _, _⟩ | ⟨g, cur, rfl, _, hg, _⟩
 ·exact .inl rfl
 ·rcases h'.2 with ⟨rfl, _, _⟩ | ⟨g', cur', rfl, _, hg', _⟩
  ·right; simp [blk]
  ·right
   intro he
   simp [blk] at he
   subst he
   rw [hg] at hg'
   injection hg' with hg'
   injection hg' with _ ht
   exact hne ht
structure Rw where
 A1 : Option Addr
 c1 : Nat
 x1 : List Value
 A2 : Option Addr
 c2 : Nat
 x2 : List Value
 A3 : Option Addr
 c3 : Nat
 x3 : List Value
def Rw.mu (R : Rw) (q : Nat) : Nat → Prop := Mu q R.A1 R.A2 R.A3
structure Bd (B : Nat) (w : World) (q : Nat) (R : Rw) (s : BS) : Prop where
 box : Blk w q #[.slice R.A1 s.sc.length R.c1, .slice R.A2 s.nd.length R.c2, .slice R.A3 s.wt.length R.c3] 123
 hq : B ≤ q
 r1 : Ow w B 76 7 R.A1 s.sc.length R.c1 R.x1
 r2 : Ow w B 80 11 R.A2 s.nd.length R.c2 R.x2
 r3 : Ow w B 63 1 R.A3 s.wt.length R.c3 R.x3
 t1 : Trs.at (Sf B (R.mu q) w) w (s.sc.flatMap Sc.tr) R.x1
 t2 : Trs.at (Sf B (R.mu q) w) w (s.nd.flatMap Nd.tr) R.x2
 t3 : Trs.at (Sf B (R.mu q) w) w (s.wt.map sTr) R.x3
 t4 : ∀ i, i < s.nd.length → R.x2[i * 11 + 10]? = some (.slice none 0 0)
section
variable {B q : Nat} {R : Rw} {s : BS} {w w' : World}
theorem Bd.mu_lt (h : Bd B w q R s) {k : Nat} (hk : R.mu q k) : B ≤ k ∧ k < w.heap.size := by
 rcases hk with rfl | hk | hk | hk
 ·exact ⟨h.hq, h.box.lt⟩
 ·exact h.r1.lt hk
 ·exact h.r2.lt hk
 ·exact h.r3.lt hk
theorem Bd.below (h : Bd B w q R s) (hb : Below w.heap.size w w') : Bd B w' q R s := by
 have hg : Go1 (R.mu q) (R.mu q) w w' := Go1.of_below hb
 exact ⟨h.box.below hb, h.hq, h.r1.below hb, h.r2.below hb, h.r3.below hb, h.t1.go hg, h.t2.go hg, h.t3.go hg, h.t4⟩
theorem mu_step {F : Nat → Prop} {A : Option Addr} {w1 w2 : World} (hg : w1.grownBy w2 (blk A)) (i : Nat) (u : Value) (hq : F q) (hA : ∀ k, blk A = some k → F k) :
 Only F w1 (w2.setCell ⟨q, i, none⟩ u) :=
 ((Only.of_grown hg).mono (fun k _ e => hA k e.symm)).setCell _ _ (fun _ => hq)
theorem mu_new {A A' : Option Addr} {w1 : World} (hat : A' = A ∨ A' = some ⟨w1.heap.size, 0, none⟩) {k : Nat} (hk : k < w1.heap.size) (h : blk A' = some k) : blk A = some k := by
 rcases hat with rfl | rfl
 ·exact h
 ·simp [blk] at h; omega
theorem Bd.add1 (h : Bd B w q R s) {w1 w2 : World} (hb : Below w.heap.size w w1) {n : Sc} {cs : List Value} {A' : Option Addr} {c' : Nat}
 (hn : Trs.at (Sf B (R.mu q) w1) w1 n.tr cs) (ho : Ow w2 B 76 7 A' (s.sc.length + 1) c' (R.x1 ++ cs)) (hg : w1.grownBy w2 (blk R.A1)) (hat : A' = R.A1 ∨ A' = some ⟨w1.heap.size, 0, none⟩) :
 ∃ R' : Rw, Bd B (w2.setCell ⟨q, 0, none⟩ (.slice A' (s.sc.length + 1) c')) q R' ⟨s.sc ++ [n], s.nd, s.wt⟩ ∧ Go1 (R.mu q) (R'.mu q) w (w2.setCell ⟨q, 0, none⟩ (.slice A' (s.sc.length + 1) c')) := by
 have h' := h.below hb
 refine ⟨{ R with A1 := A', c1 := c', x1 := R.x1 ++ cs }, ?_⟩
 have hgo : Go1 (R.mu q) (Rw.mu { R with A1 := A', c1 := c', x1 := R.x1 ++ cs } q) w1 (w2.setCell ⟨q, 0, none⟩ (.slice A' (s.sc.length + 1) c')) :=
  ⟨mu_step hg 0 _ (.inl rfl) (fun k hk => .inr (.inl hk)), fun k hk hf => by
    rcases hf with hf | hf | hf | hf
    ·exact .inl hf
    ·exact .inr (.inl (mu_new hat hk hf))
    ·exact .inr (.inr (.inl hf))
    ·exact .inr (.inr (.inr hf))⟩
 have hbq : blk R.A1 ≠ some q := h'.r1.ne_blk h'.box (by decide)
 have hblk2 := h'.box.grown hg hbq
 have hb2 : blk R.A2 = none ∨ blk R.A2 ≠ blk R.A1 := h'.r2.ne h'.r1 (by decide)
 have hb3 : blk R.A3 = none ∨ blk R.A3 ≠ blk R.A1 := h'.r3.ne h'.r1 (by decide)
 have k2 := (h'.r2.grown hg hb2).setOther ⟨q, 0, none⟩ (.slice A' (s.sc.length + 1) c') (h'.r2.ne_blk h'.box (by decide))
 have k3 := (h'.r3.grown hg hb3).setOther ⟨q, 0, none⟩ (.slice A' (s.sc.length + 1) c') (h'.r3.ne_blk h'.box (by decide))
 have k1 := ho.setOther ⟨q, 0, none⟩ (.slice A' (s.sc.length + 1) c') (ho.ne_blk hblk2 (by decide))
 have s1 : Trs.at (Sf B (Rw.mu { R with A1 := A', c1 := c', x1 := R.x1 ++ cs } q) (w2.setCell ⟨q, 0, none⟩ (.slice A' (s.sc.length + 1) c'))) (w2.setCell ⟨q, 0, none⟩ (.slice A' (s.sc.length + 1) c')) ((s.sc ++ [n]).flatMap Sc.tr) (R.x1 ++ cs) := by
  rw [List.flatMap_append]
  exact Trs.at.app.2 ⟨_, _, rfl, h'.t1.go hgo, by simpa using hn.go hgo⟩
 have s2 := h'.t2.go hgo
 have s3 := h'.t3.go hgo
 exact ⟨⟨(hblk2.set 0 _).eq (by simp), h.hq, by rw [List.length_append]; exact k1, k2, k3, s1, s2, s3, h.t4⟩, (Go1.of_below hb).trans hgo⟩
theorem Bd.add2 (h : Bd B w q R s) {w1 w2 : World} (hb : Below w.heap.size w w1) {n : Nd} {cs : List Value} {A' : Option Addr} {c' : Nat}
 (hn : Trs.at (Sf B (R.mu q) w1) w1 n.tr cs) (h10 : cs[10]? = some (.slice none 0 0)) (ho : Ow w2 B 80 11 A' (s.nd.length + 1) c' (R.x2 ++ cs)) (hg : w1.grownBy w2 (blk R.A2)) (hat : A' = R.A2 ∨ A' = some ⟨w1.heap.size, 0, none⟩) :
 ∃ R' : Rw, Bd B (w2.setCell ⟨q, 1, none⟩ (.slice A' (s.nd.length + 1) c')) q R' ⟨s.sc, s.nd ++ [n], s.wt⟩ ∧ Go1 (R.mu q) (R'.mu q) w (w2.setCell ⟨q, 1, none⟩ (.slice A' (s.nd.length + 1) c')) := by
 have h' := h.below hb
 refine ⟨{ R with A2 := A', c2 := c', x2 := R.x2 ++ cs }, ?_⟩
 have hgo : Go1 (R.mu q) (Rw.mu { R with A2 := A', c2 := c', x2 := R.x2 ++ cs } q) w1 (w2.setCell ⟨q, 1, none⟩ (.slice A' (s.nd.length + 1) c')) :=
  ⟨mu_step hg 1 _ (.inl rfl) (fun k hk => .inr (.inr (.inl hk))), fun k hk hf => by
    rcases hf with hf | hf | hf | hf
    ·exact .inl hf
    ·exact .inr (.inl hf)
    ·exact .inr (.inr (.inl (mu_new hat hk hf)))
    ·exact .inr (.inr (.inr hf))⟩
 have hbq : blk R.A2 ≠ some q := h'.r2.ne_blk h'.box (by decide)
 have hblk2 := h'.box.grown hg hbq
 have hb1 : blk R.A1 = none ∨ blk R.A1 ≠ blk R.A2 := h'.r1.ne h'.r2 (by decide)
 have hb3 : blk R.A3 = none ∨ blk R.A3 ≠ blk R.A2 := h'.r3.ne h'.r2 (by decide)
 have k1 := (h'.r1.grown hg hb1).setOther ⟨q, 1, none⟩ (.slice A' (s.nd.length + 1) c') (h'.r1.ne_blk h'.box (by decide))
 have k3 := (h'.r3.grown hg hb3).setOther ⟨q, 1, none⟩ (.slice A' (s.nd.length + 1) c') (h'.r3.ne_blk h'.box (by decide))
 have k2 := ho.setOther ⟨q, 1, none⟩ (.slice A' (s.nd.length + 1) c') (ho.ne_blk hblk2 (by decide))
 have s2 : Trs.at (Sf B (Rw.mu { R with A2 := A', c2 := c', x2 := R.x2 ++ cs } q) (w2.setCell ⟨q, 1, none⟩ (.slice A' (s.nd.length + 1) c'))) (w2.setCell ⟨q, 1, none⟩ (.slice A' (s.nd.length + 1) c')) ((s.nd ++ [n]).flatMap Nd.tr) (R.x2 ++ cs) := by
  rw [List.flatMap_append]
  exact Trs.at.app.2 ⟨_, _, rfl, h'.t2.go hgo, by simpa using hn.go hgo⟩
 have s1 := h'.t1.go hgo
 have s3 := h'.t3.go hgo
 refine ⟨⟨(hblk2.set 1 _).eq (by simp), h.hq, k1, by rw [List.length_append]; exact k2, k3, s1, s2, s3, fun i hi => ?_⟩, (Go1.of_below hb).trans hgo⟩
 have hl2 : R.x2.length = s.nd.length * 11 := h'.r2.rd.len
 rw [List.length_append, List.length_singleton] at hi
 show (R.x2 ++ cs)[i * 11 + 10]? = _
 rcases Nat.lt_or_ge i s.nd.length with h0 | h0
 ·rw [List.getElem?_append_left (by omega)]; exact h.t4 i h0
 ·rw [List.getElem?_append_right (by omega), hl2, show i * 11 + 10 - s.nd.length * 11 = 10 by omega]; exact h10
theorem Bd.add3 (h : Bd B w q R s) {w1 w2 : World} (hb : Below w.heap.size w w1) {n : List ByteArray} {cs : List Value} {A' : Option Addr} {c' : Nat}
 (hn : Trs.at (Sf B (R.mu q) w1) w1 [sTr n] cs) (ho : Ow w2 B 63 1 A' (s.wt.length + 1) c' (R.x3 ++ cs)) (hg : w1.grownBy w2 (blk R.A3)) (hat : A' = R.A3 ∨ A' = some ⟨w1.heap.size, 0, none⟩) :
 ∃ R' : Rw, Bd B (w2.setCell ⟨q, 2, none⟩ (.slice A' (s.wt.length + 1) c')) q R' ⟨s.sc, s.nd, s.wt ++ [n]⟩ ∧ Go1 (R.mu q) (R'.mu q) w (w2.setCell ⟨q, 2, none⟩ (.slice A' (s.wt.length + 1) c')) := by
 have h' := h.below hb
 refine ⟨{ R with A3 := A', c3 := c', x3 := R.x3 ++ cs }, ?_⟩
 have hgo : Go1 (R.mu q) (Rw.mu { R with A3 := A', c3 := c', x3 := R.x3 ++ cs } q) w1 (w2.setCell ⟨q, 2, none⟩ (.slice A' (s.wt.length + 1) c')) :=
  ⟨mu_step hg 2 _ (.inl rfl) (fun k hk => .inr (.inr (.inr hk))), fun k hk hf => by
    rcases hf with hf | hf | hf | hf
    ·exact .inl hf
    ·exact .inr (.inl hf)
    ·exact .inr (.inr (.inl hf))
    ·exact .inr (.inr (.inr (mu_new hat hk hf)))⟩
 have hbq : blk R.A3 ≠ some q := h'.r3.ne_blk h'.box (by decide)
 have hblk2 := h'.box.grown hg hbq
 have hb1 : blk R.A1 = none ∨ blk R.A1 ≠ blk R.A3 := h'.r1.ne h'.r3 (by decide)
 have hb2 : blk R.A2 = none ∨ blk R.A2 ≠ blk R.A3 := h'.r2.ne h'.r3 (by decide)
 have k1 := (h'.r1.grown hg hb1).setOther ⟨q, 2, none⟩ (.slice A' (s.wt.length + 1) c') (h'.r1.ne_blk h'.box (by decide))
 have k2 := (h'.r2.grown hg hb2).setOther ⟨q, 2, none⟩ (.slice A' (s.wt.length + 1) c') (h'.r2.ne_blk h'.box (by decide))
 have k3 := ho.setOther ⟨q, 2, none⟩ (.slice A' (s.wt.length + 1) c') (ho.ne_blk hblk2 (by decide))
 have s3 : Trs.at (Sf B (Rw.mu { R with A3 := A', c3 := c', x3 := R.x3 ++ cs } q) (w2.setCell ⟨q, 2, none⟩ (.slice A' (s.wt.length + 1) c'))) (w2.setCell ⟨q, 2, none⟩ (.slice A' (s.wt.length + 1) c')) ((s.wt ++ [n]).map sTr) (R.x3 ++ cs) := by
  rw [List.map_append]
  exact Trs.at.app.2 ⟨_, _, rfl, h'.t3.go hgo, hn.go hgo⟩
 have s1 := h'.t1.go hgo
 have s2 := h'.t2.go hgo
 exact ⟨⟨(hblk2.set 2 _).eq (by simp), h.hq, k1, k2, by rw [List.length_append]; exact k3, s1, s2, s3, h.t4⟩, (Go1.of_below hb).trans hgo⟩
end
end Go.Proofs.YtgdfkbalnpfdgaaGreatDoor
