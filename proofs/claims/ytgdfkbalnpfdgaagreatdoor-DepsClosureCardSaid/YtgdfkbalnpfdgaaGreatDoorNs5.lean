/- nest.builder.put: the walk. -/
import Derived.Deep.CutRange
import Derived.Deep.QuietTactic
import Derived.BigQuiet
import Derived.StillTailTactics
import Derived.Test.YtgdfkbalnpfdgaaGreatDoorRg
import Derived.Test.YtgdfkbalnpfdgaaGreatDoorRow
import Derived.Test.YtgdfkbalnpfdgaaGreatDoorNs3
namespace Go.Proofs.YtgdfkbalnpfdgaaGreatDoor
open Go.RowKit
set_option linter.unusedVariables false
set_option linter.unusedSimpArgs false
def MuY (R : Rw) (q y : Nat) (k : Nat) : Prop := R.mu q k ∨ k = y
theorem muY_go {R : Rw} {q y : Nat} {w w' : World} (hb : Below w.heap.size w w') (hy : w.heap.size ≤ y) : Go1 (R.mu q) (MuY R q y) w w' :=
 ⟨Only.of_below hb _, fun k hk hf => hf.elim (fun h => h) (fun h => by omega)⟩
theorem muY_set {R : Rw} {q y i : Nat} {w : World} {u : Value} : Go1 (MuY R q y) (MuY R q y) w (w.setCell ⟨y, i, none⟩ u) :=
 ⟨(Only.refl _ w).setCell _ _ (fun _ => .inr rfl), fun _ _ h => h⟩
theorem mu_grown {F : Nat → Prop} {w w' : World} {A : Option Addr} (hg : w.grownBy w' (blk A)) (hA : ∀ k, blk A = some k → F k) : Go1 F F w w' := ⟨(Only.of_grown hg).mono (fun k _ e => hA k e.symm), fun _ _ h => h⟩
theorem mu_set {F : Nat → Prop} {w : World} {q i : Nat} {u : Value} (hq : F q) : Go1 F F w (w.setCell ⟨q, i, none⟩ u) := ⟨(Only.refl _ w).setCell _ _ (fun _ => hq), fun _ _ h => h⟩
theorem muY_sf {B : Nat} {R : Rw} {q y : Nat} {w : World} : ∀ k, Sf B (MuY R q y) w k → Sf B (R.mu q) w k := fun k hk => ⟨fun h => hk.1 (.inl h), hk.2⟩
def PutOut (B q : Nat) (R : Rw) (res : Option BS) (w : World) (e : Ending) (w' : World) : Prop :=
 match res with
 | none => e = .returned (.bool false) ∧ Only (R.mu q) w w'
 | some s' => e = .returned (.bool true) ∧ ∃ R' : Rw, Bd B w' q R' s' ∧ Go1 (R.mu q) (R'.mu q) w w'
def PutC (B q k : Nat) : Prop := ∀ (t : Tm) (cs : List Value) (a : Addr) (x : Ar) (G : Option Addr) (gc : Nat) (A : Option Addr) (ac : Nat) (R : Rw) (s : BS) (w : World),
 t.ok k → x.ok s → s.ok → s.sc.length + cp x.depth ≤ 1000000 → s.nd.length + cp x.depth ≤ 1000000 → Bd B w q R s → Trs.at (Sf B (R.mu q) w) w t.tr cs → Cel w a cs → ¬ R.mu q a.block →
 Ls (Sf B (R.mu q) w) w 2 24 Gd.tr G gc x.guards → Ss (Sf B (R.mu q) w) w A ac x.after →
 Calls Tryz.prog 46 #[.pointer (some ⟨q, 0, none⟩), .pointer (some a), .agg #[.int .i64 (x.scope : Int), .slice G x.guards.length gc, .slice A x.after.length ac, .int .i64 (x.depth : Int)]] w (PutOut B q R (putF k t x s) w)
theorem cp_step {d n : Nat} (hd : d ≤ 2) (hn : n ≤ 60) : n * (1 + cp (d + 1)) ≤ cp d := by
 match d, hd with
 | 0, _ => show n * (1 + 4000) ≤ 250000; omega
 | 1, _ => show n * (1 + 60) ≤ 4000; omega
 | 2, _ => show n * (1 + 0) ≤ 60; omega
theorem Sc.at_iff {S : Nat → Prop} {w : World} {v : Sc} {cs : List Value} : Trs.at S w v.tr cs ↔ ∃ ts A c, cs = .int .i64 v.parent :: .string v.pre :: (ts ++ [.slice A v.args.length c]) ∧ (Lit.int .i64 v.parent).wf = true ∧ v.pre.size ≤ 140737488351232 ∧ Trs.at S w v.t.tr ts ∧ Ls S w 7 104 Pr.tr A c v.args := by
 unfold Sc.tr
 constructor
 ·intro h
  obtain ⟨_, rfl, h0, h⟩ := at_leaf.1 h
  obtain ⟨_, rfl, h1, h⟩ := at_leaf.1 h
  obtain ⟨ts, _, rfl, h2, h⟩ := Trs.at.app.1 h
  obtain ⟨A, c, _, rfl, h4, h⟩ := at_row.1 h
  obtain rfl := at_nil.1 h
  exact ⟨ts, A, c, rfl, h0, h1, h2, h4⟩
 ·rintro ⟨ts, A, c, rfl, h0, h1, h2, h4⟩
  exact at_leaf.2 ⟨_, rfl, h0, at_leaf.2 ⟨_, rfl, h1, Trs.at.app.2 ⟨_, _, rfl, h2, at_row.2 ⟨_, _, _, rfl, h4, at_nil.2 rfl⟩⟩⟩⟩
theorem Bd.pre {B q : Nat} {R : Rw} {s : BS} {w : World} (h : Bd B w q R s) {i : Nat} {c : Sc} (hc : s.sc[i]? = some c) : ∃ ad, R.A1 = some ad ∧ w.cell? ⟨(ad.add (i * 7)).block, (ad.add (i * 7)).off + 1, none⟩ = some (.string c.pre) ∧ i < s.sc.length := by
 obtain ⟨ad, cs, hA, hcs, hlen, hcel⟩ := Rd.elem Sc.trlen (by omega) h.r1.rd h.t1 hc
 obtain ⟨ts, A, cc, rfl, -⟩ := Sc.at_iff.1 hcs
 refine ⟨ad, hA, ?_, (List.getElem?_eq_some_iff.1 hc).1⟩
 have := hcel 1 _ rfl
 rwa [add_pos _ (by omega)] at this
def afT (pre : ByteArray) (x : Ar) (r : Rs) (j : Nat) : List ByteArray := x.after ++ (r.depends.take j).map fun d => pre ++ d
theorem afT_len {pre : ByteArray} {x : Ar} {r : Rs} {j : Nat} (h : j ≤ r.depends.length) : (afT pre x r j).length = x.after.length + j := by unfold afT; simp; omega
theorem afT_succ {pre : ByteArray} {x : Ar} {r : Rs} {j : Nat} {d : ByteArray} (h : r.depends[j]? = some d) : afT pre x r (j + 1) = afT pre x r j ++ [pre ++ d] := by
 unfold afT
 rw [List.take_add_one, h]; simp
theorem afT_all {pre : ByteArray} {x : Ar} {r : Rs} {j : Nat} (h : r.depends.length ≤ j) : afT pre x r j = aOf pre x r := by unfold afT aOf; rw [List.take_of_length_le h]
theorem afT_sub {pre : ByteArray} {x : Ar} {r : Rs} {j : Nat} : ∀ d ∈ afT pre x r j, d ∈ aOf pre x r := by
 intro d hd
 unfold afT at hd
 unfold aOf
 rcases List.mem_append.1 hd with hd | hd
 ·exact List.mem_append_left _ hd
 ·obtain ⟨d', h1, rfl⟩ := List.mem_map.1 hd
  exact List.mem_append_right _ (List.mem_map.2 ⟨d', List.mem_of_mem_take h1, rfl⟩)
theorem Ow.blk_lt {w : World} {B n c sz : Nat} {e : TypeId} {A : Option Addr} {xs : List Value} (h : Ow w B e sz A n c xs) : ∀ ad, A = some ad → B ≤ ad.block ∧ ad.block < w.heap.size := by
 rintro ad rfl
 exact h.lt rfl
theorem gd_more {B : Nat} {F : Nat → Prop} {w w' : World} {b : Nat} {e : TypeId} {A' : Option Addr} {c' : Nat} {l : List Gd} {vs : List Value} {z : Int} {nm : ByteArray} (ht : Trs.at (Sf B F w) w (l.flatMap Gd.tr) vs) (hgo : Go1 F F w w') (ho : Ow w' b e 2 A' (l.length + 1) c' (vs ++ [.int .i64 z, .string nm]))
 (hBb : B ≤ b) (hF : ∀ k, b ≤ k → ¬ F k) (hz : 0 ≤ z ∧ z ≤ 1000000) (hn : nm.size ≤ 20000) (hl : l.length ≤ 1000) : Ls (Sf B F w') w' 2 24 Gd.tr A' c' (l ++ [⟨z, nm⟩]) := by
 have hr := ho.rd
 refine ⟨by omega, by simp; omega, by simpa using hr.cap, hr.max, fun ad e _ => ⟨hF _ (ho.blk_lt ad e).1, (ho.blk_lt ad e).2, by have := (ho.blk_lt ad e).1; omega⟩, vs ++ [.int .i64 z, .string nm], by simpa using hr, ?_⟩
 rw [List.flatMap_append]
 refine Trs.at.app.2 ⟨_, _, rfl, ht.go hgo, ?_⟩
 simp only [List.flatMap_cons, List.flatMap_nil, List.append_nil, Gd.tr]
 exact at_leaf.2 ⟨_, rfl, by simp [okLeaf, Lit.wf, IntKind.min, IntKind.max, IntKind.bits, IntKind.signed]; omega, at_leaf.2 ⟨_, rfl, by show nm.size ≤ 140737488351232; omega, at_nil.2 rfl⟩⟩
theorem str_more {B : Nat} {F : Nat → Prop} {w' : World} {b : Nat} {e : TypeId} {A' : Option Addr} {c' : Nat} {l : List ByteArray} {nm : ByteArray} (ho : Ow w' b e 1 A' (l.length + 1) c' (l.map Value.string ++ [.string nm]))
 (hBb : B ≤ b) (hF : ∀ k, b ≤ k → ¬ F k) (hs : ∀ d ∈ l ++ [nm], d.size ≤ 20000) (hl : l.length ≤ 1000) : Ss (Sf B F w') w' A' c' (l ++ [nm]) := by
 have hr := ho.rd
 refine Ls.mk_strs (by simpa using hr) (by simp; omega) (fun d hd => by have := hs d hd; omega) (fun ad e _ => ⟨hF _ (ho.blk_lt ad e).1, (ho.blk_lt ad e).2, by have := (ho.blk_lt ad e).1; omega⟩)
theorem Ls.nilz {α : Type} {S : Nat → Prop} {w : World} {sz b c : Nat} {tr : α → List Tr} {A : Option Addr} {l : List α} (hsz : ∀ a, (tr a).length = sz) (h : Ls S w sz b tr A c l) : A = none → l.length = 0 := by
 intro e
 rcases Nat.eq_zero_or_pos l.length with h0 | h0
 ·exact h0
 ·obtain ⟨ad, h1, _⟩ := h.addr hsz h0
  rw [e] at h1; cases h1
theorem nd_tr {S : Nat → Prop} {w : World} {id : ByteArray} {z : Int} {r : Rs} {rcs : List Value} {gs : List Gd} {G : Option Addr} {gc : Nat} (hid : id.size ≤ 20000) (hz : 0 ≤ z ∧ z ≤ 1000000) (hr : Trs.at S w r.tr rcs) (hg : Ls S w 2 24 Gd.tr G gc gs) :
 Trs.at S w (Nd.tr ⟨id, z, r, gs, []⟩) (.string id :: .int .i64 z :: (rcs ++ [.slice G gs.length gc, .slice none 0 0])) := by
 unfold Nd.tr
 refine at_leaf.2 ⟨_, rfl, by show id.size ≤ _; omega, at_leaf.2 ⟨_, rfl, by simp [okLeaf, Lit.wf, IntKind.min, IntKind.max, IntKind.bits, IntKind.signed]; omega, Trs.at.app.2 ⟨_, _, rfl, hr, at_row.2 ⟨_, _, _, rfl, hg, at_str.2 ⟨none, 0, [], rfl, Ls.nil _ _ _ _ (by omega) _, at_nil.2 rfl⟩⟩⟩⟩⟩
theorem sc_tr {S : Nat → Prop} {w : World} {z : Int} {pr : ByteArray} {t : Tm} {args : List Pr} {Q1 Q2 Q3 Q4 P1 : Option Addr} {e1 e2 e3 e4 p1 : Nat} (hz : 0 ≤ z ∧ z ≤ 1000000) (hp : pr.size ≤ 20000)
 (ht : Trs.at S w t.tr [.slice Q1 t.params.length e1, .slice Q2 t.conds.length e2, .slice Q3 t.res.length e3, .slice Q4 t.outs.length e4]) (ha : Ls S w 7 104 Pr.tr P1 p1 args) :
 Trs.at S w (Sc.tr ⟨z, pr, bareT t, args⟩) [.int .i64 z, .string pr, .slice Q1 t.params.length e1, .slice Q2 t.conds.length e2, .slice none 0 0, .slice Q4 t.outs.length e4, .slice P1 args.length p1] := by
 obtain ⟨A, a, B, b, C, c, D, d, he, h1, h2, h3, h4⟩ := Tm.at_iff.1 ht
 simp only [List.cons.injEq, Value.slice.injEq, true_and, and_true] at he
 obtain ⟨⟨rfl, rfl⟩, ⟨rfl, rfl⟩, ⟨rfl, rfl⟩, rfl, rfl⟩ := he
 exact Sc.at_iff.2 ⟨[.slice Q1 t.params.length e1, .slice Q2 t.conds.length e2, .slice none 0 0, .slice Q4 t.outs.length e4], P1, p1, rfl, by simp [Lit.wf, IntKind.min, IntKind.max, IntKind.bits, IntKind.signed]; omega, by show pr.size ≤ _; omega,
  Tm.at_iff.2 ⟨Q1, e1, Q2, e2, none, 0, Q4, e4, rfl, h1, h2, Ls.nil _ _ _ _ (by omega) _, h4⟩, ha⟩
set_option maxRecDepth 100000 in
set_option maxHeartbeats 8000000 in
theorem put_step (B q k : Nat) (IH : PutC B q k) (t : Tm) (cs : List Value) (a : Addr) (x : Ar) (G : Option Addr) (gc : Nat) (A : Option Addr) (ac : Nat) (R : Rw) (s : BS) (w : World)
 (ht : t.ok (k + 1)) (hx : x.ok s) (hs : s.ok) (hb1 : s.sc.length + cp x.depth ≤ 1000000) (hb2 : s.nd.length + cp x.depth ≤ 1000000) (hB : Bd B w q R s) (htr : Trs.at (Sf B (R.mu q) w) w t.tr cs) (hca : Cel w a cs) (hna : ¬ R.mu q a.block)
 (hG : Ls (Sf B (R.mu q) w) w 2 24 Gd.tr G gc x.guards) (hA : Ss (Sf B (R.mu q) w) w A ac x.after) :
 Calls Tryz.prog 46 #[.pointer (some ⟨q, 0, none⟩), .pointer (some a), .agg #[.int .i64 (x.scope : Int), .slice G x.guards.length gc, .slice A x.after.length ac, .int .i64 (x.depth : Int)]] w (PutOut B q R (putF (k + 1) t x s) w) := by
 obtain ⟨hrl, hrk⟩ := ok_rs ht
 obtain ⟨c0, hc0, hpre⟩ := hx.scope
 obtain ⟨pre, hpre'⟩ : ∃ pre, pre = c0.pre := ⟨_, rfl⟩
 have W0 : Below w.heap.size w (w.alloc (.cells #[.int .i64 (x.scope : Int), .slice G x.guards.length gc, .slice A x.after.length ac, .int .i64 (x.depth : Int)] 127)) := (Below.refl _ w).alloc (Nat.le_refl _) _
 obtain ⟨ad1, hA1, hpc, hsc⟩ := (hB.below W0).pre hc0
 have HP : Hid (putF (k + 1) t x s = rsPut (putF k) pre x (t.res.drop 0) s) := Lib.hid (by simp only [putF]; rw [hc0, hpre']; rfl)
 have hdep := hx.depth
 have hxs : x.scope ≤ 1000000 := by omega
 rw [← hpre'] at hpc hpre
 obtain ⟨Ap, ap, Ac, ac', Ar', ar, Ao, ao, rfl, -, -, hres, -⟩ := Tm.at_iff.1 htr
 obtain ⟨a0, a1, a2, a3⟩ := cel4 (hca.below W0)
 obtain ⟨q0, q1, q2⟩ := blk3 (hB.box.below W0)
 have hrc := hres.cap
 have hqlt := hB.box.lt
 have HRK := Lib.hid hrk
 have HX := Lib.hid hx
 have HS := Lib.hid hs
 have HB := Lib.hid hB
 have HR := Lib.hid hres
 have HG := Lib.hid hG
 have HA := Lib.hid hA
 have HW0 := Lib.hid W0
 clear ht hx hs hB htr hca hres hG hA W0 hrk hc0 hpre'
 have hsi : ((x.scope : Nat) : Int) < (s.sc.length : Int) := by omega
 go_enter Tryz.func46, Tryz.ntmps46
 go_wp2_with fail
 go_region
 go_wp2_with fail
 clear a0 a1 a2 a3 q0 q1 q2 hpc hA1 hsi hsc
 go_loopg [28] t.res.length (fun g i wr => ∃ (j : Nat) (R' : Rw) (s' : BS), j + g = t.res.length ∧ i = .int .i64 (j : Nat) ∧ Hid (putF (k + 1) t x s = rsPut (putF k) pre x (t.res.drop j) s') ∧
  Hid (x.ok s' ∧ s'.ok ∧ s'.sc.length ≤ s.sc.length + j * (1 + cp (x.depth + 1)) ∧ s'.nd.length ≤ s.nd.length + j * (1 + cp (x.depth + 1))) ∧ Hid (Bd B wr q R' s') ∧ Hid (Go1 (R.mu q) (R'.mu q) w wr) ∧ Hid (Blk wr w.heap.size #[.int .i64 (x.scope : Int), .slice G x.guards.length gc, .slice A x.after.length ac, .int .i64 (x.depth : Int)] 127))
 case atStart => exact ⟨0, R, s, by omega, rfl, HP, Lib.hid ⟨HX.out, HS.out, by omega, by omega⟩, Lib.hid (HB.out.below HW0.out.drew), Lib.hid (Go1.of_below HW0.out.drew), Lib.hid (Blk.new w _ _).drew⟩
 case round =>
  obtain ⟨j, R', s', hj, rfl, HPj, HK, HBj, HGo, HXB⟩ := hrel
  rename World => wo
  clear HP
  cases gk with
  | zero =>
    have hjj : ¬ ((j : Int) < (t.res.length : Int)) := by omega
    have HR2 : Hid (putF (k + 1) t x s = some s') := Lib.hid (by rw [HPj.out, List.drop_of_length_le (by omega)]; rfl)
    go_wp2_with fail
    go_ret
    rw [HR2.out]
    exact ⟨rfl, R', HBj.out, HGo.out⟩
  | succ g =>
    have hjj : (j : Int) < (t.res.length : Int) := by omega
    obtain ⟨r, hr⟩ := get_lt (l := t.res) (i := j) (by omega)
    have hd := drop_cons hr
    have HRJ := Lib.hid (HRK.out r (List.mem_of_getElem? hr))
    obtain ⟨adr, rcs, hAr, hrt, hrc'⟩ := (HR.out.go HGo.out).elem Rs.trlen hr
    obtain ⟨P1, p1, D1, d1, I1, i1, rfl, -⟩ := Rs.at_iff.1 hrt
    obtain ⟨e0, e1, e2, e3, e4, e5, e6⟩ := cel7 hrc'
    obtain ⟨x0, x1, x2, x3⟩ := blk4 HXB.out
    have hwl : w.heap.size < wo.heap.size := HXB.out.lt
    subst hAr
    have HRT := Lib.hid hrt
    rw [hd] at HPj
    have hdl := HRJ.out.2.1
    clear hr hd hrt hrc'
    go_upto_if 35 with (fail)
    have BW2 : Below wo.heap.size wo ((wo.alloc (.cells #[.string r.id, .string r.type, .string r.cond, .slice P1 r.props.length p1, .slice D1 r.depends.length d1, .bool r.retain, .slice I1 r.inner.length i1] 66)).alloc (.cells #[.int .i64 (x.scope : Int), .slice G x.guards.length gc, .slice A x.after.length ac, .int .i64 (x.depth : Int)] 127)) := ((Below.refl _ wo).alloc (Nat.le_refl _) _).alloc (by simp) _
    have BR2 : Blk ((wo.alloc (.cells #[.string r.id, .string r.type, .string r.cond, .slice P1 r.props.length p1, .slice D1 r.depends.length d1, .bool r.retain, .slice I1 r.inner.length i1] 66)).alloc (.cells #[.int .i64 (x.scope : Int), .slice G x.guards.length gc, .slice A x.after.length ac, .int .i64 (x.depth : Int)] 127)) wo.heap.size #[.string r.id, .string r.type, .string r.cond, .slice P1 r.props.length p1, .slice D1 r.depends.length d1, .bool r.retain, .slice I1 r.inner.length i1] 66 := (Blk.new wo _ _).alloc _
    have BY2 : Blk ((wo.alloc (.cells #[.string r.id, .string r.type, .string r.cond, .slice P1 r.props.length p1, .slice D1 r.depends.length d1, .bool r.retain, .slice I1 r.inner.length i1] 66)).alloc (.cells #[.int .i64 (x.scope : Int), .slice G x.guards.length gc, .slice A x.after.length ac, .int .i64 (x.depth : Int)] 127)) (wo.heap.size + 1) #[.int .i64 (x.scope : Int), .slice G x.guards.length gc, .slice A x.after.length ac, .int .i64 (x.depth : Int)] 127 := by have := Blk.new (wo.alloc (.cells #[.string r.id, .string r.type, .string r.cond, .slice P1 r.props.length p1, .slice D1 r.depends.length d1, .bool r.retain, .slice I1 r.inner.length i1] 66)) #[.int .i64 (x.scope : Int), .slice G x.guards.length gc, .slice A x.after.length ac, .int .i64 (x.depth : Int)] 127; simpa using this
    have SZ2 : wo.heap.size + 2 = ((wo.alloc (.cells #[.string r.id, .string r.type, .string r.cond, .slice P1 r.props.length p1, .slice D1 r.depends.length d1, .bool r.retain, .slice I1 r.inner.length i1] 66)).alloc (.cells #[.int .i64 (x.scope : Int), .slice G x.guards.length gc, .slice A x.after.length ac, .int .i64 (x.depth : Int)] 127)).heap.size := by simp
    obtain ⟨w2, hw2⟩ : ∃ w2, w2 = (wo.alloc (.cells #[.string r.id, .string r.type, .string r.cond, .slice P1 r.props.length p1, .slice D1 r.depends.length d1, .bool r.retain, .slice I1 r.inner.length i1] 66)).alloc (.cells #[.int .i64 (x.scope : Int), .slice G x.guards.length gc, .slice A x.after.length ac, .int .i64 (x.depth : Int)] 127) := ⟨_, rfl⟩
    rw [← hw2] at BW2 BR2 BY2 SZ2
    rw [← hw2]
    have HBW := Lib.hid BW2
    have HBR := Lib.hid BR2
    have HBY := Lib.hid BY2
    clear hw2 e0 e1 e2 e3 e4 e5 e6 x0 x1 x2 x3 BW2 BR2 BY2
    go_cut [] from 35 to 45 (fun wx => ∃ (G' : Option Addr) (gc' : Nat), Hid (Below wo.heap.size wo wx) ∧ Hid (Blk wx wo.heap.size #[.string r.id, .string r.type, .string r.cond, .slice P1 r.props.length p1, .slice D1 r.depends.length d1, .bool r.retain, .slice I1 r.inner.length i1] 66) ∧ Hid (Blk wx (wo.heap.size + 1) #[.int .i64 (x.scope : Int), .slice G' (gOf x r).length gc', .slice A x.after.length ac, .int .i64 (x.depth : Int)] 127) ∧
     Hid (Ls (Sf B (MuY R' q (wo.heap.size + 1)) wx) wx 2 24 Gd.tr G' gc' (gOf x r)) ∧ Hid (wo.heap.size + 2 ≤ wx.heap.size))
    case first =>
     by_cases hcn : r.cond = ByteArray.empty
     ·have hE : r.cond.toList = [] := by rw [hcn, Lib.toList_data]; rfl
      have hE2 : (!r.cond.toList.isEmpty) = false := by simp [hE]
      rw [hE2]
      clear hE hE2
      have HGG : Hid (gOf x r = x.guards) := Lib.hid (by unfold gOf; rw [bEq_iff.2 hcn]; rfl)
      clear hcn
      go_wp2_with fail
      go_meet
      exact ⟨G, gc, HBW, HBR, by rw [HGG.out]; exact HBY, by rw [HGG.out]; exact Lib.hid ((HG.out.go HGo.out).go (muY_go HBW.out (by omega))), Lib.hid (by omega)⟩
     ·have hE : ¬ (r.cond.toList = []) := fun e => hcn (ba_ext (by rw [← Lib.toList_data, e]; rfl))
      have hE2 : (!r.cond.toList.isEmpty) = true := by simpa using hE
      rw [hE2]
      clear hE hE2
      have HGG : Hid (gOf x r = x.guards ++ [⟨x.scope, r.cond⟩]) := Lib.hid (by unfold gOf; rw [bEq_ne hcn]; rfl)
      obtain ⟨y0, y1, y2, y3⟩ := blk4 HBY.out
      obtain ⟨b0, b1, b2, b3, b4, b5, b6⟩ := blk7 HBR.out
      obtain ⟨x0, x1, x2, x3⟩ := blk4 (HXB.out.below HBW.out)
      have HG2 := Lib.hid ((HG.out.go HGo.out).go (muY_go (y := wo.heap.size + 1) HBW.out (by omega)))
      obtain ⟨vs, hvr, hvt⟩ := HG2.out.cells
      have HVT := Lib.hid hvt
      have HAD := Lib.hid (addG_any G x.guards.length gc vs (some ⟨w2.heap.size, 0, none⟩) 1 1 [.int .i64 (x.scope : Int), .string r.cond] (w2.alloc (.cells #[.int .i64 (x.scope : Int), .string r.cond] 108)) (hvr.alloc _) (HG2.out.nilz Gd.trlen) (Rd.lit w2 2 1 #[.int .i64 (x.scope : Int), .string r.cond] _ _ rfl (by simp [maxLen])) (by simp [Value.oneCell']) (by omega) (by have := HX.out.guards; omega))
      clear hcn hvr hvt
      go_wp2_with fail
      refine HAD.out.mono ?_
      rintro e w3 ⟨G3, gc3, rfl, ho3, hb3⟩
      have hb23 : Below w2.heap.size w2 w3 := ((Below.refl _ w2).alloc (Nat.le_refl _) _).trans (hb3.mono (by simp))
      have HO3 := Lib.hid ho3
      have HB3 := Lib.hid hb23
      have hy3 := HBY.out.below hb23
      have fy := hy3.frozen 1
      obtain ⟨z0, z1, z2, z3⟩ := blk4 hy3
      have HY3 := Lib.hid hy3
      clear ho3 hb3 hb23 hy3 y0 y1 y2 y3 b0 b1 b2 b3 b4 b5 b6 x0 x1 x2 x3
      go_wp2_with fail
      go_meet
      refine ⟨G3, gc3, Lib.hid ((HBW.out.trans (HB3.out.mono HBW.out.size)).setCell (by simp) _), Lib.hid ((HBR.out.below HB3.out).setOther _ _ (by simp)), ?_, ?_, Lib.hid (by simp; have := HB3.out.size; omega)⟩
      ·rw [HGG.out, List.length_append]; exact Lib.hid ((HY3.out.set 1 _).eq (by simp))
      ·rw [HGG.out]
       have hgo : Go1 (MuY R' q (wo.heap.size + 1)) (MuY R' q (wo.heap.size + 1)) w2 (w3.setCell ⟨wo.heap.size + 1, 1, none⟩ (.slice G3 (x.guards.length + 1) gc3)) := (Go1.of_below HB3.out).trans muY_set
       refine Lib.hid (gd_more HVT.out hgo ((HO3.out.setOther _ _ (fun e => ?_)).le (by simp : w2.heap.size ≤ _)) (Nat.le_trans HBj.out.hq (Nat.le_of_lt (Nat.lt_of_lt_of_le HBj.out.box.lt HBW.out.size))) (fun k hk hm => ?_) ⟨by omega, by omega⟩ (by have := HRJ.out.2.2.2.1; omega) (by have := HX.out.guards; omega))
       ·have := (HO3.out.lt e).1
        simp at this
        omega
       ·rcases hm with hm | hm
        ·have := (HBj.out.mu_lt hm).2; omega
        ·omega
    case rest =>
     obtain ⟨G', gc', HBW3, HBR3, HBY3, HG3, HSZ3⟩ := hcut
     rename World => wc
     have HSIZ : Hid (∀ d ∈ aOf pre x r, d.size ≤ 20000) := Lib.hid (aOf_sizes HX.out hpre HRJ.out)
     have HDS := Lib.hid (Rs.at_iff.1 HRT.out)
     obtain ⟨P2, p2, D2, d2, I2, i2, he, -, -, -, hpr, hdp, hin⟩ := HDS.out
     simp only [List.cons.injEq, Value.slice.injEq, Value.string.injEq, true_and, and_true] at he
     obtain ⟨⟨rfl, rfl⟩, ⟨rfl, rfl⟩, rfl, rfl⟩ := he
     have HPR := Lib.hid hpr
     have HDP := Lib.hid hdp
     have HIN := Lib.hid hin
     have hdc := hdp.cap
     have HAO := Lib.hid ((HA.out.go HGo.out).go (muY_go (y := wo.heap.size + 1) HBW3.out (by omega)))
     have haf := HX.out.after
     obtain ⟨b0, b1, b2, b3, b4, b5, b6⟩ := blk7 HBR3.out
     clear HDS hpr hdp hin HBW HBR HBY SZ2
     go_wp2_with fail
     clear b0 b1 b2 b3 b4 b5 b6
     go_loopg [49] r.depends.length (fun g i wr => ∃ (j2 : Nat) (A2 : Option Addr) (ac2 : Nat), j2 + g = r.depends.length ∧ i = .int .i64 (j2 : Nat) ∧ Hid (Below wo.heap.size wo wr) ∧ Hid (Blk wr wo.heap.size #[.string r.id, .string r.type, .string r.cond, .slice P1 r.props.length p1, .slice D1 r.depends.length d1, .bool r.retain, .slice I1 r.inner.length i1] 66) ∧
      Hid (Blk wr (wo.heap.size + 1) #[.int .i64 (x.scope : Int), .slice G' (gOf x r).length gc', .slice A2 (x.after.length + j2) ac2, .int .i64 (x.depth : Int)] 127) ∧ Hid (Ls (Sf B (MuY R' q (wo.heap.size + 1)) wr) wr 2 24 Gd.tr G' gc' (gOf x r)) ∧
      Hid (Ss (Sf B (MuY R' q (wo.heap.size + 1)) wr) wr A2 ac2 (afT pre x r j2)) ∧ Hid (wo.heap.size + 2 ≤ wr.heap.size))
     case atStart => exact ⟨0, A, ac, by omega, rfl, HBW3, HBR3, HBY3, HG3, by have := HAO.out; simpa [afT] using Lib.hid this, HSZ3⟩
     case round =>
      obtain ⟨j2, A2, ac2, hj2, rfl, HBW4, HBR4, HBY4, HG4, HA4, HSZ4⟩ := hrel
      clear HBW3 HBR3 HBY3 HG3 HSZ3 HAO
      rename World => wd
      obtain ⟨b0, b1, b2, b3, b4, b5, b6⟩ := blk7 HBR4.out
      obtain ⟨y0, y1, y2, y3⟩ := blk4 HBY4.out
      cases gk with
      | zero =>
        have hjj : ¬ ((j2 : Int) < (r.depends.length : Int)) := by omega
        have HAE : Hid (afT pre x r j2 = aOf pre x r) := Lib.hid (afT_all (by omega))
        rw [HAE.out] at HA4
        have hal : x.after.length + j2 = (aOf pre x r).length := by rw [aOf_len]; omega
        rw [hal] at HBY4 y2
        have HBD := Lib.hid (HBj.out.below HBW4.out)
        obtain ⟨q0, q1, q2⟩ := blk3 HBD.out.box
        have fq := HBD.out.box.frozen 1
        obtain ⟨x0, x1, x2, x3⟩ := blk4 (HXB.out.below HBW4.out)
        have hkl := HK.out
        have hcps := cp_step (n := j + 1) hdep (by omega)
        rw [Nat.succ_mul] at hcps
        have HALL := Lib.hid hkl
        clear hkl
        go_upto_if 64 with (fail)
        by_cases hT : r.type = stackT
        ·have HTT : Hid (bEq r.type stackT = true) := Lib.hid (bEq_iff.2 hT)
         have hT2 : (!r.type.toList == [83, 116, 97, 99, 107]) = false := by
          have : (r.type.toList == [83, 116, 97, 99, 107]) = true := by
           rw [beq_iff_eq, Lib.toList_data, hT]; rfl
          rw [this]; rfl
         rw [hT2]
         clear hT hT2
         by_cases hi1 : r.inner.length = 1
         ·obtain ⟨t1, ht1⟩ : ∃ t1, r.inner = [t1] := by
           match hm : r.inner, hi1 with
           | [t1], _ => exact ⟨t1, rfl⟩
          have hb1' : ((r.inner.length : Int) == 1) = true := by simp [hi1]
          have hic : r.inner.length ≤ i1 := HIN.out.cap
          by_cases hd2 : x.depth = 2
          ·have HR2 : Hid (putF (k + 1) t x s = none) := Lib.hid (by rw [HPj.out]; simp only [rsPut]; rw [HTT.out, if_pos rfl, ht1]; simp [hd2])
           have hb2' : ((x.depth : Int) == 2) = true := by simp [hd2]
           clear ht1 hi1 hd2
           go_wp2_with fail
           all_goals
            go_ret
            rw [HR2.out]
            exact ⟨rfl, HGo.out.only.trans (Only.of_below HBW4.out (fun _ => False)) (fun _ _ h => h.elim)⟩
          ·have HPN : Hid (putF (k + 1) t x s = match putF k t1 (yOf pre x r s'.sc.length) (s'.scope pre x r t1) with | none => none | some s2 => rsPut (putF k) pre x (t.res.drop (j + 1)) s2) := Lib.hid (by rw [HPj.out]; simp only [rsPut]; rw [HTT.out, if_pos rfl, ht1]; simp only []; rw [if_neg hd2]; cases putF k t1 (yOf pre x r s'.sc.length) (s'.scope pre x r t1) <;> rfl)
           have hb2' : ((x.depth : Int) == 2) = false := by simp; omega
           have HT1 := Lib.hid ht1
           have HD2 := Lib.hid hd2
           have fy0 := HBY4.out.frozen 0
           have fy3 := HBY4.out.frozen 3
           have hl2 : wo.heap.size < wd.heap.size := HBR4.out.lt
           have hl3 : wo.heap.size + 1 < wd.heap.size := HBY4.out.lt
           have hl4 : w.heap.size < wd.heap.size := (HXB.out.below HBW4.out).lt
           have hl1 : q < wd.heap.size := HBD.out.box.lt
           clear ht1 hd2
           go_wp2_with fail
           go_cut [] from 110 to 120 (fun wx => Hid (Below wo.heap.size wo wx) ∧ Hid (Blk wx wo.heap.size #[.string r.id, .string r.type, .string r.cond, .slice P1 r.props.length p1, .slice D1 r.depends.length d1, .bool r.retain, .slice I1 r.inner.length i1] 66) ∧ Hid (Blk wx (wo.heap.size + 1) #[.int .i64 (s'.sc.length : Int), .slice G' (gOf x r).length gc', .slice A2 (aOf pre x r).length ac2, .int .i64 ((x.depth + 1 : Nat) : Int)] 127) ∧ Hid (Ls (Sf B (MuY R' q (wo.heap.size + 1)) wx) wx 2 24 Gd.tr G' gc' (gOf x r)) ∧ Hid (Ss (Sf B (MuY R' q (wo.heap.size + 1)) wx) wx A2 ac2 (aOf pre x r)))
           case first =>
            go_region
            all_goals
             go_wp2_with fail
             go_meet
             exact ⟨Lib.hid ((HBW4.out.setCell (by simp) _).setCell (by simp) _).drew, Lib.hid ((HBR4.out.setOther _ _ (by simp)).setOther _ _ (by simp)).drew, Lib.hid (((HBY4.out.set 3 _).set 0 _).eq (by simp)).drew, Lib.hid (((HG4.out.go muY_set).go muY_set).go (Go1.of_below (Below.refl _ _).drew)), Lib.hid (((HA4.out.go muY_set).go muY_set).go (Go1.of_below (Below.refl _ _).drew))⟩
           case rest =>
            obtain ⟨HBW5, HBR5, HBY5, HG5, HA5⟩ := hcut
            rename World => we
            clear HBW4 HBR4 HBY4 HG4 HA4 HBD q0 q1 q2 fq x0 x1 x2 x3 fy0 fy3 b0 b1 b2 b3 b4 b5 b6 y0 y1 y2 y3 hl1 hl2 hl3 hl4
            have HBD := Lib.hid (HBj.out.below HBW5.out)
            have HX5 := Lib.hid (HXB.out.below HBW5.out)
            have HRT5 := Lib.hid (HRT.out.go (Go1.of_below (F := R'.mu q) HBW5.out))
            have HIN5 := Lib.hid (HIN.out.go (Go1.of_below (F := R'.mu q) HBW5.out))
            obtain ⟨adi, ics, hIa, hit, hic'⟩ := HIN5.out.elem (i := 0) (x := t1) Tm.trlen (by rw [HT1.out]; rfl)
            obtain ⟨Q1, e1, Q2, e2, Q3, e3, Q4, e4, rfl, hQ1, hQ2, hQ3, hQ4⟩ := Tm.at_iff.1 hit
            subst hIa
            have hadi : adi.add (0 * 4) = adi := by simp [Addr.add]
            rw [hadi] at hic'
            obtain ⟨u0, u1, u2, u3⟩ := cel4 hic'
            have HIT := Lib.hid hit
            have HIC := Lib.hid hic'
            obtain ⟨b0, b1, b2, b3, b4, b5, b6⟩ := blk7 HBR5.out
            obtain ⟨x0, x1, x2, x3⟩ := blk4 HX5.out
            obtain ⟨q0, q1, q2⟩ := blk3 HBD.out.box
            have fq := HBD.out.box.frozen 0
            have hl1 : q < we.heap.size := HBD.out.box.lt
            have hcat1 : ∀ w', (Op.stringOp .add pre r.id).run Tryz.prog w' = .ok (.string (pre ++ r.id)) w' := fun w' => run_string_add_sum _ _ _ (by have := HRJ.out.2.2.2.1; omega)
            have hcat2 : ∀ w', (Op.stringOp .add (pre ++ r.id) ⟨#[46]⟩).run Tryz.prog w' = .ok (.string (pre ++ r.id ++ dot)) w' := fun w' => run_string_add_sum _ _ _ (by rw [size_app]; show _ + 1 ≤ _; have := HRJ.out.2.2.2.1; omega)
            have hB9 : B ≤ we.heap.size := Nat.le_trans HBD.out.hq (Nat.le_of_lt HBD.out.box.lt)
            have hsl : s'.sc.length + 1 ≤ 1000000 := by have := HALL.out.2.2.1; omega
            have HNX : Hid (¬ R'.mu q w.heap.size) := Lib.hid (fun h => by
             rcases h with h | h | h | h
             ·omega
             ·exact HBj.out.r1.ne_blk HXB.out (by decide) h
             ·exact HBj.out.r2.ne_blk HXB.out (by decide) h
             ·exact HBj.out.r3.ne_blk HXB.out (by decide) h)
            have HNR : Hid (¬ R'.mu q wo.heap.size) := Lib.hid (fun h => by have := (HBj.out.mu_lt h).2; omega)
            have HNY : Hid (¬ R'.mu q (wo.heap.size + 1)) := Lib.hid (fun h => by have := (HBj.out.mu_lt h).2; omega)
            have HNI : Hid (¬ R'.mu q adi.block) := Lib.hid (HIN5.out.blk adi rfl (by omega)).1
            clear hit hic' hQ1 hQ2 hQ3 hQ4
            go_wp2_with fail
            go_cut [] from 121 to 146 (fun wx => ∃ R2 : Rw, Hid (Bd B wx q R2 (s'.scope pre x r t1)) ∧ Hid (Go1 (R'.mu q) (R2.mu q) we wx) ∧ Hid (Blk wx (wo.heap.size + 1) #[.int .i64 (s'.sc.length : Int), .slice G' (gOf x r).length gc', .slice A2 (aOf pre x r).length ac2, .int .i64 ((x.depth + 1 : Nat) : Int)] 127))
            case first =>
             refine Rg.start 26 (fun w' => w'.cell? ⟨q, 0, none⟩ = some (.slice R'.A1 s'.sc.length R'.c1) ∧ w'.cell? ⟨wo.heap.size, 0, none⟩ = some (.string r.id) ∧ w'.cell? ⟨wo.heap.size, 3, none⟩ = some (.slice P1 r.props.length p1) ∧ w'.cell? ⟨wo.heap.size, 6, none⟩ = some (.slice (some adi) r.inner.length i1) ∧ w'.cell? ⟨w.heap.size, 0, none⟩ = some (.int .i64 (x.scope : Int)) ∧ w'.cell? adi = some (.slice Q1 t1.params.length e1) ∧ w'.cell? ⟨adi.block, adi.off + 1, none⟩ = some (.slice Q2 t1.conds.length e2) ∧ w'.cell? ⟨adi.block, adi.off + 2, none⟩ = some (.slice Q3 t1.res.length e3) ∧ w'.cell? ⟨adi.block, adi.off + 3, none⟩ = some (.slice Q4 t1.outs.length e4)) (by kernel_rfl) (by go_keep) (fun hH0 => ?_)
             simp only [List.length_cons, List.length_nil, List.replicate_succ, List.replicate_zero, Nat.zero_add, Nat.reduceAdd]
             refine Rg.take (v := ?_) hH0 0 rfl (by kernel_rfl) (fun _ _ _ h => h) (by rfl) ?_ ?_
             rotate_left
             ·(intro w hSw; (try dsimp only at hSw); go_simp <;> with_reducible rfl)
             try simp only [Act.put, List.setIfInBounds_toArray, List.set_cons_zero, List.set_cons_succ]
             refine Rg.take (v := ?_) hH0 1 rfl (by kernel_rfl) (fun _ _ _ h => h) (by rfl) ?_ ?_
             rotate_left
             ·(intro w hSw; (try dsimp only at hSw); go_simp <;> with_reducible rfl)
             try simp only [Act.put, List.setIfInBounds_toArray, List.set_cons_zero, List.set_cons_succ]
             refine Rg.take (v := ?_) hH0 2 rfl (by kernel_rfl) (fun _ _ _ h => h) (by rfl) ?_ ?_
             rotate_left
             ·(intro w hSw; (try dsimp only at hSw); go_simp <;> with_reducible rfl)
             try simp only [Act.put, List.setIfInBounds_toArray, List.set_cons_zero, List.set_cons_succ]
             refine Rg.take (v := ?_) hH0 3 rfl (by kernel_rfl) (fun _ _ _ h => h) (by rfl) ?_ ?_
             rotate_left
             ·(intro w hSw; (try dsimp only at hSw); go_simp <;> with_reducible rfl)
             try simp only [Act.put, List.setIfInBounds_toArray, List.set_cons_zero, List.set_cons_succ]
             refine Rg.take (v := ?_) hH0 4 rfl (by kernel_rfl) (fun _ _ _ h => h) (by rfl) ?_ ?_
             rotate_left
             ·(intro w hSw; (try dsimp only at hSw); go_simp <;> with_reducible rfl)
             try simp only [Act.put, List.setIfInBounds_toArray, List.set_cons_zero, List.set_cons_succ]
             refine Rg.take (v := ?_) hH0 5 rfl (by kernel_rfl) (fun _ _ _ h => h) (by rfl) ?_ ?_
             rotate_left
             ·(intro w hSw; (try dsimp only at hSw); go_simp <;> with_reducible rfl)
             try simp only [Act.put, List.setIfInBounds_toArray, List.set_cons_zero, List.set_cons_succ]
             refine Rg.take (v := ?_) hH0 6 rfl (by kernel_rfl) (fun _ _ _ h => h) (by rfl) ?_ ?_
             rotate_left
             ·(intro w hSw; (try dsimp only at hSw); go_simp <;> with_reducible rfl)
             try simp only [Act.put, List.setIfInBounds_toArray, List.set_cons_zero, List.set_cons_succ]
             refine Rg.take (v := ?_) hH0 7 rfl (by kernel_rfl) (fun _ _ _ h => h) (by rfl) ?_ ?_
             rotate_left
             ·(intro w hSw; (try dsimp only at hSw); go_simp <;> with_reducible rfl)
             try simp only [Act.put, List.setIfInBounds_toArray, List.set_cons_zero, List.set_cons_succ]
             refine Rg.take (v := ?_) hH0 8 rfl (by kernel_rfl) (fun _ _ _ h => h) (by rfl) ?_ ?_
             rotate_left
             ·(intro w hSw; (try dsimp only at hSw); go_simp <;> with_reducible rfl)
             try simp only [Act.put, List.setIfInBounds_toArray, List.set_cons_zero, List.set_cons_succ]
             refine Rg.take (v := ?_) hH0 9 rfl (by kernel_rfl) (fun _ _ _ h => h) (by rfl) ?_ ?_
             rotate_left
             ·(intro w hSw; (try dsimp only at hSw); go_simp <;> with_reducible rfl)
             try simp only [Act.put, List.setIfInBounds_toArray, List.set_cons_zero, List.set_cons_succ]
             refine Rg.take (v := ?_) hH0 10 rfl (by kernel_rfl) (fun _ _ _ h => h) (by rfl) ?_ ?_
             rotate_left
             ·(intro w hSw; (try dsimp only at hSw); go_simp <;> with_reducible rfl)
             try simp only [Act.put, List.setIfInBounds_toArray, List.set_cons_zero, List.set_cons_succ]
             refine Rg.take (v := ?_) hH0 11 rfl (by kernel_rfl) (fun _ _ _ h => h) (by rfl) ?_ ?_
             rotate_left
             ·(intro w hSw; (try dsimp only at hSw); go_simp <;> with_reducible rfl)
             try simp only [Act.put, List.setIfInBounds_toArray, List.set_cons_zero, List.set_cons_succ]
             refine Rg.take (v := ?_) hH0 12 rfl (by kernel_rfl) (fun _ _ _ h => h) (by rfl) ?_ ?_
             rotate_left
             ·(intro w hSw; (try dsimp only at hSw); go_simp <;> with_reducible rfl)
             try simp only [Act.put, List.setIfInBounds_toArray, List.set_cons_zero, List.set_cons_succ]
             refine Rg.take (v := ?_) hH0 13 rfl (by kernel_rfl) (fun _ _ _ h => h) (by rfl) ?_ ?_
             rotate_left
             ·(intro w hSw; (try dsimp only at hSw); go_simp <;> with_reducible rfl)
             try simp only [Act.put, List.setIfInBounds_toArray, List.set_cons_zero, List.set_cons_succ]
             refine Rg.take (v := ?_) hH0 14 rfl (by kernel_rfl) (fun _ _ _ h => h) (by rfl) ?_ ?_
             rotate_left
             ·(intro w hSw; (try dsimp only at hSw); go_simp <;> with_reducible rfl)
             try simp only [Act.put, List.setIfInBounds_toArray, List.set_cons_zero, List.set_cons_succ]
             refine Rg.take (v := ?_) hH0 15 rfl (by kernel_rfl) (fun _ _ _ h => h) (by rfl) ?_ ?_
             rotate_left
             ·(intro w hSw; (try dsimp only at hSw); go_simp <;> with_reducible rfl)
             try simp only [Act.put, List.setIfInBounds_toArray, List.set_cons_zero, List.set_cons_succ]
             refine Rg.take (v := ?_) hH0 16 rfl (by kernel_rfl) (fun _ _ _ h => h) (by rfl) ?_ ?_
             rotate_left
             ·(intro w hSw; (try dsimp only at hSw); go_simp <;> with_reducible rfl)
             try simp only [Act.put, List.setIfInBounds_toArray, List.set_cons_zero, List.set_cons_succ]
             refine Rg.take (v := ?_) hH0 18 rfl (by kernel_rfl) (fun _ _ _ h => h) (by rfl) ?_ ?_
             rotate_left
             ·(intro w hSw; (try dsimp only at hSw); go_simp <;> with_reducible rfl)
             try simp only [Act.put, List.setIfInBounds_toArray, List.set_cons_zero, List.set_cons_succ]
             refine Rg.take (v := ?_) hH0 19 rfl (by kernel_rfl) (fun _ _ _ h => h) (by rfl) ?_ ?_
             rotate_left
             ·(intro w hSw; (try dsimp only at hSw); go_simp <;> with_reducible rfl)
             try simp only [Act.put, List.setIfInBounds_toArray, List.set_cons_zero, List.set_cons_succ]
             refine Rg.step 17 (by kernel_rfl) rfl (fun K hK => ?_)
             go_simp; go_at_call 45; (with_reducible refine (bare_any Q1 Q2 Q3 Q4 t1.params.length e1 t1.conds.length e2 t1.res.length e3 t1.outs.length e4 _).mono ?_); rintro e w5 ⟨rfl, hb5⟩; have hb5' : Below we.heap.size we w5 := (Below.refl _ we).drew.trans hb5; obtain ⟨k0, k1, k2, k3, k4, k5, k6⟩ := blk7 (HBR5.out.below hb5'); obtain ⟨l0, l1, l2, l3⟩ := blk4 (HX5.out.below hb5'); obtain ⟨v0, v1, v2, v3⟩ := cel4 (HIC.out.below hb5'); have p0 := (HBD.out.box.below hb5').cell 0 rfl; have hz5 : q < w5.heap.size := Nat.lt_of_lt_of_le hl1 hb5'.size; have HB5 := Lib.hid hb5'; clear hb5 hb5'
             refine hK.out _ _ ?_ (fun hH1 => ?_)
             ·((try dsimp only) <;> go_keep)
             clear hK K hH0
             try simp only [Act.put, List.setIfInBounds_toArray, List.set_cons_zero, List.set_cons_succ]
             refine Rg.take (v := ?_) hH1 20 rfl (by kernel_rfl) (fun _ _ _ h => h) (by rfl) ?_ ?_
             rotate_left
             ·(intro w hSw; (try dsimp only at hSw); go_simp <;> with_reducible rfl)
             try simp only [Act.put, List.setIfInBounds_toArray, List.set_cons_zero, List.set_cons_succ]
             refine Rg.step 21 (by kernel_rfl) rfl (fun K hK => ?_)
             go_simp
             refine hK.out _ _ ?_ (fun hH2 => ?_)
             ·((try dsimp only) <;> go_keep)
             clear hK K hH1
             try simp only [Act.put, List.setIfInBounds_toArray, List.set_cons_zero, List.set_cons_succ]
             refine Rg.step 22 (by kernel_rfl) rfl (fun K hK => ?_)
             refine step_row info_scope Tryz.underlying31 rfl (by omega) rfl (.tmp 126) (.tmp 142) rfl B R'.A1 R'.c1 s'.sc.length R'.x1 (by rfl) ((HBD.out.r1.below HB5.out).alloc (.cells #[.int .i64 (x.scope : Int), .string (pre ++ r.id ++ dot), .slice Q1 t1.params.length e1, .slice Q2 t1.conds.length e2, .slice none 0 0, .slice Q4 t1.outs.length e4, .slice P1 r.props.length p1] 76)) (some ⟨w5.heap.size, 0, none⟩) 1 1 [.int .i64 (x.scope : Int), .string (pre ++ r.id ++ dot), .slice Q1 t1.params.length e1, .slice Q2 t1.conds.length e2, .slice none 0 0, .slice Q4 t1.outs.length e4, .slice P1 r.props.length p1] (by rfl) (Rd.lit w5 7 1 #[.int .i64 (x.scope : Int), .string (pre ++ r.id ++ dot), .slice Q1 t1.params.length e1, .slice Q2 t1.conds.length e2, .slice none 0 0, .slice Q4 t1.outs.length e4, .slice P1 r.props.length p1] 76 (0, 0) rfl (by simp [maxLen])) (by simp [Value.oneCell']) (by omega) (by omega) (by have := HB5.out.size; simp; omega) ?_; intro A6 c6 w6 ho6 hg6 hat6; have HO6 := Lib.hid ho6; have HG6 := Lib.hid hg6; have HT6 := Lib.hid hat6; have hbA : Below we.heap.size we (w5.alloc (.cells #[.int .i64 (x.scope : Int), .string (pre ++ r.id ++ dot), .slice Q1 t1.params.length e1, .slice Q2 t1.conds.length e2, .slice none 0 0, .slice Q4 t1.outs.length e4, .slice P1 r.props.length p1] 76)) := HB5.out.alloc HB5.out.size _; have hg1 := mu_grown (F := R'.mu q) hg6 (fun k hk => .inr (.inl hk)); have hg2 := hg1.trans (mu_set (F := R'.mu q) (w := w6) (q := q) (i := 0) (u := .slice A6 (s'.sc.length + 1) c6) (.inl rfl)); have hk6 := (HBD.out.box.below hbA).grown hg6 (HBD.out.r1.ne_blk HBD.out.box (by decide)); have f6 := hk6.frozen 0; have g6 := hk6.cell 0 rfl; obtain ⟨m0, m1, m2, m3, m4, m5, m6⟩ := blk7 ((HBR5.out.below hbA).go hg1 HNR.out); obtain ⟨n0, n1, n2, n3⟩ := blk4 ((HX5.out.below hbA).go hg1 HNX.out); obtain ⟨o0, o1, o2, o3⟩ := cel4 ((HIC.out.below hbA).go hg1 HNI.out); have HG2 := Lib.hid hg2; clear ho6 hg6 hat6 hk6 hg1 hg2 hbA
             refine hK.out _ _ ?_ (fun hH3 => ?_)
             ·((try dsimp only) <;> go_keep)
             clear hK K hH2
             try simp only [Act.put, List.setIfInBounds_toArray, List.set_cons_zero, List.set_cons_succ]
             refine Rg.take (v := ?_) hH3 23 rfl (by kernel_rfl) (fun _ _ _ h => h) (by rfl) ?_ ?_
             rotate_left
             ·(intro w hSw; (try dsimp only at hSw); go_simp <;> with_reducible rfl)
             try simp only [Act.put, List.setIfInBounds_toArray, List.set_cons_zero, List.set_cons_succ]
             refine Rg.take (v := ?_) hH3 24 rfl (by kernel_rfl) (fun _ _ _ h => h) (by rfl) ?_ ?_
             rotate_left
             ·(intro w hSw; (try dsimp only at hSw); go_simp <;> with_reducible rfl)
             try simp only [Act.put, List.setIfInBounds_toArray, List.set_cons_zero, List.set_cons_succ]
             refine Rg.take (v := ?_) hH3 25 rfl (by kernel_rfl) (fun _ _ _ h => h) (by rfl) ?_ ?_
             rotate_left
             ·(intro w hSw; (try dsimp only at hSw); go_simp <;> with_reducible rfl)
             try simp only [Act.put, List.setIfInBounds_toArray, List.set_cons_zero, List.set_cons_succ]
             refine Rg.last (by kernel_rfl) (by kernel_rfl) rfl (fun K hK => ?_)
             go_simp
             refine hK.out _ _ ?_
             clear hK K hH3
             all_goals
              go_wp2_with fail
              go_meet
              have hbN : Below we.heap.size we (w5.alloc (.cells #[.int .i64 (x.scope : Int), .string (pre ++ r.id ++ dot), .slice Q1 t1.params.length e1, .slice Q2 t1.conds.length e2, .slice none 0 0, .slice Q4 t1.outs.length e4, .slice P1 r.props.length p1] 76)) := HB5.out.alloc HB5.out.size _
              have hst := sc_tr (z := (x.scope : Int)) (pr := pre ++ r.id ++ dot) ⟨by omega, by omega⟩ (by rw [size_app, size_app]; show _ + 1 ≤ _; have := HRJ.out.2.2.2.1; omega) (HIT.out.go (Go1.of_below (F := R'.mu q) hbN)) (HPR.out.go (Go1.of_below (F := R'.mu q) (HBW5.out.trans (hbN.mono HBW5.out.size))))
              obtain ⟨R2, hB2, hgo2⟩ := HBD.out.add1 hbN hst HO6.out HG6.out HT6.out
              exact ⟨R2, Lib.hid hB2, Lib.hid hgo2, Lib.hid (HBY5.out.go hgo2 HNY.out)⟩
            case rest =>
             obtain ⟨R2, HB6, HGo6, HY6⟩ := hcut
             rename World => wf
             have HBR6 := Lib.hid (HBR5.out.go HGo6.out HNR.out)
             have HX6 := Lib.hid (HX5.out.go HGo6.out HNX.out)
             have HD6 : Go1 (R2.mu q) (R2.mu q) wf wf.drew := Go1.of_below (Below.refl _ wf).drew
             have hkk := HALL.out
             have hok1 := yOf_ok (t := t1) hkk.1 hpre HRJ.out HD2.out hxs
             have hc1 : (s'.scope pre x r t1).sc.length = s'.sc.length + 1 := by simp [BS.scope]
             have hc2 : (s'.scope pre x r t1).nd.length = s'.nd.length := rfl
             have HKS : Hid ((s'.scope pre x r t1).sc.length + cp (x.depth + 1) ≤ s.sc.length + (j + 1) * (1 + cp (x.depth + 1)) ∧ (s'.scope pre x r t1).nd.length + cp (x.depth + 1) ≤ s.nd.length + (j + 1) * (1 + cp (x.depth + 1))) := Lib.hid (by rw [Nat.succ_mul, hc1, hc2]; exact ⟨by omega, by omega⟩)
             have hj6 : (j + 1) * (1 + cp (x.depth + 1)) ≤ cp x.depth := cp_step hdep (by omega)
             have HT1K : Hid (t1.ok k) := Lib.hid (HRJ.out.2.2.2.2.2 t1 (by rw [HT1.out]; simp))
             have HIH : Hid (Calls Tryz.prog 46 #[.pointer (some ⟨q, 0, none⟩), .pointer (some adi), .agg #[.int .i64 (s'.sc.length : Int), .slice G' (gOf x r).length gc', .slice A2 (aOf pre x r).length ac2, .int .i64 ((x.depth : Int) + 1)]] wf.drew (PutOut B q R2 (putF k t1 (yOf pre x r s'.sc.length) (s'.scope pre x r t1)) wf.drew)) := Lib.hid (IH t1 _ adi (yOf pre x r s'.sc.length) G' gc' A2 ac2 R2 (s'.scope pre x r t1) wf.drew HT1K.out hok1 (BS.scope_ok hkk.2.1) (by have := HKS.out.1; show _ + cp (x.depth + 1) ≤ _; omega) (by have := HKS.out.2; show _ + cp (x.depth + 1) ≤ _; omega)
              (HB6.out.below (Below.refl _ wf).drew) ((HIT.out.go HGo6.out).go HD6) (((HIC.out.go HGo6.out HNI.out).below (Below.refl _ wf).drew)) (fun h => HNI.out (HGo6.out.less _ (HIN5.out.blk adi rfl (by omega)).2.1 h)) (((HG5.out.mono muY_sf).go HGo6.out).go HD6) (((HA5.out.mono muY_sf).go HGo6.out).go HD6))
             have HNR2 : Hid (¬ R2.mu q wo.heap.size) := Lib.hid (fun h => HNR.out (HGo6.out.less _ HBR5.out.lt h))
             have HNY2 : Hid (¬ R2.mu q (wo.heap.size + 1)) := Lib.hid (fun h => HNY.out (HGo6.out.less _ HBY5.out.lt h))
             have HNX2 : Hid (¬ R2.mu q w.heap.size) := Lib.hid (fun h => HNX.out (HGo6.out.less _ HX5.out.lt h))
             have HGA := Lib.hid ((HGo.out.trans (Go1.of_below HBW5.out)).trans (HGo6.out.trans HD6))
             have HPQ : Hid (∀ s2, putF k t1 (yOf pre x r s'.sc.length) (s'.scope pre x r t1) = some s2 → Put (s'.scope pre x r t1) s2 (cp (x.depth + 1))) := Lib.hid (fun s2 h => put_put k t1 (yOf pre x r s'.sc.length) _ s2 HT1K.out hok1 (BS.scope_ok hkk.2.1) (by have := HKS.out.1; show _ + cp (x.depth + 1) ≤ _; omega) h)
             obtain ⟨b0, b1, b2, b3, b4, b5, b6⟩ := blk7 HBR6.out
             obtain ⟨y0, y1, y2, y3⟩ := blk4 HY6.out
             clear hok1 hkk x0 x1 x2 x3 q0 q1 q2 fq u0 u1 u2 u3
             cases hres : putF k t1 (yOf pre x r s'.sc.length) (s'.scope pre x r t1) with
             | none =>
               rw [hres] at HIH HPN
               have HR2 : Hid (putF (k + 1) t x s = none) := Lib.hid (by rw [HPN.out])
               clear hres
               go_wp2_with fail
               go_region_held3 (fun w' => w'.cell? ⟨wo.heap.size, 6, none⟩ = some (.slice (some adi) r.inner.length i1) ∧ w'.cell? ⟨wo.heap.size + 1, 0, none⟩ = some (.int .i64 (s'.sc.length : Int)) ∧ w'.cell? ⟨wo.heap.size + 1, 1, none⟩ = some (.slice G' (gOf x r).length gc') ∧ w'.cell? ⟨wo.heap.size + 1, 2, none⟩ = some (.slice A2 (aOf pre x r).length ac2) ∧ w'.cell? ⟨wo.heap.size + 1, 3, none⟩ = some (.int .i64 ((x.depth + 1 : Nat) : Int))) (go_keep)
                ((go_at_call 46; (with_reducible refine HIH.out.mono ?_); rintro e w7 ⟨rfl, ho7⟩; obtain ⟨k0, k1, k2, k3, k4, k5, k6⟩ := blk7 (HBR6.out.drew.only ho7 HNR2.out); obtain ⟨l0, l1, l2, l3⟩ := blk4 (HY6.out.drew.only ho7 HNY2.out); have HO7 := Lib.hid ho7; clear ho7))
               all_goals
                go_wp2_with fail
                go_ret
                rw [HR2.out]
                exact ⟨rfl, HGA.out.only.trans HO7.out HGA.out.less⟩
             | some s2 =>
               rw [hres] at HIH HPN
               have HPU := Lib.hid (HPQ.out s2 hres)
               have HPM : Hid (putF (k + 1) t x s = rsPut (putF k) pre x (t.res.drop (j + 1)) s2) := Lib.hid (by rw [HPN.out])
               clear hres
               go_wp2_with fail
               go_region_held3 (fun w' => w'.cell? ⟨wo.heap.size, 6, none⟩ = some (.slice (some adi) r.inner.length i1) ∧ w'.cell? ⟨wo.heap.size + 1, 0, none⟩ = some (.int .i64 (s'.sc.length : Int)) ∧ w'.cell? ⟨wo.heap.size + 1, 1, none⟩ = some (.slice G' (gOf x r).length gc') ∧ w'.cell? ⟨wo.heap.size + 1, 2, none⟩ = some (.slice A2 (aOf pre x r).length ac2) ∧ w'.cell? ⟨wo.heap.size + 1, 3, none⟩ = some (.int .i64 ((x.depth + 1 : Nat) : Int))) (go_keep)
                ((go_at_call 46; (with_reducible refine HIH.out.mono ?_); rintro e w7 ⟨rfl, R3, hb7, hg7⟩; obtain ⟨k0, k1, k2, k3, k4, k5, k6⟩ := blk7 (HBR6.out.drew.go hg7 HNR2.out); obtain ⟨l0, l1, l2, l3⟩ := blk4 (HY6.out.drew.go hg7 HNY2.out); have HB7 := Lib.hid hb7; have HGo7 := Lib.hid (HGA.out.trans hg7); have HX7 := Lib.hid (HX6.out.drew.go hg7 HNX2.out); clear hb7 hg7))
               all_goals
                have HK7 : Hid (x.ok s2 ∧ s2.ok ∧ s2.sc.length ≤ s.sc.length + (j + 1) * (1 + cp (x.depth + 1)) ∧ s2.nd.length ≤ s.nd.length + (j + 1) * (1 + cp (x.depth + 1))) := Lib.hid (by
                 obtain ⟨l, hl⟩ := HPU.out.sc
                 have hbg := HPU.out.big
                 exact ⟨HALL.out.1.more ⟨_, by rw [hl, BS.scope, List.append_assoc]⟩, HPU.out.ok, by have := HKS.out.1; omega, by have := HKS.out.2; omega⟩)
                go_wp2_with fail
                go_roundg g
                case measure => omega
                case rel => exact ⟨j + 1, R3, s2, by omega, by go_num, HPM, HK7, HB7, HGo7, HX7⟩
         ·have HR2 : Hid (putF (k + 1) t x s = none) := Lib.hid (by
           rw [HPj.out]; simp only [rsPut]; rw [HTT.out, if_pos rfl]
           match hm : r.inner, hi1 with
           | [], _ => rfl
           | _ :: _ :: _, _ => rfl
           | [t1], h => exact absurd rfl h)
          have hb1' : ((r.inner.length : Int) == 1) = false := by simp; omega
          clear hi1
          go_wp2_with fail
          all_goals
           go_ret
           rw [HR2.out]
           exact ⟨rfl, HGo.out.only.trans (Only.of_below HBW4.out (fun _ => False)) (fun _ _ h => h.elim)⟩
        ·have HTT : Hid (bEq r.type stackT = false) := Lib.hid (bEq_ne hT)
         have hT2 : (!r.type.toList == [83, 116, 97, 99, 107]) = true := by
          have : (r.type.toList == [83, 116, 97, 99, 107]) = false := by
           rw [beq_eq_false_iff_ne]
           exact fun e => hT (ba_ext (by rw [← Lib.toList_data, e]; rfl))
          rw [this]; rfl
         rw [hT2]
         clear hT hT2
         by_cases hin0 : 0 < r.inner.length
         ·have HR2 : Hid (putF (k + 1) t x s = none) := Lib.hid (by rw [HPj.out]; simp only [rsPut]; rw [HTT.out, if_neg (by simp), if_pos hin0])
          go_wp2_with fail
          go_ret
          rw [HR2.out]
          exact ⟨rfl, HGo.out.only.trans (Only.of_below HBW4.out (fun _ => False)) (fun _ _ h => h.elim)⟩
         ·have HR2 : Hid (putF (k + 1) t x s = rsPut (putF k) pre x (t.res.drop (j + 1)) (s'.node pre x r)) := Lib.hid (by rw [HPj.out]; simp only [rsPut]; rw [HTT.out, if_neg (by simp), if_neg hin0])
          go_wp2_with fail
          have hcat : ∀ w', (Op.stringOp .add pre r.id).run Tryz.prog w' = .ok (.string (pre ++ r.id)) w' := fun w' => run_string_add_sum _ _ _ (by have := HRJ.out.2.2.2.1; omega)
          have hnl : s'.nd.length + 1 ≤ 1000000 := by have := HALL.out.2.2.2; omega
          have hl1 : q < wd.heap.size := HBD.out.box.lt
          have hl2 : wo.heap.size < wd.heap.size := HBR4.out.lt
          have hl3 : wo.heap.size + 1 < wd.heap.size := HBY4.out.lt
          have hl4 : w.heap.size < wd.heap.size := (HXB.out.below HBW4.out).lt
          have hB9 : B ≤ wd.heap.size := Nat.le_trans HBD.out.hq (Nat.le_of_lt HBD.out.box.lt)
          have hq1 : ¬ (wo.heap.size = q) := by have := HBj.out.box.lt; omega
          have hq2 : ¬ (wo.heap.size + 1 = q) := by have := HBj.out.box.lt; omega
          have hq3 : ¬ (w.heap.size = q) := by omega
          have HN1 : Hid (blk R'.A2 ≠ some wo.heap.size) := Lib.hid (HBD.out.r2.ne_blk HBR4.out (by decide))
          have HN2 : Hid (blk R'.A2 ≠ some (wo.heap.size + 1)) := Lib.hid (HBD.out.r2.ne_blk HBY4.out (by decide))
          have HN3 : Hid (blk R'.A2 ≠ some w.heap.size) := Lib.hid (HBD.out.r2.ne_blk (HXB.out.below HBW4.out) (by decide))
          have HX4 := Lib.hid (HXB.out.below HBW4.out)
          go_cut [] from 69 to 89 (fun wx => ∃ R2 : Rw, Hid (Bd B wx q R2 ⟨s'.sc, s'.nd ++ [⟨pre ++ r.id, x.scope, r, gOf x r, []⟩], s'.wt⟩) ∧ Hid (Go1 (R'.mu q) (R2.mu q) wd wx) ∧ Hid (Blk wx (wo.heap.size + 1) #[.int .i64 (x.scope : Int), .slice G' (gOf x r).length gc', .slice A2 (aOf pre x r).length ac2, .int .i64 (x.depth : Int)] 127))
          case first =>
           refine Rg.start 21 (fun w' => w'.cell? ⟨q, 1, none⟩ = some (.slice R'.A2 s'.nd.length R'.c2) ∧ w'.cell? ⟨wo.heap.size, 0, none⟩ = some (.string r.id) ∧ w'.cell? ⟨wo.heap.size, 1, none⟩ = some (.string r.type) ∧ w'.cell? ⟨wo.heap.size, 2, none⟩ = some (.string r.cond) ∧ w'.cell? ⟨wo.heap.size, 3, none⟩ = some (.slice P1 r.props.length p1) ∧ w'.cell? ⟨wo.heap.size, 4, none⟩ = some (.slice D1 r.depends.length d1) ∧ w'.cell? ⟨wo.heap.size, 5, none⟩ = some (.bool r.retain) ∧ w'.cell? ⟨wo.heap.size, 6, none⟩ = some (.slice I1 r.inner.length i1) ∧ w'.cell? ⟨w.heap.size, 0, none⟩ = some (.int .i64 (x.scope : Int)) ∧ w'.cell? ⟨wo.heap.size + 1, 1, none⟩ = some (.slice G' (gOf x r).length gc')) (by kernel_rfl) (by go_keep) (fun hH0 => ?_)
           simp only [List.length_cons, List.length_nil, List.replicate_succ, List.replicate_zero, Nat.zero_add, Nat.reduceAdd]
           refine Rg.take (v := ?_) hH0 0 rfl (by kernel_rfl) (fun _ _ _ h => h) (by rfl) ?_ ?_
           rotate_left
           ·(intro w hSw; (try dsimp only at hSw); go_simp <;> with_reducible rfl)
           try simp only [Act.put, List.setIfInBounds_toArray, List.set_cons_zero, List.set_cons_succ]
           refine Rg.take (v := ?_) hH0 1 rfl (by kernel_rfl) (fun _ _ _ h => h) (by rfl) ?_ ?_
           rotate_left
           ·(intro w hSw; (try dsimp only at hSw); go_simp <;> with_reducible rfl)
           try simp only [Act.put, List.setIfInBounds_toArray, List.set_cons_zero, List.set_cons_succ]
           refine Rg.take (v := ?_) hH0 2 rfl (by kernel_rfl) (fun _ _ _ h => h) (by rfl) ?_ ?_
           rotate_left
           ·(intro w hSw; (try dsimp only at hSw); go_simp <;> with_reducible rfl)
           try simp only [Act.put, List.setIfInBounds_toArray, List.set_cons_zero, List.set_cons_succ]
           refine Rg.take (v := ?_) hH0 3 rfl (by kernel_rfl) (fun _ _ _ h => h) (by rfl) ?_ ?_
           rotate_left
           ·(intro w hSw; (try dsimp only at hSw); go_simp <;> with_reducible rfl)
           try simp only [Act.put, List.setIfInBounds_toArray, List.set_cons_zero, List.set_cons_succ]
           refine Rg.take (v := ?_) hH0 4 rfl (by kernel_rfl) (fun _ _ _ h => h) (by rfl) ?_ ?_
           rotate_left
           ·(intro w hSw; (try dsimp only at hSw); go_simp <;> with_reducible rfl)
           try simp only [Act.put, List.setIfInBounds_toArray, List.set_cons_zero, List.set_cons_succ]
           refine Rg.take (v := ?_) hH0 5 rfl (by kernel_rfl) (fun _ _ _ h => h) (by rfl) ?_ ?_
           rotate_left
           ·(intro w hSw; (try dsimp only at hSw); go_simp <;> with_reducible rfl)
           try simp only [Act.put, List.setIfInBounds_toArray, List.set_cons_zero, List.set_cons_succ]
           refine Rg.take (v := ?_) hH0 6 rfl (by kernel_rfl) (fun _ _ _ h => h) (by rfl) ?_ ?_
           rotate_left
           ·(intro w hSw; (try dsimp only at hSw); go_simp <;> with_reducible rfl)
           try simp only [Act.put, List.setIfInBounds_toArray, List.set_cons_zero, List.set_cons_succ]
           refine Rg.take (v := ?_) hH0 7 rfl (by kernel_rfl) (fun _ _ _ h => h) (by rfl) ?_ ?_
           rotate_left
           ·(intro w hSw; (try dsimp only at hSw); go_simp <;> with_reducible rfl)
           try simp only [Act.put, List.setIfInBounds_toArray, List.set_cons_zero, List.set_cons_succ]
           refine Rg.take (v := ?_) hH0 8 rfl (by kernel_rfl) (fun _ _ _ h => h) (by rfl) ?_ ?_
           rotate_left
           ·(intro w hSw; (try dsimp only at hSw); go_simp <;> with_reducible rfl)
           try simp only [Act.put, List.setIfInBounds_toArray, List.set_cons_zero, List.set_cons_succ]
           refine Rg.take (v := ?_) hH0 9 rfl (by kernel_rfl) (fun _ _ _ h => h) (by rfl) ?_ ?_
           rotate_left
           ·(intro w hSw; (try dsimp only at hSw); go_simp <;> with_reducible rfl)
           try simp only [Act.put, List.setIfInBounds_toArray, List.set_cons_zero, List.set_cons_succ]
           refine Rg.take (v := ?_) hH0 10 rfl (by kernel_rfl) (fun _ _ _ h => h) (by rfl) ?_ ?_
           rotate_left
           ·(intro w hSw; (try dsimp only at hSw); go_simp <;> with_reducible rfl)
           try simp only [Act.put, List.setIfInBounds_toArray, List.set_cons_zero, List.set_cons_succ]
           refine Rg.take (v := ?_) hH0 11 rfl (by kernel_rfl) (fun _ _ _ h => h) (by rfl) ?_ ?_
           rotate_left
           ·(intro w hSw; (try dsimp only at hSw); go_simp <;> with_reducible rfl)
           try simp only [Act.put, List.setIfInBounds_toArray, List.set_cons_zero, List.set_cons_succ]
           refine Rg.take (v := ?_) hH0 12 rfl (by kernel_rfl) (fun _ _ _ h => h) (by rfl) ?_ ?_
           rotate_left
           ·(intro w hSw; (try dsimp only at hSw); go_simp <;> with_reducible rfl)
           try simp only [Act.put, List.setIfInBounds_toArray, List.set_cons_zero, List.set_cons_succ]
           refine Rg.take (v := ?_) hH0 13 rfl (by kernel_rfl) (fun _ _ _ h => h) (by rfl) ?_ ?_
           rotate_left
           ·(intro w hSw; (try dsimp only at hSw); go_simp <;> with_reducible rfl)
           try simp only [Act.put, List.setIfInBounds_toArray, List.set_cons_zero, List.set_cons_succ]
           refine Rg.take (v := ?_) hH0 14 rfl (by kernel_rfl) (fun _ _ _ h => h) (by rfl) ?_ ?_
           rotate_left
           ·(intro w hSw; (try dsimp only at hSw); go_simp <;> with_reducible rfl)
           try simp only [Act.put, List.setIfInBounds_toArray, List.set_cons_zero, List.set_cons_succ]
           refine Rg.take (v := ?_) hH0 15 rfl (by kernel_rfl) (fun _ _ _ h => h) (by rfl) ?_ ?_
           rotate_left
           ·(intro w hSw; (try dsimp only at hSw); go_simp <;> with_reducible rfl)
           try simp only [Act.put, List.setIfInBounds_toArray, List.set_cons_zero, List.set_cons_succ]
           refine Rg.step 16 (by kernel_rfl) rfl (fun K hK => ?_)
           go_simp
           refine hK.out _ _ ?_ (fun hH1 => ?_)
           ·((try dsimp only) <;> go_keep)
           clear hK K hH0
           try simp only [Act.put, List.setIfInBounds_toArray, List.set_cons_zero, List.set_cons_succ]
           refine Rg.step 17 (by kernel_rfl) rfl (fun K hK => ?_)
           refine step_row info_node Tryz.underlying32 rfl (by omega) rfl (.tmp 74) (.tmp 85) rfl B R'.A2 R'.c2 s'.nd.length R'.x2 (by rfl) (HBD.out.r2.drew.alloc (.cells #[.string (pre ++ r.id), .int .i64 (x.scope : Int), .string r.id, .string r.type, .string r.cond, .slice P1 r.props.length p1, .slice D1 r.depends.length d1, .bool r.retain, .slice I1 r.inner.length i1, .slice G' (gOf x r).length gc', .slice none 0 0] 80)) (some ⟨wd.drew.heap.size, 0, none⟩) 1 1 [.string (pre ++ r.id), .int .i64 (x.scope : Int), .string r.id, .string r.type, .string r.cond, .slice P1 r.props.length p1, .slice D1 r.depends.length d1, .bool r.retain, .slice I1 r.inner.length i1, .slice G' (gOf x r).length gc', .slice none 0 0] (by rfl) (Rd.lit wd.drew 11 1 #[.string (pre ++ r.id), .int .i64 (x.scope : Int), .string r.id, .string r.type, .string r.cond, .slice P1 r.props.length p1, .slice D1 r.depends.length d1, .bool r.retain, .slice I1 r.inner.length i1, .slice G' (gOf x r).length gc', .slice none 0 0] 80 (0, 0) rfl (by simp [maxLen])) (by simp [Value.oneCell']) (by omega) (by omega) (by simp; omega) ?_; intro A6 c6 w6 ho6 hg6 hat6; have HO6 := Lib.hid ho6; have HG6 := Lib.hid hg6; have HT6 := Lib.hid hat6; have hk6 := (HBD.out.box.drew.alloc (.cells #[.string (pre ++ r.id), .int .i64 (x.scope : Int), .string r.id, .string r.type, .string r.cond, .slice P1 r.props.length p1, .slice D1 r.depends.length d1, .bool r.retain, .slice I1 r.inner.length i1, .slice G' (gOf x r).length gc', .slice none 0 0] 80)).grown hg6 (HBD.out.r2.ne_blk HBD.out.box (by decide)); have f6 := hk6.frozen 1; have g6 := hk6.cell 1 rfl; obtain ⟨m0, m1, m2, m3, m4, m5, m6⟩ := blk7 ((HBR4.out.drew.alloc (.cells #[.string (pre ++ r.id), .int .i64 (x.scope : Int), .string r.id, .string r.type, .string r.cond, .slice P1 r.props.length p1, .slice D1 r.depends.length d1, .bool r.retain, .slice I1 r.inner.length i1, .slice G' (gOf x r).length gc', .slice none 0 0] 80)).grown hg6 HN1.out); obtain ⟨n0, n1, n2, n3⟩ := blk4 ((HBY4.out.drew.alloc (.cells #[.string (pre ++ r.id), .int .i64 (x.scope : Int), .string r.id, .string r.type, .string r.cond, .slice P1 r.props.length p1, .slice D1 r.depends.length d1, .bool r.retain, .slice I1 r.inner.length i1, .slice G' (gOf x r).length gc', .slice none 0 0] 80)).grown hg6 HN2.out); obtain ⟨l0, l1, l2, l3⟩ := blk4 ((HX4.out.drew.alloc (.cells #[.string (pre ++ r.id), .int .i64 (x.scope : Int), .string r.id, .string r.type, .string r.cond, .slice P1 r.props.length p1, .slice D1 r.depends.length d1, .bool r.retain, .slice I1 r.inner.length i1, .slice G' (gOf x r).length gc', .slice none 0 0] 80)).grown hg6 HN3.out); clear ho6 hg6 hat6 hk6
           refine hK.out _ _ ?_ (fun hH2 => ?_)
           ·((try dsimp only) <;> go_keep)
           clear hK K hH1
           try simp only [Act.put, List.setIfInBounds_toArray, List.set_cons_zero, List.set_cons_succ]
           refine Rg.take (v := ?_) hH2 18 rfl (by kernel_rfl) (fun _ _ _ h => h) (by rfl) ?_ ?_
           rotate_left
           ·(intro w hSw; (try dsimp only at hSw); go_simp <;> with_reducible rfl)
           try simp only [Act.put, List.setIfInBounds_toArray, List.set_cons_zero, List.set_cons_succ]
           refine Rg.take (v := ?_) hH2 19 rfl (by kernel_rfl) (fun _ _ _ h => h) (by rfl) ?_ ?_
           rotate_left
           ·(intro w hSw; (try dsimp only at hSw); go_simp <;> with_reducible rfl)
           try simp only [Act.put, List.setIfInBounds_toArray, List.set_cons_zero, List.set_cons_succ]
           refine Rg.take (v := ?_) hH2 20 rfl (by kernel_rfl) (fun _ _ _ h => h) (by rfl) ?_ ?_
           rotate_left
           ·(intro w hSw; (try dsimp only at hSw); go_simp <;> with_reducible rfl)
           try simp only [Act.put, List.setIfInBounds_toArray, List.set_cons_zero, List.set_cons_succ]
           refine Rg.last (by kernel_rfl) (by kernel_rfl) rfl (fun K hK => ?_)
           go_simp
           refine hK.out _ _ ?_
           clear hK K hH2
           all_goals
            go_wp2_with fail
            go_meet
            have hbN : Below wd.heap.size wd (wd.drew.alloc (.cells #[.string (pre ++ r.id), .int .i64 (x.scope : Int), .string r.id, .string r.type, .string r.cond, .slice P1 r.props.length p1, .slice D1 r.depends.length d1, .bool r.retain, .slice I1 r.inner.length i1, .slice G' (gOf x r).length gc', .slice none 0 0] 80)) := ((Below.refl _ wd).drew).alloc (Nat.le_refl _) _
            have hrt := HRT.out.go (Go1.of_below (F := R'.mu q) (HBW4.out.trans (hbN.mono HBW4.out.size)))
            have hgt := ((HG4.out).mono muY_sf).go (Go1.of_below (F := R'.mu q) hbN)
            have hnt := nd_tr (id := pre ++ r.id) (z := (x.scope : Int)) (by rw [size_app]; have := HRJ.out.2.2.2.1; omega) ⟨by omega, by omega⟩ hrt hgt
            obtain ⟨R2, hB2, hgo2⟩ := HBD.out.add2 hbN hnt (by rfl) HO6.out HG6.out HT6.out
            exact ⟨R2, Lib.hid hB2, Lib.hid hgo2, Lib.hid (((HBY4.out.drew.alloc (.cells #[.string (pre ++ r.id), .int .i64 (x.scope : Int), .string r.id, .string r.type, .string r.cond, .slice P1 r.props.length p1, .slice D1 r.depends.length d1, .bool r.retain, .slice I1 r.inner.length i1, .slice G' (gOf x r).length gc', .slice none 0 0] 80)).grown HG6.out HN2.out).setOther _ _ hq2)⟩
          case rest =>
           obtain ⟨R2, HB5, HGo5, HY5⟩ := hcut
           rename World => we
           have HA5 := Lib.hid ((HA4.out.mono muY_sf).go HGo5.out)
           obtain ⟨y0, y1, y2, y3⟩ := blk4 HY5.out
           obtain ⟨q0, q1, q2⟩ := blk3 HB5.out.box
           have fq2 := HB5.out.box.frozen 2
           have hl1 : q < we.heap.size := HB5.out.box.lt
           have hl3 : wo.heap.size + 1 < we.heap.size := HY5.out.lt
           have hB9 : B ≤ we.heap.size := Nat.le_trans HB5.out.hq (Nat.le_of_lt HB5.out.box.lt)
           have hwl2 : s'.wt.length + 1 ≤ 1000000 := by have := HALL.out.2.1.len; omega
           have HN4 : Hid (blk R2.A3 ≠ some (wo.heap.size + 1)) := Lib.hid (HB5.out.r3.ne_blk HY5.out (by decide))
           have HNX : Hid (¬ R'.mu q w.heap.size) := Lib.hid (fun h => by
            rcases h with h | h | h | h
            ·omega
            ·exact HBj.out.r1.ne_blk HXB.out (by decide) h
            ·exact HBj.out.r2.ne_blk HXB.out (by decide) h
            ·exact HBj.out.r3.ne_blk HXB.out (by decide) h)
           go_wp2_with fail
           refine Rg.start 11 (fun w' => w'.cell? ⟨q, 2, none⟩ = some (.slice R2.A3 s'.wt.length R2.c3) ∧ w'.cell? ⟨wo.heap.size + 1, 2, none⟩ = some (.slice A2 (aOf pre x r).length ac2)) (by kernel_rfl) (by go_keep) (fun hH0 => ?_)
           simp only [List.length_cons, List.length_nil, List.replicate_succ, List.replicate_zero, Nat.zero_add, Nat.reduceAdd]
           refine Rg.take (v := ?_) hH0 0 rfl (by kernel_rfl) (fun _ _ _ h => h) (by rfl) ?_ ?_
           rotate_left
           ·(intro w hSw; (try dsimp only at hSw); go_simp <;> with_reducible rfl)
           try simp only [Act.put, List.setIfInBounds_toArray, List.set_cons_zero, List.set_cons_succ]
           refine Rg.take (v := ?_) hH0 1 rfl (by kernel_rfl) (fun _ _ _ h => h) (by rfl) ?_ ?_
           rotate_left
           ·(intro w hSw; (try dsimp only at hSw); go_simp <;> with_reducible rfl)
           try simp only [Act.put, List.setIfInBounds_toArray, List.set_cons_zero, List.set_cons_succ]
           refine Rg.take (v := ?_) hH0 2 rfl (by kernel_rfl) (fun _ _ _ h => h) (by rfl) ?_ ?_
           rotate_left
           ·(intro w hSw; (try dsimp only at hSw); go_simp <;> with_reducible rfl)
           try simp only [Act.put, List.setIfInBounds_toArray, List.set_cons_zero, List.set_cons_succ]
           refine Rg.take (v := ?_) hH0 3 rfl (by kernel_rfl) (fun _ _ _ h => h) (by rfl) ?_ ?_
           rotate_left
           ·(intro w hSw; (try dsimp only at hSw); go_simp <;> with_reducible rfl)
           try simp only [Act.put, List.setIfInBounds_toArray, List.set_cons_zero, List.set_cons_succ]
           refine Rg.take (v := ?_) hH0 4 rfl (by kernel_rfl) (fun _ _ _ h => h) (by rfl) ?_ ?_
           rotate_left
           ·(intro w hSw; (try dsimp only at hSw); go_simp <;> with_reducible rfl)
           try simp only [Act.put, List.setIfInBounds_toArray, List.set_cons_zero, List.set_cons_succ]
           refine Rg.take (v := ?_) hH0 5 rfl (by kernel_rfl) (fun _ _ _ h => h) (by rfl) ?_ ?_
           rotate_left
           ·(intro w hSw; (try dsimp only at hSw); go_simp <;> with_reducible rfl)
           try simp only [Act.put, List.setIfInBounds_toArray, List.set_cons_zero, List.set_cons_succ]
           refine Rg.take (v := ?_) hH0 6 rfl (by kernel_rfl) (fun _ _ _ h => h) (by rfl) ?_ ?_
           rotate_left
           ·(intro w hSw; (try dsimp only at hSw); go_simp <;> with_reducible rfl)
           try simp only [Act.put, List.setIfInBounds_toArray, List.set_cons_zero, List.set_cons_succ]
           refine Rg.step 7 (by kernel_rfl) rfl (fun K hK => ?_)
           go_simp
           refine hK.out _ _ ?_ (fun hH1 => ?_)
           ·((try dsimp only) <;> go_keep)
           clear hK K hH0
           try simp only [Act.put, List.setIfInBounds_toArray, List.set_cons_zero, List.set_cons_succ]
           refine Rg.step 8 (by kernel_rfl) rfl (fun K hK => ?_)
           refine step_row info_strs Tryz.underlying121 rfl (by omega) rfl (.tmp 94) (.tmp 97) rfl B R2.A3 R2.c3 s'.wt.length R2.x3 (by rfl) (HB5.out.r3.drew.alloc (.cells #[.slice A2 (aOf pre x r).length ac2] 63)) (some ⟨we.drew.heap.size, 0, none⟩) 1 1 [.slice A2 (aOf pre x r).length ac2] (by rfl) (Rd.lit we.drew 1 1 #[.slice A2 (aOf pre x r).length ac2] 63 (0, 0) rfl (by simp [maxLen])) (by simp [Value.oneCell']) (by omega) (by omega) (by simp; omega) ?_; intro A6 c6 w6 ho6 hg6 hat6; have HO6 := Lib.hid ho6; have HG6 := Lib.hid hg6; have HT6 := Lib.hid hat6; have hk6 := (HB5.out.box.drew.alloc (.cells #[.slice A2 (aOf pre x r).length ac2] 63)).grown hg6 (HB5.out.r3.ne_blk HB5.out.box (by decide)); have f6 := hk6.frozen 2; have g6 := hk6.cell 2 rfl; obtain ⟨n0, n1, n2, n3⟩ := blk4 ((HY5.out.drew.alloc (.cells #[.slice A2 (aOf pre x r).length ac2] 63)).grown hg6 HN4.out); clear ho6 hg6 hat6 hk6
           refine hK.out _ _ ?_ (fun hH2 => ?_)
           ·((try dsimp only) <;> go_keep)
           clear hK K hH1
           try simp only [Act.put, List.setIfInBounds_toArray, List.set_cons_zero, List.set_cons_succ]
           refine Rg.take (v := ?_) hH2 9 rfl (by kernel_rfl) (fun _ _ _ h => h) (by rfl) ?_ ?_
           rotate_left
           ·(intro w hSw; (try dsimp only at hSw); go_simp <;> with_reducible rfl)
           try simp only [Act.put, List.setIfInBounds_toArray, List.set_cons_zero, List.set_cons_succ]
           refine Rg.take (v := ?_) hH2 10 rfl (by kernel_rfl) (fun _ _ _ h => h) (by rfl) ?_ ?_
           rotate_left
           ·(intro w hSw; (try dsimp only at hSw); go_simp <;> with_reducible rfl)
           try simp only [Act.put, List.setIfInBounds_toArray, List.set_cons_zero, List.set_cons_succ]
           refine Rg.last (by kernel_rfl) (by kernel_rfl) rfl (fun K hK => ?_)
           go_simp
           refine hK.out _ _ ?_
           clear hK K hH2
           all_goals
            have hbN : Below we.heap.size we (we.drew.alloc (.cells #[.slice A2 (aOf pre x r).length ac2] 63)) := ((Below.refl _ we).drew).alloc (Nat.le_refl _) _
            have hnt : Trs.at (Sf B (R2.mu q) (we.drew.alloc (.cells #[.slice A2 (aOf pre x r).length ac2] 63))) (we.drew.alloc (.cells #[.slice A2 (aOf pre x r).length ac2] 63)) [sTr (aOf pre x r)] [.slice A2 (aOf pre x r).length ac2] := at_str.2 ⟨A2, ac2, [], rfl, HA5.out.go (Go1.of_below hbN), at_nil.2 rfl⟩
            obtain ⟨R3, hB3, hgo3⟩ := HB5.out.add3 hbN hnt HO6.out HG6.out HT6.out
            have HB7 := Lib.hid hB3
            have HGo7 := Lib.hid ((HGo.out.trans (Go1.of_below HBW4.out)).trans (HGo5.out.trans hgo3))
            have HX7 := Lib.hid (HXB.out.go ((Go1.of_below HBW4.out).trans (HGo5.out.trans hgo3)) HNX.out)
            have HK7 : Hid (x.ok (s'.node pre x r) ∧ (s'.node pre x r).ok ∧ (s'.node pre x r).sc.length ≤ s.sc.length + (j + 1) * (1 + cp (x.depth + 1)) ∧ (s'.node pre x r).nd.length ≤ s.nd.length + (j + 1) * (1 + cp (x.depth + 1))) := Lib.hid (by
             obtain ⟨k1, k2, k3, k4⟩ := HALL.out
             refine ⟨k1.more ⟨[], by simp [BS.node]⟩, BS.node_ok k2 k1 hpre HRJ.out, ?_, ?_⟩
             ·rw [Nat.succ_mul]; show s'.sc.length ≤ _; omega
             ·rw [Nat.succ_mul]; simp only [BS.node, List.length_append, List.length_cons, List.length_nil]; omega)
            clear hB3 hgo3 hbN hnt
            go_wp2_with fail
            go_roundg g
            case measure => omega
            case rel => exact ⟨j + 1, R3, s'.node pre x r, by omega, by go_num, HR2, HK7, HB7, HGo7, HX7⟩
      | succ g2 =>
        have hjj : (j2 : Int) < (r.depends.length : Int) := by omega
        obtain ⟨d, hd⟩ := get_lt (l := r.depends) (i := j2) (by omega)
        obtain ⟨add, rfl, hdc', hds⟩ := (HDP.out.go (muY_go (y := wo.heap.size + 1) HBW4.out (by omega))).str hd
        have HAF := Lib.hid (afT_succ (pre := pre) (x := x) hd)
        have hal : (afT pre x r j2).length = x.after.length + j2 := afT_len (by omega)
        have hvr := (HA4.out).strs.1
        rw [hal] at hvr
        have HVR := Lib.hid hvr
        have HNZ : Hid (A2 = none → x.after.length + j2 = 0) := Lib.hid (fun e => by rw [← hal]; exact HA4.out.nilz strTr_len e)
        have HAD := Lib.hid (addS_any A2 (x.after.length + j2) ac2 _ (some ⟨wd.heap.size, 0, none⟩) 1 1 [.string (pre ++ d)] (wd.alloc (.cells #[.string (pre ++ d)] 9)) (hvr.alloc _) HNZ.out (Rd.lit wd 1 1 #[.string (pre ++ d)] _ _ rfl (by simp [maxLen])) (by simp [Value.oneCell']) (by omega) (by omega))
        have HAL := Lib.hid hal
        clear hd hvr hal
        go_wp2_with fail
        refine HAD.out.mono ?_
        rintro e w5 ⟨A5, ac5, rfl, ho5, hb5⟩
        have hb45 : Below wd.heap.size wd w5 := ((Below.refl _ wd).alloc (Nat.le_refl _) _).trans (hb5.mono (by simp))
        have HO5 := Lib.hid ho5
        have HB5 := Lib.hid hb45
        have hy5 := HBY4.out.below hb45
        have fy := hy5.frozen 2
        obtain ⟨z0, z1, z2, z3⟩ := blk4 hy5
        have HY5 := Lib.hid hy5
        clear ho5 hb5 hb45 hy5 y0 y1 y2 y3 b0 b1 b2 b3 b4 b5 b6
        go_wp2_with fail
        go_roundg g2
        case measure => omega
        case rel =>
         refine ⟨j2 + 1, A5, ac5, by omega, by go_num, Lib.hid ((HBW4.out.trans (HB5.out.mono HBW4.out.size)).setCell (by simp) _), Lib.hid ((HBR4.out.below HB5.out).setOther _ _ (by simp)), Lib.hid ((HY5.out.set 2 _).eq (by simp [Nat.add_assoc])), Lib.hid ((HG4.out.go (Go1.of_below HB5.out)).go muY_set), ?_, Lib.hid (by simp; have := HB5.out.size; have := HSZ4.out; omega)⟩
         rw [HAF.out]
         have hsz : ∀ d' ∈ afT pre x r j2 ++ [pre ++ d], d'.size ≤ 20000 := by rw [← HAF.out]; exact fun d' hd' => HSIZ.out d' (afT_sub d' hd')
         have hsz4 := HSZ4.out
         have hne : blk A5 ≠ some (wo.heap.size + 1) := fun e => by
          have := (HO5.out.lt e).1
          simp at this
          omega
         have hO : Ow (w5.setCell ⟨wo.heap.size + 1, 2, none⟩ (.slice A5 (x.after.length + j2 + 1) ac5)) wd.heap.size 9 1 A5 ((afT pre x r j2).length + 1) ac5 ((afT pre x r j2).map Value.string ++ [.string (pre ++ d)]) := by
          rw [HAL.out]
          exact (HO5.out.setOther _ _ hne).le (by simp)
         refine Lib.hid (str_more hO (Nat.le_trans HBj.out.hq (Nat.le_of_lt (Nat.lt_of_lt_of_le HBj.out.box.lt HBW4.out.size))) (fun k hk hm => ?_) hsz (by rw [HAL.out]; omega))
         have := HBW4.out.size
         rcases hm with hm | hm
         ·have := (HBj.out.mu_lt hm).2; omega
         ·omega
theorem put_any (B q : Nat) : ∀ k, PutC B q k := by
 intro k
 induction k with
 | zero =>
   intro t cs a x G gc A ac R s w ht
   exact absurd ht (by simp [Tm.ok])
 | succ k ih => exact fun t cs a x G gc A ac R s w ht hx hs hb1 hb2 hB htr hca hna hG hA => put_step B q k ih t cs a x G gc A ac R s w ht hx hs hb1 hb2 hB htr hca hna hG hA
end Go.Proofs.YtgdfkbalnpfdgaaGreatDoor
