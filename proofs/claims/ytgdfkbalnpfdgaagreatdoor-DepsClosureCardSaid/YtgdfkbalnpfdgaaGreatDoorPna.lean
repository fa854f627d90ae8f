/- Nested stacks: the first of a row that is so, by a closure. -/
import Derived.Test.YtgdfkbalnpfdgaaGreatDoorGtExpr
import Derived.Test.YtgdfkbalnpfdgaaGreatDoorPmb
import Derived.Test.YtgdfkbalnpfdgaaGreatDoorNs10
namespace Go.Proofs.YtgdfkbalnpfdgaaGreatDoor
open Go.RowKit
set_option linter.unusedVariables false
set_option linter.unusedSimpArgs false
theorem Gd.at_iff' {S : Nat → Prop} {w : World} {v : Gd} {cs : List Value} (h : Trs.at S w v.tr cs) : cs = [.int .i64 v.scope, .string v.name] ∧ (Lit.int .i64 v.scope).wf = true ∧ v.name.size ≤ 140737488351232 := by
 unfold Gd.tr lI lS at h
 simp only [Trs.at, Tr.at, okLeaf] at h
 obtain ⟨v1, vs, rfl, ⟨rfl, h1⟩, v2, vs', rfl, ⟨rfl, h2⟩, rfl⟩ := h
 exact ⟨rfl, h1, h2⟩
theorem idxP_none {α : Type} {p : α → Bool} {l : List α} (h : ∀ (i : Nat) (x : α), l[i]? = some x → p x = false) : idxP p l = -1 := by
 have : l.findIdx? p = none := List.findIdx?_eq_none_iff.2 (fun x hx => by obtain ⟨i, hi⟩ := List.mem_iff_getElem?.1 hx; exact h i x hi)
 unfold idxP; rw [this]
theorem idxP_some {α : Type} {p : α → Bool} {l : List α} {j : Nat} {k : α} (hk : l[j]? = some k) (hq : p k = true) (h : ∀ (i : Nat) (x : α), i < j → l[i]? = some x → p x = false) : idxP p l = (j : Int) := by
 obtain ⟨hj, rfl⟩ := List.getElem?_eq_some_iff.1 hk
 have : l.findIdx? p = some j := List.findIdx?_eq_some_iff_getElem.2 ⟨hj, hq, fun i hi => by rw [h i _ hi (List.getElem?_eq_getElem (by omega))]; decide⟩
 unfold idxP; rw [this]
set_option maxRecDepth 100000 in
set_option maxHeartbeats 4000000 in
theorem icdi_any (S : Nat → Prop) (fid : FuncId) (caps : Array Value) (p : Cd → Bool) (A : Option Addr) (c : Nat) (l : List Cd) (w : World) (hl : Ls S w 15 224 Cd.tr A c l) (hn : l.length ≤ 1000000) (hcf : ∀ args w', (callFunc fid args).run Tryz.prog w' = .ok (.enter fid args) w') (hf : AskQ Cd.tr fid caps p l S w) :
 Calls Tryz.prog 132 #[.slice A l.length c, .func (.func fid) #[] caps] w fun e w' => e = .returned (.int .i64 (idxP p l)) ∧ Below w.heap.size w w' := by
 have HL := Lib.hid hl
 have hcap := hl.cap
 have hbyt := hl.bytes
 have HF := Lib.hid hf
 clear hl hf
 go_enter Tryz.func132, Tryz.ntmps132
 go_wp2_with fail
 go_loopg [8] l.length (fun g i wr => ∃ j : Nat, j + g = l.length ∧ i = .int .i64 (j : Nat) ∧ Hid (∀ i x, i < j → l[i]? = some x → p x = false) ∧ Hid (Below w.heap.size w wr))
 case atStart => exact ⟨0, by omega, rfl, Lib.hid (fun i x hi _ => absurd hi (by omega)), Lib.hid (Below.refl _ _)⟩
 case round =>
  obtain ⟨j, hj, rfl, HN, HB⟩ := hrel
  rename World => wo
  cases gk with
  | zero =>
    have hjj : ¬ ((j : Int) < (l.length : Int)) := by omega
    have HE : Hid (idxP p l = -1) := Lib.hid (idxP_none (fun i x hx => HN.out i x (by have := (List.getElem?_eq_some_iff.1 hx).1; omega) hx))
    go_wp2_with fail
    go_ret
    rw [HE.out]
    exact ⟨rfl, HB.out⟩
  | succ g =>
    have hjj : (j : Int) < (l.length : Int) := by omega
    have hji : (0 : Int) ≤ (j : Int) ∧ (j : Int) < (l.length : Int) := by omega
    obtain ⟨k, hk⟩ := get_lt (l := l) (i := j) (by omega)
    obtain ⟨ad, cs, rfl, hxt, hxc⟩ := (HL.out.below HB.out).elem Cd.trlen hk
    have HXT := Lib.hid hxt
    obtain ⟨xs, ys, L, lc, rfl, -, -, hxa, hxb, -⟩ := Cd.at_iff.1 hxt
    obtain ⟨A1, n1, rfl, -⟩ := Ex.at_iff.1 hxa
    obtain ⟨B1, n2, rfl, -⟩ := Ex.at_iff.1 hxb
    obtain ⟨e0, e1, e2, e3, e4, e5, e6, e7, e8, e9, e10, e11, e12, e13, e14⟩ := cel15 hxc
    clear hxa hxb
    have HCL := Lib.hid (HF.out k (List.mem_of_getElem? hk) _ wo HB.out HXT.out)
    have HE : Hid (p k = true → idxP p l = (j : Int)) := Lib.hid (fun hq => idxP_some hk hq HN.out)
    have HN2 : Hid (p k = false → ∀ i x, i < j + 1 → l[i]? = some x → p x = false) := Lib.hid (fun hq i x hi hx => by
     rcases Nat.lt_or_ge i j with h | h
     ·exact HN.out i x h hx
     ·rw [show i = j by omega, hk] at hx; injection hx with hx; rw [← hx]; exact hq)
    clear hk hxt hxc
    cases hp : p k with
    | true =>
      rw [hp] at HCL
      have HE2 := Lib.hid (HE.out hp)
      clear hp HE
      go_wp2_with fail
      refine HCL.out.mono ?_
      rintro e w2 ⟨rfl, hb2⟩
      have HB2 := Lib.hid (HB.out.trans (hb2.mono HB.out.size))
      clear hb2
      go_wp2_with fail
      go_ret
      rw [HE2.out]
      exact ⟨rfl, HB2.out⟩
    | false =>
      rw [hp] at HCL
      have HN3 := Lib.hid (HN2.out hp)
      clear hp HE
      go_wp2_with fail
      refine HCL.out.mono ?_
      rintro e w2 ⟨rfl, hb2⟩
      have HB2 := Lib.hid (HB.out.trans (hb2.mono HB.out.size))
      clear hb2
      go_wp2_with fail
      go_roundg g
      case measure => omega
      case rel => exact ⟨j + 1, by omega, by go_num, HN3, HB2⟩
theorem icdc_any (S : Nat → Prop) (fid : FuncId) (caps : Array Value) (p : Cd → Bool) (A : Option Addr) (c : Nat) (l : List Cd) (w : World) (hl : Ls S w 15 224 Cd.tr A c l) (hn : l.length ≤ 1000000) (hcf : ∀ args w', (callFunc fid args).run Tryz.prog w' = .ok (.enter fid args) w') (hf : AskQ Cd.tr fid caps p l S w) :
 Calls Tryz.prog 98 #[.slice A l.length c, .func (.func fid) #[] caps] w (BoolB (l.any p) w) := by
 have HC := Lib.hid (icdi_any S fid caps p A c l w hl hn hcf hf)
 have HG := Lib.hid (idxP_ge p l)
 obtain ⟨z, hz⟩ : ∃ z, z = idxP p l := ⟨_, rfl⟩
 rw [← hz] at HC HG
 clear hz hl hf hcf
 go_enter Tryz.func98, Tryz.ntmps98
 go_wp2_with fail
 refine HC.out.mono ?_
 rintro e w2 ⟨rfl, hb⟩
 have HB := Lib.hid hb
 clear hb
 go_wp2_with fail
 go_ret
 exact ⟨by rw [← HG.out]; try rfl, HB.out⟩
set_option maxRecDepth 100000 in
set_option maxHeartbeats 4000000 in
theorem igdi_any (S : Nat → Prop) (fid : FuncId) (caps : Array Value) (p : Gd → Bool) (A : Option Addr) (c : Nat) (l : List Gd) (w : World) (hl : Ls S w 2 24 Gd.tr A c l) (hn : l.length ≤ 1000000) (hcf : ∀ args w', (callFunc fid args).run Tryz.prog w' = .ok (.enter fid args) w') (hf : AskQ Gd.tr fid caps p l S w) :
 Calls Tryz.prog 55 #[.slice A l.length c, .func (.func fid) #[] caps] w fun e w' => e = .returned (.int .i64 (idxP p l)) ∧ Below w.heap.size w w' := by
 have HL := Lib.hid hl
 have hcap := hl.cap
 have hbyt := hl.bytes
 have HF := Lib.hid hf
 clear hl hf
 go_enter Tryz.func55, Tryz.ntmps55
 go_wp2_with fail
 go_loopg [8] l.length (fun g i wr => ∃ j : Nat, j + g = l.length ∧ i = .int .i64 (j : Nat) ∧ Hid (∀ i x, i < j → l[i]? = some x → p x = false) ∧ Hid (Below w.heap.size w wr))
 case atStart => exact ⟨0, by omega, rfl, Lib.hid (fun i x hi _ => absurd hi (by omega)), Lib.hid (Below.refl _ _)⟩
 case round =>
  obtain ⟨j, hj, rfl, HN, HB⟩ := hrel
  rename World => wo
  cases gk with
  | zero =>
    have hjj : ¬ ((j : Int) < (l.length : Int)) := by omega
    have HE : Hid (idxP p l = -1) := Lib.hid (idxP_none (fun i x hx => HN.out i x (by have := (List.getElem?_eq_some_iff.1 hx).1; omega) hx))
    go_wp2_with fail
    go_ret
    rw [HE.out]
    exact ⟨rfl, HB.out⟩
  | succ g =>
    have hjj : (j : Int) < (l.length : Int) := by omega
    have hji : (0 : Int) ≤ (j : Int) ∧ (j : Int) < (l.length : Int) := by omega
    obtain ⟨k, hk⟩ := get_lt (l := l) (i := j) (by omega)
    obtain ⟨ad, cs, rfl, hxt, hxc⟩ := (HL.out.below HB.out).elem Gd.trlen hk
    have HXT := Lib.hid hxt
    obtain ⟨rfl, -, -⟩ := Gd.at_iff' hxt
    obtain ⟨e0, e1⟩ := cel2 hxc
    have HCL := Lib.hid (HF.out k (List.mem_of_getElem? hk) _ wo HB.out HXT.out)
    have HE : Hid (p k = true → idxP p l = (j : Int)) := Lib.hid (fun hq => idxP_some hk hq HN.out)
    have HN2 : Hid (p k = false → ∀ i x, i < j + 1 → l[i]? = some x → p x = false) := Lib.hid (fun hq i x hi hx => by
     rcases Nat.lt_or_ge i j with h | h
     ·exact HN.out i x h hx
     ·rw [show i = j by omega, hk] at hx; injection hx with hx; rw [← hx]; exact hq)
    clear hk hxt hxc
    cases hp : p k with
    | true =>
      rw [hp] at HCL
      have HE2 := Lib.hid (HE.out hp)
      clear hp HE
      go_wp2_with fail
      refine HCL.out.mono ?_
      rintro e w2 ⟨rfl, hb2⟩
      have HB2 := Lib.hid (HB.out.trans (hb2.mono HB.out.size))
      clear hb2
      go_wp2_with fail
      go_ret
      rw [HE2.out]
      exact ⟨rfl, HB2.out⟩
    | false =>
      rw [hp] at HCL
      have HN3 := Lib.hid (HN2.out hp)
      clear hp HE
      go_wp2_with fail
      refine HCL.out.mono ?_
      rintro e w2 ⟨rfl, hb2⟩
      have HB2 := Lib.hid (HB.out.trans (hb2.mono HB.out.size))
      clear hb2
      go_wp2_with fail
      go_roundg g
      case measure => omega
      case rel => exact ⟨j + 1, by omega, by go_num, HN3, HB2⟩
theorem igdc_any (S : Nat → Prop) (fid : FuncId) (caps : Array Value) (p : Gd → Bool) (A : Option Addr) (c : Nat) (l : List Gd) (w : World) (hl : Ls S w 2 24 Gd.tr A c l) (hn : l.length ≤ 1000000) (hcf : ∀ args w', (callFunc fid args).run Tryz.prog w' = .ok (.enter fid args) w') (hf : AskQ Gd.tr fid caps p l S w) :
 Calls Tryz.prog 37 #[.slice A l.length c, .func (.func fid) #[] caps] w (BoolB (l.any p) w) := by
 have HC := Lib.hid (igdi_any S fid caps p A c l w hl hn hcf hf)
 have HG := Lib.hid (idxP_ge p l)
 obtain ⟨z, hz⟩ : ∃ z, z = idxP p l := ⟨_, rfl⟩
 rw [← hz] at HC HG
 clear hz hl hf hcf
 go_enter Tryz.func37, Tryz.ntmps37
 go_wp2_with fail
 refine HC.out.mono ?_
 rintro e w2 ⟨rfl, hb⟩
 have HB := Lib.hid hb
 clear hb
 go_wp2_with fail
 go_ret
 exact ⟨by rw [← HG.out]; try rfl, HB.out⟩
open Go.RowKit
set_option linter.unusedVariables false
set_option linter.unusedSimpArgs false
theorem Ls.drop {α : Type} {tr : α → List Tr} {S : Nat → Prop} {w : World} {sz b c : Nat} {A : Option Addr} {l : List α} (hsz : ∀ a, (tr a).length = sz) (h : Ls S w sz b tr A c l) {k : Nat} (hk : k ≤ l.length) : Ls S w sz b tr (if c = k then A else A.map (·.add (k * sz))) (c - k) (l.drop k) := by
 obtain ⟨vs, hr, ht⟩ := h.cells
 have hl : (l.drop k).length = l.length - k := by simp
 have hcap := h.cap
 refine ⟨h.sz0, ?_, by rw [hl]; omega, by have := h.max; omega, fun ad' e h0 => ?_, ⟨(vs.drop (k * sz)).take ((l.length - k) * sz), by rw [hl]; exact hr.cut hk (Nat.le_refl _) hcap (Nat.le_refl _), ?_⟩⟩
 ·rw [hl]; exact Nat.le_trans (Nat.mul_le_mul_right b (Nat.sub_le _ _)) h.bytes
 ·rw [hl] at h0
  rw [if_neg (by omega)] at e
  cases A with
  | none => cases e
  | some ad =>
    injection e with e
    rw [← e]
    exact (block_of_add ad (k * sz)).symm ▸ h.blk ad rfl (by omega)
 ·rw [← List.take_append_drop k l, List.flatMap_append] at ht
  obtain ⟨a, d, rfl, h1, h2⟩ := Trs.at.app.1 ht
  have hfl : ∀ m : List α, (m.flatMap tr).length = m.length * sz := fun m => by rw [List.length_flatMap, List.map_congr_left (fun a _ => hsz a), List.map_const', List.sum_replicate_nat]
  have hal : a.length = k * sz := by
   rw [h1.len, hfl, List.length_take, Nat.min_eq_left hk]
  have hdl : d.length = (l.length - k) * sz := by rw [h2.len, hfl, hl]
  rw [← hal, List.drop_left, ← hdl, List.take_length]
  exact h2
theorem cd_form {S : Nat → Prop} {w : World} {x : Cd} {cs : List Value} (h : Trs.at S w x.tr cs) : ∃ (A1 B1 L : Option Addr) (n1 n2 lc : Nat), cs = #[.string x.name, .int .i8 x.kind, .int .i8 x.a.kind, .string x.a.text, .int .i64 x.a.num, .string x.a.name, .string x.a.attr, .slice A1 x.a.l.length n1, .int .i8 x.b.kind, .string x.b.text, .int .i64 x.b.num, .string x.b.name, .string x.b.attr, .slice B1 x.b.l.length n2, .slice L x.l.length lc].toList := by
 obtain ⟨xs, ys, L, lc, rfl, -, -, hxa, hxb, -⟩ := Cd.at_iff.1 h
 obtain ⟨A1, n1, rfl, -⟩ := Ex.at_iff.1 hxa
 obtain ⟨B1, n2, rfl, -⟩ := Ex.at_iff.1 hxb
 exact ⟨A1, B1, L, n1, n2, lc, rfl⟩
theorem mm1_any (S : Nat → Prop) (x : Cd) (cs : List Value) (g : Gd) (gb : Nat) (w : World) (hx : Trs.at S w x.tr cs) (hgb : Blk w gb #[.int .i64 g.scope, .string g.name] 108) :
 Calls Tryz.prog 99 (#[.agg cs.toArray] ++ #[.pointer (some ⟨gb, 0, none⟩)]) w (BoolB (bEq x.name g.name) w) := by
 obtain ⟨A1, B1, L, n1, n2, lc, rfl⟩ := cd_form hx
 have hbn : Below w.heap.size w (w.alloc (.cells #[.string x.name, .int .i8 x.kind, .int .i8 x.a.kind, .string x.a.text, .int .i64 x.a.num, .string x.a.name, .string x.a.attr, .slice A1 x.a.l.length n1, .int .i8 x.b.kind, .string x.b.text, .int .i64 x.b.num, .string x.b.name, .string x.b.attr, .slice B1 x.b.l.length n2, .slice L x.l.length lc] 141)) := (Below.refl _ w).alloc (Nat.le_refl _) _
 have HB := Lib.hid hbn
 obtain ⟨e0, e1, e2, e3, e4, e5, e6, e7, e8, e9, e10, e11, e12, e13, e14⟩ := blk15 (Blk.new w #[.string x.name, .int .i8 x.kind, .int .i8 x.a.kind, .string x.a.text, .int .i64 x.a.num, .string x.a.name, .string x.a.attr, .slice A1 x.a.l.length n1, .int .i8 x.b.kind, .string x.b.text, .int .i64 x.b.num, .string x.b.name, .string x.b.attr, .slice B1 x.b.l.length n2, .slice L x.l.length lc] 141)
 obtain ⟨g0, g1⟩ := blk2 (hgb.alloc (.cells #[.string x.name, .int .i8 x.kind, .int .i8 x.a.kind, .string x.a.text, .int .i64 x.a.num, .string x.a.name, .string x.a.attr, .slice A1 x.a.l.length n1, .int .i8 x.b.kind, .string x.b.text, .int .i64 x.b.num, .string x.b.name, .string x.b.attr, .slice B1 x.b.l.length n2, .slice L x.l.length lc] 141))
 have HE := Lib.hid (bEq_tl x.name g.name)
 clear hx hgb hbn
 simp only [List.push_toArray, List.append_toArray, List.cons_append, List.nil_append]
 go_enter Tryz.func99, Tryz.ntmps99
 go_wp2_with fail
 go_ret
 exact ⟨by rw [← HE.out]; try rfl, HB.out⟩
def scUp : Nat → List Sc → Bool
 | _, [] => true
 | i, s :: r => (decide (0 ≤ s.parent) && decide (s.parent ≤ (i : Int))) && scUp (i + 1) r
def gdOk (sc : List Sc) (g : Gd) : Bool := if g.scope < 0 ∨ (sc.length : Int) ≤ g.scope then false else match sc[g.scope.toNat]? with | some s => s.t.conds.any (fun c => bEq c.name g.name) | none => false
def ndOk (sc : List Sc) (n : Nd) : Bool := if n.scope < 0 ∨ (sc.length : Int) ≤ n.scope then false else n.guards.all (gdOk sc)
def nMay (sc : List Sc) (nd : List Nd) : Bool := match sc with
 | [] => false
 | s0 :: r => if s0.parent ≠ -1 then false else scUp 0 r && nd.all (ndOk sc)
theorem scUp_drop {l : List Sc} {j : Nat} {x : Sc} (h : l[j]? = some x) : scUp j (l.drop j) = ((decide (0 ≤ x.parent) && decide (x.parent ≤ (j : Int))) && scUp (j + 1) (l.drop (j + 1))) := by rw [drop_cons h]; rfl
theorem all_drop {α : Type} {l : List α} {p : α → Bool} {i : Nat} {x : α} (h : l[i]? = some x) : (l.drop i).all p = (p x && (l.drop (i + 1)).all p) := by rw [drop_cons h]; rfl
theorem sc_form {S : Nat → Prop} {w : World} {s : Sc} {cs : List Value} (h : Trs.at S w s.tr cs) : ∃ (B1 B2 B3 B4 B5 : Option Addr) (d1 d2 d3 d4 d5 : Nat), cs = #[.int .i64 s.parent, .string s.pre, .slice B1 s.t.params.length d1, .slice B2 s.t.conds.length d2, .slice B3 s.t.res.length d3, .slice B4 s.t.outs.length d4, .slice B5 s.args.length d5].toList ∧ (Lit.int .i64 s.parent).wf = true ∧ s.pre.size ≤ 140737488351232 ∧ Ls S w 10 128 Pm.tr B1 d1 s.t.params ∧ Ls S w 15 224 Cd.tr B2 d2 s.t.conds ∧ Ls S w 8 120 Ou.tr B4 d4 s.t.outs ∧ Ls S w 7 104 Pr.tr B5 d5 s.args := by
 obtain ⟨ts, B5, d5, rfl, hw, hp, ht, ha⟩ := Sc.at_iff.1 h
 obtain ⟨B1, d1, B2, d2, B3, d3, B4, d4, rfl, h1, h2, h3, h4⟩ := Tm.at_iff.1 ht
 exact ⟨B1, B2, B3, B4, B5, d1, d2, d3, d4, d5, rfl, hw, hp, h1, h2, h4, ha⟩
theorem nd_form {S : Nat → Prop} {w : World} {n : Nd} {cs : List Value} (h : Trs.at S w n.tr cs) : ∃ (C1 C2 C3 C4 C5 : Option Addr) (q1 q2 q3 q4 q5 : Nat), cs = #[.string n.id, .int .i64 n.scope, .string n.r.id, .string n.r.type, .string n.r.cond, .slice C1 n.r.props.length q1, .slice C2 n.r.depends.length q2, .bool n.r.retain, .slice C3 n.r.inner.length q3, .slice C4 n.guards.length q4, .slice C5 n.after.length q5].toList ∧ n.id.size ≤ 140737488351232 ∧ (Lit.int .i64 n.scope).wf = true ∧ Ls S w 7 104 Pr.tr C1 q1 n.r.props ∧ Ls S w 2 24 Gd.tr C4 q4 n.guards ∧ Ss S w C5 q5 n.after := by
 obtain ⟨rcs, C4, q4, C5, q5, rfl, h0, h1, h2, h4, h5⟩ := Nd.at_iff.1 h
 obtain ⟨C1, q1, C2, q2, C3, q3, rfl, h6, h7, h8, h9, h10, h11⟩ := Rs.at_iff.1 h2
 exact ⟨C1, C2, C3, C4, C5, q1, q2, q3, q4, q5, rfl, h0, h1, h9, h4, h5⟩
set_option maxRecDepth 100000 in
set_option maxHeartbeats 16000000 in
theorem nmay_any (S : Nat → Prop) (fb : Nat) (SA NA : Option Addr) (sC nC : Nat) (sc : List Sc) (nd : List Nd) (w : World) (hfb : Blk w fb #[.slice SA sc.length sC, .slice NA nd.length nC] 34) (hsc : Ls S w 7 144 Sc.tr SA sC sc) (hnd : Ls S w 11 200 Nd.tr NA nC nd)
 (hsn : sc.length ≤ 1000000) (hnn : nd.length ≤ 1000000) (hgn : ∀ n ∈ nd, n.guards.length ≤ 1000000) (hcn : ∀ s ∈ sc, s.t.conds.length ≤ 1000000) :
 Calls Tryz.prog 67 #[.pointer (some ⟨fb, 0, none⟩)] w (BoolB (nMay sc nd) w) := by
 have hcap := hsc.cap
 have hmax := hsc.max
 have hcap2 := hnd.cap
 have hmax2 := hnd.max
 have HSC := Lib.hid hsc
 have HND := Lib.hid hnd
 have HGN := Lib.hid hgn
 have HCN := Lib.hid hcn
 have HFB := Lib.hid hfb
 obtain ⟨f0, f1⟩ := blk2 hfb
 clear hsc hnd hgn hcn hfb
 cases hsl : sc with
 | nil =>
   subst hsl
   go_enter Tryz.func67, Tryz.ntmps67
   go_wp2_with fail
   go_ret
   exact ⟨by rfl, Below.refl _ _⟩
 | cons s0 r =>
   have hr : sc[0]? = some s0 := by rw [hsl]; rfl
   have hlen : sc.length = r.length + 1 := by rw [hsl]; rfl
   have hdr : ∀ j, r[j]? = sc[j + 1]? := fun j => by rw [hsl]; rfl
   have hMe : nMay sc nd = if s0.parent ≠ -1 then false else scUp 0 r && nd.all (ndOk sc) := by rw [hsl]; rfl
   have HM2 := Lib.hid hMe
   have HDR := Lib.hid hdr
   rw [← hsl]
   clear hsl hMe hdr
   obtain ⟨ad, cs, rfl, hxt, hxc⟩ := HSC.out.elem Sc.trlen hr
   obtain ⟨B1, B2, B3, B4, B5, d1, d2, d3, d4, d5, rfl, hw0, -⟩ := sc_form hxt
   rw [show ad.add (0 * 7) = ad from by simp [Addr.add]] at hxc
   obtain ⟨c0, c1, c2, c3, c4, c5, c6⟩ := cel7 hxc
   clear hxt hxc hr c1 c2 c3 c4 c5 c6
   have hlp : ((sc.length : Int) == 0) = false := by
    have h : ¬ sc.length = 0 := by omega
    simpa using h
   have hl0 : (0 : Int) < (sc.length : Int) := by omega
   have hl1 : (1 : Int) ≤ (sc.length : Int) := by omega
   have hLR := HSC.out.drop Sc.trlen (k := 1) (by omega)
   rw [show sc.drop 1 = r from List.ext_getElem? (fun j => by rw [List.getElem?_drop, Nat.add_comm, HDR.out])] at hLR
   have hsl := fun W : World => run_slice_from' (P := Tryz.prog) W (A := some ad) (n := sc.length) (c := sC) (k := 1) (x := 1) (t := 31) (e := 76) (sz := 7) rfl Tryz.underlying31 (by kernel_rfl) (by omega) .i64
   rw [show sc.length - 1 = r.length by omega] at hsl
   obtain ⟨A1, hA1⟩ : ∃ A1, A1 = (if sC = 1 then some ad else (some ad).map (·.add (1 * 7))) := ⟨_, rfl⟩
   rw [← hA1] at hLR
   rw [← hA1] at hsl
   have HLR := Lib.hid hLR
   have HLEN := Lib.hid hlen
   have hrn : r.length ≤ 1000000 := by omega
   have hrc := hLR.cap
   clear hlen hA1 hLR
   by_cases hp : s0.parent = -1
   ·have tp : (s0.parent != -1) = false := by rw [hp]; rfl
    rw [if_neg (by simpa using hp)] at HM2
    clear hp
    go_enter Tryz.func67, Tryz.ntmps67
    go_wp2_with fail
    go_loopg [31] r.length (fun g i wr => ∃ j : Nat, j + g = r.length ∧ i = .int .i64 (j : Nat) ∧ Hid (scUp 0 r = scUp j (r.drop j)) ∧ Hid (Below w.heap.size w wr))
    case atStart => exact ⟨0, by omega, rfl, Lib.hid rfl, Lib.hid (Below.refl _ _)⟩
    case round =>
     obtain ⟨j, hj, rfl, HU, HB⟩ := hrel
     rename World => wo
     cases gk with
     | succ g =>
       have hjj : (j : Int) < (r.length : Int) := by omega
       have hji : (0 : Int) ≤ (j : Int) ∧ (j : Int) < (r.length : Int) := by omega
       obtain ⟨s, hs⟩ := get_lt (l := r) (i := j) (by omega)
       have HD := Lib.hid (scUp_drop hs)
       obtain ⟨ad1, cs, rfl, hxt, hxc⟩ := (HLR.out.below HB.out).elem Sc.trlen hs
       obtain ⟨B1, B2, B3, B4, B5, d1, d2, d3, d4, d5, rfl, hw1, -⟩ := sc_form hxt
       obtain ⟨e0, e1, e2, e3, e4, e5, e6⟩ := cel7 hxc
       clear hxt hxc hs
       by_cases h1 : s.parent < 0
       ·have HE : Hid (nMay sc nd = false) := Lib.hid (by rw [HM2.out, HU.out, HD.out, decide_eq_false (by omega)]; rfl)
        go_wp2_with fail
        go_ret
        exact ⟨by rw [HE.out]; try rfl, HB.out.alloc HB.out.size _⟩
       ·by_cases h2 : (j : Int) < s.parent
        ·have HE : Hid (nMay sc nd = false) := Lib.hid (by rw [HM2.out, HU.out, HD.out, decide_eq_false (show ¬ s.parent ≤ (j : Int) by omega)]; simp)
         go_wp2_with fail
         go_ret
         exact ⟨by rw [HE.out]; try rfl, HB.out.alloc HB.out.size _⟩
        ·have HU2 : Hid (scUp 0 r = scUp (j + 1) (r.drop (j + 1))) := Lib.hid (by rw [HU.out, HD.out, decide_eq_true (show 0 ≤ s.parent by omega), decide_eq_true (show s.parent ≤ (j : Int) by omega)]; rfl)
         go_wp2_with fail
         go_roundg g
         case measure => omega
         case rel => exact ⟨j + 1, by omega, by go_num, HU2, Lib.hid (HB.out.alloc HB.out.size _)⟩
     | zero =>
       have hjj : ¬ ((j : Int) < (r.length : Int)) := by omega
       rw [HU.out, List.drop_of_length_le (by omega), scUp, Bool.true_and] at HM2
       obtain ⟨g0, g1⟩ := blk2 (HFB.out.below HB.out)
       clear f0 f1 c0 hsl
       go_wp2_with fail
       go_loopg [51] nd.length (fun g i wr => ∃ j2 : Nat, j2 + g = nd.length ∧ i = .int .i64 (j2 : Nat) ∧ Hid (nMay sc nd = (nd.drop j2).all (ndOk sc)) ∧ Hid (Below w.heap.size w wr))
       case atStart => exact ⟨0, by omega, rfl, HM2, HB⟩
       case round =>
        clear g0 g1
        obtain ⟨j2, hj2, rfl, HN, HB2⟩ := hrel
        rename World => wp
        cases gk with
        | zero =>
          have hjj2 : ¬ ((j2 : Int) < (nd.length : Int)) := by omega
          rw [List.drop_of_length_le (by omega)] at HN
          go_wp2_with fail
          go_ret
          exact ⟨by rw [HN.out]; try rfl, HB2.out⟩
        | succ g2 =>
          have hjj2 : (j2 : Int) < (nd.length : Int) := by omega
          have hji2 : (0 : Int) ≤ (j2 : Int) ∧ (j2 : Int) < (nd.length : Int) := by omega
          obtain ⟨n, hn⟩ := get_lt (l := nd) (i := j2) (by omega)
          have hd := all_drop (p := ndOk sc) hn
          rw [← HN.out] at hd
          have HD2 := Lib.hid hd
          have hgnn : n.guards.length ≤ 1000000 := HGN.out n (List.mem_of_getElem? hn)
          obtain ⟨ad2, cs, rfl, hxt, hxc⟩ := (HND.out.below HB2.out).elem Nd.trlen hn
          obtain ⟨C1, C2, C3, C4, C5, q1, q2, q3, q4, q5, rfl, -, hwn, -, hgl, -⟩ := nd_form hxt
          obtain ⟨e0, e1, e2, e3, e4, e5, e6, e7, e8, e9, e10⟩ := cel11 hxc
          have hbn : Below wp.heap.size wp (wp.alloc (.cells #[.string n.id, .int .i64 n.scope, .string n.r.id, .string n.r.type, .string n.r.cond, .slice C1 n.r.props.length q1, .slice C2 n.r.depends.length q2, .bool n.r.retain, .slice C3 n.r.inner.length q3, .slice C4 n.guards.length q4, .slice C5 n.after.length q5] 80)) := (Below.refl _ wp).alloc (Nat.le_refl _) _
          obtain ⟨m0, m1, m2, m3, m4, m5, m6, m7, m8, m9, m10⟩ := blk11 (Blk.new wp #[.string n.id, .int .i64 n.scope, .string n.r.id, .string n.r.type, .string n.r.cond, .slice C1 n.r.props.length q1, .slice C2 n.r.depends.length q2, .bool n.r.retain, .slice C3 n.r.inner.length q3, .slice C4 n.guards.length q4, .slice C5 n.after.length q5] 80)
          have HBW := Lib.hid (HB2.out.trans (hbn.mono HB2.out.size))
          have hfw := HFB.out.below (HB2.out.trans (hbn.mono HB2.out.size))
          obtain ⟨g0, g1⟩ := blk2 hfw
          have HGD := Lib.hid (hgl.below hbn)
          have hgcap := hgl.cap
          have hgmax := hgl.max
          clear hd hn hxt hxc hbn hgl hfw
          by_cases h1 : n.scope < 0
          ·have HE : Hid (nMay sc nd = false) := Lib.hid (by rw [HD2.out, show ndOk sc n = false by unfold ndOk; rw [if_pos (.inl h1)]]; rfl)
           have h1d : decide (n.scope < 0) = true := decide_eq_true h1
           go_wp2_with fail
           go_quiet (fail)
           go_wp2_with fail
           go_ret
           exact ⟨by rw [HE.out]; try rfl, HBW.out.drewN _⟩
          ·have h1d : decide (n.scope < 0) = false := decide_eq_false h1
           by_cases h2 : (sc.length : Int) ≤ n.scope
           ·have HE : Hid (nMay sc nd = false) := Lib.hid (by rw [HD2.out, show ndOk sc n = false by unfold ndOk; rw [if_pos (.inr h2)]]; rfl)
            go_wp2_with fail
            go_quiet (fail)
            go_wp2_with fail
            go_ret
            exact ⟨by rw [HE.out]; try rfl, HBW.out.drewN _⟩
           ·have HD3 : Hid (nMay sc nd = (n.guards.all (gdOk sc) && (nd.drop (j2 + 1)).all (ndOk sc))) := Lib.hid (by rw [HD2.out, show ndOk sc n = n.guards.all (gdOk sc) by unfold ndOk; rw [if_neg (by omega)]])
            go_wp2_with fail
            go_quiet (fail)
            go_wp2_with fail
            go_loopg [71] n.guards.length (fun g i wr => ∃ j3 : Nat, j3 + g = n.guards.length ∧ i = .int .i64 (j3 : Nat) ∧ Hid (nMay sc nd = ((n.guards.drop j3).all (gdOk sc) && (nd.drop (j2 + 1)).all (ndOk sc))) ∧ Hid (Below w.heap.size w wr) ∧ Hid (Below (wp.alloc (.cells #[.string n.id, .int .i64 n.scope, .string n.r.id, .string n.r.type, .string n.r.cond, .slice C1 n.r.props.length q1, .slice C2 n.r.depends.length q2, .bool n.r.retain, .slice C3 n.r.inner.length q3, .slice C4 n.guards.length q4, .slice C5 n.after.length q5] 80)).heap.size (wp.alloc (.cells #[.string n.id, .int .i64 n.scope, .string n.r.id, .string n.r.type, .string n.r.cond, .slice C1 n.r.props.length q1, .slice C2 n.r.depends.length q2, .bool n.r.retain, .slice C3 n.r.inner.length q3, .slice C4 n.guards.length q4, .slice C5 n.after.length q5] 80)) wr))
            case atStart => exact ⟨0, by omega, rfl, HD3, Lib.hid (HBW.out.drewN _), Lib.hid (below_drewN' _ _)⟩
            case round =>
             clear m0 m1 m2 m3 m4 m5 m6 m7 m8 m9 m10 g0 g1 e0 e1 e2 e3 e4 e5 e6 e7 e8 e9 e10
             obtain ⟨j3, hj3, rfl, HN3, HB3, HBM⟩ := hrel
             rename World => wq
             cases gk with
             | zero =>
               have hjj3 : ¬ ((j3 : Int) < (n.guards.length : Int)) := by omega
               rw [List.drop_of_length_le (by omega), List.all_nil, Bool.true_and] at HN3
               go_wp2_with fail
               go_roundg g2
               case measure => omega
               case rel => exact ⟨j2 + 1, by omega, by go_num, HN3, HB3⟩
             | succ g3 =>
               have hjj3 : (j3 : Int) < (n.guards.length : Int) := by omega
               have hji3 : (0 : Int) ≤ (j3 : Int) ∧ (j3 : Int) < (n.guards.length : Int) := by omega
               obtain ⟨gd, hg⟩ := get_lt (l := n.guards) (i := j3) (by omega)
               have hd := all_drop (p := gdOk sc) hg
               rw [hd] at HN3
               obtain ⟨ad3, cs, rfl, hxt, hxc⟩ := (HGD.out.below HBM.out).elem Gd.trlen hg
               obtain ⟨rfl, hwg, hgs⟩ := Gd.at_iff' hxt
               obtain ⟨e0, e1⟩ := cel2 hxc
               have hbn : Below wq.heap.size wq (wq.alloc (.cells #[.int .i64 gd.scope, .string gd.name] 108)) := (Below.refl _ wq).alloc (Nat.le_refl _) _
               have hkg := Blk.new wq #[.int .i64 gd.scope, .string gd.name] 108
               have HKG := Lib.hid hkg
               have HBQ := Lib.hid (HB3.out.trans (hbn.mono HB3.out.size))
               obtain ⟨m0, m1⟩ := blk2 hkg
               obtain ⟨g0, g1⟩ := blk2 (HFB.out.below HBQ.out)
               clear hd hg hxt hxc hbn hkg
               by_cases h3 : gd.scope < 0
               ·have HE : Hid (nMay sc nd = false) := Lib.hid (by rw [HN3.out, show gdOk sc gd = false by unfold gdOk; rw [if_pos (.inl h3)]]; rfl)
                have h3d : decide (gd.scope < 0) = true := decide_eq_true h3
                go_wp2_with fail
                go_quiet (fail)
                go_wp2_with fail
                go_ret
                exact ⟨by rw [HE.out]; try rfl, HBQ.out.drewN _⟩
               ·have h3d : decide (gd.scope < 0) = false := decide_eq_false h3
                by_cases h4 : (sc.length : Int) ≤ gd.scope
                ·have HE : Hid (nMay sc nd = false) := Lib.hid (by rw [HN3.out, show gdOk sc gd = false by unfold gdOk; rw [if_pos (.inr h4)]]; rfl)
                 have h4d : decide ((sc.length : Int) ≤ gd.scope) = true := decide_eq_true h4
                 go_wp2_with fail
                 go_quiet (fail)
                 go_wp2_with fail
                 go_ret
                 exact ⟨by rw [HE.out]; try rfl, HBQ.out.drewN _⟩
                ·have h4d : decide ((sc.length : Int) ≤ gd.scope) = false := decide_eq_false h4
                 obtain ⟨gi, hgi⟩ : ∃ gi : Nat, gd.scope = (gi : Int) := ⟨gd.scope.toNat, by omega⟩
                 have hgl : gi < sc.length := by omega
                 obtain ⟨s, hs⟩ := get_lt (l := sc) (i := gi) hgl
                 have hgk : gdOk sc gd = s.t.conds.any (fun c => bEq c.name gd.name) := by
                  unfold gdOk
                  rw [if_neg (by omega), hgi, show ((gi : Int)).toNat = gi from rfl, hs]
                 rw [hgk] at HN3
                 obtain ⟨adS, cs, eS, hxt, hxc⟩ := (HSC.out.below HBQ.out).elem Sc.trlen hs
                 injection eS with eS
                 subst eS
                 obtain ⟨B1, B2, B3, B4, B5, d1, d2, d3, d4, d5, rfl, -, -, -, hcl, -⟩ := sc_form hxt
                 obtain ⟨s0', s1', s2', s3', s4', s5', s6'⟩ := cel7 hxc
                 have hci : (0 : Int) ≤ (gi : Int) ∧ (gi : Int) < (sc.length : Int) := by omega
                 rw [hgi] at m0 HKG h3d h4d
                 have hsc3 := HCN.out s (List.mem_of_getElem? hs)
                 have HCC := Lib.hid (fun W (hb : Below (wq.alloc (.cells #[.int .i64 (gi : Int), .string gd.name] 108)).heap.size (wq.alloc (.cells #[.int .i64 (gi : Int), .string gd.name] 108)) W) =>
                  icdc_any S 99 #[.pointer (some ⟨wq.heap.size, 0, none⟩)] (fun c => bEq c.name gd.name) B2 d2 s.t.conds W (by rw [hgi] at hcl; exact hcl.below hb) hsc3 (callFunc_go Tryz.func99 rfl rfl)
                   (fun x hx cs' w' hbw ht => mm1_any S x cs' ⟨(gi : Int), gd.name⟩ wq.heap.size w' ht ((HKG.out.below hb).below hbw)))
                 rw [hgi] at HBQ
                 obtain ⟨q, hq⟩ : ∃ q, q = s.t.conds.any (fun c => bEq c.name gd.name) := ⟨_, rfl⟩
                 rw [← hq] at HN3 HCC
                 obtain ⟨gsc, gnm⟩ := gd
                 simp only at hgi
                 subst hgi
                 clear hs hgk hxt hxc hcl hq hwg hgs
                 have HBMW := Lib.hid (HBM.out.alloc HBM.out.size (.cells #[.int .i64 (gi : Int), .string gnm] 108))
                 go_wp2_with fail
                 generalize hW : wq.alloc (.cells #[.int .i64 (gi : Int), .string gnm] 108) = W at *
                 go_still_tail 25, (by kernel_rfl)
                 change wpList _ _ _ _ _ W.drew
                 have HBD : Hid (Below W.heap.size W W.drew) := Lib.hid (below_drewN' W 1)
                 go_wp2_with fail
                 refine (HCC.out _ HBD.out).mono ?_
                 rintro e w2 ⟨rfl, hb⟩
                 have HBZ := Lib.hid (HBQ.out.trans ((HBD.out.trans (hb.mono HBD.out.size)).mono HBQ.out.size))
                 have HBY := Lib.hid (HBD.out.trans (hb.mono HBD.out.size))
                 clear hb
                 cases q with
                 | false =>
                   have HE : Hid (nMay sc nd = false) := Lib.hid (by rw [HN3.out]; rfl)
                   go_wp2_with fail
                   go_ret
                   exact ⟨by rw [HE.out]; try rfl, HBZ.out⟩
                 | true =>
                   rw [Bool.true_and] at HN3
                   go_wp2_with fail
                   go_roundg g3
                   case measure => omega
                   case rel =>
                    exact ⟨j3 + 1, by omega, by go_num, HN3, HBZ, Lib.hid (HBMW.out.trans (HBY.out.mono HBMW.out.size))⟩
   ·have tp : (s0.parent != -1) = true := by simpa using hp
    rw [if_pos hp] at HM2
    clear hp
    go_enter Tryz.func67, Tryz.ntmps67
    go_wp2_with fail
    go_ret
    exact ⟨by rw [HM2.out]; try rfl, Below.refl _ _⟩
end Go.Proofs.YtgdfkbalnpfdgaaGreatDoor
