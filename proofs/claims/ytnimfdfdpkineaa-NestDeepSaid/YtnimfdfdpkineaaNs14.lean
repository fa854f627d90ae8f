/- hoardinglaw17.NestDeep: the walk. -/
import Derived.Test.YtnimfdfdpkineaaNs13
namespace Go.Proofs.Ytnimfdfdpkineaa
open Go.RowKit
set_option linter.unusedVariables false
set_option linter.unusedSimpArgs false

theorem whole_ok {t : Tm} (h : t.ok 8) : (wholeT t).ok 9 := by
  refine ⟨by simp [wholeT], fun r hr => ?_⟩
  simp only [wholeT, List.mem_singleton] at hr
  subst hr
  exact ⟨by simp, by simp, by simp, by show wW.size + stackT.size + ByteArray.empty.size ≤ 3000; decide, by simp, fun t' ht => by simp only [List.mem_singleton] at ht; subst ht; exact h⟩
theorem Gd.at_iff {S : Nat → Prop} {w : World} {v : Gd} {cs : List Value} (h : Trs.at S w v.tr cs) : cs = [.int .i64 v.scope, .string v.name] ∧ (Lit.int .i64 v.scope).wf = true := by
  unfold Gd.tr at h
  obtain ⟨_, rfl, h1, h⟩ := at_leaf.1 h
  obtain ⟨_, rfl, _, h⟩ := at_leaf.1 h
  obtain rfl := at_nil.1 h
  exact ⟨rfl, h1⟩
theorem wrap_of_wf {z : Int} (h : (Lit.int .i64 z).wf = true) : IntKind.i64.wrap z = z := by
  have := wf_i64' h
  rw [IntKind.wrap_i64]; omega
theorem wa_run {d : ByteArray} (h : (wa d).size ≤ 140737488351232) (w' : World) : (Op.stringOp .add ⟨#[87, 46]⟩ d).run Try.prog w' = .ok (.string (wa d)) w' := run_string_add_sum _ _ _ (by rw [wa_size] at h; show 2 + d.size ≤ _; omega)
theorem whole_at {S : Nat → Prop} {w2 : World} {t : Tm} {A B C D : Option Addr} {a b c d : Nat} (h : Trs.at S w2 t.tr [.slice A t.params.length a, .slice B t.conds.length b, .slice C t.res.length c, .slice D t.outs.length d]) :
    Trs.at (fun _ => True) (((w2.alloc (.cells #[.slice A t.params.length a, .slice B t.conds.length b, .slice C t.res.length c, .slice D t.outs.length d] 27)).alloc (.cells #[.string ⟨#[87]⟩, .string ⟨#[83, 116, 97, 99, 107]⟩, .string ⟨#[]⟩, .slice none 0 0, .slice none 0 0, .bool false, .slice (some ⟨w2.heap.size, 0, none⟩) 1 1] 34)).alloc (.cells #[.slice none 0 0, .slice none 0 0, .slice (some ⟨w2.heap.size + 1, 0, none⟩) 1 1, .slice none 0 0] 27)) (wholeT t).tr [.slice none 0 0, .slice none 0 0, .slice (some ⟨w2.heap.size + 1, 0, none⟩) 1 1, .slice none 0 0] := by
  have h1 := h.mono (S' := fun _ => True) (fun _ _ => trivial)
  have h2 := Ls.lit (tr := Tm.tr) w2 4 96 [t] #[.slice A t.params.length a, .slice B t.conds.length b, .slice C t.res.length c, .slice D t.outs.length d] 27 (by omega) (by simp) (by simp) rfl (by rw [List.flatMap_cons, List.flatMap_nil, List.append_nil]; exact h1)
  have h3 := Ls.lit (tr := Rs.tr) (w2.alloc (.cells #[.slice A t.params.length a, .slice B t.conds.length b, .slice C t.res.length c, .slice D t.outs.length d] 27)) 7 128 [⟨wW, stackT, ByteArray.empty, [], [], false, [t]⟩] #[.string ⟨#[87]⟩, .string ⟨#[83, 116, 97, 99, 107]⟩, .string ⟨#[]⟩, .slice none 0 0, .slice none 0 0, .bool false, .slice (some ⟨w2.heap.size, 0, none⟩) 1 1] 34 (by omega) (by simp) (by simp) rfl (by
    rw [List.flatMap_cons, List.flatMap_nil, List.append_nil]
    exact rs_lit (i := wW) (ty := stackT) (by decide) (by decide) h2)
  have e : (w2.alloc (.cells #[.slice A t.params.length a, .slice B t.conds.length b, .slice C t.res.length c, .slice D t.outs.length d] 27)).heap.size = w2.heap.size + 1 := by simp
  rw [e] at h3
  exact (tm_lit h3).alloc _

set_option maxRecDepth 100000 in
set_option maxHeartbeats 8000000 in
theorem nestDeep_walk (w : World) (cs : Array Value) (t : Tm) (h : Trs.at (fun k => k < w.heap.size) w t.tr cs.toList) :
    Calls Try.prog 4 #[.agg cs] w fun e w' => e = .returned (.bool true) ∧ Below w.heap.size w w' := by
  obtain ⟨A, a, B, b, C, c, D, d, hcs, h1, h2, h3, h4⟩ := Tm.at_iff.1 h
  obtain rfl : cs = #[.slice A t.params.length a, .slice B t.conds.length b, .slice C t.res.length c, .slice D t.outs.length d] := by
    have := congrArg List.toArray hcs
    simpa using this
  have HB0 : Hid (Below w.heap.size w (w.alloc (.cells #[.slice A t.params.length a, .slice B t.conds.length b, .slice C t.res.length c, .slice D t.outs.length d] 27))) := Lib.hid ((Below.refl _ w).alloc (Nat.le_refl _) _)
  have HX0 := Lib.hid (Blk.new w #[.slice A t.params.length a, .slice B t.conds.length b, .slice C t.res.length c, .slice D t.outs.length d] 27)
  have HG := Lib.hid (tgreat_any (fun k => k < w.heap.size) t _ none 0 [] _ (h.below HB0.out) (Ls.nil _ _ _ _ (by omega) _))
  have HT := Lib.hid h
  clear h h1 h2 h3 h4 hcs
  cases hg : tGreat t [] with
  | true =>
    rw [hg] at HG
    clear hg
    go_enter Try.func4, Try.ntmps4
    go_wp2_with fail
    refine HG.out.mono ?_
    rintro e w2 ⟨rfl, hb2⟩
    have HB2 := Lib.hid (HB0.out.trans (hb2.mono HB0.out.size))
    clear hb2
    go_wp2_with fail
    refine (wakes_any _).mono ?_
    rintro e w3 ⟨rfl, hb3⟩
    have HB3 := Lib.hid (HB2.out.trans (hb3.mono HB2.out.size))
    clear hb3
    go_wp2_with fail
    go_ret
    exact ⟨rfl, HB3.out⟩
  | false =>
    rw [hg] at HG
    have hok : t.ok 8 := tW_ok 8 t (by
      unfold tGreat at hg
      simp at hg
      omega)
    have HOK := Lib.hid hok
    clear hg hok
    have HDEEP := Lib.hid (fun h => flat_deep (k := 8) (t := t) h)
    obtain ⟨fr, hfr⟩ : ∃ fr, fr = flatF 8 t := ⟨_, rfl⟩
    obtain ⟨gr, hgr⟩ : ∃ gr, gr = flatF 9 (wholeT t) := ⟨_, rfl⟩
    rw [show (8 : Nat) + 1 = 9 from rfl, ← hfr, ← hgr] at HDEEP
    go_enter Try.func4, Try.ntmps4
    go_wp2_with fail
    refine HG.out.mono ?_
    rintro e w2 ⟨rfl, hb2⟩
    have hbb := HB0.out.trans (hb2.mono HB0.out.size)
    have HB2 := Lib.hid hbb
    have hx2 := HX0.out.below hb2
    have HX2 := Lib.hid hx2
    obtain ⟨x0, x1, x2, x3⟩ := blk4 hx2
    have hs2 := hx2.lt
    have hb3 : Below w2.heap.size w2 (((w2.alloc (.cells #[.slice A t.params.length a, .slice B t.conds.length b, .slice C t.res.length c, .slice D t.outs.length d] 27)).alloc (.cells #[.string ⟨#[87]⟩, .string ⟨#[83, 116, 97, 99, 107]⟩, .string ⟨#[]⟩, .slice none 0 0, .slice none 0 0, .bool false, .slice (some ⟨w2.heap.size, 0, none⟩) 1 1] 34)).alloc (.cells #[.slice none 0 0, .slice none 0 0, .slice (some ⟨w2.heap.size + 1, 0, none⟩) 1 1, .slice none 0 0] 27)) := (((Below.refl _ w2).alloc (Nat.le_refl _) _).alloc (by simp) _).alloc (by simp; omega) _
    obtain ⟨z0, z1, z2, z3⟩ := blk4 (hx2.below hb3)
    have htr := HT.out.below hbb
    have hwh := whole_at htr
    have hf := flat_any (fun _ => True) 8 t _ _ HOK.out ((htr.below hb3).mono (S' := fun _ => True) (fun _ _ => trivial))
    rw [← hfr] at hf
    have HF := Lib.hid hf
    have HB3 := Lib.hid (hbb.trans (hb3.mono hbb.size))
    have HWH := Lib.hid hwh
    have HTB : Hid (Blk (((w2.alloc (.cells #[.slice A t.params.length a, .slice B t.conds.length b, .slice C t.res.length c, .slice D t.outs.length d] 27)).alloc (.cells #[.string ⟨#[87]⟩, .string ⟨#[83, 116, 97, 99, 107]⟩, .string ⟨#[]⟩, .slice none 0 0, .slice none 0 0, .bool false, .slice (some ⟨w2.heap.size, 0, none⟩) 1 1] 34)).alloc (.cells #[.slice none 0 0, .slice none 0 0, .slice (some ⟨w2.heap.size + 1, 0, none⟩) 1 1, .slice none 0 0] 27)) (w2.heap.size + 1 + 1) #[.slice none 0 0, .slice none 0 0, .slice (some ⟨w2.heap.size + 1, 0, none⟩) 1 1, .slice none 0 0] 27) := Lib.hid (by
      have := Blk.new ((w2.alloc (.cells #[.slice A t.params.length a, .slice B t.conds.length b, .slice C t.res.length c, .slice D t.outs.length d] 27)).alloc (.cells #[.string ⟨#[87]⟩, .string ⟨#[83, 116, 97, 99, 107]⟩, .string ⟨#[]⟩, .slice none 0 0, .slice none 0 0, .bool false, .slice (some ⟨w2.heap.size, 0, none⟩) 1 1] 34)) #[.slice none 0 0, .slice none 0 0, .slice (some ⟨w2.heap.size + 1, 0, none⟩) 1 1, .slice none 0 0] 27
      rw [show ((w2.alloc (.cells #[.slice A t.params.length a, .slice B t.conds.length b, .slice C t.res.length c, .slice D t.outs.length d] 27)).alloc (.cells #[.string ⟨#[87]⟩, .string ⟨#[83, 116, 97, 99, 107]⟩, .string ⟨#[]⟩, .slice none 0 0, .slice none 0 0, .bool false, .slice (some ⟨w2.heap.size, 0, none⟩) 1 1] 34)).heap.size = w2.heap.size + 1 + 1 by simp] at this
      exact this)
    clear hb2 hx2 hb3 htr hwh hf hbb HG hfr
    go_wp2_with fail
    refine HF.out.mono ?_
    obtain ⟨ez, fs, fn⟩ := fr
    obtain ⟨hz, gs, gn⟩ := gr
    rintro e w5 ⟨hb5, A1, c1, A2, c2, rfl, hf1, hf2⟩
    simp only at hf1 hf2
    have hw6 : Below w5.heap.size w5 (w5.alloc (.cells #[.slice A1 fs.length c1, .slice A2 fn.length c2] 38)) := (Below.refl _ w5).alloc (Nat.le_refl _) _
    have hb36 := hb5.trans (hw6.mono hb5.size)
    obtain ⟨y0, y1, y2, y3⟩ := blk4 (HTB.out.below hb36)
    have hg := flat_any (fun _ => True) 9 (wholeT t) _ _ (whole_ok HOK.out) (HWH.out.below hb36)
    rw [← hgr] at hg
    have HGC := Lib.hid hg
    have HB6 := Lib.hid (HB3.out.trans (hb36.mono HB3.out.size))
    have HFB := Lib.hid (Blk.new w5 #[.slice A1 fs.length c1, .slice A2 fn.length c2] 38)
    have HF1 := Lib.hid (hf1.below hw6)
    have HF2 := Lib.hid (hf2.below hw6)
    clear hb5 hf1 hf2 hw6 hb36 hg z0 z1 z2 z3 x0 x1 x2 x3 hgr HF HWH HTB
    go_wp2_with fail
    refine HGC.out.mono ?_
    rintro e w7 ⟨hb7, C1, k1, C2, k2, rfl, hg1, hg2⟩
    simp only at hg1 hg2
    have hw8 : Below w7.heap.size w7 (w7.alloc (.cells #[.slice C1 gs.length k1, .slice C2 gn.length k2] 38)) := (Below.refl _ w7).alloc (Nat.le_refl _) _
    have hb68 := hb7.trans (hw8.mono hb7.size)
    have HB8 := Lib.hid (HB6.out.trans (hb68.mono HB6.out.size))
    have hfb := HFB.out.below hb68
    have HFB8 := Lib.hid hfb
    have HGB8 := Lib.hid (Blk.new w7 #[.slice C1 gs.length k1, .slice C2 gn.length k2] 38)
    obtain ⟨f0, f1⟩ := blk2 hfb
    have HF8 := Lib.hid (HF2.out.below hb68)
    have HG8 := Lib.hid (hg2.below hw8)
    have hcf1 := HF1.out.bytes
    have hmf1 := HF1.out.max
    have hcf2 := HF2.out.cap
    have hmf2 := HF2.out.max
    have hcg2 := hg2.cap
    unfold maxLen at hmf1 hmf2
    clear hb7 hg1 hg2 hw8 hb68 hfb HFB HF1 HF2 y0 y1 y2 y3 HGC
    by_cases hzz : hz = 0
    · subst hzz
      obtain ⟨o, he0, hgs, hgn⟩ : ∃ o, ez = 0 ∧ gs = o :: fs.map shS ∧ gn = fn.map shN := HDEEP.out rfl
      subst he0 hgs hgn
      have hlg : (fn.map shN).length = fn.length := List.length_map ..
      have hls : (o :: fs.map shS).length = fs.length + 1 := by simp
      rw [hlg] at hcg2
      have HGB : Hid (Blk (w7.alloc (.cells #[.slice C1 (fs.length + 1) k1, .slice C2 fn.length k2] 38)) w7.heap.size #[.slice C1 (fs.length + 1) k1, .slice C2 fn.length k2] 38) := Lib.hid (Blk.new w7 _ _)
      have HG9 : Hid (Ls (fun k => k < w7.heap.size) (w7.alloc (.cells #[.slice C1 (fs.length + 1) k1, .slice C2 fn.length k2] 38)) 11 200 Nd.tr C2 k2 (fn.map shN)) := Lib.hid (by have := HG8.out; simp only [hlg, hls] at this; exact this)
      have HF9 : Hid (Ls (fun k => k < w5.heap.size) (w7.alloc (.cells #[.slice C1 (fs.length + 1) k1, .slice C2 fn.length k2] 38)) 11 200 Nd.tr A2 c2 fn) := Lib.hid (by have := HF8.out; simp only [hlg, hls] at this; exact this)
      have HFB9 : Hid (Blk (w7.alloc (.cells #[.slice C1 (fs.length + 1) k1, .slice C2 fn.length k2] 38)) w5.heap.size #[.slice A1 fs.length c1, .slice A2 fn.length c2] 38) := Lib.hid (by have := HFB8.out; simp only [hlg, hls] at this; exact this)
      have HB9 : Hid (Below w.heap.size w (w7.alloc (.cells #[.slice C1 (fs.length + 1) k1, .slice C2 fn.length k2] 38))) := Lib.hid (by have := HB8.out; simp only [hlg, hls] at this; exact this)
      rw [hlg, hls] at f0 f1
      rw [hlg, hls]
      have hw1 : IntKind.i64.wrap ((fs.length : Int) + 1) = (fs.length : Int) + 1 := by rw [IntKind.wrap_i64]; omega
      clear HG8 HF8 HFB8 HB8 HGB8 hlg hls HDEEP
      go_wp2_with fail
      go_loopg [66] fn.length (fun g i wr => ∃ (j : Nat), j + g = fn.length ∧ i = .int .i64 (j : Nat) ∧ Hid (Below (w7.alloc (.cells #[.slice C1 (fs.length + 1) k1, .slice C2 fn.length k2] 38)).heap.size (w7.alloc (.cells #[.slice C1 (fs.length + 1) k1, .slice C2 fn.length k2] 38)) wr))
      case atStart => exact ⟨0, by omega, rfl, Lib.hid (Below.refl _ _)⟩
      case round =>
        obtain ⟨j, hj, rfl, HBr⟩ := hrel
        rename World => wo
        cases gk with
        | zero =>
          have hjj : ¬ ((j : Int) < (fn.length : Int)) := by omega
          have HBE := Lib.hid (HB9.out.trans (HBr.out.mono HB9.out.size))
          go_wp2_with fail
          refine (wakes_any _).mono ?_
          rintro e w10 ⟨rfl, hb10⟩
          have HB10 := Lib.hid (HBE.out.trans (hb10.mono HBE.out.size))
          clear hb10
          go_wp2_with fail
          go_ret
          exact ⟨rfl, HB10.out⟩
        | succ g =>
          have hjj : (j : Int) < (fn.length : Int) := by omega
          obtain ⟨n, hn⟩ := get_lt (l := fn) (i := j) (by omega)
          have hm : (fn.map shN)[j]? = some (shN n) := by rw [List.getElem?_map, hn]; rfl
          obtain ⟨ad, ncs, rfl, hnt, hncel⟩ := (HF9.out.below HBr.out).elem Nd.trlen hn
          obtain ⟨bd, mcs, rfl, hmt, hmcel⟩ := (HG9.out.below HBr.out).elem Nd.trlen hm
          obtain ⟨rcs, G, gc, F, fc, rfl, n0, n1, n2, n3, n4⟩ := Nd.at_iff.1 hnt
          obtain ⟨P1, p1, D1, d1, I1, i1, rfl, _⟩ := Rs.at_iff.1 n2
          obtain ⟨rcs2, G', gc', F', fc', rfl, m0, m1, m2, m3, m4⟩ := Nd.at_iff.1 hmt
          obtain ⟨P2, p2, D2, d2, I2, i2, rfl, _⟩ := Rs.at_iff.1 m2
          have eg : (shN n).guards.length = n.guards.length := by simp [shN]
          have ea : (shN n).after.length = n.after.length := by simp [shN]
          rw [eg, ea] at hmcel
          change Cel wo (bd.add (j * 11)) ([.string (wa n.id), .int .i64 (n.scope + 1), .string n.r.id, .string n.r.type, .string n.r.cond, .slice P2 n.r.props.length p2, .slice D2 n.r.depends.length d2, .bool n.r.retain, .slice I2 n.r.inner.length i2, .slice G' n.guards.length gc', .slice F' n.after.length fc']) at hmcel
          obtain ⟨e0, e1, e2, e3, e4, e5, e6, e7, e8, e9, e10⟩ := cel11 hncel
          obtain ⟨b0, b1, b2, b3, b4, b5, b6, b7, b8, b9, b10⟩ := cel11 (hmcel.below ((Below.refl _ wo).alloc (Nat.le_refl _) (.cells #[.string n.id, .int .i64 n.scope, .string n.r.id, .string n.r.type, .string n.r.cond, .slice P1 n.r.props.length p1, .slice D1 n.r.depends.length d1, .bool n.r.retain, .slice I1 n.r.inner.length i1, .slice G n.guards.length gc, .slice F n.after.length fc] 44)))
          have hb27 : Below wo.heap.size wo ((wo.alloc (.cells #[.string n.id, .int .i64 n.scope, .string n.r.id, .string n.r.type, .string n.r.cond, .slice P1 n.r.props.length p1, .slice D1 n.r.depends.length d1, .bool n.r.retain, .slice I1 n.r.inner.length i1, .slice G n.guards.length gc, .slice F n.after.length fc] 44)).alloc (.cells #[.string (wa n.id), .int .i64 (n.scope + 1), .string n.r.id, .string n.r.type, .string n.r.cond, .slice P2 n.r.props.length p2, .slice D2 n.r.depends.length d2, .bool n.r.retain, .slice I2 n.r.inner.length i2, .slice G' n.guards.length gc', .slice F' n.after.length fc'] 44)) := ((Below.refl _ wo).alloc (Nat.le_refl _) _).alloc (by simp) _
          have HB7 := Lib.hid (HBr.out.trans (hb27.mono HBr.out.size))
          have HNB : Hid (Blk ((wo.alloc (.cells #[.string n.id, .int .i64 n.scope, .string n.r.id, .string n.r.type, .string n.r.cond, .slice P1 n.r.props.length p1, .slice D1 n.r.depends.length d1, .bool n.r.retain, .slice I1 n.r.inner.length i1, .slice G n.guards.length gc, .slice F n.after.length fc] 44)).alloc (.cells #[.string (wa n.id), .int .i64 (n.scope + 1), .string n.r.id, .string n.r.type, .string n.r.cond, .slice P2 n.r.props.length p2, .slice D2 n.r.depends.length d2, .bool n.r.retain, .slice I2 n.r.inner.length i2, .slice G' n.guards.length gc', .slice F' n.after.length fc'] 44)) wo.heap.size #[.string n.id, .int .i64 n.scope, .string n.r.id, .string n.r.type, .string n.r.cond, .slice P1 n.r.props.length p1, .slice D1 n.r.depends.length d1, .bool n.r.retain, .slice I1 n.r.inner.length i1, .slice G n.guards.length gc, .slice F n.after.length fc] 44) := Lib.hid ((Blk.new wo _ _).alloc _)
          have HMB : Hid (Blk ((wo.alloc (.cells #[.string n.id, .int .i64 n.scope, .string n.r.id, .string n.r.type, .string n.r.cond, .slice P1 n.r.props.length p1, .slice D1 n.r.depends.length d1, .bool n.r.retain, .slice I1 n.r.inner.length i1, .slice G n.guards.length gc, .slice F n.after.length fc] 44)).alloc (.cells #[.string (wa n.id), .int .i64 (n.scope + 1), .string n.r.id, .string n.r.type, .string n.r.cond, .slice P2 n.r.props.length p2, .slice D2 n.r.depends.length d2, .bool n.r.retain, .slice I2 n.r.inner.length i2, .slice G' n.guards.length gc', .slice F' n.after.length fc'] 44)) (wo.heap.size + 1) #[.string (wa n.id), .int .i64 (n.scope + 1), .string n.r.id, .string n.r.type, .string n.r.cond, .slice P2 n.r.props.length p2, .slice D2 n.r.depends.length d2, .bool n.r.retain, .slice I2 n.r.inner.length i2, .slice G' n.guards.length gc', .slice F' n.after.length fc'] 44) := Lib.hid (by
            have := Blk.new (wo.alloc (.cells #[.string n.id, .int .i64 n.scope, .string n.r.id, .string n.r.type, .string n.r.cond, .slice P1 n.r.props.length p1, .slice D1 n.r.depends.length d1, .bool n.r.retain, .slice I1 n.r.inner.length i1, .slice G n.guards.length gc, .slice F n.after.length fc] 44)) #[.string (wa n.id), .int .i64 (n.scope + 1), .string n.r.id, .string n.r.type, .string n.r.cond, .slice P2 n.r.props.length p2, .slice D2 n.r.depends.length d2, .bool n.r.retain, .slice I2 n.r.inner.length i2, .slice G' n.guards.length gc', .slice F' n.after.length fc'] 44
            rw [show (wo.alloc (.cells #[.string n.id, .int .i64 n.scope, .string n.r.id, .string n.r.type, .string n.r.cond, .slice P1 n.r.props.length p1, .slice D1 n.r.depends.length d1, .bool n.r.retain, .slice I1 n.r.inner.length i1, .slice G n.guards.length gc, .slice F n.after.length fc] 44)).heap.size = wo.heap.size + 1 by simp] at this
            exact this)
          have HG1 := Lib.hid (n3.below hb27)
          have HA1 := Lib.hid (n4.below hb27)
          have HG2 : Hid (Ls (fun k => k < w7.heap.size) ((wo.alloc (.cells #[.string n.id, .int .i64 n.scope, .string n.r.id, .string n.r.type, .string n.r.cond, .slice P1 n.r.props.length p1, .slice D1 n.r.depends.length d1, .bool n.r.retain, .slice I1 n.r.inner.length i1, .slice G n.guards.length gc, .slice F n.after.length fc] 44)).alloc (.cells #[.string (wa n.id), .int .i64 (n.scope + 1), .string n.r.id, .string n.r.type, .string n.r.cond, .slice P2 n.r.props.length p2, .slice D2 n.r.depends.length d2, .bool n.r.retain, .slice I2 n.r.inner.length i2, .slice G' n.guards.length gc', .slice F' n.after.length fc'] 44)) 2 24 Gd.tr G' gc' (n.guards.map shG)) := Lib.hid (m3.below hb27)
          have HA2 : Hid (Ss (fun k => k < w7.heap.size) ((wo.alloc (.cells #[.string n.id, .int .i64 n.scope, .string n.r.id, .string n.r.type, .string n.r.cond, .slice P1 n.r.props.length p1, .slice D1 n.r.depends.length d1, .bool n.r.retain, .slice I1 n.r.inner.length i1, .slice G n.guards.length gc, .slice F n.after.length fc] 44)).alloc (.cells #[.string (wa n.id), .int .i64 (n.scope + 1), .string n.r.id, .string n.r.type, .string n.r.cond, .slice P2 n.r.props.length p2, .slice D2 n.r.depends.length d2, .bool n.r.retain, .slice I2 n.r.inner.length i2, .slice G' n.guards.length gc', .slice F' n.after.length fc'] 44)) F' fc' (n.after.map wa)) := Lib.hid (m4.below hb27)
          obtain ⟨q0, q1⟩ := blk2 ((HGB.out.below HBr.out).alloc (.cells #[.string n.id, .int .i64 n.scope, .string n.r.id, .string n.r.type, .string n.r.cond, .slice P1 n.r.props.length p1, .slice D1 n.r.depends.length d1, .bool n.r.retain, .slice I1 n.r.inner.length i1, .slice G n.guards.length gc, .slice F n.after.length fc] 44))
          have hcat := wa_run m0
          have hscw : IntKind.i64.wrap (n.scope + 1) = n.scope + 1 := wrap_of_wf m1
          have gb := n3.bytes
          have gcp := n3.cap
          have gcp2 := m3.cap
          have ab := n4.bytes
          have acp := n4.cap
          have acp2 := m4.cap
          rw [eg] at gcp2
          rw [ea] at acp2
          clear hn hm hnt hncel hmt hmcel n0 n1 n2 n3 n4 m0 m1 m2 m3 m4 eg ea hb27
          go_wp2_with fail
          clear e0 e1 e2 e3 e4 e5 e6 e7 e8 e9 e10 b0 b1 b2 b3 b4 b5 b6 b7 b8 b9 b10 q0 q1 hcat hscw
          obtain ⟨wv, hwv⟩ : ∃ wv, wv = ((wo.alloc (.cells #[.string n.id, .int .i64 n.scope, .string n.r.id, .string n.r.type, .string n.r.cond, .slice P1 n.r.props.length p1, .slice D1 n.r.depends.length d1, .bool n.r.retain, .slice I1 n.r.inner.length i1, .slice G n.guards.length gc, .slice F n.after.length fc] 44)).alloc (.cells #[.string (wa n.id), .int .i64 (n.scope + 1), .string n.r.id, .string n.r.type, .string n.r.cond, .slice P2 n.r.props.length p2, .slice D2 n.r.depends.length d2, .bool n.r.retain, .slice I2 n.r.inner.length i2, .slice G' n.guards.length gc', .slice F' n.after.length fc'] 44)) := ⟨_, rfl⟩
          rw [← hwv] at HB7 HNB HMB HG1 HG2 HA1 HA2
          rw [← hwv]
          have hlt7 : wo.heap.size + 1 < wv.heap.size := HMB.out.lt
          clear hwv HBr
          go_loopg [111] n.guards.length (fun g i wr => ∃ (k : Nat), k + g = n.guards.length ∧ i = .int .i64 (k : Nat) ∧ Hid (Below wv.heap.size wv wr))
          case atStart => exact ⟨0, by omega, rfl, Lib.hid (Below.refl _ _)⟩
          case round =>
            obtain ⟨k, hk, rfl, HBa⟩ := hrel
            rename World => wa1
            cases gk with
            | succ g2 =>
              have hkk : (k : Int) < (n.guards.length : Int) := by omega
              obtain ⟨gd, hgd⟩ := get_lt (l := n.guards) (i := k) (by omega)
              have hgd2 : (n.guards.map shG)[k]? = some (shG gd) := by rw [List.getElem?_map, hgd]; rfl
              obtain ⟨ga, c1s, rfl, ht1, hc1⟩ := (HG1.out.below HBa.out).elem Gd.trlen hgd
              obtain ⟨ga2, c2s, rfl, ht2, hc2⟩ := (HG2.out.below HBa.out).elem Gd.trlen hgd2
              obtain ⟨rfl, _⟩ := Gd.at_iff ht1
              obtain ⟨rfl, hwf⟩ := Gd.at_iff ht2
              have hgw : IntKind.i64.wrap (gd.scope + 1) = gd.scope + 1 := wrap_of_wf hwf
              obtain ⟨v0, v1⟩ := cel2 hc1
              obtain ⟨u0, u1⟩ := cel2 hc2
              change wa1.cell? _ = some (.int .i64 (gd.scope + 1)) at u0
              change wa1.cell? _ = some (.string gd.name) at u1
              have n9 : wa1.cell? ⟨wo.heap.size, 9, none⟩ = some (.slice (some ga) n.guards.length gc) := (HNB.out.below HBa.out).cell 9 rfl
              have m9 : wa1.cell? ⟨wo.heap.size + 1, 9, none⟩ = some (.slice (some ga2) n.guards.length gc') := (HMB.out.below HBa.out).cell 9 rfl
              clear hgd hgd2 ht1 ht2 hc1 hc2 hwf
              go_wp2_with fail
              go_quiet (fail)
              go_wp2_with fail
              go_roundg g2
              case measure => omega
              case rel => exact ⟨k + 1, by omega, by go_num, Lib.hid (HBa.out.trans ((below_drewN _ _).mono HBa.out.size))⟩
            | zero =>
              have hkk : ¬ ((k : Int) < (n.guards.length : Int)) := by omega
              have n10 : wa1.cell? ⟨wo.heap.size, 10, none⟩ = some (.slice F n.after.length fc) := (HNB.out.below HBa.out).cell 10 rfl
              go_wp2_with fail
              clear n10
              go_loopg [147] n.after.length (fun g i wr => ∃ (k2 : Nat), k2 + g = n.after.length ∧ i = .int .i64 (k2 : Nat) ∧ Hid (Below wv.heap.size wv wr))
              case atStart => exact ⟨0, by omega, rfl, HBa⟩
              case round =>
                obtain ⟨k2, hk2, rfl, HBc⟩ := hrel
                rename World => wb1
                cases gk with
                | succ g3 =>
                  have hkk2 : (k2 : Int) < (n.after.length : Int) := by omega
                  obtain ⟨af, haf⟩ := get_lt (l := n.after) (i := k2) (by omega)
                  have haf2 : (n.after.map wa)[k2]? = some (wa af) := by rw [List.getElem?_map, haf]; rfl
                  obtain ⟨fa, rfl, hc1, _⟩ := (HA1.out.below HBc.out).str haf
                  obtain ⟨fa2, rfl, hc2, hs2⟩ := (HA2.out.below HBc.out).str haf2
                  have hcat := wa_run hs2
                  have n10 : wb1.cell? ⟨wo.heap.size, 10, none⟩ = some (.slice (some fa) n.after.length fc) := (HNB.out.below HBc.out).cell 10 rfl
                  have m10 : wb1.cell? ⟨wo.heap.size + 1, 10, none⟩ = some (.slice (some fa2) n.after.length fc') := (HMB.out.below HBc.out).cell 10 rfl
                  clear haf haf2
                  go_wp2_with fail
                  go_quiet (fail)
                  go_wp2_with fail
                  go_roundg g3
                  case measure => omega
                  case rel => exact ⟨k2 + 1, by omega, by go_num, Lib.hid (HBc.out.trans ((below_drewN _ _).mono HBc.out.size))⟩
                | zero =>
                  have hkk2 : ¬ ((k2 : Int) < (n.after.length : Int)) := by omega
                  have HBE := Lib.hid (HB7.out.trans (HBc.out.mono HB7.out.size))
                  go_wp2_with fail
                  go_roundg g
                  case measure => omega
                  case rel => exact ⟨j + 1, by omega, by go_num, HBE⟩
    · have hne : (hz == 0) = false := by simpa using hzz
      have hne2 : (hz != 0) = true := by simpa using hzz
      clear hzz HDEEP
      by_cases hez : ez = 0
      · subst hez
        go_wp2_with (go_at_call 6; refine (wakes_any _).mono ?_; rintro e w9 ⟨rfl, hb9⟩; have HB9 := Lib.hid (HB8.out.trans (hb9.mono HB8.out.size)); clear hb9)
        go_ret
        exact ⟨rfl, HB9.out⟩
      · have hee : (ez == 0) = false := by simpa using hez
        have hee2 : (ez != 0) = true := by simpa using hez
        clear hez
        go_wp2_with (go_at_call 6; refine (wakes_any _).mono ?_; rintro e w9 ⟨rfl, hb9⟩; have HB9 := Lib.hid (HB8.out.trans (hb9.mono HB8.out.size)); clear hb9)
        go_ret
        exact ⟨rfl, HB9.out⟩
end Go.Proofs.Ytnimfdfdpkineaa
