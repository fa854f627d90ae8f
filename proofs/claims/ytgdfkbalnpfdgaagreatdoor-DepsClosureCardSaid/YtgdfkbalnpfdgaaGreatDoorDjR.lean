/- Deps: the walker's node, holds. -/
import Derived.Test.YtgdfkbalnpfdgaaGreatDoorDjP
namespace Go.Proofs.YtgdfkbalnpfdgaaGreatDoor
open Go.RowKit Go.Maps
set_option linter.unusedVariables false
set_option linter.unusedSimpArgs false
theorem Dy.fail {Γ : Env} {W : Wh} {s : Wst} {w : World} (h : Dy Γ W s w) : True := trivial
set_option maxRecDepth 100000 in
set_option maxHeartbeats 4000000 in
theorem node_any (Γ : Env) (W : Wh) (s : Wst) (w : World) (hΓ : Γ.ok) (hF : Fxd Γ W w) (hD : Dy Γ W s w) (scope : Int) (name : ByteArray) (hn : name.size ≤ 1000000) :
 Calls Tryz.prog 78 #[.pointer (some ⟨W.wb, 0, none⟩), .int .i64 scope, .string name] w (ActO Γ W s (nodeA Γ scope name) w) := by
 have hFN := nfind_any _ W.SA W.NA W.sC W.nC Γ.sc Γ.nd scope name w hF.sc hF.nd (by have := hΓ.scl; omega) (by have := hΓ.ndl; omega) hn (fun s hs => (hΓ.par' s hs).2.2.2)
 have hne := hΓ.hon
 have hnl := hΓ.ndl
 rw [fndL_eq] at hFN
 have HNA : Hid (nodeA Γ scope name = match fndF Γ scope name with | none => .bad | some k => if Γ.on.getD k false then .hit k else .bad) := Lib.hid rfl
 have HLT : Hid (∀ k, fndF Γ scope name = some k → k < Γ.nd.length) := Lib.hid (fun k h => fndF_lt h)
 obtain ⟨o, ho⟩ : ∃ o, o = fndF Γ scope name := ⟨_, rfl⟩
 rw [← ho] at hFN HNA HLT
 have HFN := Lib.hid hFN
 have HF := Lib.hid hF
 have HD := Lib.hid hD
 obtain ⟨c0, c1, c2, c3, c4, c5⟩ := blk6 hD.wk
 obtain ⟨f0, f1⟩ := blk2 hF.fl
 clear hF hD hFN ho hΓ hn
 cases o with
 | none =>
   have HE : Hid (nodeA Γ scope name = .bad) := Lib.hid HNA.out
   clear HNA
   go_enter Tryz.func78, Tryz.ntmps78
   go_wp2_with fail
   refine HFN.out.mono ?_
   rintro e w2 ⟨rfl, hb⟩
   have HB := Lib.hid hb
   have HFA := Lib.hid (fail_any Γ W s w2 (HF.out.below hb) (HD.out.below hb) 160 (by omega))
   clear c0 c1 c2 c3 c4 c5 f0 f1 hb
   go_wp2_with fail
   refine HFA.out.mono ?_
   rintro e w3 ⟨rfl, hd, ho⟩
   have HD3 := Lib.hid hd
   have HO3 := Lib.hid ((Only.of_below HB.out W.F).trans ho (fun _ _ h => h))
   clear hd ho
   go_wp2_with fail
   go_end0
   exact ⟨rfl, s.fail 160, by rw [HE.out]; rfl, HD3.out, HO3.out⟩
 | some k =>
   have hkl := HLT.out k rfl
   obtain ⟨b, hb0⟩ := get_lt (l := Γ.on) (i := k) (by omega)
   have HGB : Hid (Γ.on.getD k false = b) := Lib.hid (by rw [List.getD_eq_getElem?_getD, hb0]; rfl)
   have HOB := Lib.hid hb0
   have hki : (0 : Int) ≤ (k : Int) ∧ (k : Int) < (Γ.on.length : Int) := by omega
   clear hb0
   cases b with
   | false =>
     have HE : Hid (nodeA Γ scope name = .bad) := Lib.hid (by rw [HNA.out]; simp only; rw [HGB.out]; rfl)
     clear HNA
     go_enter Tryz.func78, Tryz.ntmps78
     go_wp2_with fail
     refine HFN.out.mono ?_
     rintro e w2 ⟨rfl, hb⟩
     have HB := Lib.hid hb
     have hF2 := HF.out.below hb
     have hD2 := HD.out.below hb
     have HFA := Lib.hid (fail_any Γ W s w2 hF2 hD2 160 (by omega))
     obtain ⟨x0, x1, x2, x3, x4, x5⟩ := blk6 hD2.wk
     obtain ⟨ad, hEA, hec⟩ := hF2.on.at_ k (.bool false) (by simp [HOB.out])
     rw [hEA] at x2
     clear c0 c1 c2 c3 c4 c5 f0 f1 hb hF2 hD2
     go_wp2_with fail
     refine HFA.out.mono ?_
     rintro e w3 ⟨rfl, hd, ho⟩
     have HD3 := Lib.hid hd
     have HO3 := Lib.hid ((Only.of_below HB.out W.F).trans ho (fun _ _ h => h))
     clear hd ho
     go_wp2_with fail
     go_end0
     exact ⟨rfl, s.fail 160, by rw [HE.out]; rfl, HD3.out, HO3.out⟩
   | true =>
     have HE : Hid (nodeA Γ scope name = .hit k) := Lib.hid (by rw [HNA.out]; simp only; rw [HGB.out]; rfl)
     have HOK : Hid (okKey Γ (k : Int)) := Lib.hid ⟨k, rfl, hkl, HGB.out⟩
     clear HNA
     go_enter Tryz.func78, Tryz.ntmps78
     go_wp2_with fail
     refine HFN.out.mono ?_
     rintro e w2 ⟨rfl, hb⟩
     have HB := Lib.hid hb
     have hF2 := HF.out.below hb
     have hD2 := HD.out.below hb
     have HF2 := Lib.hid hF2
     have HD2 := Lib.hid hD2
     obtain ⟨x0, x1, x2, x3, x4, x5⟩ := blk6 hD2.wk
     obtain ⟨ad, hEA, hec⟩ := hF2.on.at_ k (.bool true) (by simp [HOB.out])
     rw [hEA] at x2
     obtain ⟨V, hV1, hV2, hV3, hV4⟩ := hD2.got
     have HV1 := Lib.hid hV1
     have HV2 := Lib.hid hV2
     have HV3 := Lib.hid hV3
     have HV4 := Lib.hid hV4
     have hVl : V.length < maxLen := by have := okKey_len hV1 hV2; unfold maxLen; omega
     clear c0 c1 c2 c3 c4 c5 f0 f1 hb hF2 hD2 hV1 hV2 hV3 hV4
     go_wp2_with (refine wp_put_MZ2 rfl _ _ _ rfl W.gb V rfl HV4.out hVl (k : Int) (by omega) (by omega) rfl rfl ?_; intro w3 hm3 hg3; have HM3 := Lib.hid hm3; have HG3 := Lib.hid hg3; clear hm3 hg3)
     go_end0
     have ho1 : Only (fun i => i = W.gb) w2 w3 := (Only.of_grown HG3.out).mono (fun i _ e => by injection e)
     have ho2 : Only W.F w2 w3 := ho1.mono (fun i _ e => .inr (.inl e))
     obtain ⟨n, hn1, hn2⟩ := HD2.out.seen
     refine ⟨rfl, s.hit k, by rw [HE.out]; rfl, ⟨HD2.out.wk.only ho1 (fun e => by have := HF2.out.gb; omega), ⟨_, ?_, ?_, ?_, HM3.out⟩, ⟨n, hn1, hn2.only ho1 (fun e => HF2.out.ne e.symm)⟩, HD2.out.e⟩, (Only.of_below HB.out W.F).trans ho2 (fun _ _ h => h)⟩
     ·split
      ·exact HV1.out
      ·next hnk => rw [List.nodup_append]; exact ⟨HV1.out, by simp, fun a ha b hb e => by rw [List.mem_singleton] at hb; subst hb; subst e; exact hnk ha⟩
     ·intro j hj
      split at hj
      ·exact HV2.out j hj
      ·rcases List.mem_append.1 hj with hj | hj
       ·exact HV2.out j hj
       ·rw [List.mem_singleton] at hj; subst hj; exact HOK.out
     ·show fput s.got (k : Int) true = _
      rw [HV3.out, tZ_put2]
open Go.RowKit Go.Maps
set_option linter.unusedVariables false
set_option linter.unusedSimpArgs false
theorem hold1_any (S : Nat → Prop) (g : Gv) (cs : List Value) (nm : ByteArray) (nb : Nat) (w : World) (hg : Trs.at S w g.tr cs) (hnb : Blk w nb #[.string nm] 9) :
 Calls Tryz.prog 125 (#[.agg cs.toArray] ++ #[.pointer (some ⟨nb, 0, none⟩)]) w (BoolB (bEq g.name nm) w) := by
 obtain ⟨GA, GB, gc, gd, rfl, -, -⟩ := gv_cells hg
 have hbn : Below w.heap.size w (w.alloc (.cells #[.string g.name, .bool g.unknown, .int .i8 g.v.kind, .bool g.v.bool, .int .i64 g.v.num, .string g.v.text, .slice GA g.v.list.length gc, .slice GB g.v.keys.length gd] 106)) := (Below.refl _ w).alloc (Nat.le_refl _) _
 have HB := Lib.hid hbn
 obtain ⟨e0, e1, e2, e3, e4, e5, e6, e7⟩ := blk8 (Blk.new w #[.string g.name, .bool g.unknown, .int .i8 g.v.kind, .bool g.v.bool, .int .i64 g.v.num, .string g.v.text, .slice GA g.v.list.length gc, .slice GB g.v.keys.length gd] 106)
 have n0 := blk1 (hnb.alloc (.cells #[.string g.name, .bool g.unknown, .int .i8 g.v.kind, .bool g.v.bool, .int .i64 g.v.num, .string g.v.text, .slice GA g.v.list.length gc, .slice GB g.v.keys.length gd] 106))
 have HE := Lib.hid (bEq_tl g.name nm)
 clear hg hnb hbn
 simp only [List.push_toArray, List.append_toArray, List.cons_append, List.nil_append]
 go_enter Tryz.func125, Tryz.ntmps125
 go_wp2_with fail
 go_ret
 exact ⟨by rw [← HE.out]; try rfl, HB.out⟩
theorem att1_any (S : Nat → Prop) (o : Ou) (cs : List Value) (nm : ByteArray) (nb : Nat) (w : World) (hg : Trs.at S w o.tr cs) (hnb : Blk w nb #[.string nm] 9) :
 Calls Tryz.prog 84 (#[.agg cs.toArray] ++ #[.pointer (some ⟨nb, 0, none⟩)]) w (BoolB (bEq o.name nm) w) := by
 obtain ⟨vs, rfl, -, -, hxv⟩ := Ou.at_iff.1 hg
 obtain ⟨RA, rc, rfl, -⟩ := Ex.at_iff.1 hxv
 have hbn : Below w.heap.size w (w.alloc (.cells #[.string o.name, .string o.cond, .int .i8 o.e.kind, .string o.e.text, .int .i64 o.e.num, .string o.e.name, .string o.e.attr, .slice RA o.e.l.length rc] 118)) := (Below.refl _ w).alloc (Nat.le_refl _) _
 have HB := Lib.hid hbn
 obtain ⟨e0, e1, e2, e3, e4, e5, e6, e7⟩ := blk8 (Blk.new w #[.string o.name, .string o.cond, .int .i8 o.e.kind, .string o.e.text, .int .i64 o.e.num, .string o.e.name, .string o.e.attr, .slice RA o.e.l.length rc] 118)
 have n0 := blk1 (hnb.alloc (.cells #[.string o.name, .string o.cond, .int .i8 o.e.kind, .string o.e.text, .int .i64 o.e.num, .string o.e.name, .string o.e.attr, .slice RA o.e.l.length rc] 118))
 have HE := Lib.hid (bEq_tl o.name nm)
 clear hg hnb hbn hxv
 simp only [List.push_toArray, List.append_toArray, List.cons_append, List.nil_append]
 go_enter Tryz.func84, Tryz.ntmps84
 go_wp2_with fail
 go_ret
 exact ⟨by rw [← HE.out]; try rfl, HB.out⟩
set_option maxRecDepth 100000 in
theorem ref1_any (S : Nat → Prop) (p : Pm) (cs : List Value) (x : Ex) (a : Addr) (XA : Option Addr) (xc : Nat) (nb : Nat) (w : World) (hg : Trs.at S w p.tr cs) (hnb : Blk w nb #[.pointer (some a)] 94) (hx : Cel w a [.int .i8 x.kind, .string x.text, .int .i64 x.num, .string x.name, .string x.attr, .slice XA x.l.length xc]) :
 Calls Tryz.prog 77 (#[.agg cs.toArray] ++ #[.pointer (some ⟨nb, 0, none⟩)]) w (BoolB (bEq p.name x.name) w) := by
 obtain ⟨A1, B1, A2, c1, d1, c2, rfl⟩ := pm_cells hg
 have hbn : Below w.heap.size w (w.alloc (.cells #[.string p.name, .bool p.number, .bool p.has, .int .i8 p.dflt.kind, .bool p.dflt.bool, .int .i64 p.dflt.num, .string p.dflt.text, .slice A1 p.dflt.list.length c1, .slice B1 p.dflt.keys.length d1, .slice A2 p.allowed.length c2] 138)) := (Below.refl _ w).alloc (Nat.le_refl _) _
 have HB := Lib.hid hbn
 obtain ⟨a0, a1, a2, a3, a4, a5, a6, a7, a8, a9⟩ := blk10 (Blk.new w #[.string p.name, .bool p.number, .bool p.has, .int .i8 p.dflt.kind, .bool p.dflt.bool, .int .i64 p.dflt.num, .string p.dflt.text, .slice A1 p.dflt.list.length c1, .slice B1 p.dflt.keys.length d1, .slice A2 p.allowed.length c2] 138)
 have n0 := blk1 (hnb.alloc (.cells #[.string p.name, .bool p.number, .bool p.has, .int .i8 p.dflt.kind, .bool p.dflt.bool, .int .i64 p.dflt.num, .string p.dflt.text, .slice A1 p.dflt.list.length c1, .slice B1 p.dflt.keys.length d1, .slice A2 p.allowed.length c2] 138))
 obtain ⟨x0, x1, x2, x3, x4, x5⟩ := cel6 (hx.below hbn)
 have HE := Lib.hid (bEq_tl p.name x.name)
 clear hg hnb hbn hx
 simp only [List.push_toArray, List.append_toArray, List.cons_append, List.nil_append]
 go_enter Tryz.func77, Tryz.ntmps77
 go_wp2_with fail
 go_quiet (fail)
 go_wp2_with fail
 go_ret
 exact ⟨by rw [← HE.out]; try rfl, HB.out.trans ((below_drewN _ _).mono HB.out.size)⟩
set_option maxRecDepth 100000 in
theorem ref2_any (S : Nat → Prop) (r : Pr) (cs : List Value) (x : Ex) (a : Addr) (XA : Option Addr) (xc : Nat) (nb : Nat) (w : World) (hg : Trs.at S w r.tr cs) (hnb : Blk w nb #[.pointer (some a)] 94) (hx : Cel w a [.int .i8 x.kind, .string x.text, .int .i64 x.num, .string x.name, .string x.attr, .slice XA x.l.length xc]) :
 Calls Tryz.prog 80 (#[.agg cs.toArray] ++ #[.pointer (some ⟨nb, 0, none⟩)]) w (BoolB (bEq r.name x.name) w) := by
 obtain ⟨vs, rfl, -, hxv⟩ := Pr.at_iff.1 hg
 obtain ⟨RA, rc, rfl, -⟩ := Ex.at_iff.1 hxv
 have hbn : Below w.heap.size w (w.alloc (.cells #[.string r.name, .int .i8 r.e.kind, .string r.e.text, .int .i64 r.e.num, .string r.e.name, .string r.e.attr, .slice RA r.e.l.length rc] 96)) := (Below.refl _ w).alloc (Nat.le_refl _) _
 have HB := Lib.hid hbn
 obtain ⟨a0, a1, a2, a3, a4, a5, a6⟩ := blk7 (Blk.new w #[.string r.name, .int .i8 r.e.kind, .string r.e.text, .int .i64 r.e.num, .string r.e.name, .string r.e.attr, .slice RA r.e.l.length rc] 96)
 have n0 := blk1 (hnb.alloc (.cells #[.string r.name, .int .i8 r.e.kind, .string r.e.text, .int .i64 r.e.num, .string r.e.name, .string r.e.attr, .slice RA r.e.l.length rc] 96))
 obtain ⟨x0, x1, x2, x3, x4, x5⟩ := cel6 (hx.below hbn)
 have HE := Lib.hid (bEq_tl r.name x.name)
 clear hg hnb hbn hx hxv
 simp only [List.push_toArray, List.append_toArray, List.cons_append, List.nil_append]
 go_enter Tryz.func80, Tryz.ntmps80
 go_wp2_with fail
 go_quiet (fail)
 go_wp2_with fail
 go_ret
 exact ⟨by rw [← HE.out]; try rfl, HB.out.trans ((below_drewN _ _).mono HB.out.size)⟩
theorem yes_find (r : List (ByteArray × Bool)) (nm : ByteArray) : (r.map yesG).findIdx? (fun g => bEq g.name nm) = r.findIdx? (fun x => bEq x.1 nm) := by
 rw [List.findIdx?_map]; rfl
set_option maxRecDepth 100000 in
set_option maxHeartbeats 4000000 in
theorem holds_any (Γ : Env) (W : Wh) (s : Wst) (w : World) (hΓ : Γ.ok) (hF : Fxd Γ W w) (hD : Dy Γ W s w) (scope : Nat) (hsc : scope < Γ.sc.length) (name : ByteArray) :
 Calls Tryz.prog 86 #[.pointer (some ⟨W.wb, 0, none⟩), .int .i64 (scope : Int), .string name] w fun e w' => e = .returned (.tuple #[.bool (holdF Γ scope name).1, .bool (holdF Γ scope name).2]) ∧ Below w.heap.size w w' := by
 obtain ⟨r, hr⟩ := get_lt (l := Γ.O) (i := scope) (by rw [hΓ.hO]; exact hsc)
 have hHF : holdF Γ scope name = match r.find? (fun x => bEq x.1 name) with | none => (bEq name ByteArray.empty, false) | some x => (x.2, true) := by
  unfold holdF; rw [List.getD_eq_getElem?_getD, hr]; rfl
 have hbn : Below w.heap.size w (w.alloc (.cells #[.string name] 9)) := (Below.refl _ w).alloc (Nat.le_refl _) _
 obtain ⟨c0, c1, c2, c3, c4, c5⟩ := blk6 (hD.below hbn).wk
 have hnb := Blk.new w #[.string name] 9
 have m0 := blk1 hnb
 obtain ⟨xs, hx1, hx2, hx3⟩ := hF.cs
 obtain ⟨RA, rc, hxs, hls⟩ := cg_elem hx3 hr
 obtain ⟨ad, hCA, hcc0⟩ := hx1.at_ scope _ hxs
 have hcc := (hbn.cell (World.block_lt_of_cell? w _ hcc0)).trans hcc0
 rw [hCA] at c1
 have hsi : (0 : Int) ≤ (scope : Int) ∧ (scope : Int) < (Γ.O.length : Int) := by rw [hΓ.hO]; omega
 have hml : (r.map yesG).length = r.length := by simp
 have hrl := hΓ.orl r (List.mem_of_getElem? hr)
 have HIX := Lib.hid (igvi_any _ 125 #[.pointer (some ⟨w.heap.size, 0, none⟩)] (fun g => bEq g.name name) RA rc (r.map yesG) _ (hls.below hbn) (by rw [hml]; exact hrl) (callFunc_go Tryz.func125 rfl rfl)
  (fun x hx cs w' hb ht => hold1_any _ x cs name _ w' ht (hnb.below hb)))
 have hrcap := hls.cap
 rw [hml] at HIX hrcap
 have HLS := Lib.hid (hls.below hbn)
 have HB := Lib.hid hbn
 have HF := Lib.hid hF
 have HD := Lib.hid hD
 have HHF := Lib.hid hHF
 have HCC := Lib.hid hcc
 have HNB := Lib.hid hnb
 have HTE := Lib.hid (bEq_tl name ByteArray.empty)
 cases hfi : r.findIdx? (fun x => bEq x.1 name) with
 | none =>
   have h2 := fIdx_none (l := r.map yesG) (p := fun g => bEq g.name name) (by rw [yes_find]; exact hfi)
   have h3 := fIdx_none hfi
   rw [h2.2] at HIX
   have HE : Hid (holdF Γ scope name = (bEq name ByteArray.empty, false)) := Lib.hid (by rw [HHF.out, h3.1])
   clear hr hHF hbn hF hD hx1 hx2 hx3 hxs hls hcc0 hml hnb h2 h3 hfi HHF hΓ hsc
   go_enter Tryz.func86, Tryz.ntmps86
   go_wp2_with fail
   refine HIX.out.mono ?_
   rintro e w2 ⟨rfl, hb2⟩
   have HB2 := Lib.hid (HB.out.trans (hb2.mono HB.out.size))
   have m2 := blk1 (HNB.out.below hb2)
   clear c0 c1 c2 c3 c4 c5 m0 hcc hb2
   go_wp2_with fail
   refine bodyPost_ret (v := .tuple #[.bool (name.toList == ByteArray.empty.toList), .bool false]) (by simp [results, Tryz.results86, go_sem]) rfl ?_
   rw [HE.out, HTE.out]
   exact ⟨rfl, HB2.out⟩
 | some k =>
   have h2 := fIdx_some (l := r.map yesG) (p := fun g => bEq g.name name) (by rw [yes_find]; exact hfi)
   have h3 := fIdx_some hfi
   rw [h2.2.2] at HIX
   obtain ⟨y, hy⟩ := get_lt (l := r) (i := k) h3.1
   have HE : Hid (holdF Γ scope name = (y.2, true)) := Lib.hid (by rw [HHF.out, h3.2.1, hy])
   have HY : Hid ((r.map yesG)[k]? = some (yesG y)) := Lib.hid (by simp [hy])
   have hki : (0 : Int) ≤ (k : Int) ∧ (k : Int) < (r.length : Int) := by have := h3.1; omega
   have hk0 : ¬ ((k : Int) < 0) := by omega
   have HOW : Hid (Γ.O.length = Γ.sc.length) := Lib.hid hΓ.hO
   clear hr hHF hbn hF hD hx1 hx2 hx3 hxs hls hcc0 hml hnb h2 h3 hfi HHF hΓ hsc hy
   go_enter Tryz.func86, Tryz.ntmps86
   go_wp2_with fail
   refine HIX.out.mono ?_
   rintro e w2 ⟨rfl, hb2⟩
   have hbb := HB.out.trans (hb2.mono HB.out.size)
   have HB2 := Lib.hid hbb
   have m2 := blk1 (HNB.out.below hb2)
   have hcc2 := (hb2.cell (World.block_lt_of_cell? _ _ HCC.out)).trans HCC.out
   obtain ⟨adR, cs, hRA, hxt, hxc⟩ := (HLS.out.below hb2).elem Gv.trlen HY.out
   subst hRA
   obtain ⟨GA, GB, gc, gd, rfl, hxz⟩ := yg_form hxt
   obtain ⟨d0, d1, d2, d3, d4, d5, d6, d7⟩ := cel8 hxc
   obtain ⟨x0, x1, x2, x3, x4, x5⟩ := blk6 (HD.out.below hbb).wk
   rw [hCA] at x1
   clear c0 c1 c2 c3 c4 c5 m0 hcc hb2 hbb hxt hxc hxz
   go_wp2_with fail
   refine bodyPost_ret (v := .tuple #[.bool y.2, .bool true]) (by simp [results, Tryz.results86, go_sem]) rfl ?_
   rw [HE.out]
   exact ⟨rfl, HB2.out⟩
open Go.RowKit Go.Maps
set_option linter.unusedVariables false
set_option linter.unusedSimpArgs false
def EntC (Γ : Env) (W : Wh) (s : Wst) : Prop := ∀ (p : Pk) (sc : Nat) (x : Ex) (a : Addr) (cs : List Value) (w : World), p ∈ places 0 Γ.sc → (Lit.int .i64 p.scope).wf = true → p.name.size ≤ 140737488351232 → sc < Γ.sc.length → exOk x → Fxd Γ W w → Dy Γ W s w → Cel w a cs → Trs.at (fun k => k < W.wb) w x.tr cs → a.block < W.wb →
 Calls Tryz.prog 81 #[.pointer (some ⟨W.wb, 0, none⟩), .agg #[.bool p.out, .int .i64 p.scope, .string p.name], .int .i64 (sc : Int), .pointer (some a)] w (StepO Γ W s (.ent p sc x) w)
def ExC (Γ : Env) (W : Wh) (u : Nat) (x : Ex) : Prop := ∀ (s : Wst) (sc : Nat) (a : Addr) (cs : List Value) (w : World), wgt Γ s ≤ u → sc < Γ.sc.length → exOk x → Fxd Γ W w → Dy Γ W s w → Cel w a cs → Trs.at (fun k => k < W.wb) w x.tr cs → a.block < W.wb →
 Calls Tryz.prog 50 #[.pointer (some ⟨W.wb, 0, none⟩), .int .i64 (sc : Int), .pointer (some a)] w (StepO Γ W s (.ex sc x) w)
theorem Only.F {W : Wh} {w w1 w2 : World} (h : Only W.F w w1) (k : Only W.F w1 w2) : Only W.F w w2 := h.trans k (fun _ _ h => h)
theorem Dy.lts {Γ : Env} {W : Wh} {s : Wst} {w : World} (h : Dy Γ W s w) : ∀ k, W.F k → k < w.heap.size := fun k hk => by
 obtain ⟨V, _, _, _, h4⟩ := h.got
 obtain ⟨n, _, h6⟩ := h.seen
 rcases hk with rfl | rfl | rfl
 ·exact h.wk.lt
 ·exact h4.lt
 ·exact h6.lt
theorem Dy.mark {Γ : Env} {W : Wh} {s : Wst} {w w' : World} (h : Dy Γ W s w) (hF : Fxd Γ W w) {p : Pk} {n y : Nat} (hn : n + wgt Γ s ≤ 2 * (places 0 Γ.sc).length) (hm : MPk w' W.sb (n + 1) (fun q => if q = p then y else s.seen q)) (hg : w.grownBy w' (some W.sb)) (hp : p ∈ places 0 Γ.sc) (h0 : s.seen p < y) (hy : y ≤ 2) : Dy Γ W (s.mark p y) w' ∧ Only W.F w w' := by
 have ho1 : Only (fun i => i = W.sb) w w' := (Only.of_grown hg).mono (fun i _ e => by injection e)
 obtain ⟨V, h1, h2, h3, h4⟩ := h.got
 have hw := wgt_mark (Γ := Γ) hp h0 hy
 exact ⟨⟨h.wk.only ho1 (fun e => by have := hF.sb; omega), ⟨V, h1, h2, h3, h4.only ho1 hF.ne⟩, ⟨n + 1, by omega, hm⟩, h.e⟩, ho1.mono (fun i _ e => .inr (.inr e))⟩
set_option maxRecDepth 100000 in
set_option maxHeartbeats 8000000 in
theorem enter_any (Γ : Env) (W : Wh) (s : Wst) (hΓ : Γ.ok) (hI : ∀ u, u < wgt Γ s → ∀ x, ExC Γ W u x) : EntC Γ W s := by
 intro p sc x a cs w hp hwf hns hsc hx hF hD hC hT hab
 obtain ⟨W1, hW1⟩ : ∃ W1, W1 = w.alloc (.cells #[.bool p.out, .int .i64 p.scope, .string p.name] 174) := ⟨_, rfl⟩
 have hb1 : Below w.heap.size w W1 := by rw [hW1]; exact (Below.refl _ w).alloc (Nat.le_refl _) _
 have hpb : Blk W1 w.heap.size #[.bool p.out, .int .i64 p.scope, .string p.name] 174 := by rw [hW1]; exact Blk.new w _ _
 obtain ⟨c0, c1, c2, c3, c4, c5⟩ := blk6 (hD.below hb1).wk
 obtain ⟨p0, p1, p2⟩ := blk3 hpb
 obtain ⟨n, hn, hm⟩ := hD.seen
 have hnm : p.name.size ≤ maxLen := Nat.le_trans hns (by unfold maxLen; omega)
 have hlk := fun j => ((hm.below hb1).below (below_drewN W1 j)).look hwf hnm
 have HB1 := Lib.hid hb1
 have HPB := Lib.hid hpb
 have HF := Lib.hid hF
 have HD := Lib.hid hD
 have HC := Lib.hid hC
 have HT := Lib.hid hT
 have HI := Lib.hid hI
 have HX := Lib.hid hx
 have HP := Lib.hid hp
 have HN := Lib.hid hn
 have HM := Lib.hid hm
 have HWF := Lib.hid hwf
 have HNM := Lib.hid hnm
 have HW1 := Lib.hid hW1
 have HPL := Lib.hid hΓ.pl
 clear hb1 hpb hF hD hC hT hI hx hp hn hm hwf hnm hW1 hΓ hns
 by_cases h1 : s.seen p = 1
 ·rw [h1] at hlk
  have HS := Lib.hid h1
  clear h1
  go_enter Tryz.func81, Tryz.ntmps81
  go_upto_region 1 with fail
  rw [← HW1.out]
  go_quiet (fail)
  have hb2 := HB1.out.trans ((below_drewN W1 nq).mono HB1.out.size)
  generalize W1.drewN nq = w2 at hb2 ⊢
  have HB2 := Lib.hid hb2
  have HFA := Lib.hid (fail_any Γ W s w2 (HF.out.below hb2) (HD.out.below hb2) 200 (by omega))
  clear hb2 hlk c0 c1 c2 c3 c4 c5 p0 p1 p2
  go_wp2_with fail
  refine HFA.out.mono ?_
  rintro e w3 ⟨rfl, hd, ho⟩
  have HD3 := Lib.hid hd
  have HO3 := Lib.hid ((Only.of_below HB2.out W.F).F ho)
  clear hd ho
  go_wp2_with fail
  go_end0
  exact ⟨rfl, s.fail 200, .cyc HS.out, HD3.out, HO3.out⟩
 by_cases h0 : s.seen p = 0
 ·rw [h0] at hlk
  have HS := Lib.hid h0
  clear h0 h1
  go_enter Tryz.func81, Tryz.ntmps81
  go_upto_region 1 with fail
  rw [← HW1.out]
  go_quiet (fail)
  have hb2 := HB1.out.trans ((below_drewN W1 nq).mono HB1.out.size)
  have hbp := HPB.out.below (below_drewN W1 nq)
  generalize W1.drewN nq = w2 at hb2 hbp ⊢
  have HB2 := Lib.hid hb2
  have HBP := Lib.hid hbp
  obtain ⟨x0, x1, x2, x3, x4, x5⟩ := blk6 (HD.out.below hb2).wk
  obtain ⟨q0, q1, q2⟩ := blk3 hbp
  clear hb2 hbp hlk c0 c1 c2 c3 c4 c5 p0 p1 p2
  go_upto_region 5 with fail
  go_still_tail 5, (by kernel_rfl)
  change wpList _ _ _ _ _ w2.drew
  have hb3 := HB2.out.drew
  have hbp3 := HBP.out.drew
  generalize w2.drew = w3 at hb3 hbp3 ⊢
  have HB3 := Lib.hid hb3
  have HBP3 := Lib.hid hbp3
  have HM3 := Lib.hid (HM.out.below hb3)
  have hn1 : n < maxLen := by have := HN.out; have := HPL.out; unfold maxLen; omega
  clear hb3 hbp3 x0 x1 x2 x3 x4 x5 q0 q1 q2
  go_upto_region 6 with (refine wp_put_MPk rfl _ _ _ rfl W.sb n s.seen rfl HM3.out hn1 p HWF.out HNM.out rfl 1 (by decide) rfl ?_; intro w4 hm4 hg4; have HM4 := Lib.hid hm4; have HG4 := Lib.hid hg4; clear hm4 hg4)
  have hF3 := HF.out.below HB3.out
  obtain ⟨hd4, ho4⟩ := (HD.out.below HB3.out).mark hF3 HN.out HM4.out HG4.out HP.out (by rw [HS.out]; omega) (by omega)
  have hF4 := hF3.step ho4
  have hw4 : wgt Γ (s.mark p 1) < wgt Γ s := wgt_mark HP.out (by rw [HS.out]; omega) (by omega)
  have ho04 := (Only.of_below HB3.out W.F).F ho4
  have hlow := fun k hk => HF.out.lo k hk
  have hab2 : ¬ W.F a.block := fun h => by have := hlow _ h; omega
  have HEX := Lib.hid (HI.out _ hw4 x (s.mark p 1) sc a cs w4 (Nat.le_refl _) hsc HX.out hF4 hd4 (HC.out.only ho04 hab2) (HT.out.only ho04 (fun k hk hf => by have := hlow _ hf; omega)) hab)
  have HO4 := Lib.hid ho04
  have hbp4 := HBP3.out.only ho4 (fun h => by have := HD.out.lts _ h; omega)
  have HBP4 := Lib.hid hbp4
  have HF4 := Lib.hid hF4
  clear hF3 hd4 ho4 hF4 hw4 ho04 hlow hab2 hbp4 hn1
  go_wp2_with fail
  refine HEX.out.mono ?_
  rintro e w5 ⟨rfl, s2, hwk, hd5, ho5⟩
  have HWK := Lib.hid hwk
  have HD5 := Lib.hid hd5
  have HO5 := Lib.hid (HO4.out.F ho5)
  have HF5 := Lib.hid (HF4.out.step ho5)
  have hbp5 := HBP4.out.only ho5 (fun h => by have := HD.out.lts _ h; omega)
  have HBP5 := Lib.hid hbp5
  obtain ⟨x0, x1, x2, x3, x4, x5⟩ := blk6 hd5.wk
  obtain ⟨q0, q1, q2⟩ := blk3 hbp5
  clear hwk hd5 ho5 hbp5
  go_upto_region 7 with fail
  go_still_tail 5, (by kernel_rfl)
  change wpList _ _ _ _ _ w5.drew
  have hb6 : Below w5.heap.size w5 w5.drew := (Below.refl _ w5).drew
  generalize w5.drew = w6 at hb6 ⊢
  have hd6 := HD5.out.below hb6
  obtain ⟨n2, hn2, hm6⟩ := hd6.seen
  have HB6 := Lib.hid hb6
  have HD6 := Lib.hid hd6
  have HN2 := Lib.hid hn2
  have HM6 := Lib.hid hm6
  have hn1 : n2 < maxLen := by have := HPL.out; unfold maxLen; omega
  clear hb6 hd6 hn2 hm6 x0 x1 x2 x3 x4 x5 q0 q1 q2
  go_wp2_with (refine wp_put_MPk rfl _ _ _ rfl W.sb n2 s2.seen rfl HM6.out hn1 p HWF.out HNM.out rfl 2 (by decide) rfl ?_; intro w7 hm7 hg7; have HM7 := Lib.hid hm7; have HG7 := Lib.hid hg7; clear hm7 hg7)
  go_end0
  have hs1 : s2.seen p = 1 := by
   have h1 : (s.mark p 1).seen p = 1 := by simp [Wst.mark]
   rw [HWK.out.keep p (by rw [h1]; decide), h1]
  obtain ⟨hd7, ho7⟩ := HD6.out.mark (HF5.out.below HB6.out) HN2.out HM7.out HG7.out HP.out (y := 2) (by rw [hs1]; omega) (by omega)
  exact ⟨rfl, s2.mark p 2, .ent HS.out HWK.out, hd7, (HO5.out.F (Only.of_below HB6.out W.F)).F ho7⟩
 ·have e1 : ((s.seen p : Int) == 1) = false := by simpa using fun h => h1 (by omega)
  have e0 : ((s.seen p : Int) == 0) = false := by simpa using fun h => h0 (by omega)
  have HS := Lib.hid h0
  have HS1 := Lib.hid h1
  clear h0 h1
  go_enter Tryz.func81, Tryz.ntmps81
  go_upto_region 1 with fail
  rw [← HW1.out]
  go_quiet (fail)
  have hb2 := HB1.out.trans ((below_drewN W1 nq).mono HB1.out.size)
  generalize W1.drewN nq = w2 at hb2 ⊢
  have HB2 := Lib.hid hb2
  clear hb2 hlk c0 c1 c2 c3 c4 c5 p0 p1 p2
  go_wp2_with fail
  go_end0
  exact ⟨rfl, s, .done HS.out HS1.out, HD.out.below HB2.out, Only.of_below HB2.out _⟩
open Go.RowKit Go.Maps
set_option linter.unusedVariables false
set_option linter.unusedSimpArgs false
theorem exOk.sub {x y : Ex} (h : exOk x) (hy : y ∈ x.l) : exOk y := by cases h with | mk _ _ _ h4 => exact h4 y hy
theorem exOk.nm {x : Ex} (h : exOk x) : x.name.size ≤ 1000000 ∧ x.attr.size ≤ 1000000 ∧ x.l.length ≤ 1000000 := by cases h with | mk h1 h2 h3 _ => exact ⟨h1, h2, h3⟩
theorem addr_blk (a : Addr) (n : Nat) : (a.add n).block = a.block := by unfold Addr.add; split <;> rfl
theorem Cel.tail {w : World} {a : Addr} {u : Value} {cs : List Value} (h : Cel w a (u :: cs)) : Cel w ⟨a.block, a.off + 1, none⟩ cs := fun j v hv => by
 have h1 := h (j + 1) v (by simpa using hv)
 rw [if_neg (by omega)] at h1
 split
 ·next e => subst e; exact h1
 ·rw [show a.off + 1 + j = a.off + (j + 1) by omega]; exact h1
theorem Wk.app {Γ : Env} {sc : Nat} : ∀ {l m : List Ex} {s s1 s2 : Wst}, Wk Γ s (.exs sc l) s1 → Wk Γ s1 (.exs sc m) s2 → Wk Γ s (.exs sc (l ++ m)) s2
 | [], m, s, s1, s2, h1, h2 => by cases h1; exact h2
 | x :: l, m, s, s1, s2, h1, h2 => by cases h1 with | cons a b => exact .cons a (Wk.app b h2)
theorem wgt_step {Γ : Env} {s s' : Wst} {t : Tk} (h : Wk Γ s t s') {u : Nat} (hu : wgt Γ s ≤ u) : wgt Γ s' ≤ u := Nat.le_trans (wgt_le h) hu
set_option maxRecDepth 100000 in
set_option maxHeartbeats 4000000 in
theorem wparts_any (Γ : Env) (W : Wh) (u : Nat) (s : Wst) (sc : Nat) (x : Ex) (a : Addr) (cs : List Value) (w : World) (hI : ∀ y ∈ x.l, ExC Γ W u y) (hu : wgt Γ s ≤ u) (hsc : sc < Γ.sc.length) (hx : exOk x) (hF : Fxd Γ W w) (hD : Dy Γ W s w) (hC : Cel w a cs) (hT : Trs.at (fun k => k < W.wb) w x.tr cs) (hab : a.block < W.wb) :
 Calls Tryz.prog 64 #[.pointer (some ⟨W.wb, 0, none⟩), .int .i64 (sc : Int), .pointer (some a)] w (StepO Γ W s (.exs sc x.l) w) := by
 obtain ⟨XA, xc, rfl, hsz1, hsz2, hsz3, hsz4, hsz5, hxl⟩ := Ex.at_iff.1 hT
 obtain ⟨x0, x1, x2, x3, x4, x5⟩ := cel6 hC
 have hcap := hxl.cap
 have hmax := hxl.max
 unfold maxLen at hmax
 have hln := hx.nm.2.2
 have HI := Lib.hid hI
 have HX := Lib.hid hx
 have HF := Lib.hid hF
 have HD := Lib.hid hD
 have HC := Lib.hid hC
 have HXL := Lib.hid hxl
 clear hI hx hF hD hC hT hxl hsz1 hsz2 hsz3 hsz4 hsz5
 go_enter Tryz.func64, Tryz.ntmps64
 go_wp2_with fail
 clear x0 x1 x2 x3 x4 x5
 go_loopg [12] x.l.length (fun g i wr => ∃ (j : Nat) (s2 : Wst), j + g = x.l.length ∧ i = .int .i64 (j : Nat) ∧ Hid (Wk Γ s (.exs sc (x.l.take j)) s2) ∧ Hid (Dy Γ W s2 wr) ∧ Hid (Only W.F w wr))
 case atStart => exact ⟨0, s, by omega, rfl, Lib.hid (by simpa using Wk.nil), HD, Lib.hid (Only.refl _ _)⟩
 case round =>
  obtain ⟨j, s2, hj, rfl, HK, HD2, HO⟩ := hrel
  rename World => wo
  cases gk with
  | zero =>
    have hjj : ¬ ((j : Int) < (x.l.length : Int)) := by omega
    have HK2 : Hid (Wk Γ s (.exs sc x.l) s2) := Lib.hid (by have := HK.out; rwa [List.take_of_length_le (by omega)] at this)
    go_wp2_with fail
    go_end0
    exact ⟨rfl, s2, HK2.out, HD2.out, HO.out⟩
  | succ g =>
    have hjj : (j : Int) < (x.l.length : Int) := by omega
    have hji : (0 : Int) ≤ (j : Int) ∧ (j : Int) < (x.l.length : Int) := by omega
    obtain ⟨y, hy⟩ := get_lt (l := x.l) (i := j) (by omega)
    have hlow := fun k hk => HF.out.lo k hk
    have hC2 := HC.out.only HO.out (fun h => by have := hlow _ h; omega)
    have hxl2 := HXL.out.only HO.out (fun k hk hf => by have := hlow _ hf; omega)
    obtain ⟨x0, x1, x2, x3, x4, x5⟩ := cel6 hC2
    obtain ⟨ad, ys, hXA, hyt, hyc⟩ := hxl2.elem Ex.trlen hy
    have hadb : ad.block < W.wb := hxl2.blk ad hXA (by omega)
    subst hXA
    have HTK : Hid (x.l.take (j + 1) = x.l.take j ++ [y]) := Lib.hid (by rw [List.take_add_one, hy]; rfl)
    have HEX := Lib.hid (HI.out y (List.mem_of_getElem? hy) s2 sc (ad.add (j * 6)) ys wo (wgt_step HK.out hu) hsc (HX.out.sub (List.mem_of_getElem? hy)) (HF.out.step HO.out) HD2.out hyc hyt (by rw [addr_blk]; exact hadb))
    clear hy hlow hC2 hxl2 hyt hyc
    go_wp2_with fail
    refine HEX.out.mono ?_
    rintro e w3 ⟨rfl, s3, hwk, hd3, ho3⟩
    have HK3 : Hid (Wk Γ s (.exs sc (x.l.take (j + 1))) s3) := Lib.hid (by rw [HTK.out]; exact HK.out.app (.cons hwk .nil))
    have HD3 := Lib.hid hd3
    have HO3 := Lib.hid (HO.out.F ho3)
    clear hwk hd3 ho3 x0 x1 x2 x3 x4 x5
    go_wp2_with fail
    go_roundg g
    case measure => omega
    case rel => exact ⟨j + 1, s3, by omega, by go_num, HK3, HD3, HO3⟩
set_option maxRecDepth 100000 in
set_option maxHeartbeats 4000000 in
theorem choose_any (Γ : Env) (W : Wh) (u : Nat) (s : Wst) (sc : Nat) (x : Ex) (a : Addr) (cs : List Value) (w : World) (hΓ : Γ.ok) (hI : ∀ y ∈ x.l, ExC Γ W u y) (hu : wgt Γ s ≤ u) (hsc : sc < Γ.sc.length) (hx : exOk x) (hF : Fxd Γ W w) (hD : Dy Γ W s w) (hC : Cel w a cs) (hT : Trs.at (fun k => k < W.wb) w x.tr cs) (hab : a.block < W.wb) :
 Calls Tryz.prog 63 #[.pointer (some ⟨W.wb, 0, none⟩), .int .i64 (sc : Int), .pointer (some a)] w (ActO Γ W s (ifA Γ sc x) w) := by
 obtain ⟨XA, xc, rfl, hsz1, hsz2, hsz3, hsz4, hsz5, hxl⟩ := Ex.at_iff.1 hT
 obtain ⟨x0, x1, x2, x3, x4, x5⟩ := cel6 hC
 have hcap := hxl.cap
 have hmax := hxl.max
 unfold maxLen at hmax
 have HHO := Lib.hid (holds_any Γ W s w hΓ hF hD sc hsc x.name)
 have HIF : Hid (ifA Γ sc x = if (holdF Γ sc x.name).2 = false then .bad else match x.l with | [a, b] => .task (.ex sc (if (holdF Γ sc x.name).1 then a else b)) | _ => .bad) := Lib.hid rfl
 obtain ⟨hb0, hh⟩ : ∃ hb0, hb0 = holdF Γ sc x.name := ⟨_, rfl⟩
 obtain ⟨yes, there⟩ := hb0
 rw [← hh] at HHO HIF
 simp only at HHO HIF
 have HI := Lib.hid hI
 have HX := Lib.hid hx
 have HF := Lib.hid hF
 have HD := Lib.hid hD
 have HC := Lib.hid hC
 have HXL := Lib.hid hxl
 clear hI hx hF hD hC hT hxl hsz1 hsz2 hsz3 hsz4 hsz5 hh hΓ
 cases there with
 | false =>
   have HE : Hid (ifA Γ sc x = .bad) := Lib.hid (by rw [HIF.out]; rfl)
   clear HIF
   go_enter Tryz.func63, Tryz.ntmps63
   go_wp2_with fail
   refine HHO.out.mono ?_
   rintro e w2 ⟨rfl, hb⟩
   have HB := Lib.hid hb
   have HFA := Lib.hid (fail_any Γ W s w2 (HF.out.below hb) (HD.out.below hb) 160 (by omega))
   clear hb x0 x1 x2 x3 x4 x5
   go_wp2_with fail
   refine HFA.out.mono ?_
   rintro e w3 ⟨rfl, hd, ho⟩
   have HD3 := Lib.hid hd
   have HO3 := Lib.hid ((Only.of_below HB.out W.F).F ho)
   clear hd ho
   go_wp2_with fail
   go_end0
   exact ⟨rfl, s.fail 160, by rw [HE.out]; rfl, HD3.out, HO3.out⟩
 | true =>
   by_cases h2 : x.l.length = 2
   ·obtain ⟨y, z, hyz⟩ : ∃ y z, x.l = [y, z] := by
     match hh : x.l, h2 with
     | [y, z], _ => exact ⟨y, z, rfl⟩
    have HE : Hid (ifA Γ sc x = .task (.ex sc (if yes then y else z))) := Lib.hid (by rw [HIF.out, hyz]; rfl)
    have HYZ := Lib.hid hyz
    have hl2 : ((x.l.length : Int) != 2) = false := by rw [h2]; rfl
    have hi0 : (0 : Int) ≤ (0 : Int) ∧ (0 : Int) < (x.l.length : Int) := by omega
    have hi1 : (0 : Int) ≤ (1 : Int) ∧ (1 : Int) < (x.l.length : Int) := by omega
    have HL0 : Hid (0 < x.l.length) := Lib.hid (by omega)
    clear HIF hyz h2
    cases yes with
    | true =>
      go_enter Tryz.func63, Tryz.ntmps63
      go_wp2_with fail
      refine HHO.out.mono ?_
      rintro e w2 ⟨rfl, hb⟩
      have HB := Lib.hid hb
      have hxl2 := HXL.out.below hb
      obtain ⟨y0, y1, y2, y3, y4, y5⟩ := cel6 (HC.out.below hb)
      obtain ⟨ad, ys, hXA, hyt, hyc⟩ := hxl2.elem Ex.trlen (i := 0) (x := y) (by rw [HYZ.out]; rfl)
      have hadb : ad.block < W.wb := hxl2.blk ad hXA HL0.out
      subst hXA
      rw [show ad.add (0 * 6) = ad by simp [Addr.add]] at hyc
      have HEX := Lib.hid (HI.out y (by rw [HYZ.out]; simp) s sc ad ys w2 hu hsc (HX.out.sub (by rw [HYZ.out]; simp)) (HF.out.below hb) (HD.out.below hb) hyc hyt hadb)
      clear hb x0 x1 x2 x3 x4 x5 hxl2 hyt hyc
      go_wp2_with fail
      refine HEX.out.mono ?_
      rintro e w3 ⟨rfl, s3, hwk, hd3, ho3⟩
      have HK3 := Lib.hid hwk
      have HD3 := Lib.hid hd3
      have HO3 := Lib.hid ((Only.of_below HB.out W.F).F ho3)
      clear hwk hd3 ho3
      go_wp2_with fail
      go_end0
      exact ⟨rfl, s3, by rw [HE.out]; exact HK3.out, HD3.out, HO3.out⟩
    | false =>
      go_enter Tryz.func63, Tryz.ntmps63
      go_wp2_with fail
      refine HHO.out.mono ?_
      rintro e w2 ⟨rfl, hb⟩
      have HB := Lib.hid hb
      have hxl2 := HXL.out.below hb
      obtain ⟨y0, y1, y2, y3, y4, y5⟩ := cel6 (HC.out.below hb)
      obtain ⟨ad, ys, hXA, hyt, hyc⟩ := hxl2.elem Ex.trlen (i := 1) (x := z) (by rw [HYZ.out]; rfl)
      have hadb : ad.block < W.wb := hxl2.blk ad hXA HL0.out
      subst hXA
      have HEX := Lib.hid (HI.out z (by rw [HYZ.out]; simp) s sc (ad.add (1 * 6)) ys w2 hu hsc (HX.out.sub (by rw [HYZ.out]; simp)) (HF.out.below hb) (HD.out.below hb) hyc hyt (by rw [addr_blk]; exact hadb))
      clear hb x0 x1 x2 x3 x4 x5 hxl2 hyt hyc
      go_wp2_with fail
      refine HEX.out.mono ?_
      rintro e w3 ⟨rfl, s3, hwk, hd3, ho3⟩
      have HK3 := Lib.hid hwk
      have HD3 := Lib.hid hd3
      have HO3 := Lib.hid ((Only.of_below HB.out W.F).F ho3)
      clear hwk hd3 ho3
      go_wp2_with fail
      go_end0
      exact ⟨rfl, s3, by rw [HE.out]; exact HK3.out, HD3.out, HO3.out⟩
   ·have HE : Hid (ifA Γ sc x = .bad) := Lib.hid (by
     rw [HIF.out, if_neg (by decide)]
     split
     ·next e => rw [e] at h2; simp at h2
     ·rfl)
    have hl2 : ((x.l.length : Int) != 2) = true := by simpa using fun h => h2 (by omega)
    clear HIF h2
    go_enter Tryz.func63, Tryz.ntmps63
    go_wp2_with fail
    refine HHO.out.mono ?_
    rintro e w2 ⟨rfl, hb⟩
    have HB := Lib.hid hb
    obtain ⟨y0, y1, y2, y3, y4, y5⟩ := cel6 (HC.out.below hb)
    have HFA := Lib.hid (fail_any Γ W s w2 (HF.out.below hb) (HD.out.below hb) 160 (by omega))
    clear hb x0 x1 x2 x3 x4 x5
    go_wp2_with fail
    refine HFA.out.mono ?_
    rintro e w3 ⟨rfl, hd, ho⟩
    have HD3 := Lib.hid hd
    have HO3 := Lib.hid ((Only.of_below HB.out W.F).F ho)
    clear hd ho
    go_wp2_with fail
    go_end0
    exact ⟨rfl, s.fail 160, by rw [HE.out]; rfl, HD3.out, HO3.out⟩
open Go.RowKit Go.Maps
set_option linter.unusedVariables false
set_option linter.unusedSimpArgs false
theorem bEq_sym {a b : ByteArray} (h : bEq a b = true) : a = b := bEq_iff.1 h
theorem ActO.after {Γ : Env} {W : Wh} {s : Wst} {a : Ac} {w w1 w2 : World} {e : Ending} (h : ActO Γ W s a w1 e w2) (ho : Only W.F w w1) : ActO Γ W s a w e w2 := by
 obtain ⟨h1, s', h2, h3, h4⟩ := h
 exact ⟨h1, s', h2, h3, ho.F h4⟩
set_option maxRecDepth 100000 in
set_option maxHeartbeats 8000000 in
theorem ref_any (Γ : Env) (W : Wh) (s : Wst) (sc : Nat) (x : Ex) (a : Addr) (cs : List Value) (w : World) (hΓ : Γ.ok) (hEnt : EntC Γ W s) (hsc : sc < Γ.sc.length) (hx : exOk x) (hF : Fxd Γ W w) (hD : Dy Γ W s w) (hC : Cel w a cs) (hT : Trs.at (fun k => k < W.wb) w x.tr cs) (hab : a.block < W.wb) :
 Calls Tryz.prog 61 #[.pointer (some ⟨W.wb, 0, none⟩), .int .i64 (sc : Int), .pointer (some a)] w (ActO Γ W s (refA Γ sc x) w) := by
 obtain ⟨XA, xc, rfl, hsz1, hsz2, hsz3, hsz4, hsz5, hxl⟩ := Ex.at_iff.1 hT
 obtain ⟨c, hc⟩ := get_lt (l := Γ.sc) (i := sc) hsc
 have hRA : refA Γ sc x = if c.t.params.any (fun p => bEq p.name x.name) then (match c.args.find? (fun a => bEq a.name x.name) with | none => .stay | some a => if sc = 0 then .stay else .task (.ent ⟨false, (sc : Int), x.name⟩ c.parent.toNat a.e)) else nodeA Γ (sc : Int) x.name := by
  unfold refA; rw [hc]; rfl
 obtain ⟨hcp, hca, -, -⟩ := hΓ.par' c (List.mem_of_getElem? hc)
 obtain ⟨W1, hW1⟩ : ∃ W1, W1 = w.alloc (.cells #[.pointer (some a)] 94) := ⟨_, rfl⟩
 have hb1 : Below w.heap.size w W1 := by rw [hW1]; exact (Below.refl _ w).alloc (Nat.le_refl _) _
 have hpb : Blk W1 w.heap.size #[.pointer (some a)] 94 := by rw [hW1]; exact Blk.new w _ _
 obtain ⟨c0, c1, c2, c3, c4, c5⟩ := blk6 (hD.below hb1).wk
 obtain ⟨f0, f1⟩ := blk2 (hF.below hb1).fl
 have p0 := blk1 hpb
 obtain ⟨sd, ss, hSA, hst, hsd⟩ := (hF.below hb1).sc.elem Sc.trlen hc
 rw [hSA] at f0
 obtain ⟨B1, B2, B3, B4, B5, d1, d2, d3, d4, d5, rfl, -, -, hl1, -, -, hl5⟩ := sc_form hst
 obtain ⟨e0, e1, e2, e3, e4, e5, e6⟩ := cel7 hsd
 have hsi : (0 : Int) ≤ (sc : Int) ∧ (sc : Int) < (Γ.sc.length : Int) := by omega
 have hcx := hC.below hb1
 have hF1 := hF.below hb1
 have hD1 := hD.below hb1
 have HCA := Lib.hid (ipmc_any _ 77 #[.pointer (some ⟨w.heap.size, 0, none⟩)] (fun p => bEq p.name x.name) B1 d1 c.t.params W1 hl1 hcp (callFunc_go Tryz.func77 rfl rfl)
  (fun y hy cs w' hb ht => ref1_any _ y cs x a XA xc _ w' ht (hpb.below hb) (hcx.below hb)))
 have hl1c := hl1.cap
 have hl5c := hl5.cap
 have hl5m := hl5.max
 unfold maxLen at hl5m
 have HRA := Lib.hid hRA
 have HB1 := Lib.hid hb1
 have HPB := Lib.hid hpb
 have HW1 := Lib.hid hW1
 have HF1 := Lib.hid hF1
 have HD1 := Lib.hid hD1
 have HCX := Lib.hid hcx
 have HL5 := Lib.hid hl5
 have HSD := Lib.hid hsd
 have HX := Lib.hid hx
 have HT := Lib.hid hT
 have HE := Lib.hid hEnt
 have HΓ := Lib.hid hΓ
 have HCC := Lib.hid hc
 have HSA := Lib.hid hSA
 have HN5 : Hid (x.name.size ≤ 140737488351232) := Lib.hid hsz4
 clear hEnt hx hF hD hC hT hxl hsz1 hsz2 hsz3 hsz4 hsz5 hc hRA hb1 hpb hW1 hst hsd hl1 hl5 hcx hF1 hD1 hΓ hcp hSA
 cases hq : c.t.params.any (fun p => bEq p.name x.name) with
 | false =>
   rw [hq] at HCA
   have HE2 : Hid (refA Γ sc x = nodeA Γ (sc : Int) x.name) := Lib.hid (by rw [HRA.out, hq]; rfl)
   clear hq HRA
   go_enter Tryz.func61, Tryz.ntmps61
   go_upto_region 1 with fail
   rw [← HW1.out]
   go_wp2_with fail
   refine HCA.out.mono ?_
   rintro e w2 ⟨rfl, hb⟩
   have HB := Lib.hid (HB1.out.trans (hb.mono HB1.out.size))
   have HNO := Lib.hid (node_any Γ W s w2 HΓ.out (HF1.out.below hb) (HD1.out.below hb) (sc : Int) x.name HX.out.nm.1)
   have m0 := blk1 (HPB.out.below hb)
   obtain ⟨x0, x1, x2, x3, x4, x5⟩ := cel6 (HCX.out.below hb)
   clear hb c0 c1 c2 c3 c4 c5 f0 f1 p0 e0 e1 e2 e3 e4 e5 e6
   go_wp2_with fail
   refine HNO.out.mono ?_
   rintro e w3 ⟨rfl, s3, hr3, hd3, ho3⟩
   have HR3 := Lib.hid hr3
   have HD3 := Lib.hid hd3
   have HO3 := Lib.hid ((Only.of_below HB.out W.F).F ho3)
   clear hr3 hd3 ho3
   go_wp2_with fail
   go_end0
   exact ⟨rfl, s3, by rw [HE2.out]; exact HR3.out, HD3.out, HO3.out⟩
 | true =>
   rw [hq] at HCA
   have HE2 : Hid (refA Γ sc x = match c.args.find? (fun a => bEq a.name x.name) with | none => .stay | some a => if sc = 0 then .stay else .task (.ent ⟨false, (sc : Int), x.name⟩ c.parent.toNat a.e)) := Lib.hid (by rw [HRA.out, hq]; rfl)
   clear hq HRA
   have HIX : Hid (∀ w2, Below W1.heap.size W1 w2 → Calls Tryz.prog 79 #[.slice B5 c.args.length d5, .func (.func 80) #[] #[.pointer (some ⟨w.heap.size, 0, none⟩)]] w2 fun e w' => e = .returned (.int .i64 (idxP (fun r => bEq r.name x.name) c.args)) ∧ Below w2.heap.size w2 w') := Lib.hid (fun w2 hb =>
    ipri_any _ 80 #[.pointer (some ⟨w.heap.size, 0, none⟩)] (fun r => bEq r.name x.name) B5 d5 c.args w2 (HL5.out.below hb) hca (callFunc_go Tryz.func80 rfl rfl)
     (fun y hy cs w' hb2 ht => ref2_any _ y cs x a XA xc _ w' ht ((HPB.out.below hb).below hb2) ((HCX.out.below hb).below hb2)))
   cases hfi : c.args.findIdx? (fun r => bEq r.name x.name) with
   | none =>
     have h2 := fIdx_none hfi
     rw [h2.2] at HIX
     have HE3 : Hid (refA Γ sc x = .stay) := Lib.hid (by rw [HE2.out, h2.1])
     clear h2 hfi HE2
     go_enter Tryz.func61, Tryz.ntmps61
     go_upto_region 1 with fail
     rw [← HW1.out]
     go_wp2_with fail
     refine HCA.out.mono ?_
     rintro e w2 ⟨rfl, hb⟩
     have HB := Lib.hid (HB1.out.trans (hb.mono HB1.out.size))
     have HI2 := Lib.hid (HIX.out w2 hb)
     obtain ⟨g0, g1, g2, g3, g4, g5, g6⟩ := cel7 (HSD.out.below hb)
     have HD2 := Lib.hid (HD1.out.below hb)
     clear hb c0 c1 c2 c3 c4 c5 f0 f1 p0 e0 e1 e2 e3 e4 e5 e6
     go_wp2_with fail
     refine HI2.out.mono ?_
     rintro e w3 ⟨rfl, hb⟩
     have HB3 := Lib.hid (HB.out.trans (hb.mono HB.out.size))
     have HD3 := Lib.hid (HD2.out.below hb)
     clear hb
     go_wp2_with fail
     go_end0
     exact ⟨rfl, s, by rw [HE3.out]; rfl, HD3.out, Only.of_below HB3.out _⟩
   | some k =>
     have h2 := fIdx_some hfi
     rw [h2.2.2] at HIX
     obtain ⟨r, hr⟩ := get_lt (l := c.args) (i := k) h2.1
     have HR := Lib.hid hr
     have hkk : (0 : Int) ≤ (k : Int) := by omega
     have hki : (0 : Int) ≤ (k : Int) ∧ (k : Int) < (c.args.length : Int) := by have := h2.1; omega
     have hnm : r.name = x.name := by
      have := List.find?_some (h2.2.1.trans hr)
      exact bEq_sym this
     have HNM := Lib.hid hnm
     have HE3 : Hid (refA Γ sc x = if sc = 0 then .stay else .task (.ent ⟨false, (sc : Int), x.name⟩ c.parent.toNat r.e)) := Lib.hid (by rw [HE2.out, h2.2.1, hr])
     clear h2 hfi HE2 hr hnm
     by_cases hs0 : sc = 0
     ·have hs1 : ¬ ((0 : Int) < (sc : Int)) := by omega
      have hd3 : decide ((0 : Int) < (sc : Int)) = false := decide_eq_false hs1
      have hd4 : decide (0 < sc) = false := decide_eq_false (by omega)
      have HE4 : Hid (refA Γ sc x = .stay) := Lib.hid (by rw [HE3.out, if_pos hs0])
      clear HE3 hs0
      go_enter Tryz.func61, Tryz.ntmps61
      go_upto_region 1 with fail
      rw [← HW1.out]
      go_wp2_with fail
      refine HCA.out.mono ?_
      rintro e w2 ⟨rfl, hb⟩
      have HB := Lib.hid (HB1.out.trans (hb.mono HB1.out.size))
      have HI2 := Lib.hid (HIX.out w2 hb)
      obtain ⟨g0, g1, g2, g3, g4, g5, g6⟩ := cel7 (HSD.out.below hb)
      have HD2 := Lib.hid (HD1.out.below hb)
      clear hb c0 c1 c2 c3 c4 c5 f0 f1 p0 e0 e1 e2 e3 e4 e5 e6
      go_wp2_with fail
      refine HI2.out.mono ?_
      rintro e w3 ⟨rfl, hb⟩
      have HB3 := Lib.hid (HB.out.trans (hb.mono HB.out.size))
      have HD3 := Lib.hid (HD2.out.below hb)
      clear hb
      go_wp2_with fail
      go_end0
      exact ⟨rfl, s, by rw [HE4.out]; rfl, HD3.out, Only.of_below HB3.out _⟩
     ·have hs1 : (0 : Int) < (sc : Int) := by omega
      have hd3 : decide ((0 : Int) < (sc : Int)) = true := decide_eq_true hs1
      have hd4 : decide (0 < sc) = true := decide_eq_true (by omega)
      have HE4 : Hid (refA Γ sc x = .task (.ent ⟨false, (sc : Int), x.name⟩ c.parent.toNat r.e)) := Lib.hid (by rw [HE3.out, if_neg hs0])
      obtain ⟨hp1, hp2⟩ := HΓ.out.par sc c (by omega) HCC.out
      obtain ⟨q, hpq⟩ : ∃ q : Nat, c.parent = (q : Int) := ⟨c.parent.toNat, by omega⟩
      have hqs : q < Γ.sc.length := by omega
      have HPQ : Hid (c.parent.toNat = q) := Lib.hid (by rw [hpq]; rfl)
      rw [hpq] at e0
      have HPP := Lib.hid hpq
      clear HE3 hs0 hp1 hp2 hpq
      go_enter Tryz.func61, Tryz.ntmps61
      go_upto_region 1 with fail
      rw [← HW1.out]
      go_wp2_with fail
      refine HCA.out.mono ?_
      rintro e w2 ⟨rfl, hb⟩
      have HB := Lib.hid (HB1.out.trans (hb.mono HB1.out.size))
      have HB12 := Lib.hid hb
      have HI2 := Lib.hid (HIX.out w2 hb)
      obtain ⟨g0, g1, g2, g3, g4, g5, g6⟩ := cel7 (HSD.out.below hb)
      rw [HPP.out] at g0
      clear hb c0 c1 c2 c3 c4 c5 f0 f1 p0 e0 e1 e2 e3 e4 e5 e6
      go_wp2_with fail
      refine HI2.out.mono ?_
      rintro e w3 ⟨rfl, hb⟩
      have hb13 := HB12.out.trans (hb.mono HB12.out.size)
      have HB13 := Lib.hid hb13
      have HB3 := Lib.hid (HB.out.trans (hb.mono HB.out.size))
      have m0 := blk1 (HPB.out.below hb13)
      obtain ⟨x0, x1, x2, x3, x4, x5⟩ := cel6 (HCX.out.below hb13)
      obtain ⟨h0, h1, h2, h3, h4, h5, h6⟩ := cel7 (HSD.out.below hb13)
      rw [HPP.out] at h0
      obtain ⟨ad5, rs, hB5, hrt, hrc⟩ := (HL5.out.below hb13).elem Pr.trlen HR.out
      have had5 : ad5.block < W.wb := (HL5.out.below hb13).blk ad5 hB5 (by omega)
      subst hB5
      obtain ⟨vs, rfl, -, hvt⟩ := Pr.at_iff.1 hrt
      have HVT := Lib.hid hvt
      have HVC := Lib.hid hrc.tail
      clear hb hb13 g0 g1 g2 g3 g4 g5 g6 hrt hrc hvt
      go_wp2_with fail
      go_still_tail 18, (by kernel_rfl)
      change wpList _ _ _ _ _ w3.drew
      have hb4 : Below w3.heap.size w3 w3.drew := (Below.refl _ w3).drew
      generalize w3.drew = w4 at hb4 ⊢
      have HB4 := Lib.hid (HB3.out.trans (hb4.mono HB3.out.size))
      have HEN := Lib.hid (HE.out ⟨false, (sc : Int), x.name⟩ q r.e _ vs w4 (places_mem (j := sc) HCC.out (by
       rw [Nat.zero_add]
       exact List.mem_append_left _ (List.mem_map.2 ⟨r, List.mem_of_getElem? HR.out, by rw [HNM.out]⟩))) (wf_nat (by have := HΓ.out.scl; show sc ≤ _; omega)) HN5.out hqs ((HΓ.out.ex c (List.mem_of_getElem? HCC.out)).1 r (List.mem_of_getElem? HR.out))
       ((HF1.out.below HB13.out).below hb4) ((HD1.out.below HB13.out).below hb4) (HVC.out.below hb4) (HVT.out.below hb4) (by show (ad5.add (k * 7)).block < _; rw [addr_blk]; exact had5))
      clear hb4 m0 x0 x1 x2 x3 x4 x5 h0 h1 h2 h3 h4 h5 h6
      go_wp2_with fail
      refine HEN.out.mono ?_
      rintro e w5 ⟨rfl, s5, hwk, hd5, ho5⟩
      have HK5 := Lib.hid hwk
      have HD5 := Lib.hid hd5
      have HO5 := Lib.hid ((Only.of_below HB4.out W.F).F ho5)
      clear hwk hd5 ho5
      go_wp2_with fail
      go_end0
      exact ⟨rfl, s5, by rw [HE4.out, HPQ.out]; exact HK5.out, HD5.out, HO5.out⟩
open Go.RowKit Go.Maps
set_option linter.unusedVariables false
set_option linter.unusedSimpArgs false
theorem empty_tl {nm : ByteArray} (h : nm = ByteArray.empty) : nm.toList = [] := by rw [h, Lib.toList_data]; rfl
theorem empty_ne {nm : ByteArray} (h : nm ≠ ByteArray.empty) : ¬ nm.toList = [] := fun e => h (ba_ext (by rw [← Lib.toList_data, e]; rfl))
set_option maxRecDepth 100000 in
set_option maxHeartbeats 8000000 in
theorem att_any (Γ : Env) (W : Wh) (s : Wst) (sc : Nat) (x : Ex) (a : Addr) (cs : List Value) (w : World) (hΓ : Γ.ok) (hEnt : EntC Γ W s) (hsc : sc < Γ.sc.length) (hx : exOk x) (hF : Fxd Γ W w) (hD : Dy Γ W s w) (hC : Cel w a cs) (hT : Trs.at (fun k => k < W.wb) w x.tr cs) (hab : a.block < W.wb) :
 Calls Tryz.prog 62 #[.pointer (some ⟨W.wb, 0, none⟩), .int .i64 (sc : Int), .pointer (some a)] w (ActO Γ W s (attA Γ sc x) w) := by
 obtain ⟨XA, xc, rfl, hsz1, hsz2, hsz3, hsz4, hsz5, hxl⟩ := Ex.at_iff.1 hT
 have hAA : attA Γ sc x = match innF Γ (sc : Int) x.name with
  | none => nodeA Γ (sc : Int) x.name
  | some k => match Γ.sc[k]? with
    | none => .stay
    | some c => if hasPre x.attr outsD = false ∨ bEq (cutP x.attr outsD) ByteArray.empty = true then .bad else
      match c.t.outs.find? (fun o => bEq o.name (cutP x.attr outsD)) with
      | none => .bad
      | some o => if (holdF Γ k o.cond).1 then .task (.ent ⟨true, (k : Int), cutP x.attr outsD⟩ k o.e) else .bad := rfl
 have HLT : Hid (∀ k, innF Γ (sc : Int) x.name = some k → k < Γ.sc.length) := Lib.hid (fun k h => by
  unfold innF at h
  split at h
  ·cases h
  ·exact (List.findIdx?_eq_some_iff_getElem.1 h).1)
 have hb1 : Below w.heap.size w w.drew := (Below.refl _ w).drew
 have hF1 := hF.below hb1
 have hD1 := hD.below hb1
 have hIN := ninner_any _ W.SA W.NA W.sC W.nC Γ.sc Γ.nd (sc : Int) x.name w.drew hF1.sc hF1.nd (by have := hΓ.scl; omega) (by have := hΓ.ndl; omega) hx.nm.1 (fun s hs => (hΓ.par' s hs).2.2.2)
 rw [innL_eq] at hIN
 obtain ⟨o, ho⟩ : ∃ o, o = innF Γ (sc : Int) x.name := ⟨_, rfl⟩
 rw [← ho] at hIN hAA HLT
 obtain ⟨c0, c1, c2, c3, c4, c5⟩ := blk6 hD.wk
 obtain ⟨f0, f1⟩ := blk2 hF.fl
 obtain ⟨x0, x1, x2, x3, x4, x5⟩ := cel6 hC
 have HIN := Lib.hid hIN
 have HAA := Lib.hid hAA
 have HB1 := Lib.hid hb1
 have HF1 := Lib.hid hF1
 have HD1 := Lib.hid hD1
 have HC1 := Lib.hid (hC.below hb1)
 have HX := Lib.hid hx
 have HE := Lib.hid hEnt
 have HΓ := Lib.hid hΓ
 have HAT : Hid (x.attr.size ≤ 1000000) := Lib.hid hx.nm.2.1
 clear hEnt hx hF hD hC hT hxl hsz1 hsz2 hsz3 hsz4 hsz5 hAA hb1 hF1 hD1 hΓ hIN ho
 cases o with
 | none =>
   have HE2 : Hid (attA Γ sc x = nodeA Γ (sc : Int) x.name) := Lib.hid HAA.out
   clear HAA
   go_enter Tryz.func62, Tryz.ntmps62
   go_upto_region 0 with fail
   go_region_held3 (fun w' => w'.cell? ⟨W.wb, 0, none⟩ = some (.pointer (some ⟨W.fb, 0, none⟩)) ∧ w'.cell? ⟨W.fb, 0, none⟩ = some (.slice W.SA Γ.sc.length W.sC) ∧ w'.cell? ⟨W.fb, 1, none⟩ = some (.slice W.NA Γ.nd.length W.nC) ∧ w'.cell? ⟨a.block, a.off + 3, none⟩ = some (.string x.name)) (first | go_keep | exact ⟨k0, k1, k2, k3⟩)
    ((go_at_call 82; (with_reducible refine HIN.out.mono ?_); rintro e w2 ⟨rfl, hb⟩; have HBI := Lib.hid hb; have k0 := (blk6 (HD1.out.below hb).wk).1; have k1 := (blk2 (HF1.out.below hb).fl).1; have k2 := (blk2 (HF1.out.below hb).fl).2; have k3 := (cel6 (HC1.out.below hb)).2.2.2.1; clear hb))
   have hb := HBI.out
   have HB := Lib.hid (HB1.out.trans (hb.mono HB1.out.size))
   have HNO := Lib.hid (node_any Γ W s w2 HΓ.out (HF1.out.below hb) (HD1.out.below hb) (sc : Int) x.name HX.out.nm.1)
   obtain ⟨y0, y1, y2, y3, y4, y5⟩ := cel6 (HC1.out.below hb)
   clear hb c0 c1 c2 c3 c4 c5 f0 f1 x0 x1 x2 x3 x4 x5 k0 k1 k2 k3
   go_wp2_with fail
   refine HNO.out.mono ?_
   rintro e w3 ⟨rfl, s3, hr3, hd3, ho3⟩
   have HR3 := Lib.hid hr3
   have HD3 := Lib.hid hd3
   have HO3 := Lib.hid ((Only.of_below HB.out W.F).F ho3)
   clear hr3 hd3 ho3
   go_wp2_with fail
   go_end0
   exact ⟨rfl, s3, by rw [HE2.out]; exact HR3.out, HD3.out, HO3.out⟩
 | some k =>
   have hkl := HLT.out k rfl
   obtain ⟨c, hc⟩ := get_lt (l := Γ.sc) (i := k) hkl
   have HCC := Lib.hid hc
   obtain ⟨nm, hnm⟩ : ∃ nm, nm = cutP x.attr outsD := ⟨_, rfl⟩
   obtain ⟨hp, hhp⟩ : ∃ hp, hp = hasPre x.attr outsD := ⟨_, rfl⟩
   have HE2 : Hid (attA Γ sc x = if hp = false ∨ bEq nm ByteArray.empty = true then .bad else match c.t.outs.find? (fun o => bEq o.name nm) with | none => .bad | some o => if (holdF Γ k o.cond).1 then .task (.ent ⟨true, (k : Int), nm⟩ k o.e) else .bad) := Lib.hid (by rw [HAA.out, hnm, hhp]; simp only; rw [hc])
   have HCUT : Hid (∀ w', Calls Tryz.prog 60 #[.string x.attr, .string ⟨#[79, 117, 116, 112, 117, 116, 115, 46]⟩] w' fun e w2 => e = .returned (.tuple #[.string nm, .bool hp]) ∧ w' = w2) := Lib.hid (fun w' => by
    rw [hnm, hhp]
    exact cuts_any x.attr outsD w' HAT.out (by decide))
   have hki : (0 : Int) ≤ (k : Int) ∧ (k : Int) < (Γ.sc.length : Int) := by omega
   obtain ⟨-, -, hco, -⟩ := HΓ.out.par' c (List.mem_of_getElem? hc)
   have HNS : Hid (nm.size ≤ 140737488351232) := Lib.hid (by
    rw [hnm]
    unfold cutP
    split
    ·rw [ByteArray.size_extract]; have := HAT.out; omega
    ·have := HAT.out; omega)
   clear hc HAA hnm hhp HLT
   go_enter Tryz.func62, Tryz.ntmps62
   go_upto_region 0 with fail
   go_region_held3 (fun w' => w'.cell? ⟨W.wb, 0, none⟩ = some (.pointer (some ⟨W.fb, 0, none⟩)) ∧ w'.cell? ⟨W.fb, 0, none⟩ = some (.slice W.SA Γ.sc.length W.sC) ∧ w'.cell? ⟨W.fb, 1, none⟩ = some (.slice W.NA Γ.nd.length W.nC) ∧ w'.cell? ⟨a.block, a.off + 3, none⟩ = some (.string x.name)) (first | go_keep | exact ⟨k0, k1, k2, k3⟩)
    ((go_at_call 82; (with_reducible refine HIN.out.mono ?_); rintro e w2 ⟨rfl, hb⟩; have HBI := Lib.hid hb; have k0 := (blk6 (HD1.out.below hb).wk).1; have k1 := (blk2 (HF1.out.below hb).fl).1; have k2 := (blk2 (HF1.out.below hb).fl).2; have k3 := (cel6 (HC1.out.below hb)).2.2.2.1; clear hb))
   have hb := HBI.out
   have HB2 := Lib.hid (HB1.out.trans (hb.mono HB1.out.size))
   have HF2 := Lib.hid (HF1.out.below hb)
   have HD2 := Lib.hid (HD1.out.below hb)
   obtain ⟨y0, y1, y2, y3, y4, y5⟩ := cel6 (HC1.out.below hb)
   clear hb c0 c1 c2 c3 c4 c5 f0 f1 x0 x1 x2 x3 x4 x5 k0 k1 k2 k3
   go_wp2_with fail
   refine (HCUT.out w2).mono ?_
   rintro e w2' ⟨rfl, hw⟩
   obtain rfl := hw
   obtain ⟨W3, hW3⟩ : ∃ W3, W3 = w2.alloc (.cells #[.string nm] 9) := ⟨_, rfl⟩
   have hb3 : Below w2.heap.size w2 W3 := by rw [hW3]; exact (Below.refl _ w2).alloc (Nat.le_refl _) _
   have hnb : Blk W3 w2.heap.size #[.string nm] 9 := by rw [hW3]; exact Blk.new w2 _ _
   have HW3 := Lib.hid hW3
   have hF3 := HF2.out.below hb3
   have hD3 := HD2.out.below hb3
   obtain ⟨c0, c1, c2, c3, c4, c5⟩ := blk6 hD3.wk
   obtain ⟨f0, f1⟩ := blk2 hF3.fl
   have n0 := blk1 hnb
   obtain ⟨sd, ss, hSA, hst, hsd⟩ := hF3.sc.elem Sc.trlen HCC.out
   rw [hSA] at f0
   obtain ⟨B1, B2, B3, B4, B5, d1, d2, d3, d4, d5, rfl, -, -, -, -, hl4, -⟩ := sc_form hst
   obtain ⟨e0, e1, e2, e3, e4, e5, e6⟩ := cel7 hsd
   have hl4c := hl4.cap
   have HIX := Lib.hid (ioui_any _ 84 #[.pointer (some ⟨w2.heap.size, 0, none⟩)] (fun o => bEq o.name nm) B4 d4 c.t.outs W3 hl4 hco (callFunc_go Tryz.func84 rfl rfl)
    (fun o ho cs w' hb ht => att1_any _ o cs nm _ w' ht (hnb.below hb)))
   have HB3 := Lib.hid (HB2.out.trans (hb3.mono HB2.out.size))
   have HNB := Lib.hid hnb
   have HF3 := Lib.hid hF3
   have HD3 := Lib.hid hD3
   have HL4 := Lib.hid hl4
   clear hb3 hnb hW3 hF3 hD3 hSA hst hsd hl4 y0 y1 y2 y3 y4 y5
   go_upto_region 4 with fail
   rw [← HW3.out]
   have bad : ∀ w5 : World, Below w.heap.size w w5 → Dy Γ W s w5 → Fxd Γ W w5 → Hid (Calls Tryz.prog 85 #[.pointer (some ⟨W.wb, 0, none⟩), .int .i64 (160 : Int)] w5 fun e w' => e = .returned (.tuple #[]) ∧ Dy Γ W (s.fail 160) w' ∧ Only W.F w w') := fun w5 hb hd hf => Lib.hid ((fail_any Γ W s w5 hf hd 160 (by omega)).mono (fun e w' h => ⟨h.1, h.2.1, (Only.of_below hb W.F).F h.2.2⟩))
   have BAD := Lib.hid bad
   clear bad
   cases hfi : c.t.outs.findIdx? (fun o => bEq o.name nm) with
   | none =>
     have h2 := fIdx_none hfi
     rw [h2.2] at HIX
     have HE3 : Hid (attA Γ sc x = .bad) := Lib.hid (by rw [HE2.out, h2.1]; split <;> rfl)
     clear h2 hfi HE2
     go_wp2_with fail
     refine HIX.out.mono ?_
     rintro e w5 ⟨rfl, hb⟩
     have HFA := BAD.out w5 (HB3.out.trans (hb.mono HB3.out.size)) (HD3.out.below hb) (HF3.out.below hb)
     have m0 := blk1 (HNB.out.below hb)
     clear hb c0 c1 c2 c3 c4 c5 f0 f1 n0 e0 e1 e2 e3 e4 e5 e6
     cases hp with
     | false =>
       go_wp2_with fail
       refine HFA.out.mono ?_
       rintro e w6 ⟨rfl, hd, ho⟩
       have HD6 := Lib.hid hd
       have HO6 := Lib.hid ho
       clear hd ho
       go_wp2_with fail
       go_end0
       exact ⟨rfl, s.fail 160, by rw [HE3.out]; rfl, HD6.out, HO6.out⟩
     | true =>
       by_cases hem : nm = ByteArray.empty
       ·have hE := empty_tl hem
        clear hem
        go_wp2_with fail
        refine HFA.out.mono ?_
        rintro e w6 ⟨rfl, hd, ho⟩
        have HD6 := Lib.hid hd
        have HO6 := Lib.hid ho
        clear hd ho
        go_wp2_with fail
        go_end0
        exact ⟨rfl, s.fail 160, by rw [HE3.out]; rfl, HD6.out, HO6.out⟩
       ·have hE := empty_ne hem
        have hE2 : nm.toList.isEmpty = false := by simpa using hE
        clear hem
        go_wp2_with fail
        refine HFA.out.mono ?_
        rintro e w6 ⟨rfl, hd, ho⟩
        have HD6 := Lib.hid hd
        have HO6 := Lib.hid ho
        clear hd ho
        go_wp2_with fail
        go_end0
        exact ⟨rfl, s.fail 160, by rw [HE3.out]; rfl, HD6.out, HO6.out⟩
   | some j =>
     have h2 := fIdx_some hfi
     rw [h2.2.2] at HIX
     obtain ⟨o, ho⟩ := get_lt (l := c.t.outs) (i := j) h2.1
     have HO := Lib.hid ho
     have hjk : ¬ ((j : Int) < 0) := by omega
     have hji : (0 : Int) ≤ (j : Int) ∧ (j : Int) < (c.t.outs.length : Int) := by have := h2.1; omega
     have hon : o.name = nm := by
      have := List.find?_some (h2.2.1.trans ho)
      exact bEq_sym this
     have HON := Lib.hid hon
     have HE3 : Hid (attA Γ sc x = if hp = false ∨ bEq nm ByteArray.empty = true then .bad else if (holdF Γ k o.cond).1 then .task (.ent ⟨true, (k : Int), nm⟩ k o.e) else .bad) := Lib.hid (by rw [HE2.out, h2.2.1, ho])
     clear h2 hfi HE2 ho hon
     go_wp2_with fail
     refine HIX.out.mono ?_
     rintro e w5 ⟨rfl, hb⟩
     have HB5 := Lib.hid (HB3.out.trans (hb.mono HB3.out.size))
     have HF5 := Lib.hid (HF3.out.below hb)
     have HD5 := Lib.hid (HD3.out.below hb)
     have HFA := BAD.out w5 HB5.out HD5.out HF5.out
     have HNB5 := Lib.hid (HNB.out.below hb)
     have m0 := blk1 HNB5.out
     have HL45 := Lib.hid (HL4.out.below hb)
     clear hb c0 c1 c2 c3 c4 c5 f0 f1 n0 e0 e1 e2 e3 e4 e5 e6
     cases hp with
     | false =>
       have HE4 : Hid (attA Γ sc x = .bad) := Lib.hid (by rw [HE3.out, if_pos (.inl rfl)])
       clear HE3
       go_wp2_with fail
       refine HFA.out.mono ?_
       rintro e w6 ⟨rfl, hd, ho⟩
       have HD6 := Lib.hid hd
       have HO6 := Lib.hid ho
       clear hd ho
       go_wp2_with fail
       go_end0
       exact ⟨rfl, s.fail 160, by rw [HE4.out]; rfl, HD6.out, HO6.out⟩
     | true =>
       by_cases hem : nm = ByteArray.empty
       ·have HE4 : Hid (attA Γ sc x = .bad) := Lib.hid (by rw [HE3.out, if_pos (.inr (bEq_iff.2 hem))])
        have hE := empty_tl hem
        clear HE3 hem
        go_wp2_with fail
        refine HFA.out.mono ?_
        rintro e w6 ⟨rfl, hd, ho⟩
        have HD6 := Lib.hid hd
        have HO6 := Lib.hid ho
        clear hd ho
        go_wp2_with fail
        go_end0
        exact ⟨rfl, s.fail 160, by rw [HE4.out]; rfl, HD6.out, HO6.out⟩
       ·have HE4 : Hid (attA Γ sc x = if (holdF Γ k o.cond).1 then .task (.ent ⟨true, (k : Int), nm⟩ k o.e) else .bad) := Lib.hid (by rw [HE3.out, if_neg (by rw [bEq_ne hem]; simp)])
        have hE := empty_ne hem
        have hE2 : nm.toList.isEmpty = false := by simpa using hE
        obtain ⟨adO, os, hB4, hot, hoc⟩ := HL45.out.elem Ou.trlen HO.out
        have hadO : adO.block < W.wb := HL45.out.blk adO hB4 (by omega)
        subst hB4
        obtain ⟨vs, rfl, -, -, hvt⟩ := Ou.at_iff.1 hot
        obtain ⟨ya, yb, rfl, -⟩ := Ex.at_iff.1 hvt
        obtain ⟨z0, z1, z2, z3, z4, z5, z6, z7⟩ := cel8 hoc
        have HOC := Lib.hid hoc
        have HVT := Lib.hid hvt
        have HHO := Lib.hid (holds_any Γ W s w5 HΓ.out HF5.out HD5.out k hkl o.cond)
        obtain ⟨hb0, hh⟩ : ∃ hb0, hb0 = holdF Γ k o.cond := ⟨_, rfl⟩
        obtain ⟨yes, there⟩ := hb0
        rw [← hh] at HHO HE4
        simp only at HHO HE4
        clear HE3 hem hot hoc hvt hh
        go_wp2_with fail
        refine HHO.out.mono ?_
        rintro e w6 ⟨rfl, hb6⟩
        have HB6 := Lib.hid (HB5.out.trans (hb6.mono HB5.out.size))
        have HB56 := Lib.hid hb6
        cases yes with
        | false =>
          have HE5 : Hid (attA Γ sc x = .bad) := Lib.hid (by rw [HE4.out]; rfl)
          have HFA6 := BAD.out w6 HB6.out (HD5.out.below hb6) (HF5.out.below hb6)
          clear HE4 hb6 z0 z1 z2 z3 z4 z5 z6 z7 m0
          go_wp2_with fail
          refine HFA6.out.mono ?_
          rintro e w7 ⟨rfl, hd, ho⟩
          have HD6 := Lib.hid hd
          have HO6 := Lib.hid ho
          clear hd ho
          go_wp2_with fail
          go_end0
          exact ⟨rfl, s.fail 160, by rw [HE5.out]; rfl, HD6.out, HO6.out⟩
        | true =>
          have HE5 : Hid (attA Γ sc x = .task (.ent ⟨true, (k : Int), nm⟩ k o.e)) := Lib.hid (by rw [HE4.out]; rfl)
          have q0 := blk1 (HNB5.out.below hb6)
          clear HE4 hb6 z0 z1 z2 z3 z4 z5 z6 z7 m0
          go_wp2_with fail
          go_still_tail 9, (by kernel_rfl)
          change wpList _ _ _ _ _ w6.drew
          have hb7 : Below w6.heap.size w6 w6.drew := (Below.refl _ w6).drew
          generalize w6.drew = w7 at hb7 ⊢
          have hb57 := HB56.out.trans (hb7.mono HB56.out.size)
          have HB7 := Lib.hid (HB6.out.trans (hb7.mono HB6.out.size))
          have hOC2 := (HOC.out.tail.tail).below hb57
          have HEN := Lib.hid (HE.out ⟨true, (k : Int), nm⟩ k o.e _ _ w7 (places_mem (j := k) HCC.out (by
           rw [Nat.zero_add]
           exact List.mem_append_right _ (List.mem_map.2 ⟨o, List.mem_of_getElem? HO.out, by rw [HON.out]⟩))) (wf_nat (by have := HΓ.out.scl; show k ≤ _; omega)) HNS.out hkl ((HΓ.out.ex c (List.mem_of_getElem? HCC.out)).2 o (List.mem_of_getElem? HO.out))
           (HF5.out.below hb57) (HD5.out.below hb57) hOC2 (HVT.out.below hb57) (by show (adO.add (j * 8)).block < _; rw [addr_blk]; exact hadO))
          clear hb7 hb57 q0 hOC2
          go_wp2_with fail
          refine HEN.out.mono ?_
          rintro e w8 ⟨rfl, s5, hwk, hd5, ho5⟩
          have HK5 := Lib.hid hwk
          have HD8 := Lib.hid hd5
          have HO5 := Lib.hid ((Only.of_below HB7.out W.F).F ho5)
          clear hwk hd5 ho5
          go_wp2_with fail
          go_end0
          exact ⟨rfl, s5, by rw [HE5.out]; exact HK5.out, HD8.out, HO5.out⟩
end Go.Proofs.YtgdfkbalnpfdgaaGreatDoor
