/- hoardinglaw17.NestPlain: the walk. -/
import Derived.Test.YtnimfdfdpkineaaNs12
namespace Go.Proofs.Ytnimfdfdpkineaa
open Go.RowKit
set_option linter.unusedVariables false
set_option linter.unusedSimpArgs false

def plR (r : Rs) : Rs := ⟨r.id, r.type, r.cond, r.props, r.depends, r.retain, []⟩
def plain (l : List Rs) : List Rs := (l.filter fun r => !bEq r.type stackT).map plR
theorem plain_take {l : List Rs} {j : Nat} {r : Rs} (h : l[j]? = some r) : plain (l.take (j + 1)) = plain (l.take j) ++ (if bEq r.type stackT then [] else [plR r]) := by
  rw [List.take_add_one, h]
  simp only [plain, List.filter_append, List.map_append, Option.toList_some]
  cases hb : bEq r.type stackT <;> simp [hb]
theorem plain_len (l : List Rs) : (plain l).length ≤ l.length := by unfold plain; rw [List.length_map]; exact List.length_filter_le _ _
theorem plain_mem {l : List Rs} {r : Rs} (h : r ∈ plain l) : ∃ r0 ∈ l, bEq r0.type stackT = false ∧ r = plR r0 := by
  unfold plain at h
  obtain ⟨r0, h1, rfl⟩ := List.mem_map.1 h
  rw [List.mem_filter] at h1
  exact ⟨r0, h1.1, by simpa using h1.2, rfl⟩
theorem plain_ok {k : Nat} {t : Tm} (h : t.ok (k + 1)) : Tm.ok (k + 1) ⟨t.params, t.conds, plain t.res, t.outs⟩ := by
  obtain ⟨h1, h2⟩ := ok_rs h
  refine ⟨Nat.le_trans (plain_len _) h1, fun r hr => ?_⟩
  obtain ⟨r0, hr0, _, rfl⟩ := plain_mem hr
  obtain ⟨g1, g2, g3, g4, g5, g6⟩ := h2 r0 hr0
  exact ⟨g1, g2, by simp [plR], g4, g5, by simp [plR]⟩
theorem info_res : (Try.prog.info? 34).map (fun i => (i.zero, i.size, i.bytes)) = some (some (.agg #[.string ByteArray.empty, .string ByteArray.empty, .string ByteArray.empty, .slice none 0 0, .slice none 0 0, .bool false, .slice none 0 0]), 7, 128) := by kernel_rfl

/-- is the text d, or does it begin with d and go on? -/
def pin (id d : ByteArray) : Bool := bEq d id || (decide (d.size < id.size) && bEq (id.extract 0 d.size) d)
theorem pin_und {id d : ByteArray} (h : und d id = true) : pin id d = true := by
  unfold und at h
  simp only [Bool.and_eq_true, Bool.not_eq_true'] at h
  have h1 := h.1
  unfold hasPre at h1
  rw [List.isPrefixOf_iff_prefix] at h1
  obtain ⟨r, hr⟩ := h1
  have hl : id.data.toList = d.data.toList ++ (46 :: r) := by
    rw [← hr]; simp [ByteArray.data_append, dot]
  have hsz : d.size < id.size := by
    have := congrArg List.length hl
    simp at this
    have e1 : d.size = d.data.size := rfl
    have e2 : id.size = id.data.size := rfl
    omega
  unfold pin
  rw [decide_eq_true hsz]
  have : id.extract 0 d.size = d := by
    apply ba_ext
    rw [ext_list, hl]
    simp
  rw [bEq_iff.2 this]
  simp
theorem pin_any {ids l : List ByteArray} {id : ByteArray} (h : id ∈ afGo ids [] l) : l.any (pin id) = true := by
  rcases afGo_mem h with h | ⟨d, h1, h2⟩
  · cases h
  · rw [List.any_eq_true]
    refine ⟨d, h1, ?_⟩
    rcases h2 with rfl | h2
    · unfold pin; rw [bEq_iff.2 rfl]; rfl
    · exact pin_und h2
theorem any_take {α : Type} {f : α → Bool} {l : List α} {j : Nat} {x : α} (h : l[j]? = some x) : (l.take (j + 1)).any f = ((l.take j).any f || f x) := by
  rw [List.take_add_one, h, List.any_append]; simp
theorem below_drewN (w : World) (n : Nat) : Below w.heap.size w (w.drewN n) := ⟨rfl, rfl, rfl, Nat.le_refl _, fun _ _ => rfl⟩
set_option maxRecDepth 100000 in
set_option maxHeartbeats 8000000 in
theorem nestPlain_walk (w : World) (cs : Array Value) (t : Tm) (h : Trs.at (fun k => k < w.heap.size) w t.tr cs.toList) :
    Calls Try.prog 3 #[.agg cs] w fun e w' => e = .returned (.bool true) ∧ Below w.heap.size w w' := by
  obtain ⟨A, a, B, b, C, c, D, d, hcs, h1, h2, h3, h4⟩ := Tm.at_iff.1 h
  obtain rfl : cs = #[.slice A t.params.length a, .slice B t.conds.length b, .slice C t.res.length c, .slice D t.outs.length d] := by
    have := congrArg List.toArray hcs
    simpa using this
  have HB0 : Hid (Below w.heap.size w (w.alloc (.cells #[.slice A t.params.length a, .slice B t.conds.length b, .slice C t.res.length c, .slice D t.outs.length d] 27))) := Lib.hid ((Below.refl _ w).alloc (Nat.le_refl _) _)
  have HX0 := Lib.hid (Blk.new w #[.slice A t.params.length a, .slice B t.conds.length b, .slice C t.res.length c, .slice D t.outs.length d] 27)
  have HG := Lib.hid (tgreat_any (fun k => k < w.heap.size) t _ none 0 [] _ (h.below HB0.out) (Ls.nil _ _ _ _ (by omega) _))
  have HT := Lib.hid h
  have HRES := Lib.hid h3
  have hc3 := h3.cap
  clear h h1 h2 h3 h4 hcs
  cases hg : tGreat t [] with
  | true =>
    rw [hg] at HG
    clear hg
    go_enter Try.func3, Try.ntmps3
    go_wp2_with fail
    refine HG.out.mono ?_
    rintro e w2 ⟨rfl, hb2⟩
    have HB2 := Lib.hid (HB0.out.trans (hb2.mono HB0.out.size))
    clear hb2
    go_wp2_with fail
    refine (wakes_any _).mono ?_
    rintro e w3 ⟨rfl, hb3⟩
    have HB3 := Lib.hid (HB2.out.trans (hb3.mono HB2.out.size))
    clear hb3
    go_wp2_with fail
    go_ret
    exact ⟨rfl, HB3.out⟩
  | false =>
    rw [hg] at HG
    have hok : t.ok 8 := tW_ok 8 t (by
      unfold tGreat at hg
      simp at hg
      omega)
    have HOK := Lib.hid hok
    have hrl := (ok_rs hok).1
    clear hg hok
    go_enter Try.func3, Try.ntmps3
    go_wp2_with fail
    refine HG.out.mono ?_
    rintro e w2 ⟨rfl, hb2⟩
    have HB2 := Lib.hid (HB0.out.trans (hb2.mono HB0.out.size))
    have hx2 := HX0.out.below hb2
    have HX2 := Lib.hid hx2
    obtain ⟨x0, x1, x2, x3⟩ := blk4 hx2
    have hs2 := hx2.lt
    clear hb2 hx2
    go_wp2_with fail
    clear x0 x1 x2 x3
    go_loopg [22, 3] t.res.length (fun g i L wr => ∃ (j : Nat) (LA : Option Addr) (lc : Nat) (xs : List Value) (P : List Rs), j + g = t.res.length ∧ i = .int .i64 (j : Nat) ∧ L = .slice LA P.length lc ∧ P.length ≤ j ∧ Hid (P = plain (t.res.take j)) ∧
      Hid (Ow wr w.heap.size 34 7 LA P.length lc xs) ∧ Hid (Trs.at (fun k => k < w.heap.size) wr (P.flatMap Rs.tr) xs) ∧ Hid (Below w.heap.size w wr) ∧ Hid (Blk wr w.heap.size #[.slice A t.params.length a, .slice B t.conds.length b, .slice C t.res.length c, .slice D t.outs.length d] 27))
    case atStart => exact ⟨0, none, 0, [], [], by omega, rfl, rfl, by simp, Lib.hid (by simp [plain]), Lib.hid (Ow.nil _ _ _ _), Lib.hid (at_nil.2 rfl), HB2, HX2⟩
    case round =>
      obtain ⟨j, LA, lc, xs, P, hj, rfl, rfl, hPj, HP, HO, HTX, HB, HX⟩ := hrel
      rename World => wo
      clear HB2 HX2 hs2 HG HX0 HB0
      cases gk with
      | zero =>
        have hjj : ¬ ((j : Int) < (t.res.length : Int)) := by omega
        have HPP : Hid (P = plain t.res) := Lib.hid (by rw [HP.out, List.take_of_length_le (by omega)])
        have hx := HX.out
        obtain ⟨x0, x1, x2, x3⟩ := blk4 hx
        have fx := hx.frozen 2
        have hxs := (hx.set 2 (.slice LA P.length lc)).eq (cs' := #[.slice A t.params.length a, .slice B t.conds.length b, .slice LA P.length lc, .slice D t.outs.length d]) (by simp)
        obtain ⟨y0, y1, y2, y3⟩ := blk4 hxs
        have hon : Only (fun k => k = w.heap.size) wo (wo.setCell ⟨w.heap.size, 2, none⟩ (.slice LA P.length lc)) := (Only.refl (fun k => k = w.heap.size) wo).setCell _ _ (fun _ => rfl)
        have HBQ : Hid (Below w.heap.size w (wo.setCell ⟨w.heap.size, 2, none⟩ (.slice LA P.length lc))) := Lib.hid (HB.out.setCell (by simp) _)
        have hlow : ∀ k, k < w.heap.size → ¬ (k = w.heap.size) := fun k hk e => by omega
        have htr : Trs.at (fun _ => True) (wo.setCell ⟨w.heap.size, 2, none⟩ (.slice LA P.length lc)) (Tm.tr ⟨t.params, t.conds, P, t.outs⟩) [.slice A t.params.length a, .slice B t.conds.length b, .slice LA P.length lc, .slice D t.outs.length d] := by
          obtain ⟨_, _, _, _, _, _, _, _, he, k1, k2, k3, k4⟩ := Tm.at_iff.1 (((HT.out.below HB.out).only hon hlow).mono (S' := fun _ => True) (fun _ _ => trivial))
          simp only [List.cons.injEq, Value.slice.injEq, true_and, and_true] at he
          obtain ⟨⟨rfl, rfl⟩, ⟨rfl, rfl⟩, ⟨rfl, rfl⟩, rfl, rfl⟩ := he
          have ho2 := HO.out.only hon (fun g hg e => HO.out.ne_blk HX.out (by decide) (by rw [hg, e]))
          exact Tm.at_iff.2 ⟨A, a, B, b, LA, lc, D, d, rfl, k1, k2, ⟨by omega, by show P.length * 128 ≤ _; omega, ho2.rd.cap, ho2.rd.max, fun _ _ _ => trivial, xs, ho2.rd, (HTX.out.only hon hlow).mono (fun _ _ => trivial)⟩, k4⟩
        have hfl := flat_any (fun _ => True) 8 ⟨t.params, t.conds, P, t.outs⟩ _ _ (by rw [HPP.out]; exact plain_ok HOK.out) htr
        rw [flat_plain (k := 7) (fun r hr => by
          have hr' : r ∈ P := hr
          rw [HPP.out] at hr'
          obtain ⟨r0, _, h2, rfl⟩ := plain_mem hr'
          exact ⟨h2, rfl⟩)] at hfl
        have HPL : Hid (Ls (fun _ => True) (wo.setCell ⟨w.heap.size, 2, none⟩ (.slice LA P.length lc)) 7 128 Rs.tr LA lc P) := Lib.hid (by
          obtain ⟨_, _, _, _, C', c', _, _, he, _, _, k3, _⟩ := Tm.at_iff.1 htr
          simp only [List.cons.injEq, Value.slice.injEq, true_and, and_true] at he
          obtain ⟨_, _, ⟨rfl, rfl⟩, _⟩ := he
          exact k3)
        clear htr hxs hx hon
        by_cases h16 : 16 < P.length
        · rw [if_pos h16] at hfl
          have HFL := Lib.hid hfl
          have hN : (16 : Int) < (P.length : Int) := by omega
          clear hfl
          go_wp2_with fail
          refine HFL.out.mono ?_
          rintro e w5 ⟨hb5, A1, c1, A2, c2, rfl, -, -⟩
          have HB5 := Lib.hid (HBQ.out.trans (hb5.mono HBQ.out.size))
          clear hb5
          go_wp2_with (go_at_call 6; refine (wakes_any _).mono ?_; rintro e w6 ⟨rfl, hb6⟩; have HB6 := Lib.hid ((HB5.out.alloc HB5.out.size _).trans (hb6.mono (by simp; have := HB5.out.size; omega))); clear hb6)
          go_ret
          exact ⟨rfl, HB6.out⟩
        · rw [if_neg h16] at hfl
          have hwl : (P.map Rs.depends).length = (P.map fun r => (⟨r.id, 0, r, gOf ar0 r, []⟩ : Nd)).length := by simp
          have hlen := afAll_len (ids := P.map Rs.id) hwl
          rw [List.length_map] at hlen
          have HGET := Lib.hid (fun (j : Nat) (r : Rs) (hr : P[j]? = some r) => afAll_get (ids := P.map Rs.id) (ns := P.map fun r => (⟨r.id, 0, r, gOf ar0 r, []⟩ : Nd)) (ws := P.map Rs.depends) (i := j) (n := ⟨r.id, 0, r, gOf ar0 r, []⟩) (w := r.depends) (by rw [List.getElem?_map, hr]; rfl) (by rw [List.getElem?_map, hr]; rfl))
          obtain ⟨nds, hnd⟩ : ∃ nds, nds = afAll (P.map Rs.id) (P.map fun r => (⟨r.id, 0, r, gOf ar0 r, []⟩ : Nd)) (P.map Rs.depends) := ⟨_, rfl⟩
          rw [← hnd] at hfl hlen HGET
          have HFL : Hid (Calls Try.prog 7 #[.agg #[.slice A t.params.length a, .slice B t.conds.length b, .slice LA P.length lc, .slice D t.outs.length d]] (wo.setCell ⟨w.heap.size, 2, none⟩ (.slice LA P.length lc)) fun e w' => Below (wo.setCell ⟨w.heap.size, 2, none⟩ (.slice LA P.length lc)).heap.size (wo.setCell ⟨w.heap.size, 2, none⟩ (.slice LA P.length lc)) w' ∧ ∃ A1 c1 A2 c2, e = .returned (.tuple #[.agg #[.slice A1 1 c1, .slice A2 P.length c2], .int .i64 0]) ∧ Ls (fun k => k < w'.heap.size) w' 11 200 Nd.tr A2 c2 nds) := Lib.hid (hfl.mono (by
            rintro e w' ⟨k1, A1, c1, A2, c2, k2, -, k3⟩
            simp only [List.length_cons, List.length_nil, hlen] at k2
            exact ⟨k1, A1, c1, A2, c2, k2, k3⟩))
          have hN : ¬ ((16 : Int) < (P.length : Int)) := by omega
          have HNL := Lib.hid hlen
          clear hfl hnd hlen hwl
          go_wp2_with fail
          refine HFL.out.mono ?_
          rintro e w5 ⟨hb5, A1, c1, A2, c2, rfl, hls⟩
          have hwf : Below w5.heap.size w5 (w5.alloc (.cells #[.slice A1 1 c1, .slice A2 P.length c2] 38)) := (Below.refl _ w5).alloc (Nat.le_refl _) _
          have hpl := (HPL.out.below hb5).below hwf
          have hnl := hls.below hwf
          have hbf := (HBQ.out.trans (hb5.mono HBQ.out.size)).trans (hwf.mono (by have := HBQ.out.size; have := hb5.size; omega))
          have hcl := hnl.cap
          rw [HNL.out] at hcl
          have hcp := hpl.cap
          have HNDS := Lib.hid hnl
          have HPLS := Lib.hid hpl
          have HBF := Lib.hid hbf
          have HFLB := Lib.hid (Blk.new w5 #[.slice A1 1 c1, .slice A2 P.length c2] 38)
          clear hls hb5 hwf hpl hnl hbf
          go_wp2_with fail
          go_loopg [74] P.length (fun g i wr => ∃ (j2 : Nat), j2 + g = P.length ∧ i = .int .i64 (j2 : Nat) ∧ Hid (Below (w5.alloc (.cells #[.slice A1 1 c1, .slice A2 P.length c2] 38)).heap.size (w5.alloc (.cells #[.slice A1 1 c1, .slice A2 P.length c2] 38)) wr))
          case atStart => exact ⟨0, by omega, rfl, Lib.hid (Below.refl _ _)⟩
          case round =>
            obtain ⟨j2, hj2, rfl, HBr⟩ := hrel
            rename World => wo2
            cases gk with
            | zero =>
              have hjj2 : ¬ ((j2 : Int) < (P.length : Int)) := by omega
              have HBE := Lib.hid (HBF.out.trans (HBr.out.mono (by simp; have := HBF.out.size; simp at this; omega)))
              go_wp2_with fail
              refine (wakes_any _).mono ?_
              rintro e w6 ⟨rfl, hb6⟩
              have HB6 := Lib.hid (HBE.out.trans (hb6.mono HBE.out.size))
              clear hb6
              go_wp2_with fail
              go_ret
              exact ⟨rfl, HB6.out⟩
            | succ g2 =>
              have hjj2 : (j2 : Int) < (P.length : Int) := by omega
              obtain ⟨r, hr⟩ := get_lt (l := P) (i := j2) (by omega)
              have hgx := HGET.out j2 r hr
              obtain ⟨af, haf⟩ : ∃ af, af = afGo (P.map Rs.id) [] r.depends := ⟨_, rfl⟩
              simp only [← haf] at hgx
              obtain ⟨ad, ncs, rfl, hnt, hncel⟩ := (HNDS.out.below HBr.out).elem Nd.trlen hgx
              obtain ⟨rcs, G, gc, F, fc, rfl, g0, g1, g2', g3, g4⟩ := Nd.at_iff.1 hnt
              obtain ⟨P1, p1, D1, d1, I1, i1, rfl, _⟩ := Rs.at_iff.1 g2'
              obtain ⟨e0, e1, e2, e3, e4, e5, e6, e7, e8, e9, e10⟩ := cel11 hncel
              obtain ⟨bd, rcs2, rfl, hrt, hrcel⟩ := (HPLS.out.below HBr.out).elem Rs.trlen hr
              obtain ⟨P2, p2, D2, d2, I2, i2, rfl, k1, k2, k3, k4, k5, k6⟩ := Rs.at_iff.1 hrt
              obtain ⟨b0, b1, b2, b3, b4, b5, b6⟩ := cel7 (hrcel.below ((Below.refl _ wo2).alloc (Nat.le_refl _) (.cells #[.string r.id, .int .i64 0, .string r.id, .string r.type, .string r.cond, .slice P1 r.props.length p1, .slice D1 r.depends.length d1, .bool r.retain, .slice I1 r.inner.length i1, .slice G (gOf ar0 r).length gc, .slice F af.length fc] 44)))
              have hb27 : Below wo2.heap.size wo2 ((wo2.alloc (.cells #[.string r.id, .int .i64 0, .string r.id, .string r.type, .string r.cond, .slice P1 r.props.length p1, .slice D1 r.depends.length d1, .bool r.retain, .slice I1 r.inner.length i1, .slice G (gOf ar0 r).length gc, .slice F af.length fc] 44)).alloc (.cells #[.string r.id, .string r.type, .string r.cond, .slice P2 r.props.length p2, .slice D2 r.depends.length d2, .bool r.retain, .slice I2 r.inner.length i2] 34)) := ((Below.refl _ wo2).alloc (Nat.le_refl _) _).alloc (by simp) _
              have HB7 := Lib.hid (HBr.out.trans (hb27.mono HBr.out.size))
              have HNB : Hid (Blk ((wo2.alloc (.cells #[.string r.id, .int .i64 0, .string r.id, .string r.type, .string r.cond, .slice P1 r.props.length p1, .slice D1 r.depends.length d1, .bool r.retain, .slice I1 r.inner.length i1, .slice G (gOf ar0 r).length gc, .slice F af.length fc] 44)).alloc (.cells #[.string r.id, .string r.type, .string r.cond, .slice P2 r.props.length p2, .slice D2 r.depends.length d2, .bool r.retain, .slice I2 r.inner.length i2] 34)) wo2.heap.size #[.string r.id, .int .i64 0, .string r.id, .string r.type, .string r.cond, .slice P1 r.props.length p1, .slice D1 r.depends.length d1, .bool r.retain, .slice I1 r.inner.length i1, .slice G (gOf ar0 r).length gc, .slice F af.length fc] 44) := Lib.hid ((Blk.new wo2 _ _).alloc _)
              have HRB : Hid (Blk ((wo2.alloc (.cells #[.string r.id, .int .i64 0, .string r.id, .string r.type, .string r.cond, .slice P1 r.props.length p1, .slice D1 r.depends.length d1, .bool r.retain, .slice I1 r.inner.length i1, .slice G (gOf ar0 r).length gc, .slice F af.length fc] 44)).alloc (.cells #[.string r.id, .string r.type, .string r.cond, .slice P2 r.props.length p2, .slice D2 r.depends.length d2, .bool r.retain, .slice I2 r.inner.length i2] 34)) (wo2.heap.size + 1) #[.string r.id, .string r.type, .string r.cond, .slice P2 r.props.length p2, .slice D2 r.depends.length d2, .bool r.retain, .slice I2 r.inner.length i2] 34) := Lib.hid (by
                have := Blk.new (wo2.alloc (.cells #[.string r.id, .int .i64 0, .string r.id, .string r.type, .string r.cond, .slice P1 r.props.length p1, .slice D1 r.depends.length d1, .bool r.retain, .slice I1 r.inner.length i1, .slice G (gOf ar0 r).length gc, .slice F af.length fc] 44)) #[.string r.id, .string r.type, .string r.cond, .slice P2 r.props.length p2, .slice D2 r.depends.length d2, .bool r.retain, .slice I2 r.inner.length i2] 34
                rw [show (wo2.alloc (.cells #[.string r.id, .int .i64 0, .string r.id, .string r.type, .string r.cond, .slice P1 r.props.length p1, .slice D1 r.depends.length d1, .bool r.retain, .slice I1 r.inner.length i1, .slice G (gOf ar0 r).length gc, .slice F af.length fc] 44)).heap.size = wo2.heap.size + 1 by simp] at this
                exact this)
              have HGL := Lib.hid (g3.below hb27)
              have HAF := Lib.hid (g4.below hb27)
              have HDL := Lib.hid (k5.below hb27)
              have HAE := Lib.hid haf
              clear hr hgx haf hnt hncel g0 g1 g2' g3 g4 hrt hrcel k1 k2 k3 k4 k5 k6 hb27
              go_wp2_with fail
              clear e0 e1 e2 e3 e4 e5 e6 e7 e8 e9 e10 b0 b1 b2 b3 b4 b5 b6
              obtain ⟨w7, hw7⟩ : ∃ w7, w7 = ((wo2.alloc (.cells #[.string r.id, .int .i64 0, .string r.id, .string r.type, .string r.cond, .slice P1 r.props.length p1, .slice D1 r.depends.length d1, .bool r.retain, .slice I1 r.inner.length i1, .slice G (gOf ar0 r).length gc, .slice F af.length fc] 44)).alloc (.cells #[.string r.id, .string r.type, .string r.cond, .slice P2 r.props.length p2, .slice D2 r.depends.length d2, .bool r.retain, .slice I2 r.inner.length i2] 34)) := ⟨_, rfl⟩
              rw [← hw7] at HB7 HNB HRB HGL HAF HDL
              rw [← hw7]
              have hlt7 : wo2.heap.size + 1 < w7.heap.size := HRB.out.lt
              have hlo7 := HBr.out.size
              clear hw7 HBr
              have n0 : w7.cell? ⟨wo2.heap.size, 0, none⟩ = some (.string r.id) := HNB.out.cell 0 rfl
              have n1 : w7.cell? ⟨wo2.heap.size, 1, none⟩ = some (.int .i64 0) := HNB.out.cell 1 rfl
              have n3 : w7.cell? ⟨wo2.heap.size, 9, none⟩ = some (.slice G (gOf ar0 r).length gc) := HNB.out.cell 9 rfl
              have n4 : w7.cell? ⟨wo2.heap.size, 10, none⟩ = some (.slice F af.length fc) := HNB.out.cell 10 rfl
              have m0 : w7.cell? ⟨wo2.heap.size + 1, 0, none⟩ = some (.string r.id) := HRB.out.cell 0 rfl
              have m2 : w7.cell? ⟨wo2.heap.size + 1, 2, none⟩ = some (.string r.cond) := HRB.out.cell 2 rfl
              have m4 : w7.cell? ⟨wo2.heap.size + 1, 4, none⟩ = some (.slice D2 r.depends.length d2) := HRB.out.cell 4 rfl
              go_cut [132] from 83 to 132 (fun v wx => v = .bool false ∧ Hid (Below w7.heap.size w7 wx))
              case first =>
                by_cases hcn : r.cond = ByteArray.empty
                · have hgl : (gOf ar0 r).length = 0 := by unfold gOf; rw [bEq_iff.2 hcn]; rfl
                  have hE : r.cond.toList = [] := by rw [hcn, Lib.toList_data]; rfl
                  rw [hgl] at n3
                  clear hcn
                  go_quiet (fail)
                  go_wp2_with fail
                  go_meet
                  exact ⟨rfl, Lib.hid (below_drewN _ _)⟩
                · have hgl : gOf ar0 r = [⟨0, r.cond⟩] := by unfold gOf; rw [bEq_ne hcn]; rfl
                  have hE : ¬ (r.cond.toList = []) := fun e => hcn (ba_ext (by rw [← Lib.toList_data, e]; rfl))
                  have hE2 : (!r.cond.toList.isEmpty) = true := by simpa using hE
                  have hG := HGL.out
                  rw [hgl] at hG n3
                  obtain ⟨ga, gcs, rfl, hgt, hgc⟩ := hG.elem Gd.trlen (i := 0) rfl
                  unfold Gd.tr at hgt
                  obtain ⟨_, rfl, _, hgt⟩ := at_leaf.1 hgt
                  obtain ⟨_, rfl, _, hgt⟩ := at_leaf.1 hgt
                  obtain rfl := at_nil.1 hgt
                  obtain ⟨v0, v1⟩ := cel2 hgc
                  rw [show ga.add (0 * 2) = ga from by simp [Addr.add]] at v0 v1
                  simp only [List.length_cons, List.length_nil, Nat.zero_add] at n3
                  clear hgl hcn hG hgt hgc
                  go_quiet (fail)
                  go_wp2_with fail
                  go_meet
                  exact ⟨rfl, Lib.hid (below_drewN _ _)⟩
              case rest =>
                obtain ⟨rfl, HC⟩ := hcut
                rename World => w8
                have HF8 := Lib.hid (HAF.out.below HC.out)
                have HD8 := Lib.hid (HDL.out.below HC.out)
                have HN8 := Lib.hid (HNB.out.below HC.out)
                have HR8 := Lib.hid (HRB.out.below HC.out)
                have HB8 := Lib.hid (HB7.out.trans (HC.out.mono HB7.out.size))
                have n4 : w8.cell? ⟨wo2.heap.size, 10, none⟩ = some (.slice F af.length fc) := HN8.out.cell 10 rfl
                have hcf := HF8.out.cap
                have hcd := HD8.out.cap
                have hfm := HF8.out.max
                have hdm := HD8.out.max
                unfold maxLen at hfm hdm
                clear n0 n1 n3 m0 m2 m4 HAF HDL HNB HRB HGL HB7 HC hlt7
                go_wp2_with fail
                go_loopg [136] af.length (fun g i wr => ∃ (j3 : Nat), j3 + g = af.length ∧ i = .int .i64 (j3 : Nat) ∧ Hid (Below w8.heap.size w8 wr))
                case atStart => exact ⟨0, by omega, rfl, Lib.hid (Below.refl _ _)⟩
                case round =>
                  obtain ⟨j3, hj3, rfl, HBa⟩ := hrel
                  rename World => w9
                  cases gk with
                  | zero =>
                    have hjj3 : ¬ ((j3 : Int) < (af.length : Int)) := by omega
                    have HBE := Lib.hid (HB8.out.trans (HBa.out.mono HB8.out.size))
                    go_wp2_with fail
                    go_roundg g2
                    case measure => omega
                    case rel => exact ⟨j2 + 1, by omega, by go_num, HBE⟩
                  | succ g3 =>
                    have hjj3 : (j3 : Int) < (af.length : Int) := by omega
                    obtain ⟨id, hid⟩ := get_lt (l := af) (i := j3) (by omega)
                    obtain ⟨adf, rfl, hic, his⟩ := (HF8.out.below HBa.out).str hid
                    have HANY : Hid (r.depends.any (pin id) = true) := Lib.hid (pin_any (by rw [← HAE.out]; exact List.mem_of_getElem? hid))
                    have m4 : w9.cell? ⟨wo2.heap.size + 1, 4, none⟩ = some (.slice D2 r.depends.length d2) := (HR8.out.below HBa.out).cell 4 rfl
                    clear hid
                    go_wp2_with fail
                    go_loopg [143, 13] r.depends.length (fun g i v wr => ∃ (j4 : Nat), j4 + g = r.depends.length ∧ i = .int .i64 (j4 : Nat) ∧ v = .bool ((r.depends.take j4).any (pin id)) ∧ Hid (Below w9.heap.size w9 wr))
                    case atStart => exact ⟨0, by omega, rfl, rfl, Lib.hid (Below.refl _ _)⟩
                    case round =>
                      obtain ⟨j4, hj4, rfl, rfl, HBc⟩ := hrel
                      rename World => w10
                      cases gk with
                      | zero =>
                        have hjj4 : ¬ ((j4 : Int) < (r.depends.length : Int)) := by omega
                        have hv : (r.depends.take j4).any (pin id) = true := by rw [List.take_of_length_le (by omega)]; exact HANY.out
                        rw [hv]
                        have HBE := Lib.hid (HBa.out.trans (HBc.out.mono HBa.out.size))
                        clear hv
                        go_wp2_with fail
                        go_roundg g3
                        case measure => omega
                        case rel => exact ⟨j3 + 1, by omega, by go_num, HBE⟩
                      | succ g4 =>
                        have hjj4 : (j4 : Int) < (r.depends.length : Int) := by omega
                        obtain ⟨de, hde⟩ := get_lt (l := r.depends) (i := j4) (by omega)
                        obtain ⟨add, rfl, hdc, hds⟩ := ((HD8.out.below HBa.out).below HBc.out).str hde
                        have HTK := Lib.hid (any_take (f := pin id) hde)
                        clear hde
                        cases hv : (r.depends.take j4).any (pin id) with
                        | true =>
                          go_wp2_with fail
                          go_roundg g4
                          case measure => omega
                          case rel => exact ⟨j4 + 1, by omega, by go_num, by rw [HTK.out, hv]; rfl, HBc⟩
                        | false =>
                          rw [hv] at HTK
                          clear hv
                          by_cases hE : de = id
                          · have hE2 : (de.toList == id.toList) = true := by rw [hE]; simp
                            have HV : Hid (pin id de = true) := Lib.hid (by unfold pin; rw [bEq_iff.2 hE]; rfl)
                            clear hE
                            go_wp2_with fail
                            go_roundg g4
                            case measure => omega
                            case rel => exact ⟨j4 + 1, by omega, by go_num, by rw [HTK.out, HV.out]; rfl, HBc⟩
                          · have hE2 : (de.toList == id.toList) = false := by
                              rw [beq_eq_false_iff_ne]
                              exact fun e => hE (ba_ext (by rw [← Lib.toList_data, e, Lib.toList_data]))
                            have HE := Lib.hid (bEq_ne hE)
                            clear hE
                            by_cases hL : de.size < id.size
                            · have hL2 : (de.size : Int) < (id.size : Int) := by omega
                              have hL3 : (0 : Int) ≤ (de.size : Int) ∧ (de.size : Int) ≤ (id.size : Int) := ⟨by omega, by omega⟩
                              have HV : Hid (pin id de = ((id.extract 0 de.size).toList == de.toList)) := Lib.hid (by
                                unfold pin
                                rw [HE.out, decide_eq_true hL]
                                unfold bEq
                                rw [← Lib.toList_data, ← Lib.toList_data, Bool.false_or, Bool.true_and])
                              go_wp2_with fail
                              go_roundg g4
                              case measure => omega
                              case rel => exact ⟨j4 + 1, by omega, by go_num, by rw [HTK.out, HV.out]; rfl, HBc⟩
                            · have hL2 : ¬ ((de.size : Int) < (id.size : Int)) := by omega
                              have HV : Hid (pin id de = false) := Lib.hid (by unfold pin; rw [HE.out, decide_eq_false hL]; rfl)
                              clear hL
                              go_wp2_with fail
                              go_roundg g4
                              case measure => omega
                              case rel => exact ⟨j4 + 1, by omega, by go_num, by rw [HTK.out, HV.out]; rfl, HBc⟩
      | succ g =>
        have hjj : (j : Int) < (t.res.length : Int) := by omega
        obtain ⟨r, hr⟩ := get_lt (l := t.res) (i := j) (by omega)
        have hro := (ok_rs HOK.out).2 r (List.mem_of_getElem? hr)
        obtain ⟨ad, rcs, rfl, hrt, hcel⟩ := (HRES.out.below HB.out).elem Rs.trlen hr
        obtain ⟨P1, p1, D1, d1, I1, i1, rfl, _⟩ := Rs.at_iff.1 hrt
        obtain ⟨e0, e1, e2, e3, e4, e5, e6⟩ := cel7 hcel
        have HRT := Lib.hid hrt
        have HTK := Lib.hid (plain_take hr)
        have hlo := HB.out.size
        clear hr hrt hcel
        by_cases hst : r.type = stackT
        · have hE : (r.type.toList == [83, 116, 97, 99, 107]) = true := by rw [beq_iff_eq, Lib.toList_data, hst]; rfl
          have HP2 : Hid (P = plain (t.res.take (j + 1))) := Lib.hid (by rw [HTK.out, bEq_iff.2 hst, HP.out]; simp)
          clear hst
          go_wp2_with fail
          go_roundg g
          case measure => omega
          case rel => exact ⟨j + 1, LA, lc, xs, P, by omega, by go_num, rfl, by omega, HP2, Lib.hid (HO.out.alloc _), Lib.hid (HTX.out.alloc _), Lib.hid (HB.out.alloc HB.out.size _), Lib.hid (HX.out.alloc _)⟩
        · have hE : (r.type.toList == [83, 116, 97, 99, 107]) = false := by
            simp only [beq_eq_false_iff_ne, ne_eq]
            exact fun e => hst (ba_ext (by rw [← Lib.toList_data, e]; rfl))
          have HP2 : Hid (P ++ [plR r] = plain (t.res.take (j + 1))) := Lib.hid (by rw [HTK.out, bEq_ne hst, HP.out]; simp)
          have HWS : Hid (Below wo.heap.size wo (wo.alloc (.cells #[.string r.id, .string r.type, .string r.cond, .slice P1 r.props.length p1, .slice D1 r.depends.length d1, .bool r.retain, .slice none 0 0] 34))) := Lib.hid ((Below.refl _ wo).alloc (Nat.le_refl _) _)
          have HRN : Hid (Rd ((wo.alloc (.cells #[.string r.id, .string r.type, .string r.cond, .slice P1 r.props.length p1, .slice D1 r.depends.length d1, .bool r.retain, .slice none 0 0] 34)).alloc (.cells #[.string r.id, .string r.type, .string r.cond, .slice P1 r.props.length p1, .slice D1 r.depends.length d1, .bool r.retain, .slice none 0 0] 34)) 7 (some ⟨wo.heap.size + 1, 0, none⟩) 1 1 [.string r.id, .string r.type, .string r.cond, .slice P1 r.props.length p1, .slice D1 r.depends.length d1, .bool r.retain, .slice none 0 0]) := Lib.hid (by
            have h := Rd.lit (wo.alloc (.cells #[.string r.id, .string r.type, .string r.cond, .slice P1 r.props.length p1, .slice D1 r.depends.length d1, .bool r.retain, .slice none 0 0] 34)) 7 1 #[.string r.id, .string r.type, .string r.cond, .slice P1 r.props.length p1, .slice D1 r.depends.length d1, .bool r.retain, .slice none 0 0] 34 (0, 0) rfl (by simp [maxLen])
            rw [show (wo.alloc (.cells #[.string r.id, .string r.type, .string r.cond, .slice P1 r.props.length p1, .slice D1 r.depends.length d1, .bool r.retain, .slice none 0 0] 34)).heap.size = wo.heap.size + 1 by simp] at h
            exact h)
          have HOS := Lib.hid (HO.out.below HWS.out)
          clear hst
          go_wp2_with (at_builtin; refine wpList_row info_res Try.underlying24 rfl (by omega) rfl (.tmp 30) (.tmp 32) rfl w.heap.size LA lc P.length xs rfl (HOS.out.alloc _) (some ⟨wo.heap.size + 1, 0, none⟩) 1 1 [.string r.id, .string r.type, .string r.cond, .slice P1 r.props.length p1, .slice D1 r.depends.length d1, .bool r.retain, .slice none 0 0] rfl HRN.out (by simp [Value.oneCell']) (by omega) (by omega) (by simp; omega) ?_; intro A' c' w6 ho hg hat; have HO6 := Lib.hid ho; have HG6 := Lib.hid hg; clear ho hg hat)
          go_roundg g
          case measure => omega
          case rel =>
            have hb6 : Below w.heap.size w w6 := ((HB.out.trans (HWS.out.mono HB.out.size)).alloc (by simp; omega) _).grown HG6.out (by simp; omega) (fun k hk => (HOS.out.lt hk).1)
            have hon : Only (fun k => some k = blk LA) wo w6 := ((Only.of_below HWS.out _).alloc _).grown HG6.out (fun g hg _ => hg.symm)
            have hlw : ∀ k, k < w.heap.size → ¬ (some k = blk LA) := fun k hk e => by have := (HO.out.lt e.symm).1; omega
            refine ⟨j + 1, A', c', xs ++ [.string r.id, .string r.type, .string r.cond, .slice P1 r.props.length p1, .slice D1 r.depends.length d1, .bool r.retain, .slice none 0 0], P ++ [plR r], by omega, by go_num, by simp, by simp; omega, HP2, Lib.hid (by simpa using HO6.out), Lib.hid ?_, Lib.hid hb6, Lib.hid (HX.out.only hon (fun e => HO.out.ne_blk HX.out (by decide) e.symm))⟩
            rw [List.flatMap_append]
            refine Trs.at.app.2 ⟨_, _, rfl, HTX.out.only hon hlw, ?_⟩
            simp only [List.flatMap_cons, List.flatMap_nil, List.append_nil]
            obtain ⟨_, _, _, _, _, _, he, k1, k2, k3, k4, k5, k6⟩ := Rs.at_iff.1 (HRT.out.only hon hlw)
            simp only [List.cons.injEq, Value.slice.injEq, Value.string.injEq, true_and, and_true] at he
            obtain ⟨⟨rfl, rfl⟩, ⟨rfl, rfl⟩, rfl, rfl⟩ := he
            exact Rs.at_iff.2 ⟨P1, p1, D1, d1, none, 0, rfl, k1, k2, k3, k4, k5, Ls.nil _ _ _ _ (by omega) _⟩
end Go.Proofs.Ytnimfdfdpkineaa
