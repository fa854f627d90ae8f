/- hoardinglaw31.wakes: judge.Order of the work, on a trace of 2 steps. -/
import Derived.Test.YtfjhomegjceilaaJwe
import Derived.Test.YtfjhomegjceilaaJwf
namespace Go.Proofs.Ytfjhomegjceilaa
open Go.RowKit Go.Maps
set_option linter.unusedVariables false
set_option linter.unusedSimpArgs false
attribute [local go_sem] Oper.semAt_some
def lf2_0 : Int → Value := fun _ => life0
def lf2_1 : Int → Value := fun j => if j = 1 then .agg #[.int .i64 0, .int .i64 0, .int .i64 1, .int .i64 0, .bool false] else lf2_0 j
def lf2_2 : Int → Value := fun j => if j = 2 then .agg #[.int .i64 1, .int .i64 0, .int .i64 1, .int .i64 0, .bool false] else lf2_1 j
def lf2 (xs : List Tc) : Int → Value := match xs.length with
  | 0 => lf2_0
  | 1 => lf2_1
  | _ => lf2_2
set_option maxRecDepth 100000 in
set_option maxHeartbeats 64000000 in
theorem order2_any (w : World) (qc ql c qt qtr : Nat) (h2 : 2 ≤ c) (hm : c ≤ maxLen) (h : Hc w qc ql) (ht : Ht w qt) (htr : Htr w qtr [.int .i64 1, .bool false, .bool false, .int .i64 2, .bool false, .bool false]) : Calls Try.prog 7 #[.agg #[.int .i8 0, .int .i64 2, .slice none 0 0, .slice none 0 0, .slice none 0 0, .slice none 0 0, .string ⟨#[]⟩, .slice none 0 0, .int .i64 0, .int .i8 0, .slice none 0 0, .slice none 0 0, .string ⟨#[]⟩, .slice none 0 0, .slice (some ⟨qc, 0, none⟩) 2 c, .slice (some ⟨qt, 0, none⟩) 2 2, .int .i8 0, .int .i8 0], .slice (some ⟨qtr, 0, none⟩) 2 2] w fun e w' => e = .returned (.bool false) ∧ Below w.heap.size w w' := by
  obtain ⟨W0, hW0⟩ : ∃ W', W' = w.alloc (.cells #[.int .i8 0, .int .i64 2, .slice none 0 0, .slice none 0 0, .slice none 0 0, .slice none 0 0, .string ⟨#[]⟩, .slice none 0 0, .int .i64 0, .int .i8 0, .slice none 0 0, .slice none 0 0, .string ⟨#[]⟩, .slice none 0 0, .slice (some ⟨qc, 0, none⟩) 2 c, .slice (some ⟨qt, 0, none⟩) 2 2, .int .i8 0, .int .i8 0] 44) := ⟨_, rfl⟩
  have hb0 : Below w.heap.size w W0 := by rw [hW0]; exact (Below.refl _ w).alloc (Nat.le_refl _) _
  have hk0 : Blk W0 w.heap.size #[.int .i8 0, .int .i64 2, .slice none 0 0, .slice none 0 0, .slice none 0 0, .slice none 0 0, .string ⟨#[]⟩, .slice none 0 0, .int .i64 0, .int .i8 0, .slice none 0 0, .slice none 0 0, .string ⟨#[]⟩, .slice none 0 0, .slice (some ⟨qc, 0, none⟩) 2 c, .slice (some ⟨qt, 0, none⟩) 2 2, .int .i8 0, .int .i8 0] 44 := by rw [hW0]; exact Blk.new w _ _
  have HW := Lib.hid hW0
  have HB0 := Lib.hid hb0
  have HK0 := Lib.hid hk0
  have HC := Lib.hid h
  have HT := Lib.hid ht
  have HTR := Lib.hid htr
  have H2 := Lib.hid h2
  have HM := Lib.hid hm
  have LC := Lib.hid h.lt
  have LL := Lib.hid h.ltl
  have LT := Lib.hid ht.lt
  have LR := Lib.hid htr.lt
  clear hW0 hb0 hk0 h ht htr h2 hm
  refine (callsIn_wide (n := 3)).1 ?_
  refine callsIn_of_wp_marks Try.func7 rfl trivial ?_
  simp only [Try.ntmps7, List.size_toArray, List.length_cons, List.length_nil, Nat.reduceAdd, Nat.reduceSub, Array.replicate_succ, Array.replicate_zero, List.push_toArray, List.append_toArray, List.nil_append, List.cons_append]
  refine wpIn_wide.2 ?_
  go_upto_region 1 with fail
  rw [← HW.out]
  go_wp2_with (refine wpList_load_row rfl 44 (.tmp 2) rfl w.heap.size rfl _ _ (0, 0) _ HK0.out Try.underlying44 rfl sz_work ?_)
  refine (may_any W0 qc ql c qt H2.out HM.out (HC.out.below HB0.out) (HT.out.below HB0.out)).mono ?_
  rintro e w1 ⟨rfl, hb1⟩
  have HK1 := Lib.hid (HK0.out.below hb1)
  have HB1 := Lib.hid (HB0.out.trans (hb1.mono HB0.out.size))
  clear hb1
  go_upto_region 4 with (first | (refine wpList_load_row rfl 44 (.tmp 2) rfl w.heap.size rfl _ _ (0, 0) _ HK1.out Try.underlying44 rfl sz_work ?_) | (refine wpList_store_row rfl 44 (.tmp 5) (.tmp 18) rfl w1.heap.size #[.int .i8 0, .int .i64 2, .slice none 0 0, .slice none 0 0, .slice none 0 0, .slice none 0 0, .string ⟨#[]⟩, .slice none 0 0, .int .i64 0, .int .i8 0, .slice none 0 0, .slice none 0 0, .string ⟨#[]⟩, .slice none 0 0, .slice (some ⟨qc, 0, none⟩) 2 c, .slice (some ⟨qt, 0, none⟩) 2 2, .int .i8 0, .int .i8 0] rfl rfl 44 _ (World.alloc_heap_new w1 _) sz_work rfl (one_WK qc c qt) ?_))
  obtain ⟨W2, hw⟩ : ∃ W', W' = (w1.alloc (.cells #[.int .i8 0, .int .i64 0, .slice none 0 0, .slice none 0 0, .slice none 0 0, .slice none 0 0, .string ⟨#[]⟩, .slice none 0 0, .int .i64 0, .int .i8 0, .slice none 0 0, .slice none 0 0, .string ⟨#[]⟩, .slice none 0 0, .slice none 0 0, .slice none 0 0, .int .i8 0, .int .i8 0] 44)).setRow w1.heap.size #[.int .i8 0, .int .i64 2, .slice none 0 0, .slice none 0 0, .slice none 0 0, .slice none 0 0, .string ⟨#[]⟩, .slice none 0 0, .int .i64 0, .int .i8 0, .slice none 0 0, .slice none 0 0, .string ⟨#[]⟩, .slice none 0 0, .slice (some ⟨qc, 0, none⟩) 2 c, .slice (some ⟨qt, 0, none⟩) 2 2, .int .i8 0, .int .i8 0] := ⟨_, rfl⟩
  have hb : Below w1.heap.size w1 W2 := by rw [hw]; exact below_setRow ((Below.refl _ _).alloc (Nat.le_refl _) _) (Nat.le_refl _) _
  have hk5 : Blk W2 w1.heap.size #[.int .i8 0, .int .i64 2, .slice none 0 0, .slice none 0 0, .slice none 0 0, .slice none 0 0, .string ⟨#[]⟩, .slice none 0 0, .int .i64 0, .int .i8 0, .slice none 0 0, .slice none 0 0, .string ⟨#[]⟩, .slice none 0 0, .slice (some ⟨qc, 0, none⟩) 2 c, .slice (some ⟨qt, 0, none⟩) 2 2, .int .i8 0, .int .i8 0] 44 := by rw [hw]; exact setRow_heap _ _ _ _ _ _ (World.alloc_heap_new w1 _)
  have hs2 : W2.heap.size = w1.heap.size + 1 := by rw [hw, setRow_size, World.size_alloc]
  rw [← hw]
  have HK2 := Lib.hid (HK1.out.below hb)
  have HB2 := Lib.hid (HB1.out.trans (hb.mono HB1.out.size))
  have HK5 := Lib.hid hk5
  have HS2 := Lib.hid hs2
  have LQ : Hid (w.heap.size < w1.heap.size) := Lib.hid HK1.out.lt
  clear hw hb hk5 hs2
  have k14 := HK2.out.cell 14 rfl
  go_wp2_with fail
  refine (clonec_any W2 qc ql c (HC.out.below HB2.out) H2.out HM.out).mono ?_
  rintro e w3 ⟨q, c', rfl, hcq, hb3, h22, hm2, hq⟩
  have hk5 := HK5.out.below hb3
  have y14 := hk5.frozen 14
  have x14 := hk5.cell 14 rfl
  have HK3 := Lib.hid (HK2.out.below hb3)
  have HB3 := Lib.hid (HB2.out.trans (hb3.mono HB2.out.size))
  have HK53 := Lib.hid hk5
  have HCQ := Lib.hid hcq
  have HQQ := Lib.hid hq
  have H22 := Lib.hid h22
  clear k14 hk5 hcq hb3 hq h22 hm2
  go_upto_region 5 with fail
  obtain ⟨W4, hw⟩ : ∃ W', W' = w3.setCell ⟨w1.heap.size, 14, none⟩ (.slice (some ⟨q, 0, none⟩) 2 c') := ⟨_, rfl⟩
  have hk5 : Blk W4 w1.heap.size #[.int .i8 0, .int .i64 2, .slice none 0 0, .slice none 0 0, .slice none 0 0, .slice none 0 0, .string ⟨#[]⟩, .slice none 0 0, .int .i64 0, .int .i8 0, .slice none 0 0, .slice none 0 0, .string ⟨#[]⟩, .slice none 0 0, .slice (some ⟨q, 0, none⟩) 2 c', .slice (some ⟨qt, 0, none⟩) 2 2, .int .i8 0, .int .i8 0] 44 := by rw [hw]; exact (HK53.out.set 14 (.slice (some ⟨q, 0, none⟩) 2 c')).eq rfl
  have hb4 : Below w.heap.size w W4 := by rw [hw]; exact HB3.out.setCell (p := ⟨w1.heap.size, 14, none⟩) (Nat.le_of_lt LQ.out) _
  have hk0 : Blk W4 w.heap.size #[.int .i8 0, .int .i64 2, .slice none 0 0, .slice none 0 0, .slice none 0 0, .slice none 0 0, .string ⟨#[]⟩, .slice none 0 0, .int .i64 0, .int .i8 0, .slice none 0 0, .slice none 0 0, .string ⟨#[]⟩, .slice none 0 0, .slice (some ⟨qc, 0, none⟩) 2 c, .slice (some ⟨qt, 0, none⟩) 2 2, .int .i8 0, .int .i8 0] 44 := by rw [hw]; exact HK3.out.setOther _ _ (by have := LQ.out; show w.heap.size ≠ w1.heap.size; omega)
  have hcq : Hc W4 q ql := by
    rw [hw]
    exact HCQ.out.keep (fun k hk he => Below.heap_setCell _ _ _ _ (by
      have h1 := HQQ.out
      have h2 := HS2.out
      have h3 := LL.out
      have h4 := LQ.out
      rcases he with rfl | rfl
      · show k ≠ w1.heap.size; omega
      · show k ≠ w1.heap.size; omega))
  rw [← hw]
  have HB4 := Lib.hid hb4
  have HK4 := Lib.hid hk0
  have HK54 := Lib.hid hk5
  have HCQ4 := Lib.hid hcq
  have f1 := hcq.cell 1 _ rfl
  have f9 := hcq.cell 9 _ rfl
  have k14 := hk5.cell 14 rfl
  clear hw hb4 hk0 hk5 hcq y14 x14
  go_wp2_with fail
  refine wp_loop_rounds 3 ?_
  rw [rounds_succ]
  go_wp2_with fail
  rw [rounds_succ]
  go_wp2_with fail
  rw [rounds_succ]
  go_upto_region 11 with fail
  clear f1 f9 k14
  refine oreg11 rfl W4 w.heap.size w1.heap.size q c' qc ql c qt H2.out HM.out H22.out HK4 HK54 (Lib.hid (HC.out.below HB4.out)) HCQ4 (Lib.hid (HT.out.below HB4.out)) ?_
  intro qm g g' o qk qb v7 v42 v43 v44 v45 v46 v47 v48 v49 v50 W5 e7 hbel hct hcb hqm hqb
  subst e7
  have HB5 := Lib.hid (HB4.out.trans (hbel.mono HB4.out.size))
  have HCT5 := Lib.hid hct
  have HCB5 := Lib.hid hcb
  have LM5 : Hid (w.heap.size ≤ qm) := Lib.hid (Nat.le_trans HB4.out.size hqm)
  clear hbel hct hcb hqm hqb
  go_upto_region 13 with fail
  obtain ⟨W6, hw6⟩ : ∃ W', W' = W5.alloc (.cells #[.int .i64 0] 3) := ⟨_, rfl⟩
  have hb6 : Below W5.heap.size W5 W6 := by rw [hw6]; exact (Below.refl _ _).alloc (Nat.le_refl _) _
  have hx6 : Boxed W6 W5.heap.size 3 (.int .i64 0) := by rw [hw6]; exact Boxed.new W5 _ _
  have hs6 : W6.heap.size = W5.heap.size + 1 := by rw [hw6, World.size_alloc]
  rw [← hw6]
  have HB6 := Lib.hid (HB5.out.trans (hb6.mono HB5.out.size))
  have HCT6 := Lib.hid (HCT5.out.below hb6)
  have HCB6 : Hid (Boxed W6 qb 54 (.pointer (some ⟨qk, 0, none⟩))) := Lib.hid ((hb6.block _ HCB5.out.lt).trans HCB5.out)
  have HX6 := Lib.hid hx6
  have HNE : Hid (∀ k, k = qk ∨ k = w.heap.size ∨ k = qc ∨ k = ql ∨ k = qt ∨ k = g ∨ k = g' ∨ k = qb → k < W5.heap.size) := Lib.hid (by
    have h1 := HCT5.out
    rintro k (rfl | rfl | rfl | rfl | rfl | rfl | rfl | rfl)
    · exact h1.ct.lt
    · exact h1.wk.lt
    · exact h1.hc.lt
    · exact h1.hc.ltl
    · exact h1.ht.lt
    · exact World.block_lt_of_cell? W5 _ h1.g0
    · exact World.block_lt_of_cell? W5 _ h1.gi
    · exact HCB5.out.lt)
  have LM : Hid (qm < W5.heap.size) := Lib.hid HCT5.out.ml.lt
  have S5 : Hid (w.heap.size ≤ W5.heap.size) := Lib.hid HB5.out.size
  have HS6 := Lib.hid hs6
  clear hw6 hb6 hx6 hs6
  go_wp2_with fail
  refine (steps_any _ _ _ _ _).mono ?_
  rintro e w7 ⟨rfl, hw7⟩
  have hs6 := HS6.out
  have hb7 : Below W6.heap.size W6 w7 := by rw [hw7]; exact ((Below.refl _ _).alloc (Nat.le_refl _) _).alloc (by simp) _
  have hwb : Boxed w7 (W5.heap.size + 1) 55 (.pointer (some ⟨w.heap.size, 0, none⟩)) := by
    rw [hw7, ← hs6]; exact (Boxed.new W6 _ _).alloc _
  have htb : Boxed w7 (W5.heap.size + 1 + 1) 22 (.slice (some ⟨qtr, 0, none⟩) 2 2) := by
    have := Boxed.new (W6.alloc (.cells #[.pointer (some ⟨w.heap.size, 0, none⟩)] 55)) 22 (.slice (some ⟨qtr, 0, none⟩) 2 2)
    rw [World.size_alloc, hs6] at this
    rw [hw7]; exact this
  have hs7 : w7.heap.size = W5.heap.size + 3 := by rw [hw7, World.size_alloc, World.size_alloc, hs6]
  have HB7 := Lib.hid (HB6.out.trans (hb7.mono HB6.out.size))
  have HOL : Hid (OL w lf2 qk w.heap.size qm qc ql c qt g g' o qb W5.heap.size w7.heap.size [] w7) := Lib.hid ⟨HB6.out.trans (hb7.mono HB6.out.size), HCT6.out.below hb7, (hb7.block _ HCB6.out.lt).trans HCB6.out, (hb7.block _ HX6.out.lt).trans HX6.out, Nat.le_refl _⟩
  have HSB : Hid (Sb w7 (W5.heap.size + 1 + 1) (W5.heap.size + 1) w.heap.size qtr qc c qt 2 [.int .i64 1, .bool false, .bool false, .int .i64 2, .bool false, .bool false]) := Lib.hid ⟨htb, hwb, HOL.out.ct.wk, HTR.out.below HB7.out⟩
  have HS7 := Lib.hid hs7
  rw [hs6]
  clear hs6 hw7 hb7 hwb htb hs7
  go_wp2_with fail
  refine wpIn_wide.1 (wpIn_rangeT (n := 3) 53 9 (fun x => .agg (tcCs x)) tcCs 26 (gf := 26) (lb := #[.pointer (some ⟨W5.heap.size + 1 + 1, 0, none⟩), .pointer (some ⟨W5.heap.size + 1, 0, none⟩)]) rfl (enters_of Try.func26 (by kernel_rfl) rfl)
    (steps2_iter w7 (W5.heap.size + 1 + 1) (W5.heap.size + 1) w.heap.size qtr qc c qt HSB.out) (fun k hk => by have h1 := HS7.out; have h2 := HSB.out.tr.lt; have h3 := S5.out; rcases hk with rfl | rfl | rfl | rfl <;> omega) (Below.refl _ _) (fun x => rfl) (fun _ _ _ _ h _ _ => h)
    (OL w lf2 qk w.heap.size qm qc ql c qt g g' o qb W5.heap.size w7.heap.size) (fun _ _ _ => False) (OL.own (by have := HS7.out; have := LM.out; omega) (by have := HS7.out; have := S5.out; omega)) (fun _ _ _ _ _ hs _ _ => hs) HOL.out
    ?assign ?body ?done (fun _ _ _ _ _ _ h _ => h.elim))
  case assign =>
    intro lp x W K hK
    dsimp only [tcEnc]
    gi_wp2
    exact hK
  case body =>
    intro lp pre x bk W hi hv hb hbk
    simp only [List.setIfInBounds_toArray, List.set_cons_zero, List.set_cons_succ]
    have hv' : Vt2 pre x := hv
    unfold Vt2 at hv'
    clear hv
    rcases hv' with ⟨rfl, rfl⟩ | ⟨rfl, rfl⟩
    · have hml : ML W qm 0 lf2_0 := hi.ct.ml
      have hlk0 := fun W' (hb : Below W.heap.size W W') => (hml.below hb).look (k := 1) (by omega) (by omega)
      rw [show lf2_0 1 = .agg #[.int .i64 0, .int .i64 0, .int .i64 0, .int .i64 0, .bool false] from rfl] at hlk0
      have HI := Lib.hid hi
      have HML := Lib.hid hml
      have HBK := Lib.hid hbk
      have HLK := Lib.hid hlk0
      have HA1 := Lib.hid (hi.ct.ct.cell 1 rfl)
      have HA2 := Lib.hid (hbk.cell 0 rfl)
      have HCB := Lib.hid hi.cb
      clear hml hlk0 hi hbk hb
      gi_wp2_with fail
      refine breg15 rfl W lp _ qb qk qm bk 1 0 0 0 0 false HCB HA1 HA2 HLK ?_
      intro v10 v54 v55 v56 v57 v58 v59 v60 X ⟨⟨lb, e10, hlb, hblk⟩, hbel⟩
      subst e10
      have c1 : X.cell? ⟨bk, 1, none⟩ = some (.bool false) := (HBK.out.below hbel).cell 1 rfl
      have HX := Lib.hid hbel
      have HL := Lib.hid hblk
      have LB := Lib.hid hlb
      have LK : Hid (bk < lb) := Lib.hid (Nat.lt_of_lt_of_le HBK.out.lt hlb)
      have LAT : Hid (W5.heap.size < lb) := Lib.hid (Nat.lt_of_lt_of_le HI.out.at_.lt hlb)
      have HAX : Hid (Boxed X W5.heap.size 3 (.int .i64 0)) := Lib.hid ((hbel.block _ HI.out.at_.lt).trans HI.out.at_)
      have y0 := hblk.cell 0 rfl
      have y2 := hblk.cell 2 rfl
      have z0 := hblk.frozen 0
      have z2 := hblk.frozen 2
      have ca := HAX.out.cell
      clear hblk hbel hlb
      gi_wp2_with fail
      refine wpIn_world (fun Z => Below W.heap.size W Z ∧ Blk Z lb #[.int .i64 0, .int .i64 0, .int .i64 1, .int .i64 0, .bool false] 67) ⟨(HX.out.setCell (p := ⟨lb, 0, none⟩) LB.out _).setCell (p := ⟨lb, 2, none⟩) LB.out _, ((HL.out.set 0 _).set 2 _).eq rfl⟩ ?_
      clear y0 y2 z0 z2 ca c1
      intro Z ⟨hbZ, hkZ⟩
      have d0 := Boxed.cell (t := 54) ((hbZ.block _ HI.out.cb.lt).trans HI.out.cb)
      have d1 := (HI.out.ct.ct.below hbZ).cell 1 rfl
      have d2 : Z.cell? ⟨bk, 0, none⟩ = some (.int .i64 1) := (HBK.out.below hbZ).cell 0 rfl
      have m0 := hkZ.cell 0 rfl
      have m1 := hkZ.cell 1 rfl
      have m2 := hkZ.cell 2 rfl
      have m3 := hkZ.cell 3 rfl
      have m4 := hkZ.cell 4 rfl
      have hbD : Below W.heap.size W Z.drew := hbZ.trans ⟨rfl, rfl, rfl, Nat.le_refl _, fun _ _ => rfl⟩
      have HBD := Lib.hid hbD
      have HMD := Lib.hid (HML.out.below hbD)
      have HAD : Hid (Boxed Z.drew W5.heap.size 3 (.int .i64 0)) := Lib.hid ((hbD.block _ HI.out.at_.lt).trans HI.out.at_)
      have HAM : Hid (W5.heap.size ≠ qm) := Lib.hid (HI.out.ct.ml.ne HI.out.at_.cell)
      clear hbZ hkZ hbD
      refine wpIn_region_still_tail (fun _ => trivial) rfl (fun h => CallsIn.inRound lp (callsIn_wide.2 h)) 7 (by kernel_rfl) (by kernel_rfl) (by kernel_rfl) ?_
      simp only [List.take_succ_cons, List.take_zero, List.drop_succ_cons, List.drop_zero]
      repeat still_step
      try refine wpStill_nil ?_
      gi_wp2_with (refine putIn_ML rfl _ _ _ rfl qm 0 lf2_0 rfl HMD.out (by unfold maxLen; omega) 1 (by omega) (by omega) rfl (.agg #[.int .i64 0, .int .i64 0, .int .i64 1, .int .i64 0, .bool false]) rfl ?_; intro Y2 hm2 hg2; have ha2 : Boxed Y2 W5.heap.size 3 (.int .i64 0) := (hg2.block _ HAD.out.lt (fun e => HAM.out (by injection e))).trans HAD.out; have ca := ha2.cell; have za := ha2.frozen; have HM2 := Lib.hid hm2; have HG2 := Lib.hid hg2; clear hm2 hg2 ha2)
      have hs7 := HS7.out
      have s5 := S5.out
      have lm := LM.out
      exact OL.step HI.out HBD.out HG2.out HM2.out (by omega) (by omega) LM5.out S5.out (fun k hk e => by have := HNE.out k hk; omega) (fun k hk => by
        have h1 := HTR.out.lt
        have h2 := HK0.out.lt
        have h3 := HNE.out _ (.inr (.inl rfl))
        have h4 := LR.out
        refine ⟨by rcases hk with rfl | rfl | rfl | rfl <;> omega, ?_, by rcases hk with rfl | rfl | rfl | rfl <;> omega⟩
        rcases hk with rfl | rfl | rfl | rfl
        · omega
        · omega
        · exact HI.out.ct.ml.ne (HI.out.ct.wk.cell 0 rfl)
        · have := LM5.out; omega)
    · have hml : ML W qm 1 lf2_1 := hi.ct.ml
      have hlk0 := fun W' (hb : Below W.heap.size W W') => (hml.below hb).look (k := 2) (by omega) (by omega)
      rw [show lf2_1 2 = .agg #[.int .i64 0, .int .i64 0, .int .i64 0, .int .i64 0, .bool false] from rfl] at hlk0
      have HI := Lib.hid hi
      have HML := Lib.hid hml
      have HBK := Lib.hid hbk
      have HLK := Lib.hid hlk0
      have HA1 := Lib.hid (hi.ct.ct.cell 1 rfl)
      have HA2 := Lib.hid (hbk.cell 0 rfl)
      have HCB := Lib.hid hi.cb
      clear hml hlk0 hi hbk hb
      gi_wp2_with fail
      refine breg15 rfl W lp _ qb qk qm bk 2 0 0 0 0 false HCB HA1 HA2 HLK ?_
      intro v10 v54 v55 v56 v57 v58 v59 v60 X ⟨⟨lb, e10, hlb, hblk⟩, hbel⟩
      subst e10
      have c1 : X.cell? ⟨bk, 1, none⟩ = some (.bool false) := (HBK.out.below hbel).cell 1 rfl
      have HX := Lib.hid hbel
      have HL := Lib.hid hblk
      have LB := Lib.hid hlb
      have LK : Hid (bk < lb) := Lib.hid (Nat.lt_of_lt_of_le HBK.out.lt hlb)
      have LAT : Hid (W5.heap.size < lb) := Lib.hid (Nat.lt_of_lt_of_le HI.out.at_.lt hlb)
      have HAX : Hid (Boxed X W5.heap.size 3 (.int .i64 1)) := Lib.hid ((hbel.block _ HI.out.at_.lt).trans HI.out.at_)
      have y0 := hblk.cell 0 rfl
      have y2 := hblk.cell 2 rfl
      have z0 := hblk.frozen 0
      have z2 := hblk.frozen 2
      have ca := HAX.out.cell
      clear hblk hbel hlb
      gi_wp2_with fail
      refine wpIn_world (fun Z => Below W.heap.size W Z ∧ Blk Z lb #[.int .i64 1, .int .i64 0, .int .i64 1, .int .i64 0, .bool false] 67) ⟨(HX.out.setCell (p := ⟨lb, 0, none⟩) LB.out _).setCell (p := ⟨lb, 2, none⟩) LB.out _, ((HL.out.set 0 _).set 2 _).eq rfl⟩ ?_
      clear y0 y2 z0 z2 ca c1
      intro Z ⟨hbZ, hkZ⟩
      have d0 := Boxed.cell (t := 54) ((hbZ.block _ HI.out.cb.lt).trans HI.out.cb)
      have d1 := (HI.out.ct.ct.below hbZ).cell 1 rfl
      have d2 : Z.cell? ⟨bk, 0, none⟩ = some (.int .i64 2) := (HBK.out.below hbZ).cell 0 rfl
      have m0 := hkZ.cell 0 rfl
      have m1 := hkZ.cell 1 rfl
      have m2 := hkZ.cell 2 rfl
      have m3 := hkZ.cell 3 rfl
      have m4 := hkZ.cell 4 rfl
      have hbD : Below W.heap.size W Z.drew := hbZ.trans ⟨rfl, rfl, rfl, Nat.le_refl _, fun _ _ => rfl⟩
      have HBD := Lib.hid hbD
      have HMD := Lib.hid (HML.out.below hbD)
      have HAD : Hid (Boxed Z.drew W5.heap.size 3 (.int .i64 1)) := Lib.hid ((hbD.block _ HI.out.at_.lt).trans HI.out.at_)
      have HAM : Hid (W5.heap.size ≠ qm) := Lib.hid (HI.out.ct.ml.ne HI.out.at_.cell)
      clear hbZ hkZ hbD
      refine wpIn_region_still_tail (fun _ => trivial) rfl (fun h => CallsIn.inRound lp (callsIn_wide.2 h)) 7 (by kernel_rfl) (by kernel_rfl) (by kernel_rfl) ?_
      simp only [List.take_succ_cons, List.take_zero, List.drop_succ_cons, List.drop_zero]
      repeat still_step
      try refine wpStill_nil ?_
      gi_wp2_with (refine putIn_ML rfl _ _ _ rfl qm 1 lf2_1 rfl HMD.out (by unfold maxLen; omega) 2 (by omega) (by omega) rfl (.agg #[.int .i64 1, .int .i64 0, .int .i64 1, .int .i64 0, .bool false]) rfl ?_; intro Y2 hm2 hg2; have ha2 : Boxed Y2 W5.heap.size 3 (.int .i64 1) := (hg2.block _ HAD.out.lt (fun e => HAM.out (by injection e))).trans HAD.out; have ca := ha2.cell; have za := ha2.frozen; have HM2 := Lib.hid hm2; have HG2 := Lib.hid hg2; clear hm2 hg2 ha2)
      have hs7 := HS7.out
      have s5 := S5.out
      have lm := LM.out
      exact OL.step HI.out HBD.out HG2.out HM2.out (by omega) (by omega) LM5.out S5.out (fun k hk e => by have := HNE.out k hk; omega) (fun k hk => by
        have h1 := HTR.out.lt
        have h2 := HK0.out.lt
        have h3 := HNE.out _ (.inr (.inl rfl))
        have h4 := LR.out
        refine ⟨by rcases hk with rfl | rfl | rfl | rfl <;> omega, ?_, by rcases hk with rfl | rfl | rfl | rfl <;> omega⟩
        rcases hk with rfl | rfl | rfl | rfl
        · omega
        · omega
        · exact HI.out.ct.ml.ne (HI.out.ct.wk.cell 0 rfl)
        · have := LM5.out; omega)
  case done =>
    rintro D xs W hD rfl hi hK
    have hct : Ct W qk w.heap.size qm qc ql c qt g g' o 2 lf2_2 := hi.ct
    have e7 := hi.cb.cell
    have HI := Lib.hid hi
    have HCT := Lib.hid hct
    have HK := Lib.hid hK
    have HD := Lib.hid hD
    have HB := Lib.hid hi.bel
    clear hct hi hK hD
    go_upto_region 24 with (refine wpList_store_row rfl 69 (.tmp 11) (.tmp 93) rfl W.heap.size #[.func (.func 14) #[.pointer (some ⟨qk, 0, none⟩)] #[], .func (.func 15) #[.pointer (some ⟨qk, 0, none⟩)] #[], .func (.func 16) #[.pointer (some ⟨qk, 0, none⟩)] #[]] rfl rfl 69 _ (World.alloc_heap_new W _) sz_RU rfl (one_RU qk) ?_)
    obtain ⟨X1, hw⟩ : ∃ W', W' = (W.alloc (.cells #[.nilFunc, .nilFunc, .nilFunc] 69)).setRow W.heap.size #[.func (.func 14) #[.pointer (some ⟨qk, 0, none⟩)] #[], .func (.func 15) #[.pointer (some ⟨qk, 0, none⟩)] #[], .func (.func 16) #[.pointer (some ⟨qk, 0, none⟩)] #[]] := ⟨_, rfl⟩
    have hb : Below W.heap.size W X1 := by rw [hw]; exact below_setRow ((Below.refl _ _).alloc (Nat.le_refl _) _) (Nat.le_refl _) _
    have hn : Blk X1 W.heap.size #[.func (.func 14) #[.pointer (some ⟨qk, 0, none⟩)] #[], .func (.func 15) #[.pointer (some ⟨qk, 0, none⟩)] #[], .func (.func 16) #[.pointer (some ⟨qk, 0, none⟩)] #[]] 69 := by rw [hw]; exact setRow_heap _ _ _ _ _ _ (World.alloc_heap_new W _)
    rw [← hw]
    have BX1 := Lib.hid hb
    have RX1 := Lib.hid hn
    have CX1 := Lib.hid (HCT.out.below hb)
    clear hw hb hn e7
    have k15 := CX1.out.wk.cell 15 rfl
    go_wp2_with fail
    refine wp_loop_rounds 3 ?_
    clear k15
    have ht := CX1.out.ht
    have t0 := ht.cell 0 _ rfl
    have t1 := ht.cell 1 _ rfl
    have t2 := ht.cell 2 _ rfl
    have t3 := ht.cell 3 _ rfl
    have t4 := ht.cell 4 _ rfl
    have t5 := ht.cell 5 _ rfl
    have t6 := ht.cell 6 _ rfl
    have t7 := ht.cell 7 _ rfl
    have t8 := ht.cell 8 _ rfl
    clear ht
    rw [rounds_succ]
    go_upto_region 27 with fail
    obtain ⟨X2, hw⟩ : ∃ W', W' = X1.alloc (.cells #[.int .i64 0, .int .i8 0, .int .i64 1, .int .i8 0, .string ⟨#[]⟩, .string ⟨#[]⟩, .slice none 0 0, .int .i8 1, .string ⟨#[]⟩] 48) := ⟨_, rfl⟩
    have hb : Below X1.heap.size X1 X2 := by rw [hw]; exact (Below.refl _ _).alloc (Nat.le_refl _) _
    have hn : Blk X2 X1.heap.size #[.int .i64 0, .int .i8 0, .int .i64 1, .int .i8 0, .string ⟨#[]⟩, .string ⟨#[]⟩, .slice none 0 0, .int .i8 1, .string ⟨#[]⟩] 48 := by rw [hw]; exact Blk.new _ _ _
    rw [← hw]
    have hbV : Below W.heap.size W X2 := BX1.out.trans (hb.mono BX1.out.size)
    have hcV := CX1.out.below hb
    have hlk0 := fun W' (hb : Below X2.heap.size X2 W') => (hcV.ml.below hb).look (k := 1) (by omega) (by omega)
    rw [show lf2_2 1 = .agg #[.int .i64 0, .int .i64 0, .int .i64 1, .int .i64 0, .bool false] from rfl] at hlk0
    have HCBV : Hid (Boxed X2 qb 54 (.pointer (some ⟨qk, 0, none⟩))) := Lib.hid ((hbV.block _ HI.out.cb.lt).trans HI.out.cb)
    have HKMV := Lib.hid (hcV.ct.cell 1 rfl)
    have HTKV := Lib.hid (hn.cell 2 rfl)
    have HLKV := Lib.hid hlk0
    have BX2 := Lib.hid hbV
    have CX2 := Lib.hid hcV
    have RX2 := Lib.hid (RX1.out.below hb)
    have TX2 := Lib.hid hn
    clear hw hb hn hbV hcV hlk0 t0 t1 t2 t3 t4 t5 t6 t7 t8
    refine wpIn_wide.1 (breg27 rfl X2 0 3 qb qk qm X1.heap.size 1 0 0 1 0 false HCBV HKMV HTKV HLKV ?_)
    intro v14 v101 v102 v103 v104 v105 v106 v107 v108 X3 ⟨⟨lb, e14, hlb, hlY⟩, hbVY⟩
    subst e14
    have HLY := Lib.hid hlY
    have BY := Lib.hid (BX2.out.trans (hbVY.mono BX2.out.size))
    have CY := Lib.hid (CX2.out.below hbVY)
    have RY := Lib.hid (RX2.out.below hbVY)
    have TY := Lib.hid (TX2.out.below hbVY)
    clear hlb hlY hbVY
    go_wp2_with fail
    refine oreg28_0 rfl X3 lb X1.heap.size W.heap.size qk 0 0 0 true (fun w' => Below W.heap.size W w' ∧ Ct w' qk w.heap.size qm qc ql c qt g g' o 2 lf2_2 ∧ Blk w' W.heap.size #[.func (.func 14) #[.pointer (some ⟨qk, 0, none⟩)] #[], .func (.func 15) #[.pointer (some ⟨qk, 0, none⟩)] #[], .func (.func 16) #[.pointer (some ⟨qk, 0, none⟩)] #[]] 69) (HLY.out.cell 0 rfl) (HLY.out.cell 1 rfl) (HLY.out.cell 2 rfl) (HLY.out.cell 3 rfl) (TY.out.cell 0 rfl) (TY.out.cell 1 rfl) (RY.out.cell 0 rfl) ?_ ?_
    · have hbd : Below X3.heap.size X3 X3.drew := ⟨rfl, rfl, rfl, Nat.le_refl _, fun _ _ => rfl⟩
      have hcY := CY.out
      refine (fwd0_any X3.drew 0 qk w.heap.size qm qc ql c qt g g' o 2 lf2_2 (hcY.below hbd)).mono ?_
      rintro e w' ⟨rfl, hb'⟩
      have hb2 : Below X3.heap.size X3 w' := hbd.trans hb'
      exact ⟨rfl, BY.out.trans (hb2.mono BY.out.size), hcY.below hb2, RY.out.below hb2⟩
    intro v109 v110 v111 v112 v113 v114 v115 v116 v117 v118 v119 v120 v121 v122 v123 v124 v125 v126 v127 v128 v129 v130 v131 v132 v133 v134 v135 v136 v137 v138 v139 X4 ⟨hbN, hcN, hrN⟩
    have BX4 := Lib.hid hbN
    have CX4 := Lib.hid hcN
    have RX4 := Lib.hid hrN
    clear hbN hcN hrN HLY BY CY RY TY HCBV HKMV HTKV HLKV
    go_wp2_with fail
    have ht := CX4.out.ht
    have t0 := ht.cell 9 _ rfl
    have t1 := ht.cell 10 _ rfl
    have t2 := ht.cell 11 _ rfl
    have t3 := ht.cell 12 _ rfl
    have t4 := ht.cell 13 _ rfl
    have t5 := ht.cell 14 _ rfl
    have t6 := ht.cell 15 _ rfl
    have t7 := ht.cell 16 _ rfl
    have t8 := ht.cell 17 _ rfl
    clear ht
    rw [rounds_succ]
    go_upto_region 27 with fail
    obtain ⟨X5, hw⟩ : ∃ W', W' = X4.alloc (.cells #[.int .i64 1, .int .i8 0, .int .i64 2, .int .i8 0, .string ⟨#[]⟩, .string ⟨#[]⟩, .slice none 0 0, .int .i8 0, .string ⟨#[]⟩] 48) := ⟨_, rfl⟩
    have hb : Below X4.heap.size X4 X5 := by rw [hw]; exact (Below.refl _ _).alloc (Nat.le_refl _) _
    have hn : Blk X5 X4.heap.size #[.int .i64 1, .int .i8 0, .int .i64 2, .int .i8 0, .string ⟨#[]⟩, .string ⟨#[]⟩, .slice none 0 0, .int .i8 0, .string ⟨#[]⟩] 48 := by rw [hw]; exact Blk.new _ _ _
    rw [← hw]
    have hbV : Below W.heap.size W X5 := BX4.out.trans (hb.mono BX4.out.size)
    have hcV := CX4.out.below hb
    have hlk0 := fun W' (hb : Below X5.heap.size X5 W') => (hcV.ml.below hb).look (k := 2) (by omega) (by omega)
    rw [show lf2_2 2 = .agg #[.int .i64 1, .int .i64 0, .int .i64 1, .int .i64 0, .bool false] from rfl] at hlk0
    have HCBV : Hid (Boxed X5 qb 54 (.pointer (some ⟨qk, 0, none⟩))) := Lib.hid ((hbV.block _ HI.out.cb.lt).trans HI.out.cb)
    have HKMV := Lib.hid (hcV.ct.cell 1 rfl)
    have HTKV := Lib.hid (hn.cell 2 rfl)
    have HLKV := Lib.hid hlk0
    have BX5 := Lib.hid hbV
    have CX5 := Lib.hid hcV
    have RX5 := Lib.hid (RX4.out.below hb)
    have TX5 := Lib.hid hn
    clear hw hb hn hbV hcV hlk0 t0 t1 t2 t3 t4 t5 t6 t7 t8
    refine wpIn_wide.1 (breg27 rfl X5 0 3 qb qk qm X4.heap.size 2 1 0 1 0 false HCBV HKMV HTKV HLKV ?_)
    intro v14 v101 v102 v103 v104 v105 v106 v107 v108 X6 ⟨⟨lb, e14, hlb, hlY⟩, hbVY⟩
    subst e14
    have HLY := Lib.hid hlY
    have BY := Lib.hid (BX5.out.trans (hbVY.mono BX5.out.size))
    have CY := Lib.hid (CX5.out.below hbVY)
    have RY := Lib.hid (RX5.out.below hbVY)
    have TY := Lib.hid (TX5.out.below hbVY)
    clear hlb hlY hbVY
    go_wp2_with fail
    refine oreg28_0 rfl X6 lb X4.heap.size W.heap.size qk 1 0 1 false (fun w' => Below W.heap.size W w' ∧ Ct w' qk w.heap.size qm qc ql c qt g g' o 2 lf2_2 ∧ Blk w' W.heap.size #[.func (.func 14) #[.pointer (some ⟨qk, 0, none⟩)] #[], .func (.func 15) #[.pointer (some ⟨qk, 0, none⟩)] #[], .func (.func 16) #[.pointer (some ⟨qk, 0, none⟩)] #[]] 69) (HLY.out.cell 0 rfl) (HLY.out.cell 1 rfl) (HLY.out.cell 2 rfl) (HLY.out.cell 3 rfl) (TY.out.cell 0 rfl) (TY.out.cell 1 rfl) (RY.out.cell 0 rfl) ?_ ?_
    · have hbd : Below X6.heap.size X6 X6.drew := ⟨rfl, rfl, rfl, Nat.le_refl _, fun _ _ => rfl⟩
      have hcY := CY.out
      refine (fwd1F_any X6.drew qk w.heap.size qm qc ql c qt g g' o 2 lf2_2 (hcY.below hbd) rfl).mono ?_
      rintro e w' ⟨rfl, hb'⟩
      have hb2 : Below X6.heap.size X6 w' := hbd.trans hb'
      exact ⟨rfl, BY.out.trans (hb2.mono BY.out.size), hcY.below hb2, RY.out.below hb2⟩
    intro v109 v110 v111 v112 v113 v114 v115 v116 v117 v118 v119 v120 v121 v122 v123 v124 v125 v126 v127 v128 v129 v130 v131 v132 v133 v134 v135 v136 v137 v138 v139 X7 ⟨hbN, hcN, hrN⟩
    have BX7 := Lib.hid hbN
    have CX7 := Lib.hid hcN
    have RX7 := Lib.hid hrN
    clear hbN hcN hrN HLY BY CY RY TY HCBV HKMV HTKV HLKV
    go_wp2_with fail
    have hDl : D < W.heap.size := (Array.getElem?_eq_some_iff.1 HK.out).1
    have hK8 : X7.heap[D]? = some (.deferred (some [])) := (BX7.out.block _ hDl).trans HK.out
    refine ⟨by simp, .inl ⟨_, _, rfl, run_takeDeferred hK8, ?_⟩⟩
    refine ⟨.bool false, ?_, rfl, ?_⟩
    · simp [results, Try.results7, go_sem]
    · exact (HB.out.trans (BX7.out.mono HB.out.size)).grown (grownBy_putObj' _ _ _) (Nat.le_trans HB.out.size BX7.out.size) (fun k e => by have := HD.out; have := HS7.out; have := S5.out; injection e with e; omega)
end Go.Proofs.Ytfjhomegjceilaa
