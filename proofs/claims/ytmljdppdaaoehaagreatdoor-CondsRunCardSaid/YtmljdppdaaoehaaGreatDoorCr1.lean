/- hoardingref15's has, inner, Names; the law's added: walks. -/
import Derived.Test.YtmljdppdaaoehaaGreatDoorCp5
namespace Go.Proofs.YtmljdppdaaoehaaGreatDoor
open Go.RowKit
set_option linter.unusedVariables false
set_option linter.unusedSimpArgs false

theorem sHas_drop {s y : ByteArray} {l : List ByteArray} {j : Nat} (hy : l[j]? = some y) : sHas s (l.drop j) = (bEq s y || sHas s (l.drop (j + 1))) := by
  rw [drop_cons hy]; rfl
theorem str_ne {x s : ByteArray} (h : x ≠ s) : (x.toList == s.toList) = false := beq_eq_false_iff_ne.2 (fun e => h (ba_ext (by rw [← Lib.toList_data, e, Lib.toList_data])))
set_option maxRecDepth 100000 in
set_option maxHeartbeats 4000000 in
theorem rhas_any (A : Option Addr) (c : Nat) (l : List ByteArray) (s : ByteArray) (w : World) (hr : Rd w 1 A l.length c (l.map .string)) :
    Calls Tryz.prog 36 #[.slice A l.length c, .string s] w fun e w' => e = .returned (.bool (sHas s l)) ∧ w' = w := by
  have hcap := hr.cap
  have hmx := hr.max
  unfold maxLen at hmx
  have HR := Lib.hid hr
  have HV : Hid (sHas s l = sHas s (l.drop 0)) := Lib.hid rfl
  obtain ⟨r, hrr⟩ : ∃ r, r = sHas s l := ⟨_, rfl⟩
  rw [← hrr] at HV ⊢
  clear hr hrr
  go_enter Tryz.func36, Tryz.ntmps36
  go_wp2_with fail
  go_loopg [5] l.length (fun g i wr => ∃ j : Nat, j + g = l.length ∧ i = .int .i64 (j : Nat) ∧ Hid (r = sHas s (l.drop j)) ∧ wr = w)
  case atStart => exact ⟨0, by omega, rfl, HV, rfl⟩
  case round =>
    obtain ⟨j, hj, rfl, HVJ, rfl⟩ := hrel
    cases gk with
    | zero =>
      have hjj : ¬ ((j : Int) < (l.length : Int)) := by omega
      have HE : Hid (r = false) := Lib.hid (by rw [HVJ.out, List.drop_of_length_le (by omega)]; rfl)
      go_wp2_with fail
      go_ret
      exact ⟨by rw [HE.out]; rfl, rfl⟩
    | succ g =>
      have hjj : (j : Int) < (l.length : Int) := by omega
      have hj0 : (0 : Int) ≤ (j : Int) ∧ (j : Int) < (l.length : Int) := by omega
      obtain ⟨y, hy⟩ := get_lt (l := l) (i := j) (by omega)
      obtain ⟨nd, rfl, hcy⟩ := HR.out.at_ j (.string y) (by simp [hy])
      have hst := sHas_drop (s := s) hy
      clear hy
      by_cases he : y = s
      · have hE : (y.toList == s.toList) = true := by rw [he]; simp
        have HE : Hid (r = true) := Lib.hid (by rw [HVJ.out, hst, bEq_iff.2 he.symm]; rfl)
        clear hst he
        go_wp2_with fail
        go_ret
        exact ⟨by rw [HE.out]; rfl, rfl⟩
      · have hE := str_ne he
        have HE : Hid (r = sHas s (l.drop (j + 1))) := Lib.hid (by rw [HVJ.out, hst, bEq_ne (fun e => he e.symm)]; rfl)
        clear hst he
        go_wp2_with fail
        go_roundg g
        case measure => omega
        case rel => exact ⟨j + 1, by omega, by go_num, HE, rfl⟩

/-! ### inner -/
def InC (k : Nat) : Prop := ∀ (S : Nat → Prop) (c : Cd) (cs : List Value) (w : World), c.deep k → Trs.at S w c.tr cs → (cNm k c).length ≤ 1000000 → Calls Tryz.prog 35 #[.agg cs.toArray] w (TextsOut (cNm k c) w)
theorem inner_zero : InC 0 := fun _ _ _ _ h => h.elim
theorem len_flat_take {α β : Type} {f : α → List β} {l : List α} {j : Nat} : ((l.take j).flatMap f).length ≤ (l.flatMap f).length := by
  conv => rhs; rw [← List.take_append_drop j l]
  rw [List.flatMap_append, List.length_append]; omega
set_option maxRecDepth 100000 in
set_option maxHeartbeats 8000000 in
theorem inner_step (k : Nat) (IH : InC k) : InC (k + 1) := by
  intro S c cs w hd htr hlen
  obtain ⟨xs, ys, L, lc, rfl, hns, _, hxa, hxb, hl⟩ := Cd.at_iff.1 htr
  obtain ⟨A1, n1, rfl, _⟩ := ex_cells hxa
  obtain ⟨B1, n2, rfl, _⟩ := ex_cells hxb
  have HL := Lib.hid hl
  have hcap := hl.cap
  have hbyt := hl.bytes
  have HIH := Lib.hid IH
  have HSZ := Lib.hid (cNm_sizes (k + 1) c _ htr)
  have hBX : Hid (Blk (w.alloc (.cells #[.string c.name, .int .i8 c.kind, .int .i8 c.a.kind, .string c.a.text, .int .i64 c.a.num, .string c.a.name, .string c.a.attr, .slice A1 c.a.l.length n1, .int .i8 c.b.kind, .string c.b.text, .int .i64 c.b.num, .string c.b.name, .string c.b.attr, .slice B1 c.b.l.length n2, .slice L c.l.length lc] 46)) w.heap.size #[.string c.name, .int .i8 c.kind, .int .i8 c.a.kind, .string c.a.text, .int .i64 c.a.num, .string c.a.name, .string c.a.attr, .slice A1 c.a.l.length n1, .int .i8 c.b.kind, .string c.b.text, .int .i64 c.b.num, .string c.b.name, .string c.b.attr, .slice B1 c.b.l.length n2, .slice L c.l.length lc] 46) := Lib.hid (Blk.new _ _ _)
  have hB0 : Hid (Below w.heap.size w (w.alloc (.cells #[.string c.name, .int .i8 c.kind, .int .i8 c.a.kind, .string c.a.text, .int .i64 c.a.num, .string c.a.name, .string c.a.attr, .slice A1 c.a.l.length n1, .int .i8 c.b.kind, .string c.b.text, .int .i64 c.b.num, .string c.b.name, .string c.b.attr, .slice B1 c.b.l.length n2, .slice L c.l.length lc] 46))) := Lib.hid ((Below.refl _ w).alloc (Nat.le_refl _) _)
  by_cases h4 : c.kind = 4
  · have HN : Hid (cNm (k + 1) c = [c.name]) := Lib.hid (by unfold cNm; rw [if_pos h4])
    rw [h4] at hB0
    clear hd htr hlen hxa hxb hl
    go_enter Tryz.func35, Tryz.ntmps35
    go_wp2_with fail
    go_ret
    refine ⟨some ⟨w.heap.size + 1, 0, none⟩, 1, by rw [HN.out]; rfl, ?_, hB0.out.alloc hB0.out.size _, HSZ.out⟩
    rw [HN.out]
    have e1 : (w.alloc (.cells #[.string c.name, .int .i8 4, .int .i8 c.a.kind, .string c.a.text, .int .i64 c.a.num, .string c.a.name, .string c.a.attr, .slice A1 c.a.l.length n1, .int .i8 c.b.kind, .string c.b.text, .int .i64 c.b.num, .string c.b.name, .string c.b.attr, .slice B1 c.b.l.length n2, .slice L c.l.length lc] 46)).heap.size = w.heap.size + 1 := by simp
    refine ⟨rfl, .inr ⟨w.heap.size + 1, #[.string c.name], rfl, by omega, ?_, by simp, by simp [maxLen], by simp, rfl⟩⟩
    have := World.alloc_heap_new (w.alloc (.cells #[.string c.name, .int .i8 4, .int .i8 c.a.kind, .string c.a.text, .int .i64 c.a.num, .string c.a.name, .string c.a.attr, .slice A1 c.a.l.length n1, .int .i8 c.b.kind, .string c.b.text, .int .i64 c.b.num, .string c.b.name, .string c.b.attr, .slice B1 c.b.l.length n2, .slice L c.l.length lc] 46)) (.cells #[.string c.name] 9)
    rwa [e1] at this
  · have hN : cNm (k + 1) c = c.l.flatMap (cNm k) := by rw [cNm, if_neg h4]
    have HN := Lib.hid hN
    have HLEN : Hid ((c.l.flatMap (cNm k)).length ≤ 1000000) := Lib.hid (hN ▸ hlen)
    have HD := Lib.hid hd
    have hk4 : (c.kind == 4) = false := beq_eq_false_iff_ne.2 h4
    clear hd htr hlen hxa hxb hl hN
    go_enter Tryz.func35, Tryz.ntmps35
    go_wp2_with fail
    go_loopg [3, 4] c.l.length (fun g v i wr => ∃ (j m : Nat) (N : List ByteArray) (A : Option Addr) (ac : Nat), j + g = c.l.length ∧ i = .int .i64 (j : Nat) ∧ v = .slice A m ac ∧ Hid (m = N.length) ∧ Hid (N = (c.l.take j).flatMap (cNm k)) ∧ Hid (Ow wr (w.heap.size + 1) 9 1 A N.length ac (N.map .string)) ∧ Hid (Below w.heap.size w wr) ∧ Hid (Blk wr w.heap.size #[.string c.name, .int .i8 c.kind, .int .i8 c.a.kind, .string c.a.text, .int .i64 c.a.num, .string c.a.name, .string c.a.attr, .slice A1 c.a.l.length n1, .int .i8 c.b.kind, .string c.b.text, .int .i64 c.b.num, .string c.b.name, .string c.b.attr, .slice B1 c.b.l.length n2, .slice L c.l.length lc] 46))
    case atStart => exact ⟨0, 0, [], none, 0, by omega, rfl, rfl, Lib.hid rfl, Lib.hid (by simp), Lib.hid (Ow.nil _ _ _ _), hB0, hBX⟩
    case round =>
      obtain ⟨j, m, N, A, ac, hj, rfl, rfl, HM, HNJ, HO, HB, HBX⟩ := hrel
      rename World => wo
      have b1 := HBX.out.cell 14 (v := .slice L c.l.length lc) rfl
      cases gk with
      | zero =>
        have hjj : ¬ ((j : Int) < (c.l.length : Int)) := by omega
        go_wp2_with fail
        go_ret
        have hN : N = cNm (k + 1) c := by rw [HNJ.out, HN.out, List.take_of_length_le (by omega)]
        have hm := HM.out
        have ho := HO.out
        subst hN
        subst hm
        exact ⟨A, ac, rfl, ho.le (by omega), HB.out, HSZ.out⟩
      | succ g =>
        have hjj : (j : Int) < (c.l.length : Int) := by omega
        have hj0 : (0 : Int) ≤ (j : Int) ∧ (j : Int) < (c.l.length : Int) := by omega
        obtain ⟨p, hp⟩ := get_lt (l := c.l) (i := j) (by omega)
        obtain ⟨ad, pcs, rfl, hpt, hpc⟩ := (HL.out.below HB.out).elem Cd.trlen hp
        have hpm := List.mem_of_getElem? hp
        have hfl : ((c.l.take (j + 1)).flatMap (cNm k)) = N ++ cNm k p := by
          rw [List.take_add_one, hp, List.flatMap_append, HNJ.out]; simp
        have hle : N.length + (cNm k p).length ≤ 1000000 := by
          rw [← List.length_append, ← hfl]
          exact Nat.le_trans len_flat_take HLEN.out
        have HFL := Lib.hid hfl
        have HC := Lib.hid (HIH.out S p pcs wo (HD.out p hpm) hpt (by omega))
        obtain ⟨N2, hN2⟩ : ∃ N2, N2 = cNm k p := ⟨_, rfl⟩
        rw [← hN2] at HC hle HFL
        obtain ⟨ps, qs, L2, lc2, rfl, _, _, hpa, hpb, _⟩ := Cd.at_iff.1 hpt
        obtain ⟨A3, n3, rfl, _⟩ := ex_cells hpa
        obtain ⟨B3, n4, rfl, _⟩ := ex_cells hpb
        obtain ⟨e0, e1, e2, e3, e4, e5, e6, e7, e8, e9, e10, e11, e12, e13, e14⟩ := cel15 hpc
        clear hp hpt hpc hpa hpb hpm hfl hN2
        go_wp2_with fail
        refine HC.out.mono ?_
        rintro e w3 ⟨PA, pc, rfl, hpo, hpb, _⟩
        have HPR := Lib.hid hpo.rd
        have hpcap := hpo.cap
        have HB3 := Lib.hid (HB.out.trans (hpb.mono HB.out.size))
        have HO3 := Lib.hid (HO.out.below hpb)
        have HBX3 := Lib.hid (HBX.out.below hpb)
        have hm := HM.out
        rw [hm]
        clear hpo hpb hm HM HC e0 e1 e2 e3 e4 e5 e6 e7 e8 e9 e10 e11 e12 e13 e14 b1
        go_wp2_with (at_builtin; refine wpList_row info_str Tryz.underlying35 rfl (by omega) rfl (.tmp 18) (.tmp 24) rfl (w.heap.size + 1) A ac N.length (N.map .string) rfl HO3.out PA N2.length pc (N2.map .string) rfl HPR.out (by intro u hu; obtain ⟨s, _, rfl⟩ := List.mem_map.1 hu; rfl) (by omega) (by omega) (by have := HBX3.out.lt; omega) ?_; intro A' c' w6 ho hg hat; have HO6 := Lib.hid ho; have HG6 := Lib.hid hg; clear ho hg hat)
        go_roundg g
        case measure => omega
        case rel => exact ⟨j + 1, N.length + N2.length, N ++ N2, A', c', by omega, by go_num, rfl, Lib.hid (by simp), Lib.hid HFL.out.symm, Lib.hid (by rw [List.length_append, List.map_append]; exact HO6.out), Lib.hid (HB3.out.grown HG6.out HB3.out.size (fun g hg => by have := (HO3.out.lt hg).1; omega)), Lib.hid (HBX3.out.grown HG6.out (fun e => by have := (HO3.out.lt e).1; omega))⟩
theorem inner_any : ∀ k, InC k := fun k => by
  induction k with
  | zero => exact inner_zero
  | succ k ih => exact inner_step k ih
set_option maxRecDepth 100000 in
set_option maxHeartbeats 8000000 in
theorem rnames_any (S : Nat → Prop) (c : Cd) (cs : List Value) (w : World) (hd : c.deep 20) (htr : Trs.at S w c.tr cs) (hlen : (cNm 20 c).length ≤ 1000000) :
    Calls Tryz.prog 14 #[.agg cs.toArray] w (TextsOut (names c) w) := by
  obtain ⟨xs, ys, L, lc, rfl, hns, _, hxa, hxb, hl⟩ := Cd.at_iff.1 htr
  obtain ⟨A1, n1, rfl, _⟩ := ex_cells hxa
  obtain ⟨B1, n2, rfl, _⟩ := ex_cells hxb
  have hB0 : Below w.heap.size w (w.alloc (.cells #[.string c.name, .int .i8 c.kind, .int .i8 c.a.kind, .string c.a.text, .int .i64 c.a.num, .string c.a.name, .string c.a.attr, .slice A1 c.a.l.length n1, .int .i8 c.b.kind, .string c.b.text, .int .i64 c.b.num, .string c.b.name, .string c.b.attr, .slice B1 c.b.l.length n2, .slice L c.l.length lc] 46)) := (Below.refl _ w).alloc (Nat.le_refl _) _
  have HC := Lib.hid (inner_any 20 S c _ _ hd (htr.below hB0) hlen)
  have HB0 := Lib.hid hB0
  have HSZ := Lib.hid (cNm_sizes 20 c _ htr)
  obtain ⟨N, hN⟩ : ∃ N, N = cNm 20 c := ⟨_, rfl⟩
  have HNM : Hid (names c = N.foldl addT []) := Lib.hid (by rw [hN]; rfl)
  rw [← hN] at HC hlen HSZ
  clear hd htr hxa hxb hl hN hB0
  go_enter Tryz.func14, Tryz.ntmps14
  go_wp2_with fail
  refine HC.out.mono ?_
  rintro e w3 ⟨PA, pc, rfl, hpo, hpb, _⟩
  have HPR := Lib.hid hpo.rd
  have hpcap := hpo.cap
  have hpm := hpo.max
  unfold maxLen at hpm
  have HB3 : Hid (Below w.heap.size w w3) := Lib.hid (HB0.out.trans (hpb.mono HB0.out.size))
  clear hpo hpb HC
  go_wp2_with fail
  go_loopg [3, 5] N.length (fun g v i wr => ∃ (j m : Nat) (R : List ByteArray) (A : Option Addr) (ac : Nat), j + g = N.length ∧ i = .int .i64 (j : Nat) ∧ v = .slice A m ac ∧ Hid (m = R.length) ∧ Hid (R = (N.take j).foldl addT []) ∧ Hid (R.length ≤ j) ∧ Hid (Ow wr w3.heap.size 9 1 A R.length ac (R.map .string)) ∧ Hid (Below w3.heap.size w3 wr))
  case atStart => exact ⟨0, 0, [], none, 0, by omega, rfl, rfl, Lib.hid rfl, Lib.hid (by simp), Lib.hid (by simp), Lib.hid (Ow.nil _ _ _ _), Lib.hid (Below.refl _ _)⟩
  case round =>
    obtain ⟨j, m, R, A, ac, hj, rfl, rfl, HM, HRJ, HRL, HO, HB⟩ := hrel
    rename World => wo
    cases gk with
    | zero =>
      have hjj : ¬ ((j : Int) < (N.length : Int)) := by omega
      go_wp2_with fail
      go_ret
      have hR : R = names c := by rw [HRJ.out, HNM.out, List.take_of_length_le (by omega)]
      have hm := HM.out
      have ho := HO.out
      subst hR
      subst hm
      refine ⟨A, ac, rfl, ho.le HB3.out.size, HB3.out.trans (HB.out.mono HB3.out.size), fun x hx => ?_⟩
      rw [HNM.out] at hx
      rcases foldT_mem hx with hx | hx
      · cases hx
      · exact HSZ.out x hx
    | succ g =>
      have hjj : (j : Int) < (N.length : Int) := by omega
      have hj0 : (0 : Int) ≤ (j : Int) ∧ (j : Int) < (N.length : Int) := by omega
      have hRl := HRL.out
      obtain ⟨y, hy⟩ := get_lt (l := N) (i := j) (by omega)
      obtain ⟨nd, rfl, hcy⟩ := (HPR.out.below HB.out).at_ j (.string y) (by simp [hy])
      have HST : Hid ((N.take (j + 1)).foldl addT [] = addT R y) := Lib.hid (by
        rw [List.take_add_one, hy, List.foldl_append, HRJ.out]; rfl)
      have HH := Lib.hid (rhas_any A ac R y wo HO.out.rd)
      have hm := HM.out
      rw [hm]
      clear hy hm HM
      obtain ⟨b, hb⟩ : ∃ b, b = sHas y R := ⟨_, rfl⟩
      rw [← hb] at HH
      have HADD : Hid (addT R y = if b then R else R ++ [y]) := Lib.hid (by rw [hb]; rfl)
      clear hb
      go_wp2_with fail
      refine HH.out.mono ?_
      rintro e w4 ⟨rfl, rfl⟩
      cases b with
      | true =>
        go_wp2_with fail
        go_roundg g
        case measure => omega
        case rel => exact ⟨j + 1, R.length, R, A, ac, by omega, by go_num, rfl, Lib.hid rfl, Lib.hid (by rw [HST.out, HADD.out]; rfl), Lib.hid (by omega), HO, HB⟩
      | false =>
        have HRN : Hid (Rd (w4.alloc (.cells #[.string y] 9)) 1 (some ⟨w4.heap.size, 0, none⟩) 1 1 [.string y]) := Lib.hid (Rd.lit w4 1 1 #[.string y] 9 (0, 0) rfl (by simp [maxLen]))
        go_wp2_with (at_builtin; refine wpList_row info_str Tryz.underlying35 rfl (by omega) rfl (.tmp 21) (.tmp 26) rfl w3.heap.size A ac R.length (R.map .string) rfl (HO.out.alloc _) (some ⟨w4.heap.size, 0, none⟩) 1 1 [.string y] rfl HRN.out (by simp [Value.oneCell']) (by omega) (by omega) (by have := HB.out.size; simp; omega) ?_; intro A' c' w6 ho hg hat; have HO6 := Lib.hid ho; have HG6 := Lib.hid hg; clear ho hg hat)
        go_roundg g
        case measure => omega
        case rel => exact ⟨j + 1, R.length + 1, R ++ [y], A', c', by omega, by go_num, rfl, Lib.hid (by simp), Lib.hid (by rw [HST.out, HADD.out]; rfl), Lib.hid (by simp; omega), Lib.hid (by rw [List.length_append, List.map_append]; exact HO6.out), Lib.hid ((HB.out.alloc HB.out.size _).grown HG6.out (HB.out.alloc HB.out.size _).size (fun g hg => by have := (HO.out.lt hg).1; omega))⟩
set_option maxRecDepth 100000 in
theorem added_any (s : ByteArray) (w : World) : Calls Tryz.prog 15 #[.string s] w fun e w' => e = .returned (.bool (addedN s)) ∧ w' = w := by
  have key : ∀ t : ByteArray, bEq s t = decide (s.toList = t.toList) := fun t => by
    by_cases h : s = t
    · rw [bEq_iff.2 h, h]; simp
    · rw [bEq_ne h]
      exact (decide_eq_false (fun e => h (ba_ext (by rw [← Lib.toList_data, e, Lib.toList_data])))).symm
  have HA : Hid (addedN s = (decide (s.toList = [88, 49]) || decide (s.toList = [88, 50]) || decide (s.toList = [88, 51]) || decide (s.toList = [88, 52]))) := Lib.hid (by
    show (bEq s x1N || bEq s x2N || bEq s x3N || bEq s x4N) = _
    rw [key, key, key, key, show x1N.toList = [88, 49] by rw [Lib.toList_data]; rfl, show x2N.toList = [88, 50] by rw [Lib.toList_data]; rfl, show x3N.toList = [88, 51] by rw [Lib.toList_data]; rfl, show x4N.toList = [88, 52] by rw [Lib.toList_data]; rfl])
  obtain ⟨r, hr⟩ : ∃ r, r = addedN s := ⟨_, rfl⟩
  rw [← hr] at HA ⊢
  clear key hr
  go_enter Tryz.func15, Tryz.ntmps15
  go_wp2_with fail
  all_goals
    go_ret
    refine ⟨?_, rfl⟩
    rw [HA.out]
    clear HA
    first
      | (simp [*]; done)
      | (refine congrArg (fun b => Ending.returned (Value.bool b)) ?_; rw [Bool.eq_iff_iff]; simp; done)
end Go.Proofs.YtmljdppdaaoehaaGreatDoor
