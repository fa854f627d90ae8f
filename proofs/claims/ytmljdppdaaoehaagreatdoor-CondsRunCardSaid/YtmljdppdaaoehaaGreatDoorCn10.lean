/- Conditions: what may be. -/
/- Conditions: what may be: the step. -/
/- Conditions: whether they may be (conds.Check). -/
/- Conditions: conds.Check's contract. -/
import Derived.Test.YtmljdppdaaoehaaGreatDoorCn8
namespace Go.Proofs.YtmljdppdaaoehaaGreatDoor
open Go.RowKit
set_option linter.unusedVariables false
set_option linter.unusedSimpArgs false

/-- the cells of a condition -/
theorem cd_all {S : Nat → Prop} {w : World} {a : Addr} {c : Cd} {cs : List Value} (h : Trs.at S w c.tr cs) (hc : Cel w a cs) :
    ∃ A1 n1 B1 n2 L lc, Cel w a [.string c.name, .int .i8 c.kind, .int .i8 c.a.kind, .string c.a.text, .int .i64 c.a.num, .string c.a.name, .string c.a.attr, .slice A1 c.a.l.length n1, .int .i8 c.b.kind, .string c.b.text, .int .i64 c.b.num, .string c.b.name, .string c.b.attr, .slice B1 c.b.l.length n2, .slice L c.l.length lc] ∧
      Ls S w 15 224 Cd.tr L lc c.l ∧ c.name.size ≤ 140737488351232 ∧ c.a.text.size ≤ 140737488351232 ∧ c.b.text.size ≤ 140737488351232 ∧ Trs.at S w c.a.tr [.int .i8 c.a.kind, .string c.a.text, .int .i64 c.a.num, .string c.a.name, .string c.a.attr, .slice A1 c.a.l.length n1] ∧
      Trs.at S w c.b.tr [.int .i8 c.b.kind, .string c.b.text, .int .i64 c.b.num, .string c.b.name, .string c.b.attr, .slice B1 c.b.l.length n2] := by
  obtain ⟨xs, ys, L, lc, rfl, hn, _, hxa, hxb, hl⟩ := Cd.at_iff.1 h
  obtain ⟨A1, n1, rfl, _, _, ha, _⟩ := Ex.at_iff.1 hxa
  obtain ⟨B1, n2, rfl, _, _, hb, _⟩ := Ex.at_iff.1 hxb
  exact ⟨A1, n1, B1, n2, L, lc, hc, hl, hn, ha, hb, hxa, hxb⟩
def ShC (k : Nat) : Prop := ∀ (S : Nat → Prop) (c : Cd) (cs : List Value) (a : Addr) (w : World), VOk w → Trs.at S w c.tr cs → Cel w a cs → Calls Tryz.prog 40 #[.pointer (some a), .int .i64 (k : Int)] w (BoolB (cShape k c) w)
/-- the parts may be -/
def partsOk (k : Nat) (l : List Cd) : Bool := l.all fun p => (decide (p.kind = 4) || bEq p.name ByteArray.empty) && cShape k p
def mayOf (c : Cd) : Bool := if c.kind = 1 ∨ c.kind = 2 then decide (1 ≤ c.l.length ∧ c.l.length ≤ 4) else if c.kind = 3 then decide (c.l.length = 1) else false
theorem cShape_eq (k : Nat) (c : Cd) : cShape (k + 1) c = if c.kind = 0 then decide (c.l.length = 0) && (xPlain c.a && xPlain c.b)
    else if c.kind = 4 then (xNothing c.a && xNothing c.b) && (decide (c.l.length = 0) && !bEq c.name ByteArray.empty)
    else mayOf c && (xNothing c.a && xNothing c.b) && partsOk k c.l := rfl
set_option maxRecDepth 100000 in
set_option maxHeartbeats 8000000 in
theorem sh_zero : ShC 0 := by
  intro S c cs a w hV htr hcel
  obtain ⟨A1, n1, B1, n2, L, lc, hcc, hls, hns, hta, htb, hxa, hxb⟩ := cd_all htr hcel
  have HCC := Lib.hid hcc
  have HLS := Lib.hid hls
  have hcap := hls.cap
  have hbyt := hls.bytes
  obtain ⟨c0, c1, c2, c3, c4, c5, c6, c7, c8, c9, c10, c11, c12, c13, c14⟩ := cel15 hcc
  have HNA := Lib.hid (nothing_any c.a A1 n1 w)
  have HNB := Lib.hid (fun w' => nothing_any c.b B1 n2 w')
  obtain ⟨nA, hnA⟩ : ∃ nA, nA = xNothing c.a := ⟨_, rfl⟩
  obtain ⟨nB, hnB⟩ : ∃ nB, nB = xNothing c.b := ⟨_, rfl⟩
  rw [← hnA] at HNA
  rw [← hnB] at HNB
  clear htr hcel hcc hls hV hxa hxb hnA hnB hta htb
  have hk0 : ((0 : Nat) : Int) = 0 := rfl
  rw [hk0]
  go_enter Tryz.func40, Tryz.ntmps40
  go_wp2_with fail
  refine HNA.out.mono ?_
  rintro e w2 ⟨rfl, hb2⟩
  have HB2 := Lib.hid hb2
  have d8 := (hb2.cell (World.block_lt_of_cell? w _ c8)).trans c8
  have d9 := (hb2.cell (World.block_lt_of_cell? w _ c9)).trans c9
  have d10 := (hb2.cell (World.block_lt_of_cell? w _ c10)).trans c10
  have d11 := (hb2.cell (World.block_lt_of_cell? w _ c11)).trans c11
  have d12 := (hb2.cell (World.block_lt_of_cell? w _ c12)).trans c12
  have d13 := (hb2.cell (World.block_lt_of_cell? w _ c13)).trans c13
  have d1 := (hb2.cell (World.block_lt_of_cell? w _ c1)).trans c1
  clear hb2 HNA
  cases nA with
  | false =>
    have HB3 := HB2
    clear d1 d8 d9 d10 d11 d12 d13
    obtain ⟨d0, d1, d2, d3, d4, d5, d6, d7, d8, d9, d10, d11, d12, d13, d14⟩ := cel15 (HCC.out.below HB3.out)
    clear c0 c1 c2 c3 c4 c5 c6 c7 c8 c9 c10 c11 c12 c13 c14 HNB
    by_cases h0 : c.kind = 0
    · have e0 : (c.kind == 0) = true := by rw [h0]; rfl
      skip
      go_wp2_with fail
      go_ret
      exact ⟨rfl, HB3.out⟩
    · have e0 : (c.kind == 0) = false := by simpa using h0
      by_cases h4 : c.kind = 4
      · have e4 : (c.kind == 4) = true := by rw [h4]; rfl
        skip
        go_wp2_with fail
        go_ret
        exact ⟨rfl, HB3.out⟩
      · have e4 : (c.kind == 4) = false := by simpa using h4
        by_cases h1 : c.kind = 1
        · have e1 : (c.kind == 1) = true := by rw [h1]; rfl
          skip
          by_cases hm1 : 1 ≤ c.l.length
          · have hm1i : (1 : Int) ≤ (c.l.length : Int) := by omega
            by_cases hm2 : (c.l.length : Int) ≤ 4
            all_goals
              go_wp2_with fail
              go_ret
              exact ⟨rfl, HB3.out⟩
          · have hm1i : ¬ ((1 : Int) ≤ (c.l.length : Int)) := by omega
            go_wp2_with fail
            go_ret
            exact ⟨rfl, HB3.out⟩
        · have e1 : (c.kind == 1) = false := by simpa using h1
          by_cases h2 : c.kind = 2
          · have e2 : (c.kind == 2) = true := by rw [h2]; rfl
            skip
            by_cases hm1 : 1 ≤ c.l.length
            · have hm1i : (1 : Int) ≤ (c.l.length : Int) := by omega
              by_cases hm2 : (c.l.length : Int) ≤ 4
              all_goals
                go_wp2_with fail
                go_ret
                exact ⟨rfl, HB3.out⟩
            · have hm1i : ¬ ((1 : Int) ≤ (c.l.length : Int)) := by omega
              go_wp2_with fail
              go_ret
              exact ⟨rfl, HB3.out⟩
          · have e2 : (c.kind == 2) = false := by simpa using h2
            by_cases h3 : c.kind = 3
            · have e3 : (c.kind == 3) = true := by rw [h3]; rfl
              skip
              cases hm : ((c.l.length : Int) == 1)
              all_goals
                go_wp2_with fail
                go_ret
                exact ⟨rfl, HB3.out⟩
            · have e3 : (c.kind == 3) = false := by simpa using h3
              go_wp2_with fail
              all_goals
                go_ret
                exact ⟨rfl, HB3.out⟩
  | true =>
    go_wp2_with fail
    refine (HNB.out _).mono ?_
    rintro e w3 ⟨rfl, hb3⟩
    have HB3 := Lib.hid (HB2.out.trans (hb3.mono HB2.out.size))
    clear d1 d8 d9 d10 d11 d12 d13 hb3
    obtain ⟨d0, d1, d2, d3, d4, d5, d6, d7, d8, d9, d10, d11, d12, d13, d14⟩ := cel15 (HCC.out.below HB3.out)
    clear c0 c1 c2 c3 c4 c5 c6 c7 c8 c9 c10 c11 c12 c13 c14 HNB
    cases nB with
    | false =>
      by_cases h0 : c.kind = 0
      · have e0 : (c.kind == 0) = true := by rw [h0]; rfl
        skip
        go_wp2_with fail
        go_ret
        exact ⟨rfl, HB3.out⟩
      · have e0 : (c.kind == 0) = false := by simpa using h0
        by_cases h4 : c.kind = 4
        · have e4 : (c.kind == 4) = true := by rw [h4]; rfl
          skip
          go_wp2_with fail
          go_ret
          exact ⟨rfl, HB3.out⟩
        · have e4 : (c.kind == 4) = false := by simpa using h4
          by_cases h1 : c.kind = 1
          · have e1 : (c.kind == 1) = true := by rw [h1]; rfl
            skip
            by_cases hm1 : 1 ≤ c.l.length
            · have hm1i : (1 : Int) ≤ (c.l.length : Int) := by omega
              by_cases hm2 : (c.l.length : Int) ≤ 4
              all_goals
                go_wp2_with fail
                go_ret
                exact ⟨rfl, HB3.out⟩
            · have hm1i : ¬ ((1 : Int) ≤ (c.l.length : Int)) := by omega
              go_wp2_with fail
              go_ret
              exact ⟨rfl, HB3.out⟩
          · have e1 : (c.kind == 1) = false := by simpa using h1
            by_cases h2 : c.kind = 2
            · have e2 : (c.kind == 2) = true := by rw [h2]; rfl
              skip
              by_cases hm1 : 1 ≤ c.l.length
              · have hm1i : (1 : Int) ≤ (c.l.length : Int) := by omega
                by_cases hm2 : (c.l.length : Int) ≤ 4
                all_goals
                  go_wp2_with fail
                  go_ret
                  exact ⟨rfl, HB3.out⟩
              · have hm1i : ¬ ((1 : Int) ≤ (c.l.length : Int)) := by omega
                go_wp2_with fail
                go_ret
                exact ⟨rfl, HB3.out⟩
            · have e2 : (c.kind == 2) = false := by simpa using h2
              by_cases h3 : c.kind = 3
              · have e3 : (c.kind == 3) = true := by rw [h3]; rfl
                skip
                cases hm : ((c.l.length : Int) == 1)
                all_goals
                  go_wp2_with fail
                  go_ret
                  exact ⟨rfl, HB3.out⟩
              · have e3 : (c.kind == 3) = false := by simpa using h3
                go_wp2_with fail
                all_goals
                  go_ret
                  exact ⟨rfl, HB3.out⟩
    | true =>
      by_cases h0 : c.kind = 0
      · have e0 : (c.kind == 0) = true := by rw [h0]; rfl
        skip
        go_wp2_with fail
        go_ret
        exact ⟨rfl, HB3.out⟩
      · have e0 : (c.kind == 0) = false := by simpa using h0
        by_cases h4 : c.kind = 4
        · have e4 : (c.kind == 4) = true := by rw [h4]; rfl
          skip
          go_wp2_with fail
          go_ret
          exact ⟨rfl, HB3.out⟩
        · have e4 : (c.kind == 4) = false := by simpa using h4
          by_cases h1 : c.kind = 1
          · have e1 : (c.kind == 1) = true := by rw [h1]; rfl
            skip
            by_cases hm1 : 1 ≤ c.l.length
            · have hm1i : (1 : Int) ≤ (c.l.length : Int) := by omega
              by_cases hm2 : (c.l.length : Int) ≤ 4
              all_goals
                go_wp2_with fail
                go_ret
                exact ⟨rfl, HB3.out⟩
            · have hm1i : ¬ ((1 : Int) ≤ (c.l.length : Int)) := by omega
              go_wp2_with fail
              go_ret
              exact ⟨rfl, HB3.out⟩
          · have e1 : (c.kind == 1) = false := by simpa using h1
            by_cases h2 : c.kind = 2
            · have e2 : (c.kind == 2) = true := by rw [h2]; rfl
              skip
              by_cases hm1 : 1 ≤ c.l.length
              · have hm1i : (1 : Int) ≤ (c.l.length : Int) := by omega
                by_cases hm2 : (c.l.length : Int) ≤ 4
                all_goals
                  go_wp2_with fail
                  go_ret
                  exact ⟨rfl, HB3.out⟩
              · have hm1i : ¬ ((1 : Int) ≤ (c.l.length : Int)) := by omega
                go_wp2_with fail
                go_ret
                exact ⟨rfl, HB3.out⟩
            · have e2 : (c.kind == 2) = false := by simpa using h2
              by_cases h3 : c.kind = 3
              · have e3 : (c.kind == 3) = true := by rw [h3]; rfl
                skip
                cases hm : ((c.l.length : Int) == 1)
                all_goals
                  go_wp2_with fail
                  go_ret
                  exact ⟨rfl, HB3.out⟩
              · have e3 : (c.kind == 3) = false := by simpa using h3
                go_wp2_with fail
                all_goals
                  go_ret
                  exact ⟨rfl, HB3.out⟩
end Go.Proofs.YtmljdppdaaoehaaGreatDoor
namespace Go.Proofs.YtmljdppdaaoehaaGreatDoor
open Go.RowKit
set_option linter.unusedVariables false
set_option linter.unusedSimpArgs false

set_option maxRecDepth 100000 in
set_option maxHeartbeats 8000000 in
theorem sh_step (k : Nat) (hk : k ≤ 100) (IH : ShC k) (S : Nat → Prop) (c : Cd) (cs : List Value) (a : Addr) (w : World) (hV : VOk w) (htr : Trs.at S w c.tr cs) (hcel : Cel w a cs) :
    Calls Tryz.prog 40 #[.pointer (some a), .int .i64 ((k + 1 : Nat) : Int)] w (BoolB (cShape (k + 1) c) w) := by
  obtain ⟨A1, n1, B1, n2, L, lc, hcc, hls, hns, hta, htb, hxa, hxb⟩ := cd_all htr hcel
  have HCC := Lib.hid hcc
  have HLS := Lib.hid hls
  have HV := Lib.hid hV
  have hcap := hls.cap
  have hbyt := hls.bytes
  have HE := Lib.hid (cShape_eq k c)
  obtain ⟨c0, c1, c2, c3, c4, c5, c6, c7, c8, c9, c10, c11, c12, c13, c14⟩ := cel15 hcc
  have HNA := Lib.hid (nothing_any c.a A1 n1 w)
  have HNB := Lib.hid (fun w' => nothing_any c.b B1 n2 w')
  have HPA := Lib.hid (fun (w' : World) (hb : Below w.heap.size w w') => plain_any c.a A1 n1 w' (HV.out.below hb) hta)
  have HPB := Lib.hid (fun (w' : World) (hb : Below w.heap.size w w') => plain_any c.b B1 n2 w' (HV.out.below hb) htb)
  obtain ⟨nA, hnA⟩ : ∃ nA, nA = xNothing c.a := ⟨_, rfl⟩
  obtain ⟨nB, hnB⟩ : ∃ nB, nB = xNothing c.b := ⟨_, rfl⟩
  rw [← hnA] at HNA HE
  rw [← hnB] at HNB HE
  clear htr hcel hcc hls hV hxa hxb hnA hnB hta htb
  have hk0 : ((k + 1 : Nat) : Int) = (k : Int) + 1 := by omega
  rw [hk0]
  go_enter Tryz.func40, Tryz.ntmps40
  go_wp2_with fail
  refine HNA.out.mono ?_
  rintro e w2 ⟨rfl, hb2⟩
  have HB2 := Lib.hid hb2
  have d8 := (hb2.cell (World.block_lt_of_cell? w _ c8)).trans c8
  have d9 := (hb2.cell (World.block_lt_of_cell? w _ c9)).trans c9
  have d10 := (hb2.cell (World.block_lt_of_cell? w _ c10)).trans c10
  have d11 := (hb2.cell (World.block_lt_of_cell? w _ c11)).trans c11
  have d12 := (hb2.cell (World.block_lt_of_cell? w _ c12)).trans c12
  have d13 := (hb2.cell (World.block_lt_of_cell? w _ c13)).trans c13
  have d1 := (hb2.cell (World.block_lt_of_cell? w _ c1)).trans c1
  clear hb2 HNA
  cases nA with
  | false =>
    have HB3 := HB2
    clear d1 d8 d9 d10 d11 d12 d13
    obtain ⟨d0, d1, d2, d3, d4, d5, d6, d7, d8, d9, d10, d11, d12, d13, d14⟩ := cel15 (HCC.out.below HB3.out)
    clear c0 c1 c2 c3 c4 c5 c6 c7 c8 c9 c10 c11 c12 c13 c14 HNB
    simp only [Bool.false_and] at HE
    go_upto_if 28 with (fail)
    by_cases h0 : c.kind = 0
    · have e0 : (c.kind == 0) = true := by rw [h0]; rfl
      have HR : Hid (cShape (k + 1) c = (decide (c.l.length = 0) && (xPlain c.a && xPlain c.b))) := Lib.hid (by rw [HE.out, if_pos h0])
      obtain ⟨pA, hpA⟩ : ∃ pA, pA = xPlain c.a := ⟨_, rfl⟩
      obtain ⟨pB, hpB⟩ : ∃ pB, pB = xPlain c.b := ⟨_, rfl⟩
      rw [← hpA] at HPA HR
      rw [← hpB] at HPB HR
      clear hpA hpB h0 HE
      rw [e0]
      by_cases hl : c.l.length = 0
      · have hli : ((c.l.length : Int) == 0) = true := by rw [beq_iff_eq]; omega
        go_wp2_with fail
        refine (HPA.out _ HB3.out).mono ?_
        rintro e w4 ⟨rfl, hb4⟩
        have HB4 := Lib.hid (HB3.out.trans (hb4.mono HB3.out.size))
        clear hb4 d0 d1 d2 d3 d4 d5 d6 d7 d8 d9 d10 d11 d12 d13 d14
        obtain ⟨d0, d1, d2, d3, d4, d5, d6, d7, d8, d9, d10, d11, d12, d13, d14⟩ := cel15 (HCC.out.below HB4.out)
        cases pA with
        | false =>
          go_wp2_with fail
          go_ret
          exact ⟨by rw [HR.out]; simp, HB4.out⟩
        | true =>
          go_wp2_with fail
          refine (HPB.out _ HB4.out).mono ?_
          rintro e w5 ⟨rfl, hb5⟩
          have HB5 := Lib.hid (HB4.out.trans (hb5.mono HB4.out.size))
          clear hb5
          go_wp2_with fail
          go_ret
          exact ⟨by rw [HR.out, hl]; simp, HB5.out⟩
      · have hli : ((c.l.length : Int) == 0) = false := by rw [beq_eq_false_iff_ne]; omega
        go_wp2_with fail
        go_ret
        exact ⟨by rw [HR.out, decide_eq_false hl]; rfl, HB3.out⟩
    · have e0 : (c.kind == 0) = false := by simpa using h0
      rw [if_neg h0] at HE
      clear HPA HPB
      by_cases h4 : c.kind = 4
      · have e4 : (c.kind == 4) = true := by rw [h4]; rfl
        rw [if_pos h4] at HE
        clear h0 h4
        by_cases hl : c.l.length = 0
        · have hli : ((c.l.length : Int) == 0) = true := by rw [beq_iff_eq]; omega
          by_cases hn : c.name = ByteArray.empty
          · have hE : c.name.toList = [] := by rw [hn, Lib.toList_data]; rfl
            have HPN := Lib.hid (bEq_iff.2 hn)
            clear hn
            go_wp2_with fail
            go_ret
            exact ⟨by rw [HE.out]; first | rfl | (rw [HPN.out]; simp), HB3.out⟩
          · have hE : ¬ (c.name.toList = []) := fun e => hn (ba_ext (by rw [← Lib.toList_data, e]; rfl))
            have hE2 : (!c.name.toList.isEmpty) = true := by simpa using hE
            have HPN := Lib.hid (bEq_ne hn)
            clear hn
            go_wp2_with fail
            go_ret
            exact ⟨by rw [HE.out]; first | rfl | (rw [HPN.out, hl]; simp), HB3.out⟩
        · have hli : ((c.l.length : Int) == 0) = false := by rw [beq_eq_false_iff_ne]; omega
          go_wp2_with fail
          go_ret
          exact ⟨by rw [HE.out]; first | rfl | (rw [decide_eq_false hl]; simp), HB3.out⟩
      · have e4 : (c.kind == 4) = false := by simpa using h4
        rw [if_neg h4] at HE
        by_cases h1 : c.kind = 1
        · have e1 : (c.kind == 1) = true := by rw [h1]; rfl
          clear h0 h4
          have HRF : Hid (cShape (k + 1) c = false) := Lib.hid (by rw [HE.out]; simp)
          clear HE
          go_wp2_with fail
          all_goals
            go_ret
            exact ⟨by rw [HRF.out]; first | done | rfl, HB3.out⟩
        · have e1 : (c.kind == 1) = false := by simpa using h1
          by_cases h2 : c.kind = 2
          · have e2 : (c.kind == 2) = true := by rw [h2]; rfl
            clear h0 h4 h1
            have HRF : Hid (cShape (k + 1) c = false) := Lib.hid (by rw [HE.out]; simp)
            clear HE
            go_wp2_with fail
            all_goals
              go_ret
              exact ⟨by rw [HRF.out]; first | done | rfl, HB3.out⟩
          · have e2 : (c.kind == 2) = false := by simpa using h2
            by_cases h3 : c.kind = 3
            · have e3 : (c.kind == 3) = true := by rw [h3]; rfl
              clear h0 h4
              have HRF : Hid (cShape (k + 1) c = false) := Lib.hid (by rw [HE.out]; simp)
              clear HE
              go_wp2_with fail
              all_goals
                go_ret
                exact ⟨by rw [HRF.out]; first | done | rfl, HB3.out⟩
            · have e3 : (c.kind == 3) = false := by simpa using h3
              clear h0 h4
              have HRF : Hid (cShape (k + 1) c = false) := Lib.hid (by rw [HE.out]; simp)
              clear HE
              go_wp2_with fail
              all_goals
                go_ret
                exact ⟨by rw [HRF.out]; first | done | rfl, HB3.out⟩
  | true =>
    go_wp2_with fail
    refine (HNB.out _).mono ?_
    rintro e w3 ⟨rfl, hb3⟩
    have HB3 := Lib.hid (HB2.out.trans (hb3.mono HB2.out.size))
    clear d1 d8 d9 d10 d11 d12 d13 hb3
    obtain ⟨d0, d1, d2, d3, d4, d5, d6, d7, d8, d9, d10, d11, d12, d13, d14⟩ := cel15 (HCC.out.below HB3.out)
    clear c0 c1 c2 c3 c4 c5 c6 c7 c8 c9 c10 c11 c12 c13 c14 HNB
    cases nB with
    | false =>
      simp only [Bool.true_and] at HE
      go_upto_if 28 with (fail)
      by_cases h0 : c.kind = 0
      · have e0 : (c.kind == 0) = true := by rw [h0]; rfl
        have HR : Hid (cShape (k + 1) c = (decide (c.l.length = 0) && (xPlain c.a && xPlain c.b))) := Lib.hid (by rw [HE.out, if_pos h0])
        obtain ⟨pA, hpA⟩ : ∃ pA, pA = xPlain c.a := ⟨_, rfl⟩
        obtain ⟨pB, hpB⟩ : ∃ pB, pB = xPlain c.b := ⟨_, rfl⟩
        rw [← hpA] at HPA HR
        rw [← hpB] at HPB HR
        clear hpA hpB h0 HE
        rw [e0]
        by_cases hl : c.l.length = 0
        · have hli : ((c.l.length : Int) == 0) = true := by rw [beq_iff_eq]; omega
          go_wp2_with fail
          refine (HPA.out _ HB3.out).mono ?_
          rintro e w4 ⟨rfl, hb4⟩
          have HB4 := Lib.hid (HB3.out.trans (hb4.mono HB3.out.size))
          clear hb4 d0 d1 d2 d3 d4 d5 d6 d7 d8 d9 d10 d11 d12 d13 d14
          obtain ⟨d0, d1, d2, d3, d4, d5, d6, d7, d8, d9, d10, d11, d12, d13, d14⟩ := cel15 (HCC.out.below HB4.out)
          cases pA with
          | false =>
            go_wp2_with fail
            go_ret
            exact ⟨by rw [HR.out]; simp, HB4.out⟩
          | true =>
            go_wp2_with fail
            refine (HPB.out _ HB4.out).mono ?_
            rintro e w5 ⟨rfl, hb5⟩
            have HB5 := Lib.hid (HB4.out.trans (hb5.mono HB4.out.size))
            clear hb5
            go_wp2_with fail
            go_ret
            exact ⟨by rw [HR.out, hl]; simp, HB5.out⟩
        · have hli : ((c.l.length : Int) == 0) = false := by rw [beq_eq_false_iff_ne]; omega
          go_wp2_with fail
          go_ret
          exact ⟨by rw [HR.out, decide_eq_false hl]; rfl, HB3.out⟩
      · have e0 : (c.kind == 0) = false := by simpa using h0
        rw [if_neg h0] at HE
        clear HPA HPB
        by_cases h4 : c.kind = 4
        · have e4 : (c.kind == 4) = true := by rw [h4]; rfl
          rw [if_pos h4] at HE
          clear h0 h4
          by_cases hl : c.l.length = 0
          · have hli : ((c.l.length : Int) == 0) = true := by rw [beq_iff_eq]; omega
            by_cases hn : c.name = ByteArray.empty
            · have hE : c.name.toList = [] := by rw [hn, Lib.toList_data]; rfl
              have HPN := Lib.hid (bEq_iff.2 hn)
              clear hn
              go_wp2_with fail
              go_ret
              exact ⟨by rw [HE.out]; first | rfl | (rw [HPN.out]; simp), HB3.out⟩
            · have hE : ¬ (c.name.toList = []) := fun e => hn (ba_ext (by rw [← Lib.toList_data, e]; rfl))
              have hE2 : (!c.name.toList.isEmpty) = true := by simpa using hE
              have HPN := Lib.hid (bEq_ne hn)
              clear hn
              go_wp2_with fail
              go_ret
              exact ⟨by rw [HE.out]; first | rfl | (rw [HPN.out, hl]; simp), HB3.out⟩
          · have hli : ((c.l.length : Int) == 0) = false := by rw [beq_eq_false_iff_ne]; omega
            go_wp2_with fail
            go_ret
            exact ⟨by rw [HE.out]; first | rfl | (rw [decide_eq_false hl]; simp), HB3.out⟩
        · have e4 : (c.kind == 4) = false := by simpa using h4
          rw [if_neg h4] at HE
          by_cases h1 : c.kind = 1
          · have e1 : (c.kind == 1) = true := by rw [h1]; rfl
            clear h0 h4
            have HRF : Hid (cShape (k + 1) c = false) := Lib.hid (by rw [HE.out]; simp)
            clear HE
            go_wp2_with fail
            all_goals
              go_ret
              exact ⟨by rw [HRF.out]; first | done | rfl, HB3.out⟩
          · have e1 : (c.kind == 1) = false := by simpa using h1
            by_cases h2 : c.kind = 2
            · have e2 : (c.kind == 2) = true := by rw [h2]; rfl
              clear h0 h4 h1
              have HRF : Hid (cShape (k + 1) c = false) := Lib.hid (by rw [HE.out]; simp)
              clear HE
              go_wp2_with fail
              all_goals
                go_ret
                exact ⟨by rw [HRF.out]; first | done | rfl, HB3.out⟩
            · have e2 : (c.kind == 2) = false := by simpa using h2
              by_cases h3 : c.kind = 3
              · have e3 : (c.kind == 3) = true := by rw [h3]; rfl
                clear h0 h4
                have HRF : Hid (cShape (k + 1) c = false) := Lib.hid (by rw [HE.out]; simp)
                clear HE
                go_wp2_with fail
                all_goals
                  go_ret
                  exact ⟨by rw [HRF.out]; first | done | rfl, HB3.out⟩
              · have e3 : (c.kind == 3) = false := by simpa using h3
                clear h0 h4
                have HRF : Hid (cShape (k + 1) c = false) := Lib.hid (by rw [HE.out]; simp)
                clear HE
                go_wp2_with fail
                all_goals
                  go_ret
                  exact ⟨by rw [HRF.out]; first | done | rfl, HB3.out⟩
    | true =>
      simp only [Bool.true_and] at HE
      go_upto_if 28 with (fail)
      by_cases h0 : c.kind = 0
      · have e0 : (c.kind == 0) = true := by rw [h0]; rfl
        have HR : Hid (cShape (k + 1) c = (decide (c.l.length = 0) && (xPlain c.a && xPlain c.b))) := Lib.hid (by rw [HE.out, if_pos h0])
        obtain ⟨pA, hpA⟩ : ∃ pA, pA = xPlain c.a := ⟨_, rfl⟩
        obtain ⟨pB, hpB⟩ : ∃ pB, pB = xPlain c.b := ⟨_, rfl⟩
        rw [← hpA] at HPA HR
        rw [← hpB] at HPB HR
        clear hpA hpB h0 HE
        rw [e0]
        by_cases hl : c.l.length = 0
        · have hli : ((c.l.length : Int) == 0) = true := by rw [beq_iff_eq]; omega
          go_wp2_with fail
          refine (HPA.out _ HB3.out).mono ?_
          rintro e w4 ⟨rfl, hb4⟩
          have HB4 := Lib.hid (HB3.out.trans (hb4.mono HB3.out.size))
          clear hb4 d0 d1 d2 d3 d4 d5 d6 d7 d8 d9 d10 d11 d12 d13 d14
          obtain ⟨d0, d1, d2, d3, d4, d5, d6, d7, d8, d9, d10, d11, d12, d13, d14⟩ := cel15 (HCC.out.below HB4.out)
          cases pA with
          | false =>
            go_wp2_with fail
            go_ret
            exact ⟨by rw [HR.out]; simp, HB4.out⟩
          | true =>
            go_wp2_with fail
            refine (HPB.out _ HB4.out).mono ?_
            rintro e w5 ⟨rfl, hb5⟩
            have HB5 := Lib.hid (HB4.out.trans (hb5.mono HB4.out.size))
            clear hb5
            go_wp2_with fail
            go_ret
            exact ⟨by rw [HR.out, hl]; simp, HB5.out⟩
        · have hli : ((c.l.length : Int) == 0) = false := by rw [beq_eq_false_iff_ne]; omega
          go_wp2_with fail
          go_ret
          exact ⟨by rw [HR.out, decide_eq_false hl]; rfl, HB3.out⟩
      · have e0 : (c.kind == 0) = false := by simpa using h0
        rw [if_neg h0] at HE
        clear HPA HPB
        by_cases h4 : c.kind = 4
        · have e4 : (c.kind == 4) = true := by rw [h4]; rfl
          rw [if_pos h4] at HE
          clear h0 h4
          by_cases hl : c.l.length = 0
          · have hli : ((c.l.length : Int) == 0) = true := by rw [beq_iff_eq]; omega
            by_cases hn : c.name = ByteArray.empty
            · have hE : c.name.toList = [] := by rw [hn, Lib.toList_data]; rfl
              have HPN := Lib.hid (bEq_iff.2 hn)
              clear hn
              go_wp2_with fail
              go_ret
              exact ⟨by rw [HE.out]; first | rfl | (rw [HPN.out]; simp), HB3.out⟩
            · have hE : ¬ (c.name.toList = []) := fun e => hn (ba_ext (by rw [← Lib.toList_data, e]; rfl))
              have hE2 : (!c.name.toList.isEmpty) = true := by simpa using hE
              have HPN := Lib.hid (bEq_ne hn)
              clear hn
              go_wp2_with fail
              go_ret
              exact ⟨by rw [HE.out]; first | rfl | (rw [HPN.out, hl]; simp), HB3.out⟩
          · have hli : ((c.l.length : Int) == 0) = false := by rw [beq_eq_false_iff_ne]; omega
            go_wp2_with fail
            go_ret
            exact ⟨by rw [HE.out]; first | rfl | (rw [decide_eq_false hl]; simp), HB3.out⟩
        · have e4 : (c.kind == 4) = false := by simpa using h4
          rw [if_neg h4] at HE
          by_cases h1 : c.kind = 1
          · have e1 : (c.kind == 1) = true := by rw [h1]; rfl
            clear h0 h4
            by_cases hm : 1 ≤ c.l.length ∧ c.l.length ≤ 4
            · have hm1 : (1 : Int) ≤ (c.l.length : Int) := by omega
              have hm2 : (c.l.length : Int) ≤ 4 := by omega
              have hmay : mayOf c = true := by unfold mayOf; rw [if_pos (by omega), decide_eq_true hm]
              have HR : Hid (cShape (k + 1) c = partsOk k c.l) := Lib.hid (by rw [HE.out, hmay]; simp)
              clear hmay HE hm
              go_wp2_with fail
              clear d0 d1 d2 d3 d4 d5 d6 d7 d8 d9 d10 d11 d12 d13 d14
              go_loopg [116] c.l.length (fun g i wr => ∃ j : Nat, j + g = c.l.length ∧ i = .int .i64 (j : Nat) ∧ Hid (partsOk k (c.l.take j) = true) ∧ Hid (Below w.heap.size w wr))
              case atStart => exact ⟨0, by omega, rfl, Lib.hid rfl, HB3⟩
              case round =>
                obtain ⟨j, hj, rfl, HOKJ, HBJ⟩ := hrel
                rename World => wo
                cases gk with
                | zero =>
                  have hjj : ¬ ((j : Int) < (c.l.length : Int)) := by omega
                  have HRT : Hid (cShape (k + 1) c = true) := Lib.hid (by
                    have := HOKJ.out
                    rw [List.take_of_length_le (by omega)] at this
                    rw [HR.out, this])
                  go_wp2_with fail
                  go_ret
                  exact ⟨by rw [HRT.out]; first | done | rfl, HBJ.out⟩
                | succ g =>
                  have hjj : (j : Int) < (c.l.length : Int) := by omega
                  obtain ⟨p, hp⟩ := get_lt (l := c.l) (i := j) (by omega)
                  obtain ⟨ad, pcs, rfl, hpt, hpc⟩ := (HLS.out.below HBJ.out).elem Cd.trlen hp
                  obtain ⟨_, _, q0, q1, _, _, _⟩ := cd_cel hpt hpc
                  obtain ⟨_, _, _, _, _, _, _, _, _, _, _, _, _, _, r14⟩ := cel15 (HCC.out.below HBJ.out)
                  have HIH := Lib.hid (IH S p pcs (ad.add (j * 15)) wo (HV.out.below HBJ.out) hpt hpc)
                  have HTK : Hid (partsOk k (c.l.take (j + 1)) = (partsOk k (c.l.take j) && ((decide (p.kind = 4) || bEq p.name ByteArray.empty) && cShape k p))) := Lib.hid (by
                    unfold partsOk
                    rw [List.take_add_one, hp, List.all_append]; simp)
                  have HNO : Hid (((decide (p.kind = 4) || bEq p.name ByteArray.empty) && cShape k p) = false → cShape (k + 1) c = false) := Lib.hid (fun h => by
                    have : partsOk k c.l = false := by
                      unfold partsOk
                      rw [List.all_eq_false]
                      exact ⟨p, List.mem_of_getElem? hp, by rw [h]; simp⟩
                    rw [HR.out, this])
                  have hkw : IntKind.i64.wrap ((k : Int) + 1 - 1) = (k : Int) := by rw [IntKind.wrap_i64]; omega
                  obtain ⟨sb, hsb⟩ : ∃ sb, sb = cShape k p := ⟨_, rfl⟩
                  rw [← hsb] at HIH HTK HNO
                  clear hp hpt hpc hsb
                  by_cases hk4 : p.kind = 4
                  · have ek4 : (p.kind == 4) = true := by rw [hk4]; rfl
                    rw [hk4] at HTK HNO
                    skip
                    cases sb with
                    | true =>
                      go_wp2_with fail
                      refine HIH.out.mono ?_
                      rintro e w5 ⟨rfl, hb5⟩
                      have HB5 := Lib.hid (HBJ.out.trans (hb5.mono HBJ.out.size))
                      clear hb5
                      go_wp2_with fail
                      go_roundg g
                      case measure => omega
                      case rel => exact ⟨j + 1, by omega, by go_num, Lib.hid (by rw [HTK.out, HOKJ.out]; simp), HB5⟩
                    | false =>
                      have HRF : Hid (cShape (k + 1) c = false) := Lib.hid (HNO.out (by simp))
                      go_wp2_with fail
                      refine HIH.out.mono ?_
                      rintro e w5 ⟨rfl, hb5⟩
                      have HB5 := Lib.hid (HBJ.out.trans (hb5.mono HBJ.out.size))
                      clear hb5
                      go_wp2_with fail
                      go_ret
                      exact ⟨by rw [HRF.out]; first | done | rfl, HB5.out⟩
                  · have ek4 : (p.kind == 4) = false := by simpa using hk4
                    by_cases hpn : p.name = ByteArray.empty
                    · have hE : p.name.toList = [] := by rw [hpn, Lib.toList_data]; rfl
                      have HPN := Lib.hid (bEq_iff.2 hpn)
                      clear hpn
                      cases sb with
                      | true =>
                        go_wp2_with fail
                        refine HIH.out.mono ?_
                        rintro e w5 ⟨rfl, hb5⟩
                        have HB5 := Lib.hid (HBJ.out.trans (hb5.mono HBJ.out.size))
                        clear hb5
                        go_wp2_with fail
                        go_roundg g
                        case measure => omega
                        case rel => exact ⟨j + 1, by omega, by go_num, Lib.hid (by rw [HTK.out, HOKJ.out, HPN.out]; simp), HB5⟩
                      | false =>
                        have HRF : Hid (cShape (k + 1) c = false) := Lib.hid (HNO.out (by simp))
                        go_wp2_with fail
                        refine HIH.out.mono ?_
                        rintro e w5 ⟨rfl, hb5⟩
                        have HB5 := Lib.hid (HBJ.out.trans (hb5.mono HBJ.out.size))
                        clear hb5
                        go_wp2_with fail
                        go_ret
                        exact ⟨by rw [HRF.out]; first | done | rfl, HB5.out⟩
                    · have hE : ¬ (p.name.toList = []) := fun e => hpn (ba_ext (by rw [← Lib.toList_data, e]; rfl))
                      have hE2 : (!p.name.toList.isEmpty) = true := by simpa using hE
                      have HRF : Hid (cShape (k + 1) c = false) := Lib.hid (HNO.out (by rw [decide_eq_false hk4, bEq_ne hpn]; rfl))
                      clear hpn HIH
                      go_wp2_with fail
                      go_ret
                      exact ⟨by rw [HRF.out]; first | done | rfl, HBJ.out⟩
            · have hmay : mayOf c = false := by unfold mayOf; rw [if_pos (by omega), decide_eq_false hm]
              by_cases hm1 : 1 ≤ c.l.length
              · have hm1i : (1 : Int) ≤ (c.l.length : Int) := by omega
                have hm2 : ¬ ((c.l.length : Int) ≤ 4) := by omega
                have HRF : Hid (cShape (k + 1) c = false) := Lib.hid (by rw [HE.out, hmay]; simp)
                clear hmay HE
                go_wp2_with fail
                go_ret
                exact ⟨by rw [HRF.out]; first | done | rfl, HB3.out⟩
              · have hm1i : ¬ ((1 : Int) ≤ (c.l.length : Int)) := by omega
                have HRF : Hid (cShape (k + 1) c = false) := Lib.hid (by rw [HE.out, hmay]; simp)
                clear hmay HE
                go_wp2_with fail
                go_ret
                exact ⟨by rw [HRF.out]; first | done | rfl, HB3.out⟩
          · have e1 : (c.kind == 1) = false := by simpa using h1
            by_cases h2 : c.kind = 2
            · have e2 : (c.kind == 2) = true := by rw [h2]; rfl
              clear h0 h4 h1
              by_cases hm : 1 ≤ c.l.length ∧ c.l.length ≤ 4
              · have hm1 : (1 : Int) ≤ (c.l.length : Int) := by omega
                have hm2 : (c.l.length : Int) ≤ 4 := by omega
                have hmay : mayOf c = true := by unfold mayOf; rw [if_pos (by omega), decide_eq_true hm]
                have HR : Hid (cShape (k + 1) c = partsOk k c.l) := Lib.hid (by rw [HE.out, hmay]; simp)
                clear hmay HE hm
                go_wp2_with fail
                clear d0 d1 d2 d3 d4 d5 d6 d7 d8 d9 d10 d11 d12 d13 d14
                go_loopg [116] c.l.length (fun g i wr => ∃ j : Nat, j + g = c.l.length ∧ i = .int .i64 (j : Nat) ∧ Hid (partsOk k (c.l.take j) = true) ∧ Hid (Below w.heap.size w wr))
                case atStart => exact ⟨0, by omega, rfl, Lib.hid rfl, HB3⟩
                case round =>
                  obtain ⟨j, hj, rfl, HOKJ, HBJ⟩ := hrel
                  rename World => wo
                  cases gk with
                  | zero =>
                    have hjj : ¬ ((j : Int) < (c.l.length : Int)) := by omega
                    have HRT : Hid (cShape (k + 1) c = true) := Lib.hid (by
                      have := HOKJ.out
                      rw [List.take_of_length_le (by omega)] at this
                      rw [HR.out, this])
                    go_wp2_with fail
                    go_ret
                    exact ⟨by rw [HRT.out]; first | done | rfl, HBJ.out⟩
                  | succ g =>
                    have hjj : (j : Int) < (c.l.length : Int) := by omega
                    obtain ⟨p, hp⟩ := get_lt (l := c.l) (i := j) (by omega)
                    obtain ⟨ad, pcs, rfl, hpt, hpc⟩ := (HLS.out.below HBJ.out).elem Cd.trlen hp
                    obtain ⟨_, _, q0, q1, _, _, _⟩ := cd_cel hpt hpc
                    obtain ⟨_, _, _, _, _, _, _, _, _, _, _, _, _, _, r14⟩ := cel15 (HCC.out.below HBJ.out)
                    have HIH := Lib.hid (IH S p pcs (ad.add (j * 15)) wo (HV.out.below HBJ.out) hpt hpc)
                    have HTK : Hid (partsOk k (c.l.take (j + 1)) = (partsOk k (c.l.take j) && ((decide (p.kind = 4) || bEq p.name ByteArray.empty) && cShape k p))) := Lib.hid (by
                      unfold partsOk
                      rw [List.take_add_one, hp, List.all_append]; simp)
                    have HNO : Hid (((decide (p.kind = 4) || bEq p.name ByteArray.empty) && cShape k p) = false → cShape (k + 1) c = false) := Lib.hid (fun h => by
                      have : partsOk k c.l = false := by
                        unfold partsOk
                        rw [List.all_eq_false]
                        exact ⟨p, List.mem_of_getElem? hp, by rw [h]; simp⟩
                      rw [HR.out, this])
                    have hkw : IntKind.i64.wrap ((k : Int) + 1 - 1) = (k : Int) := by rw [IntKind.wrap_i64]; omega
                    obtain ⟨sb, hsb⟩ : ∃ sb, sb = cShape k p := ⟨_, rfl⟩
                    rw [← hsb] at HIH HTK HNO
                    clear hp hpt hpc hsb
                    by_cases hk4 : p.kind = 4
                    · have ek4 : (p.kind == 4) = true := by rw [hk4]; rfl
                      rw [hk4] at HTK HNO
                      skip
                      cases sb with
                      | true =>
                        go_wp2_with fail
                        refine HIH.out.mono ?_
                        rintro e w5 ⟨rfl, hb5⟩
                        have HB5 := Lib.hid (HBJ.out.trans (hb5.mono HBJ.out.size))
                        clear hb5
                        go_wp2_with fail
                        go_roundg g
                        case measure => omega
                        case rel => exact ⟨j + 1, by omega, by go_num, Lib.hid (by rw [HTK.out, HOKJ.out]; simp), HB5⟩
                      | false =>
                        have HRF : Hid (cShape (k + 1) c = false) := Lib.hid (HNO.out (by simp))
                        go_wp2_with fail
                        refine HIH.out.mono ?_
                        rintro e w5 ⟨rfl, hb5⟩
                        have HB5 := Lib.hid (HBJ.out.trans (hb5.mono HBJ.out.size))
                        clear hb5
                        go_wp2_with fail
                        go_ret
                        exact ⟨by rw [HRF.out]; first | done | rfl, HB5.out⟩
                    · have ek4 : (p.kind == 4) = false := by simpa using hk4
                      by_cases hpn : p.name = ByteArray.empty
                      · have hE : p.name.toList = [] := by rw [hpn, Lib.toList_data]; rfl
                        have HPN := Lib.hid (bEq_iff.2 hpn)
                        clear hpn
                        cases sb with
                        | true =>
                          go_wp2_with fail
                          refine HIH.out.mono ?_
                          rintro e w5 ⟨rfl, hb5⟩
                          have HB5 := Lib.hid (HBJ.out.trans (hb5.mono HBJ.out.size))
                          clear hb5
                          go_wp2_with fail
                          go_roundg g
                          case measure => omega
                          case rel => exact ⟨j + 1, by omega, by go_num, Lib.hid (by rw [HTK.out, HOKJ.out, HPN.out]; simp), HB5⟩
                        | false =>
                          have HRF : Hid (cShape (k + 1) c = false) := Lib.hid (HNO.out (by simp))
                          go_wp2_with fail
                          refine HIH.out.mono ?_
                          rintro e w5 ⟨rfl, hb5⟩
                          have HB5 := Lib.hid (HBJ.out.trans (hb5.mono HBJ.out.size))
                          clear hb5
                          go_wp2_with fail
                          go_ret
                          exact ⟨by rw [HRF.out]; first | done | rfl, HB5.out⟩
                      · have hE : ¬ (p.name.toList = []) := fun e => hpn (ba_ext (by rw [← Lib.toList_data, e]; rfl))
                        have hE2 : (!p.name.toList.isEmpty) = true := by simpa using hE
                        have HRF : Hid (cShape (k + 1) c = false) := Lib.hid (HNO.out (by rw [decide_eq_false hk4, bEq_ne hpn]; rfl))
                        clear hpn HIH
                        go_wp2_with fail
                        go_ret
                        exact ⟨by rw [HRF.out]; first | done | rfl, HBJ.out⟩
              · have hmay : mayOf c = false := by unfold mayOf; rw [if_pos (by omega), decide_eq_false hm]
                by_cases hm1 : 1 ≤ c.l.length
                · have hm1i : (1 : Int) ≤ (c.l.length : Int) := by omega
                  have hm2 : ¬ ((c.l.length : Int) ≤ 4) := by omega
                  have HRF : Hid (cShape (k + 1) c = false) := Lib.hid (by rw [HE.out, hmay]; simp)
                  clear hmay HE
                  go_wp2_with fail
                  go_ret
                  exact ⟨by rw [HRF.out]; first | done | rfl, HB3.out⟩
                · have hm1i : ¬ ((1 : Int) ≤ (c.l.length : Int)) := by omega
                  have HRF : Hid (cShape (k + 1) c = false) := Lib.hid (by rw [HE.out, hmay]; simp)
                  clear hmay HE
                  go_wp2_with fail
                  go_ret
                  exact ⟨by rw [HRF.out]; first | done | rfl, HB3.out⟩
            · have e2 : (c.kind == 2) = false := by simpa using h2
              by_cases h3 : c.kind = 3
              · have e3 : (c.kind == 3) = true := by rw [h3]; rfl
                clear h0 h4
                by_cases hm : c.l.length = 1
                · have hm1 : ((c.l.length : Int) == 1) = true := by rw [beq_iff_eq]; omega
                  have hmay : mayOf c = true := by unfold mayOf; rw [if_neg (by omega), if_pos (by omega), decide_eq_true hm]
                  have HR : Hid (cShape (k + 1) c = partsOk k c.l) := Lib.hid (by rw [HE.out, hmay]; simp)
                  clear hmay HE
                  go_wp2_with fail
                  clear d0 d1 d2 d3 d4 d5 d6 d7 d8 d9 d10 d11 d12 d13 d14
                  go_loopg [116] c.l.length (fun g i wr => ∃ j : Nat, j + g = c.l.length ∧ i = .int .i64 (j : Nat) ∧ Hid (partsOk k (c.l.take j) = true) ∧ Hid (Below w.heap.size w wr))
                  case atStart => exact ⟨0, by omega, rfl, Lib.hid rfl, HB3⟩
                  case round =>
                    obtain ⟨j, hj, rfl, HOKJ, HBJ⟩ := hrel
                    rename World => wo
                    cases gk with
                    | zero =>
                      have hjj : ¬ ((j : Int) < (c.l.length : Int)) := by omega
                      have HRT : Hid (cShape (k + 1) c = true) := Lib.hid (by
                        have := HOKJ.out
                        rw [List.take_of_length_le (by omega)] at this
                        rw [HR.out, this])
                      go_wp2_with fail
                      go_ret
                      exact ⟨by rw [HRT.out]; first | done | rfl, HBJ.out⟩
                    | succ g =>
                      have hjj : (j : Int) < (c.l.length : Int) := by omega
                      obtain ⟨p, hp⟩ := get_lt (l := c.l) (i := j) (by omega)
                      obtain ⟨ad, pcs, rfl, hpt, hpc⟩ := (HLS.out.below HBJ.out).elem Cd.trlen hp
                      obtain ⟨_, _, q0, q1, _, _, _⟩ := cd_cel hpt hpc
                      obtain ⟨_, _, _, _, _, _, _, _, _, _, _, _, _, _, r14⟩ := cel15 (HCC.out.below HBJ.out)
                      have HIH := Lib.hid (IH S p pcs (ad.add (j * 15)) wo (HV.out.below HBJ.out) hpt hpc)
                      have HTK : Hid (partsOk k (c.l.take (j + 1)) = (partsOk k (c.l.take j) && ((decide (p.kind = 4) || bEq p.name ByteArray.empty) && cShape k p))) := Lib.hid (by
                        unfold partsOk
                        rw [List.take_add_one, hp, List.all_append]; simp)
                      have HNO : Hid (((decide (p.kind = 4) || bEq p.name ByteArray.empty) && cShape k p) = false → cShape (k + 1) c = false) := Lib.hid (fun h => by
                        have : partsOk k c.l = false := by
                          unfold partsOk
                          rw [List.all_eq_false]
                          exact ⟨p, List.mem_of_getElem? hp, by rw [h]; simp⟩
                        rw [HR.out, this])
                      have hkw : IntKind.i64.wrap ((k : Int) + 1 - 1) = (k : Int) := by rw [IntKind.wrap_i64]; omega
                      obtain ⟨sb, hsb⟩ : ∃ sb, sb = cShape k p := ⟨_, rfl⟩
                      rw [← hsb] at HIH HTK HNO
                      clear hp hpt hpc hsb
                      by_cases hk4 : p.kind = 4
                      · have ek4 : (p.kind == 4) = true := by rw [hk4]; rfl
                        rw [hk4] at HTK HNO
                        skip
                        cases sb with
                        | true =>
                          go_wp2_with fail
                          refine HIH.out.mono ?_
                          rintro e w5 ⟨rfl, hb5⟩
                          have HB5 := Lib.hid (HBJ.out.trans (hb5.mono HBJ.out.size))
                          clear hb5
                          go_wp2_with fail
                          go_roundg g
                          case measure => omega
                          case rel => exact ⟨j + 1, by omega, by go_num, Lib.hid (by rw [HTK.out, HOKJ.out]; simp), HB5⟩
                        | false =>
                          have HRF : Hid (cShape (k + 1) c = false) := Lib.hid (HNO.out (by simp))
                          go_wp2_with fail
                          refine HIH.out.mono ?_
                          rintro e w5 ⟨rfl, hb5⟩
                          have HB5 := Lib.hid (HBJ.out.trans (hb5.mono HBJ.out.size))
                          clear hb5
                          go_wp2_with fail
                          go_ret
                          exact ⟨by rw [HRF.out]; first | done | rfl, HB5.out⟩
                      · have ek4 : (p.kind == 4) = false := by simpa using hk4
                        by_cases hpn : p.name = ByteArray.empty
                        · have hE : p.name.toList = [] := by rw [hpn, Lib.toList_data]; rfl
                          have HPN := Lib.hid (bEq_iff.2 hpn)
                          clear hpn
                          cases sb with
                          | true =>
                            go_wp2_with fail
                            refine HIH.out.mono ?_
                            rintro e w5 ⟨rfl, hb5⟩
                            have HB5 := Lib.hid (HBJ.out.trans (hb5.mono HBJ.out.size))
                            clear hb5
                            go_wp2_with fail
                            go_roundg g
                            case measure => omega
                            case rel => exact ⟨j + 1, by omega, by go_num, Lib.hid (by rw [HTK.out, HOKJ.out, HPN.out]; simp), HB5⟩
                          | false =>
                            have HRF : Hid (cShape (k + 1) c = false) := Lib.hid (HNO.out (by simp))
                            go_wp2_with fail
                            refine HIH.out.mono ?_
                            rintro e w5 ⟨rfl, hb5⟩
                            have HB5 := Lib.hid (HBJ.out.trans (hb5.mono HBJ.out.size))
                            clear hb5
                            go_wp2_with fail
                            go_ret
                            exact ⟨by rw [HRF.out]; first | done | rfl, HB5.out⟩
                        · have hE : ¬ (p.name.toList = []) := fun e => hpn (ba_ext (by rw [← Lib.toList_data, e]; rfl))
                          have hE2 : (!p.name.toList.isEmpty) = true := by simpa using hE
                          have HRF : Hid (cShape (k + 1) c = false) := Lib.hid (HNO.out (by rw [decide_eq_false hk4, bEq_ne hpn]; rfl))
                          clear hpn HIH
                          go_wp2_with fail
                          go_ret
                          exact ⟨by rw [HRF.out]; first | done | rfl, HBJ.out⟩
                · have hm1 : ((c.l.length : Int) == 1) = false := by rw [beq_eq_false_iff_ne]; omega
                  have hmay : mayOf c = false := by unfold mayOf; rw [if_neg (by omega), if_pos (by omega), decide_eq_false hm]
                  have HRF : Hid (cShape (k + 1) c = false) := Lib.hid (by rw [HE.out, hmay]; simp)
                  clear hmay HE
                  go_wp2_with fail
                  go_ret
                  exact ⟨by rw [HRF.out]; first | done | rfl, HB3.out⟩
              · have e3 : (c.kind == 3) = false := by simpa using h3
                clear h0 h4
                have hmay : mayOf c = false := by unfold mayOf; rw [if_neg (by omega), if_neg (by omega)]
                have HRF : Hid (cShape (k + 1) c = false) := Lib.hid (by rw [HE.out, hmay]; simp)
                clear hmay HE
                go_wp2_with fail
                go_ret
                exact ⟨by rw [HRF.out]; first | done | rfl, HB3.out⟩
theorem shape_any : ∀ k, k ≤ 100 → ShC k := by
  intro k
  induction k with
  | zero => intro _; exact sh_zero
  | succ k ih => exact fun hk S c cs a w hV htr hcel => sh_step k (by omega) (ih (by omega)) S c cs a w hV htr hcel
end Go.Proofs.YtmljdppdaaoehaaGreatDoor
namespace Go.Proofs.YtmljdppdaaoehaaGreatDoor
open Go.RowKit
set_option linter.unusedVariables false
set_option linter.unusedSimpArgs false

/-- the closure answers p at each text, from any later world -/
def AskS (bx : Nat) (p : ByteArray → Bool) (N : List ByteArray) (w : World) : Prop :=
  ∀ s ∈ N, ∀ w', Below w.heap.size w w' → Calls Tryz.prog 43 #[.string s, .pointer (some ⟨bx, 0, none⟩)] w' (BoolB (p s) w')
def idxS (p : ByteArray → Bool) (O : List ByteArray) : Int := match O.findIdx? p with | some i => (i : Int) | none => -1
set_option maxRecDepth 100000 in
set_option maxHeartbeats 4000000 in
theorem sidxf_any (bx : Nat) (p : ByteArray → Bool) (A : Option Addr) (c : Nat) (O : List ByteArray) (w : World) (hr : Rd w 1 A O.length c (O.map .string)) (hO : O.length ≤ 1000000) (hf : AskS bx p O w) :
    Calls Tryz.prog 62 #[.slice A O.length c, .func (.func 43) #[] #[.pointer (some ⟨bx, 0, none⟩)]] w fun e w' => e = .returned (.int .i64 (idxS p O)) ∧ Below w.heap.size w w' := by
  have HR := Lib.hid hr
  have hcap := hr.cap
  have HF := Lib.hid hf
  clear hr hf
  go_enter Tryz.func62, Tryz.ntmps62
  go_wp2_with fail
  go_loopg [8] O.length (fun g i wr => ∃ j : Nat, j + g = O.length ∧ i = .int .i64 (j : Nat) ∧ Hid ((O.take j).findIdx? p = none) ∧ Hid (Below w.heap.size w wr))
  case atStart => exact ⟨0, by omega, rfl, Lib.hid (by simp), Lib.hid (Below.refl _ _)⟩
  case round =>
    obtain ⟨j, hj, rfl, HN, HB⟩ := hrel
    rename World => wo
    cases gk with
    | zero =>
      have hjj : ¬ ((j : Int) < (O.length : Int)) := by omega
      have HE : Hid (idxS p O = -1) := Lib.hid (by
        have := HN.out
        rw [List.take_of_length_le (by omega)] at this
        unfold idxS; rw [this])
      go_wp2_with fail
      go_ret
      rw [HE.out]
      exact ⟨rfl, HB.out⟩
    | succ g =>
      have hjj : (j : Int) < (O.length : Int) := by omega
      obtain ⟨k, hk⟩ := get_lt (l := O) (i := j) (by omega)
      obtain ⟨ad, rfl, hc⟩ := (HR.out.below HB.out).at_ j (.string k) (by simp [hk])
      have HCL := Lib.hid (HF.out k (List.mem_of_getElem? hk) wo HB.out)
      have HTK : Hid ((O.take (j + 1)).findIdx? p = ((O.take j).findIdx? p).or (if p k then some j else none)) := Lib.hid (by
        rw [List.take_add_one, hk, List.findIdx?_append]
        congr 1
        simp only [Option.toList_some, List.findIdx?_singleton, List.length_take]
        split <;> simp <;> omega)
      have HFI : Hid (p k = true → O.findIdx? p = some j) := Lib.hid (fun hp => by
        have h1 := HTK.out
        rw [HN.out, hp] at h1
        rw [← List.take_append_drop (j + 1) O, List.findIdx?_append, h1]; rfl)
      clear hk
      cases hp : p k with
      | true =>
        rw [hp] at HCL
        have HE : Hid (idxS p O = (j : Int)) := Lib.hid (by unfold idxS; rw [HFI.out hp])
        clear hp
        go_wp2_with fail
        refine HCL.out.mono ?_
        rintro e w2 ⟨rfl, hb2⟩
        have HB2 := Lib.hid (HB.out.trans (hb2.mono HB.out.size))
        clear hb2
        go_wp2_with fail
        go_ret
        rw [HE.out]
        exact ⟨rfl, HB2.out⟩
      | false =>
        rw [hp] at HCL HTK
        clear hp HFI
        go_wp2_with fail
        refine HCL.out.mono ?_
        rintro e w2 ⟨rfl, hb2⟩
        have HB2 := Lib.hid (HB.out.trans (hb2.mono HB.out.size))
        clear hb2
        go_wp2_with fail
        go_roundg g
        case measure => omega
        case rel => exact ⟨j + 1, by omega, by go_num, Lib.hid (by rw [HTK.out, HN.out]; rfl), HB2⟩
theorem idxS_ge (p : ByteArray → Bool) (O : List ByteArray) : decide (0 ≤ idxS p O) = O.any p := by
  unfold idxS
  cases h : O.findIdx? p with
  | none =>
    rw [List.findIdx?_eq_none_iff] at h
    symm
    simp only [show ¬ ((0 : Int) ≤ -1) from by omega, decide_false]
    rw [List.any_eq_false]
    intro x hx
    rw [h x hx]; simp
  | some i =>
    rw [List.findIdx?_eq_some_iff_getElem] at h
    obtain ⟨hi, hp, _⟩ := h
    simp only [show (0 : Int) ≤ (i : Int) from by omega, decide_true]
    symm
    rw [List.any_eq_true]
    exact ⟨O[i], List.getElem_mem hi, hp⟩
set_option maxRecDepth 100000 in
set_option maxHeartbeats 4000000 in
theorem scontf_any (bx : Nat) (p : ByteArray → Bool) (A : Option Addr) (c : Nat) (O : List ByteArray) (w : World) (hr : Rd w 1 A O.length c (O.map .string)) (hO : O.length ≤ 1000000) (hf : AskS bx p O w) :
    Calls Tryz.prog 41 #[.slice A O.length c, .func (.func 43) #[] #[.pointer (some ⟨bx, 0, none⟩)]] w (BoolB (O.any p) w) := by
  have HI := Lib.hid (sidxf_any bx p A c O w hr hO hf)
  have HG := Lib.hid (idxS_ge p O)
  obtain ⟨z, hz⟩ : ∃ z, z = idxS p O := ⟨_, rfl⟩
  rw [← hz] at HI HG
  clear hr hf hz
  go_enter Tryz.func41, Tryz.ntmps41
  go_wp2_with fail
  refine HI.out.mono ?_
  rintro e w2 ⟨rfl, hb2⟩
  have HB2 := Lib.hid hb2
  clear hb2
  go_wp2_with fail
  go_ret
  exact ⟨by rw [← HG.out]; rfl, HB2.out⟩
set_option maxRecDepth 100000 in
set_option maxHeartbeats 4000000 in
theorem ck1_any (S : Nat → Prop) (bx : Nat) (A : Option Addr) (c : Nat) (ns : List ByteArray) (s : ByteArray) (w : World) (hx : Blk w bx #[.slice A ns.length c] 35) (h : Ss S w A c ns) (hl : ns.length ≤ 1000000) :
    Calls Tryz.prog 43 #[.string s, .pointer (some ⟨bx, 0, none⟩)] w (BoolB (!sHas s ns) w) := by
  have HC := Lib.hid (scont_any S A c ns s w h hl)
  have c0 := hx.cell 0 (v := .slice A ns.length c) rfl
  obtain ⟨b, hb⟩ : ∃ b, b = sHas s ns := ⟨_, rfl⟩
  rw [← hb] at HC ⊢
  clear hx h hb
  go_enter Tryz.func43, Tryz.ntmps43
  go_wp2_with fail
  refine HC.out.mono ?_
  rintro e w2 ⟨rfl, rfl⟩
  go_wp2_with fail
  go_ret
  exact ⟨rfl, Below.refl _ _⟩
/-- the closure's answer, from all later worlds -/
theorem ask_ck1 {S : Nat → Prop} {bx : Nat} {A : Option Addr} {c : Nat} {ns : List ByteArray} (N : List ByteArray) {w : World} (hx : Blk w bx #[.slice A ns.length c] 35) (h : Ss S w A c ns) (hl : ns.length ≤ 1000000) :
    AskS bx (fun s => !sHas s ns) N w := fun s _ w' hb => ck1_any S bx A c ns s w' (hx.below hb) (h.below hb) hl
/-- a parameter is not there, or a name is no definition's -/
def isLost (l : List Cd) (ns : List ByteArray) (c : Cd) : Bool := (prms c).any (fun s => !sHas s ns) || (names c).any (fun s => !(plAt l s).isSome)
def ckAt (l : List Cd) (ns : List ByteArray) (i : Nat) (c : Cd) : Option Nat :=
  if plAt l c.name ≠ some i then some 41 else if isName c.name = false then some 150 else if c.kind = 4 then some 150 else if cShape 6 c = false then some 150 else if isLost l ns c = true then some 150 else none
def ckGo (l : List Cd) (ns : List ByteArray) : Nat → List Cd → Option Nat
  | _, [] => none
  | i, c :: r => (ckAt l ns i c).or (ckGo l ns (i + 1) r)
/-- conds.Check's answer -/
def csCheck (l : List Cd) (ns : List ByteArray) : Nat := if 6 < l.length then 3 else match ckGo l ns 0 l with | some e => e | none => if circ l = [] then 0 else 150
theorem ckGo_drop {l : List Cd} {ns : List ByteArray} {j : Nat} {c : Cd} (h : l[j]? = some c) : ckGo l ns j (l.drop j) = (ckAt l ns j c).or (ckGo l ns (j + 1) (l.drop (j + 1))) := by
  rw [drop_cons h]; rfl
end Go.Proofs.YtmljdppdaaoehaaGreatDoor
namespace Go.Proofs.YtmljdppdaaoehaaGreatDoor
open Go.RowKit
set_option linter.unusedVariables false
set_option linter.unusedSimpArgs false

theorem or_some {e : Nat} {a b : Option Nat} (h : a = some e) : a.or b = some e := by rw [h]; rfl
theorem or_none {a b : Option Nat} (h : a = none) : a.or b = b := by rw [h]; rfl
theorem csCheck_some {l : List Cd} {ns : List ByteArray} {e : Nat} (hl : l.length ≤ 6) (h : ckGo l ns 0 l = some e) : csCheck l ns = e := by
  unfold csCheck; rw [if_neg (by omega), h]
theorem csCheck_none {l : List Cd} {ns : List ByteArray} (hl : l.length ≤ 6) (h : ckGo l ns 0 l = none) : csCheck l ns = if circ l = [] then 0 else 150 := by
  unfold csCheck; rw [if_neg (by omega), h]
theorem prms_len {l : List Cd} (h : CsOk l) {c : Cd} (hc : c ∈ l) : (prms c).length ≤ 100000 ∧ (names c).length ≤ 100000 := by
  obtain ⟨_, h1, h2⟩ := h c hc
  have a1 := foldT_len (cPs 20 c) []
  have a2 := foldT_len (cNm 20 c) []
  unfold prms names
  simp only [List.length_nil] at a1 a2
  exact ⟨by omega, by omega⟩
set_option maxRecDepth 100000 in
set_option maxHeartbeats 8000000 in
theorem check_any (S : Nat → Prop) (A : Option Addr) (ac : Nat) (l : List Cd) (NA : Option Addr) (nc : Nat) (ns : List ByteArray) (w : World) (hV : VOk w) (hls : Ls S w 15 224 Cd.tr A ac l) (hns : Ss S w NA nc ns) (hnl : ns.length ≤ 1000000) (hok : CsOk l) :
    Calls Tryz.prog 19 #[.slice A l.length ac, .slice NA ns.length nc] w fun e w' => e = .returned (.int .i64 (csCheck l ns : Nat)) ∧ Below w.heap.size w w' := by
  have hcap := hls.cap
  have hbyt := hls.bytes
  have hb0 : Below w.heap.size w (w.alloc (.cells #[.slice NA ns.length nc] 35)) := (Below.refl _ w).alloc (Nat.le_refl _) _
  have hbx : Blk (w.alloc (.cells #[.slice NA ns.length nc] 35)) w.heap.size #[.slice NA ns.length nc] 35 := Blk.new w _ _
  have HPL : Hid (Calls Tryz.prog 21 #[.slice A l.length ac] (w.alloc (.cells #[.slice NA ns.length nc] 35)) fun e w' => e = .returned (.map (some (w.heap.size + 1))) ∧ MP w' (w.heap.size + 1) l.length (plAt l) ∧ Below w.heap.size w w' ∧ Blk w' w.heap.size #[.slice NA ns.length nc] 35) :=
    Lib.hid ((places_any S A ac l _ (hls.below hb0)).mono (by
      rintro e w' ⟨rfl, h1, h2⟩
      exact ⟨by simp, by simpa using h1, hb0.trans (h2.mono (by simp)), hbx.below h2⟩))
  have HLS := Lib.hid hls
  have HNS := Lib.hid hns
  have HOK := Lib.hid hok
  have HV := Lib.hid hV
  have HB0 := Lib.hid hb0
  have HC6 : Hid (6 < l.length → csCheck l ns = 3) := Lib.hid (fun h => by unfold csCheck; rw [if_pos h])
  have HCS : Hid (l.length ≤ 6 → ∀ e, ckGo l ns 0 l = some e → csCheck l ns = e) := Lib.hid (fun h e he => csCheck_some h he)
  have HCN : Hid (l.length ≤ 6 → ckGo l ns 0 l = none → csCheck l ns = if circ l = [] then 0 else 150) := Lib.hid (fun h he => csCheck_none h he)
  clear hb0 hbx hls hns hok hV
  go_enter Tryz.func19, Tryz.ntmps19
  by_cases hl6 : (6 : Int) < (l.length : Int)
  · have HR := Lib.hid (HC6.out (by omega))
    go_wp2_with fail
    go_ret
    exact ⟨by rw [HR.out]; first | done | rfl, HB0.out⟩
  · have hl6n : l.length ≤ 6 := by omega
    go_wp2_with fail
    refine HPL.out.mono ?_
    rintro e w2 ⟨rfl, hmp, hb2, hbx⟩
    have HB2 := Lib.hid hb2
    have HMP := Lib.hid hmp
    have HBX := Lib.hid hbx
    have HLS2 := Lib.hid (HLS.out.below hb2)
    have HNS2 := Lib.hid (HNS.out.below hb2)
    have HV2 := Lib.hid (HV.out.below hb2)
    have hw2 := hb2.size
    clear hmp hb2 hbx HPL HLS HNS HV HB0 HC6
    go_wp2_with fail
    go_loopg [20] l.length (fun g i wr => ∃ j : Nat, j + g = l.length ∧ i = .int .i64 (j : Nat) ∧ Hid (ckGo l ns 0 l = ckGo l ns j (l.drop j)) ∧ Hid (Below w2.heap.size w2 wr))
    case atStart => exact ⟨0, by omega, rfl, Lib.hid rfl, Lib.hid (Below.refl _ _)⟩
    case round =>
      obtain ⟨j, hj, rfl, HD, HB⟩ := hrel
      rename World => wo
      cases gk with
      | zero =>
        have hjj : ¬ ((j : Int) < (l.length : Int)) := by omega
        have HE : Hid (csCheck l ns = if circ l = [] then 0 else 150) := Lib.hid (HCN.out hl6n (by rw [HD.out, List.drop_of_length_le (by omega)]; rfl))
        have HCI := Lib.hid (circ_any S A ac l wo (HLS2.out.below HB.out) (by omega) HOK.out)
        obtain ⟨C, hC⟩ : ∃ C, C = circ l := ⟨_, rfl⟩
        rw [← hC] at HCI HE
        clear hC
        go_wp2_with fail
        refine HCI.out.mono ?_
        rintro e w3 ⟨CA, cc, rfl, hco, hcb, _⟩
        have HB3 := Lib.hid (HB2.out.trans ((HB.out.trans (hcb.mono HB.out.size)).mono hw2))
        clear hco hcb
        cases C with
        | nil =>
          go_wp2_with fail
          go_ret
          exact ⟨by rw [HE.out]; first | done | rfl, HB3.out⟩
        | cons x r =>
          have hpos : (0 : Int) < (((x :: r).length : Nat) : Int) := by simp
          have hpos2 : (0 : Int) < (r.length : Int) + 1 := by omega
          go_wp2_with fail
          go_ret
          exact ⟨by rw [HE.out]; first | done | rfl, HB3.out⟩
      | succ g =>
        have hjj : (j : Int) < (l.length : Int) := by omega
        obtain ⟨c, hc⟩ := get_lt (l := l) (i := j) (by omega)
        obtain ⟨ad, cs, rfl, hct, hcc⟩ := (HLS2.out.below HB.out).elem Cd.trlen hc
        have hmem := List.mem_of_getElem? hc
        obtain ⟨hd, hln, hlp⟩ := HOK.out c hmem
        obtain ⟨hpl, hnml⟩ := prms_len HOK.out hmem
        have HPM : Hid (∀ w', Below wo.heap.size wo w' → Calls Tryz.prog 42 #[.pointer (some (ad.add (j * 15)))] w' (TextsOut (prms c) w')) :=
          Lib.hid (fun w' hb => params_any S c cs _ w' hd (hct.below hb) (hcc.below hb) (by omega))
        have HSH := Lib.hid (shape_any 6 (by omega) S c cs (ad.add (j * 15)) wo (HV2.out.below HB.out) hct hcc)
        have HNM0 : Hid (∀ w', Below wo.heap.size wo w' → Calls Tryz.prog 45 #[.agg cs.toArray] w' (TextsOut (names c) w')) :=
          Lib.hid (fun w' hb => names_any S c cs.toArray w' hd (by simpa using hct.below hb) (by omega))
        obtain ⟨xs, ys, L, lc, rfl, hns, _, hxa, hxb, _⟩ := Cd.at_iff.1 hct
        obtain ⟨A1, n1, rfl, _⟩ := ex_cells hxa
        obtain ⟨B1, n2, rfl, _⟩ := ex_cells hxb
        have HNM : Hid (∀ w', Below wo.heap.size wo w' → Calls Tryz.prog 45 #[.agg #[.string c.name, .int .i8 c.kind, .int .i8 c.a.kind, .string c.a.text, .int .i64 c.a.num, .string c.a.name, .string c.a.attr, .slice A1 c.a.l.length n1, .int .i8 c.b.kind, .string c.b.text, .int .i64 c.b.num, .string c.b.name, .string c.b.attr, .slice B1 c.b.l.length n2, .slice L c.l.length lc]] w' (TextsOut (names c) w')) := Lib.hid (fun w' hb => by simpa using HNM0.out w' hb)
        have HCC := Lib.hid hcc
        obtain ⟨c0, c1, c2, c3, c4, c5, c6, c7, c8, c9, c10, c11, c12, c13, c14⟩ := cel15 hcc
        obtain ⟨q, hq⟩ := plAt_isSome hc
        have hlk := (HMP.out.below HB.out).look (d := c.name) (by unfold maxLen; omega)
        rw [hq] at hlk
        have HQ := Lib.hid hq
        have HDD : Hid (ckGo l ns 0 l = (ckAt l ns j c).or (ckGo l ns (j + 1) (l.drop (j + 1)))) := Lib.hid (by rw [HD.out, ckGo_drop hc])
        have HBW := Lib.hid (HB2.out.trans (HB.out.mono hw2))
        clear hc hct hxa hxb hq hmem hd hln hlp HNM0 hcc HD
        by_cases hqj : q = j
        · subst hqj
          have hqi : ¬ ((q : Int) ≠ (q : Int)) := by simp
          have HNA := Lib.hid (rname_any c.name wo (by omega))
          have HA0 : Hid (ckAt l ns q c = if isName c.name = false then some 150 else if c.kind = 4 then some 150 else if cShape 6 c = false then some 150 else if isLost l ns c = true then some 150 else none) := Lib.hid (by unfold ckAt; rw [if_neg (by rw [HQ.out]; simp)])
          obtain ⟨b1, hb1⟩ : ∃ b1, b1 = isName c.name := ⟨_, rfl⟩
          rw [← hb1] at HNA HA0
          clear hb1
          cases b1 with
          | false =>
            have HR := Lib.hid (HCS.out hl6n 150 (by rw [HDD.out]; exact or_some (by rw [HA0.out]; simp)))
            go_wp2_with fail
            refine HNA.out.mono ?_
            rintro e w3 ⟨rfl, rfl⟩
            go_wp2_with fail
            go_ret
            exact ⟨by rw [HR.out]; first | done | rfl, HBW.out⟩
          | true =>
            by_cases h4 : c.kind = 4
            · have e4 : (c.kind == 4) = true := by rw [h4]; rfl
              have HR := Lib.hid (HCS.out hl6n 150 (by rw [HDD.out]; exact or_some (by rw [HA0.out, if_neg (by simp), if_pos h4])))
              clear h4
              go_wp2_with fail
              refine HNA.out.mono ?_
              rintro e w3 ⟨rfl, rfl⟩
              go_wp2_with fail
              go_ret
              exact ⟨by rw [HR.out]; first | done | rfl, HBW.out⟩
            · have e4 : (c.kind == 4) = false := by simpa using h4
              have HA1 : Hid (ckAt l ns q c = if cShape 6 c = false then some 150 else if isLost l ns c = true then some 150 else none) := Lib.hid (by rw [HA0.out, if_neg (by simp), if_neg h4])
              obtain ⟨b2, hb2⟩ : ∃ b2, b2 = cShape 6 c := ⟨_, rfl⟩
              rw [← hb2] at HSH HA1
              clear hb2 HA0 h4
              cases b2 with
              | false =>
                have HR := Lib.hid (HCS.out hl6n 150 (by rw [HDD.out]; exact or_some (by rw [HA1.out]; simp)))
                go_wp2_with fail
                refine HNA.out.mono ?_
                rintro e w3 ⟨rfl, rfl⟩
                go_wp2_with fail
                refine HSH.out.mono ?_
                rintro e w4 ⟨rfl, hb4⟩
                have HB4 := Lib.hid (HBW.out.trans (hb4.mono HBW.out.size))
                clear hb4
                go_wp2_with fail
                go_ret
                exact ⟨by rw [HR.out]; first | done | rfl, HB4.out⟩
              | true =>
                have HA2 : Hid (ckAt l ns q c = if isLost l ns c = true then some 150 else none) := Lib.hid (by rw [HA1.out]; simp)
                have HLO : Hid (isLost l ns c = ((prms c).any (fun s => !sHas s ns) || (names c).any (fun s => !(plAt l s).isSome))) := Lib.hid rfl
                clear HA1
                go_wp2_with fail
                refine HNA.out.mono ?_
                rintro e w3 ⟨rfl, rfl⟩
                go_wp2_with fail
                refine HSH.out.mono ?_
                rintro e w4 ⟨rfl, hb4⟩
                have HB4 := Lib.hid hb4
                have HPM4 := Lib.hid (HPM.out w4 hb4)
                have hs4 := hb4.size
                clear hb4 HSH HNA HPM hlk c0 c1 c2 c3 c4 c5 c6 c7 c8 c9 c10 c11 c12 c13 c14
                go_wp2_with fail
                refine HPM4.out.mono ?_
                rintro e w5 ⟨PA, pc, rfl, hpo, hpb, _⟩
                have hb5 := HB4.out.trans (hpb.mono hs4)
                have h25 := HB.out.trans (hb5.mono HB.out.size)
                have HCF := Lib.hid (scontf_any w.heap.size (fun s => !sHas s ns) PA pc (prms c) w5 hpo.rd (by omega) (ask_ck1 (prms c) (HBX.out.below h25) (HNS2.out.below h25) hnl))
                have HB5 := Lib.hid hb5
                have hs5 := hb5.size
                obtain ⟨z1, hz1⟩ : ∃ z1, z1 = (prms c).any (fun s => !sHas s ns) := ⟨_, rfl⟩
                rw [← hz1] at HCF HLO
                clear hpo hpb hb5 h25 HPM4 hz1
                go_wp2_with fail
                refine HCF.out.mono ?_
                rintro e w6 ⟨rfl, hb6⟩
                have hb6' := HB5.out.trans (hb6.mono hs5)
                have HB6 := Lib.hid hb6'
                have HNM6 := Lib.hid (HNM.out w6 hb6')
                obtain ⟨c0, c1, c2, c3, c4, c5, c6, c7, c8, c9, c10, c11, c12, c13, c14⟩ := cel15 (HCC.out.below hb6')
                have hs6 := hb6'.size
                clear hb6 hb6' HCF HNM
                go_wp2_with fail
                refine HNM6.out.mono ?_
                rintro e w7 ⟨NN, nnc, rfl, hno, hnb, hnsz⟩
                have hncap := hno.cap
                have HNO := Lib.hid hno
                have HNSZ := Lib.hid hnsz
                have hb7 := HB6.out.trans (hnb.mono hs6)
                have h27 := HB.out.trans (hb7.mono HB.out.size)
                have HB7 := Lib.hid h27
                have HMP7 := Lib.hid (HMP.out.below h27)
                have hw7 := h27.size
                obtain ⟨N, hN⟩ : ∃ N, N = names c := ⟨_, rfl⟩
                rw [← hN] at HNO HNSZ HLO hnml hncap
                rw [← hN]
                clear hno hnb hnsz hb7 h27 hN HNM6 c0 c1 c2 c3 c4 c5 c6 c7 c8 c9 c10 c11 c12 c13 c14
                go_wp2_with fail
                go_loopg [59, 8] N.length (fun g2 i v wr => ∃ (k : Nat) (bc : Bool), k + g2 = N.length ∧ i = .int .i64 (k : Nat) ∧ v = .bool bc ∧ Hid (bc = (z1 || (N.take k).any (fun s => !(plAt l s).isSome))) ∧ Hid (Below w7.heap.size w7 wr))
                case atStart => exact ⟨0, z1, by omega, rfl, rfl, Lib.hid (by simp), Lib.hid (Below.refl _ _)⟩
                case round =>
                  obtain ⟨k, bc, hk, rfl, rfl, HBC, HBK⟩ := hrel
                  rename World => wi
                  cases gk with
                  | zero =>
                    have hkk : ¬ ((k : Int) < (N.length : Int)) := by omega
                    have HLL : Hid (isLost l ns c = bc) := Lib.hid (by rw [HLO.out, HBC.out, List.take_of_length_le (by omega)])
                    have HBI := Lib.hid (HB7.out.trans (HBK.out.mono hw7))
                    cases bc with
                    | true =>
                      have HR := Lib.hid (HCS.out hl6n 150 (by rw [HDD.out]; exact or_some (by rw [HA2.out, HLL.out]; simp)))
                      go_wp2_with fail
                      go_ret
                      exact ⟨by rw [HR.out]; first | done | rfl, HB2.out.trans (HBI.out.mono hw2)⟩
                    | false =>
                      have HD2 : Hid (ckGo l ns 0 l = ckGo l ns (q + 1) (l.drop (q + 1))) := Lib.hid (by rw [HDD.out]; exact or_none (by rw [HA2.out, HLL.out]; simp))
                      go_wp2_with fail
                      go_roundg g
                      case measure => omega
                      case rel => exact ⟨q + 1, by omega, by go_num, HD2, HBI⟩
                  | succ g2 =>
                    have hkk : (k : Int) < (N.length : Int) := by omega
                    obtain ⟨s, hs⟩ := get_lt (l := N) (i := k) (by omega)
                    obtain ⟨na, rfl, hsc⟩ := (HNO.out.below HBK.out).rd.at_ k (.string s) (by simp [hs])
                    have hss := HNSZ.out s (List.mem_of_getElem? hs)
                    have hlk := (HMP7.out.below HBK.out).lookok (d := s) (by unfold maxLen; omega)
                    have HTK : Hid ((N.take (k + 1)).any (fun s => !(plAt l s).isSome) = ((N.take k).any (fun s => !(plAt l s).isSome) || !(plAt l s).isSome)) := Lib.hid (by rw [List.take_add_one, hs, List.any_append]; simp)
                    obtain ⟨sm, hsm⟩ : ∃ sm, sm = (plAt l s).isSome := ⟨_, rfl⟩
                    rw [← hsm] at hlk HTK
                    clear hs hsm
                    cases bc with
                    | true =>
                      go_wp2_with fail
                      go_roundg g2
                      case measure => omega
                      case rel => exact ⟨k + 1, true, by omega, by go_num, rfl, Lib.hid (by rw [HTK.out, ← Bool.or_assoc, ← HBC.out]; rfl), HBK⟩
                    | false =>
                      go_wp2_with fail
                      go_roundg g2
                      case measure => omega
                      case rel => exact ⟨k + 1, !sm, by omega, by go_num, rfl, Lib.hid (by rw [HTK.out, ← Bool.or_assoc, ← HBC.out]; rfl), HBK⟩
        · have hqi : (q : Int) ≠ (j : Int) := by omega
          have hqb : ((q : Int) == (j : Int)) = false := by rw [beq_eq_false_iff_ne]; omega
          have HR := Lib.hid (HCS.out hl6n 41 (by rw [HDD.out]; exact or_some (by unfold ckAt; rw [if_pos (by rw [HQ.out]; simpa using hqj)])))
          go_wp2_with fail
          go_ret
          exact ⟨by rw [HR.out]; first | done | rfl, HBW.out⟩
end Go.Proofs.YtmljdppdaaoehaaGreatDoor
