/- hoardinglaw17.NestGuards: the walk. -/
import Derived.Test.YthcnfgpilncooaaGreatDoorNg0
import Derived.Test.YthcnfgpilncooaaGreatDoorNs12
namespace Go.Proofs.YthcnfgpilncooaaGreatDoor
open Go.RowKit
set_option linter.unusedVariables false
set_option linter.unusedSimpArgs false

theorem take_all {α : Type} {l : List α} {p : α → Bool} {i : Nat} {x : α} (h : l[i]? = some x) : (l.take (i + 1)).all p = ((l.take i).all p && p x) := by rw [List.take_add_one, h]; simp
theorem take_any {α : Type} {l : List α} {p : α → Bool} {i : Nat} {x : α} (h : l[i]? = some x) : (l.take (i + 1)).any p = ((l.take i).any p || p x) := by rw [List.take_add_one, h]; simp
set_option maxRecDepth 100000 in
set_option maxHeartbeats 16000000 in
theorem nestGuards_walk (w : World) (hV : VOk w) (cs : Array Value) (t : Tm) (h : Trs.at (fun k => k < w.heap.size) w t.tr cs.toList) (AA : Option Addr) (len ac : Nat) (args : List Gv) (hlen : len = args.length) (hl : Ls (fun k => k < w.heap.size) w 8 104 Gv.tr AA ac args) :
    Calls Tryz.prog 3 #[.agg cs, .slice AA len ac] w fun e w' => e = .returned (.bool true) ∧ Below w.heap.size w w' := by
  subst hlen
  obtain ⟨A, a, B, b, C, c, D, d, hcs, h1, h2, h3, h4⟩ := Tm.at_iff.1 h
  obtain rfl : cs = #[.slice A t.params.length a, .slice B t.conds.length b, .slice C t.res.length c, .slice D t.outs.length d] := by
    have := congrArg List.toArray hcs
    simpa using this
  have hb0 : Below w.heap.size w (w.alloc (.cells #[.slice A t.params.length a, .slice B t.conds.length b, .slice C t.res.length c, .slice D t.outs.length d] 27)) := (Below.refl _ w).alloc (Nat.le_refl _) _
  have HB0 := Lib.hid hb0
  have HX0 := Lib.hid (Blk.new w #[.slice A t.params.length a, .slice B t.conds.length b, .slice C t.res.length c, .slice D t.outs.length d] 27)
  have HG := Lib.hid (tgreat_any (fun k => k < w.heap.size) t _ AA ac args _ (h.below hb0) (hl.below hb0))
  have HT := Lib.hid h
  have HAG := Lib.hid hl
  have HV := Lib.hid hV
  obtain ⟨K, hK⟩ := dpK_ex
  have HK := Lib.hid hK
  have hacap := hl.cap
  obtain ⟨t0, t1, t2, t3⟩ := blk4 HX0.out
  clear h h1 h2 h3 h4 hcs hl hV hb0 hK
  cases hg : tGreat t args with
  | true =>
    rw [hg] at HG
    clear hg
    go_enter Tryz.func3, Tryz.ntmps3
    go_wp2_with fail
    refine HG.out.mono ?_
    rintro e w2 ⟨rfl, hb2⟩
    have HB2 := Lib.hid (HB0.out.trans (hb2.mono HB0.out.size))
    clear hb2 t0 t1 t2 t3
    go_wp2_with fail
    refine (wakes_any _).mono ?_
    rintro e w3 ⟨rfl, hb3⟩
    have HB3 := Lib.hid (HB2.out.trans (hb3.mono HB2.out.size))
    clear hb3
    go_wp2_with fail
    go_ret
    exact ⟨rfl, HB3.out⟩
  | false =>
    rw [hg] at HG
    have htw : tW 8 t ≤ 3000 := by
      unfold tGreat at hg
      simp at hg
      omega
    have hgs : gsGreat args = false := by
      unfold tGreat at hg
      simp at hg
      exact hg.2
    have HOK := Lib.hid (tW_ok 8 t htw)
    have HFI := Lib.hid (tW_fine 8 t htw)
    obtain ⟨han, has⟩ := gs_small hgs
    have HAS := Lib.hid has
    clear hg htw hgs has
    go_enter Tryz.func3, Tryz.ntmps3
    go_wp2_with fail
    refine HG.out.mono ?_
    rintro e w2 ⟨rfl, hb2⟩
    have hbb := HB0.out.trans (hb2.mono HB0.out.size)
    have HB2 := Lib.hid hbb
    clear t0 t1 t2 t3
    obtain ⟨x0, x1, x2, x3⟩ := blk4 (HX0.out.below hb2)
    obtain ⟨fr, hfr⟩ : ∃ fr, fr = flatF 8 t := ⟨_, rfl⟩
    have hf := flat_any (fun _ => True) 8 t _ _ HOK.out ((HT.out.below hbb).mono (S' := fun _ => True) (fun _ _ => trivial))
    rw [← hfr] at hf
    have HF := Lib.hid hf
    have HFR := Lib.hid hfr
    clear hb2 hbb hf HG hfr
    go_wp2_with fail
    refine HF.out.mono ?_
    obtain ⟨ez, sc, nd⟩ := fr
    rintro e w5 ⟨hb5, A1, c1, A2, c2, rfl, hf1, hf2⟩
    simp only at hf1 hf2
    have hw6 : Below w5.heap.size w5 (w5.alloc (.cells #[.slice A1 sc.length c1, .slice A2 nd.length c2] 34)) := (Below.refl _ w5).alloc (Nat.le_refl _) _
    have hb56 := hb5.trans (hw6.mono hb5.size)
    have HB6 := Lib.hid (HB2.out.trans (hb56.mono HB2.out.size))
    have HFB := Lib.hid (Blk.new w5 #[.slice A1 sc.length c1, .slice A2 nd.length c2] 34)
    have HF1 := Lib.hid ((hf1.below hw6).mono (S' := fun _ => True) (fun _ _ => trivial))
    have HF2 := Lib.hid ((hf2.below hw6).mono (S' := fun _ => True) (fun _ _ => trivial))
    have hccap := hf1.cap
    have hncap := hf2.cap
    obtain ⟨f0, f1⟩ := blk2 HFB.out
    clear hb5 hf1 hf2 hw6 hb56 x0 x1 x2 x3
    by_cases hz0 : ez = 0
    · have hzt : (ez != 0) = false := by rw [hz0]; rfl
      have hgood := flat_good HFI.out (by rw [← HFR.out, hz0])
      obtain ⟨hsn, hnn, hgn, hcn, hco, hps⟩ := sc_facts hgood
      have hs16 := hgood.1
      have hn16 := hgood.2.1
      have HAG6 := Lib.hid ((HAG.out.below HB6.out).mono (S' := fun _ => True) (fun _ _ => trivial))
      have HGN := Lib.hid hgn
      have HFC := Lib.hid (And.intro hgn (And.intro hcn (And.intro hco hps)))
      have HCO := Lib.hid (nconds_any K HK.out (fun _ => True) A1 A2 c1 c2 sc nd AA ac args _ (HV.out.below HB6.out) HF1.out HF2.out hsn hnn hgn hcn hco hps HAG6.out (by omega) HAS.out)
      have HYS := Lib.hid (fun O => enOn_yes (K := K) (nd := nd) (O := O) HAS.out (fun s hs => ⟨(hps s hs).1, (hps s hs).2.1⟩))
      have HEQ : Hid (nEnabled K sc nd args = match nConds K sc nd args with | .inl e => .inl e | .inr O => .inr (nd.map (enOn O))) := Lib.hid rfl
      clear hz0 hgood hgn hcn hco hps
      go_wp2_with fail
      refine HCO.out.mono ?_
      rintro e w7 ⟨hb7, hm⟩
      have HB7 := Lib.hid (HB6.out.trans (hb7.mono HB6.out.size))
      have HEN := Lib.hid (nenabled_any K HK.out (fun _ => True) A1 A2 c1 c2 sc nd AA ac args _ (HV.out.below HB7.out) (HF1.out.below hb7) (HF2.out.below hb7) hsn hnn HFC.out.1 HFC.out.2.1 HFC.out.2.2.1 HFC.out.2.2.2 (HAG6.out.below hb7) (by omega) HAS.out)
      have HFB7 := Lib.hid (HFB.out.below hb7)
      have HF27 := Lib.hid (HF2.out.below hb7)
      obtain ⟨g0, g1⟩ := blk2 HFB7.out
      clear f0 f1 hb7
      cases hnp : nConds K sc nd args with
      | inl n =>
        have hne := nConds_ne hnp
        rw [hnp] at hm HEQ
        rw [HEQ.out] at HEN
        subst hm
        have hn1 : ((n : Int) != 0) = true := by simpa using hne
        have hn2 : ((n : Int) == (n : Int)) = true := by simp
        clear hne hnp
        go_wp2_with fail
        refine HEN.out.mono ?_
        rintro e w9 ⟨hb9, rfl⟩
        have HB9 := Lib.hid (HB7.out.trans (hb9.mono HB7.out.size))
        clear hb9 g0 g1
        go_wp2_with fail
        refine (wakes_any _).mono ?_
        rintro e w10 ⟨rfl, hb10⟩
        have HB10 := Lib.hid (HB9.out.trans (hb10.mono HB9.out.size))
        clear hb10
        go_wp2_with fail
        go_ret
        exact ⟨rfl, HB10.out⟩
      | inr O =>
        rw [hnp] at hm HEQ
        rw [HEQ.out] at HEN
        obtain ⟨hOl, hOy⟩ := HYS.out O hnp
        have HOY := Lib.hid hOy
        obtain ⟨CA, cc, xs, rfl, hlow, hltr⟩ := hm
        have HLO := Lib.hid hlow
        have HLT := Lib.hid hltr
        have hOn : O.length ≤ 16 := by omega
        have hOc := hlow.cap
        have hne1 : ((O.length : Int) != (sc.length : Int)) = false := by rw [hOl]; simp
        obtain ⟨Bs, hBs⟩ : ∃ Bs, Bs = nd.map (enOn O) := ⟨_, rfl⟩
        simp only at HEN
        rw [← hBs] at HEN
        have HBS := Lib.hid hBs
        have hne2 : ((Bs.length : Int) != (nd.length : Int)) = false := by rw [hBs]; simp
        have hbl : Bs.length = nd.length := by rw [hBs]; simp
        have HBL := Lib.hid hbl
        clear hnp hlow hltr hOl hOy hBs hbl
        go_wp2_with fail
        refine HEN.out.mono ?_
        rintro e w9 ⟨hb9, EA, ec, rfl, how9⟩
        have HB9 := Lib.hid (HB7.out.trans (hb9.mono HB7.out.size))
        have HOW9 := Lib.hid how9
        have HB79 := Lib.hid hb9
        have hecap := how9.cap
        have HF29 := Lib.hid (HF27.out.below hb9)
        clear g0 g1
        obtain ⟨g0, g1⟩ := blk2 (HFB7.out.below hb9)
        clear hb9 how9
        go_wp2_with fail
        go_loopg [72] nd.length (fun g i wr => ∃ j : Nat, j + g = nd.length ∧ i = .int .i64 (j : Nat) ∧ Hid (Below w9.heap.size w9 wr))
        case atStart => exact ⟨0, by omega, rfl, Lib.hid (Below.refl _ _)⟩
        case round =>
          clear g0 g1
          obtain ⟨j, hj, rfl, HB⟩ := hrel
          rename World => wo
          cases gk with
          | zero =>
            have hjj : ¬ ((j : Int) < (nd.length : Int)) := by omega
            go_wp2_with fail
            refine (wakes_any _).mono ?_
            rintro e w10 ⟨rfl, hb10⟩
            have HB10 := Lib.hid ((HB9.out.trans (HB.out.mono HB9.out.size)).trans (hb10.mono (HB9.out.trans (HB.out.mono HB9.out.size)).size))
            clear hb10
            go_wp2_with fail
            go_ret
            exact ⟨rfl, HB10.out⟩
          | succ g =>
            have hjj : (j : Int) < (nd.length : Int) := by omega
            have hji : (0 : Int) ≤ (j : Int) ∧ (j : Int) < (nd.length : Int) := by omega
            obtain ⟨n, hn⟩ := get_lt (l := nd) (i := j) (by omega)
            obtain ⟨hsr, hen⟩ := HOY.out n (List.mem_of_getElem? hn)
            have HSR := Lib.hid hsr
            have hgl := HGN.out n (List.mem_of_getElem? hn)
            obtain ⟨adN, cs, rfl, hxt, hxc⟩ := (HF29.out.below HB.out).elem Nd.trlen hn
            obtain ⟨C1, C2, C3, C4, C5, q1, q2, q3, q4, q5, rfl, -, -, -, hgd, -⟩ := nd_form hxt
            obtain ⟨e0, e1, e2, e3, e4, e5, e6, e7, e8, e9, e10⟩ := cel11 hxc
            have hbn : Below wo.heap.size wo (wo.alloc (.cells #[.string n.id, .int .i64 n.scope, .string n.r.id, .string n.r.type, .string n.r.cond, .slice C1 n.r.props.length q1, .slice C2 n.r.depends.length q2, .bool n.r.retain, .slice C3 n.r.inner.length q3, .slice C4 n.guards.length q4, .slice C5 n.after.length q5] 51)) := (Below.refl _ wo).alloc (Nat.le_refl _) _
            obtain ⟨m0, m1, m2, m3, m4, m5, m6, m7, m8, m9, m10⟩ := blk11 (Blk.new wo #[.string n.id, .int .i64 n.scope, .string n.r.id, .string n.r.type, .string n.r.cond, .slice C1 n.r.props.length q1, .slice C2 n.r.depends.length q2, .bool n.r.retain, .slice C3 n.r.inner.length q3, .slice C4 n.guards.length q4, .slice C5 n.after.length q5] 51)
            have HBN := Lib.hid hbn
            have HBO := Lib.hid (HB.out.trans (hbn.mono HB.out.size))
            have HGD := Lib.hid (hgd.below hbn)
            have hgcap := hgd.cap
            -- on[i]
            have hbj : (Bs.map Value.bool)[j]? = some (.bool (n.guards.all (gYes O))) := by rw [HBS.out, ← hen]; simp [hn]
            obtain ⟨adE, hEA, hec⟩ := HOW9.out.rd.at_ j _ hbj
            subst hEA
            have HEC := Lib.hid hec
            have hje : (0 : Int) ≤ (j : Int) ∧ (j : Int) < (Bs.length : Int) := by have := HBL.out; omega
            clear hn hsr hen hxt hxc hbn hgd hbj hec
            go_wp2_with fail
            go_loopg [80, 13] n.guards.length (fun g i v wr => ∃ (k : Nat) (b : Bool), k + g = n.guards.length ∧ i = .int .i64 (k : Nat) ∧ v = .bool b ∧ Hid (b = (n.guards.take k).all (gYes O)) ∧ Hid (Below (wo.alloc (.cells #[.string n.id, .int .i64 n.scope, .string n.r.id, .string n.r.type, .string n.r.cond, .slice C1 n.r.props.length q1, .slice C2 n.r.depends.length q2, .bool n.r.retain, .slice C3 n.r.inner.length q3, .slice C4 n.guards.length q4, .slice C5 n.after.length q5] 51)).heap.size (wo.alloc (.cells #[.string n.id, .int .i64 n.scope, .string n.r.id, .string n.r.type, .string n.r.cond, .slice C1 n.r.props.length q1, .slice C2 n.r.depends.length q2, .bool n.r.retain, .slice C3 n.r.inner.length q3, .slice C4 n.guards.length q4, .slice C5 n.after.length q5] 51)) wr))
            case atStart => exact ⟨0, true, by omega, rfl, rfl, Lib.hid (by simp), Lib.hid (Below.refl _ _)⟩
            case round =>
              clear m0 m1 m2 m3 m4 m5 m6 m7 m8 m9 m10 e0 e1 e2 e3 e4 e5 e6 e7 e8 e9 e10
              obtain ⟨k, bb, hk, rfl, rfl, HA, HBR⟩ := hrel
              rename World => wr
              have HBW := Lib.hid (HBO.out.trans (HBR.out.mono HBO.out.size))
              cases gk with
              | zero =>
                have hkk : ¬ ((k : Int) < (n.guards.length : Int)) := by omega
                have hbe : bb = n.guards.all (gYes O) := by rw [HA.out, List.take_of_length_le (by omega)]
                have e0 := (HBW.out.cell (World.block_lt_of_cell? w9 _ HEC.out)).trans HEC.out
                rw [← hbe] at e0
                have hbb : (bb != bb) = false := by simp
                clear hbe
                go_wp2_with fail
                go_roundg g
                case measure => omega
                case rel => exact ⟨j + 1, by omega, by go_num, HBW⟩
              | succ g2 =>
                have hkk : (k : Int) < (n.guards.length : Int) := by omega
                have hki : (0 : Int) ≤ (k : Int) ∧ (k : Int) < (n.guards.length : Int) := by omega
                obtain ⟨gd, hg⟩ := get_lt (l := n.guards) (i := k) (by omega)
                have HTA := Lib.hid (take_all (p := gYes O) hg)
                obtain ⟨hs0, hs1⟩ := HSR.out gd (List.mem_of_getElem? hg)
                obtain ⟨gi, hgi⟩ : ∃ gi : Nat, gd.scope = (gi : Int) := ⟨gd.scope.toNat, by omega⟩
                obtain ⟨r, hr⟩ := get_lt (l := O) (i := gi) (by omega)
                have HGY : Hid (gYes O gd = r.any fun x => bEq x.1 gd.name && x.2) := Lib.hid (by unfold gYes; rw [hgi, show ((gi : Int)).toNat = gi from rfl, List.getD_eq_getElem?_getD, hr]; rfl)
                obtain ⟨adG, cs, rfl, hxt, hxc⟩ := (HGD.out.below HBR.out).elem Gd.trlen hg
                obtain ⟨rfl, -, -⟩ := Gd.at_iff' hxt
                obtain ⟨e0, e1⟩ := cel2 hxc
                obtain ⟨RA, rc, hxs, hrls⟩ := cg_elem HLT.out hr
                obtain ⟨adC, hCA, hcc0⟩ := HLO.out.rd.at_ gi _ hxs
                subst hCA
                obtain ⟨gsc, gnm⟩ := gd
                simp only at hgi hs0 hs1 e0 e1 HGY HTA
                subst hgi
                have hbn : Below wr.heap.size wr (wr.alloc (.cells #[.int .i64 (gi : Int), .string gnm] 53)) := (Below.refl _ wr).alloc (Nat.le_refl _) _
                have HBG := Lib.hid (HBW.out.trans (hbn.mono HBW.out.size))
                have HGB := Lib.hid (Blk.new wr #[.int .i64 (gi : Int), .string gnm] 53)
                have HBR2 := Lib.hid (HBR.out.trans (hbn.mono HBR.out.size))
                obtain ⟨m0, m1⟩ := blk2 HGB.out
                have hb79 := HB79.out.trans (HBG.out.mono HB79.out.size)
                have c0 := (hb79.cell (World.block_lt_of_cell? w7 _ hcc0)).trans hcc0
                have hrls2 := hrls.below hb79
                have HRS := Lib.hid hrls2
                have hrcap := hrls.cap
                have hml : (r.map yesG).length = r.length := by simp
                have hrby := hrls.bytes
                rw [hml] at hrcap hrby
                have hgib : (0 : Int) ≤ (gi : Int) ∧ (gi : Int) < (O.length : Int) := by omega
                have hd0 : decide ((gi : Int) < 0) = false := decide_eq_false (by omega)
                have hd1 : decide ((O.length : Int) ≤ (gi : Int)) = false := decide_eq_false (by omega)
                clear hg hr hxt hxc hxs hrls hcc0 hbn hb79 hml hrls2 hs0 hs1
                go_wp2_with fail
                go_loopg [100, 16] r.length (fun g i v wx => ∃ (m : Nat) (b3 : Bool), m + g = r.length ∧ i = .int .i64 (m : Nat) ∧ v = .bool b3 ∧ Hid (b3 = (r.take m).any fun x => bEq x.1 gnm && x.2) ∧ Hid (Below (wr.alloc (.cells #[.int .i64 (gi : Int), .string gnm] 53)).heap.size (wr.alloc (.cells #[.int .i64 (gi : Int), .string gnm] 53)) wx))
                case atStart => exact ⟨0, false, by omega, rfl, rfl, Lib.hid (by simp), Lib.hid (Below.refl _ _)⟩
                case round =>
                  clear m0 m1 e0 e1 c0
                  obtain ⟨m, b3, hm, rfl, rfl, HY, HBX⟩ := hrel
                  rename World => wx
                  have HBX2 := Lib.hid (HBR2.out.trans (HBX.out.mono HBR2.out.size))
                  cases gk with
                  | zero =>
                    have hmm : ¬ ((m : Int) < (r.length : Int)) := by omega
                    have hb3 : b3 = gYes O ⟨(gi : Int), gnm⟩ := by rw [HY.out, List.take_of_length_le (by omega), HGY.out]
                    have HA2 : Hid ((bb && b3) = (n.guards.take (k + 1)).all (gYes O)) := Lib.hid (by rw [HTA.out, ← HA.out, hb3])
                    clear hb3
                    cases bb with
                    | false =>
                      go_wp2_with fail
                      go_roundg g2
                      case measure => omega
                      case rel => exact ⟨k + 1, false, by omega, by go_num, rfl, HA2, HBX2⟩
                    | true =>
                      go_wp2_with fail
                      go_roundg g2
                      case measure => omega
                      case rel => exact ⟨k + 1, b3, by omega, by go_num, rfl, Lib.hid (by rw [← HA2.out]; rfl), HBX2⟩
                  | succ g3 =>
                    have hmm : (m : Int) < (r.length : Int) := by omega
                    have hmi : (0 : Int) ≤ (m : Int) ∧ (m : Int) < (r.length : Int) := by omega
                    obtain ⟨x, hx⟩ := get_lt (l := r) (i := m) (by omega)
                    have HTY := Lib.hid (take_any (p := fun x => bEq x.1 gnm && x.2) hx)
                    obtain ⟨adR, cs, rfl, hxt, hxc⟩ := (HRS.out.below HBX.out).elem Gv.trlen (i := m) (x := yesG x) (by simp [hx])
                    obtain ⟨GA, GB, gc, gd', rfl, -⟩ := yg_form hxt
                    obtain ⟨d0, d1, d2, d3, d4, d5, d6, d7⟩ := cel8 hxc
                    have hbn : Below wx.heap.size wx (wx.alloc (.cells #[.string x.1, .bool false, .int .i8 1, .bool x.2, .int .i64 0, .string ⟨#[]⟩, .slice GA 0 gc, .slice GB 0 gd'] 59)) := (Below.refl _ wx).alloc (Nat.le_refl _) _
                    have HBX3 := Lib.hid (HBX.out.trans (hbn.mono HBX.out.size))
                    obtain ⟨y0, y1, y2, y3, y4, y5, y6, y7⟩ := blk8 (Blk.new wx #[.string x.1, .bool false, .int .i8 1, .bool x.2, .int .i64 0, .string ⟨#[]⟩, .slice GA 0 gc, .slice GB 0 gd'] 59)
                    obtain ⟨m0, m1⟩ := blk2 (HGB.out.below HBX3.out)
                    clear hx hxt hxc hbn
                    cases b3 with
                    | true =>
                      go_wp2_with fail
                      go_roundg g3
                      case measure => omega
                      case rel => exact ⟨m + 1, true, by omega, by go_num, rfl, Lib.hid (by rw [HTY.out, ← HY.out]; rfl), HBX3⟩
                    | false =>
                      by_cases hq : x.1 = gnm
                      · have hqt : (x.1.toList == gnm.toList) = true := tl_eq hq
                        have HN : Hid (x.2 = (r.take (m + 1)).any fun x => bEq x.1 gnm && x.2) := Lib.hid (by rw [HTY.out, ← HY.out, bEq_iff.2 hq]; rfl)
                        clear hq
                        go_wp2_with fail
                        go_roundg g3
                        case measure => omega
                        case rel => exact ⟨m + 1, x.2, by omega, by go_num, rfl, HN, HBX3⟩
                      · have hqt : (x.1.toList == gnm.toList) = false := tl_ne hq
                        have HN : Hid (false = (r.take (m + 1)).any fun x => bEq x.1 gnm && x.2) := Lib.hid (by rw [HTY.out, ← HY.out, bEq_ne hq]; rfl)
                        clear hq
                        go_wp2_with fail
                        go_roundg g3
                        case measure => omega
                        case rel => exact ⟨m + 1, false, by omega, by go_num, rfl, HN, HBX3⟩
    · have hzt : (ez != 0) = true := by simpa using hz0
      clear hz0
      go_wp2_with fail
      refine (wakes_any _).mono ?_
      rintro e w7 ⟨rfl, hb7⟩
      have HB7 := Lib.hid (HB6.out.trans (hb7.mono HB6.out.size))
      clear hb7
      go_wp2_with fail
      go_ret
      exact ⟨rfl, HB7.out⟩
end Go.Proofs.YthcnfgpilncooaaGreatDoor
