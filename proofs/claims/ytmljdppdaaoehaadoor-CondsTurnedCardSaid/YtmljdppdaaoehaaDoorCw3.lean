/- CondsTurned: the walk. -/
import Derived.Test.YtmljdppdaaoehaaDoorCw1
import Derived.Test.YtmljdppdaaoehaaDoorCp4
import Derived.Test.YtmljdppdaaoehaaDoorGtRows
import Derived.Test.YtmljdppdaaoehaaDoorCs2
import Derived.StillTail
import Derived.StillTailTactics
namespace Go.Proofs.YtmljdppdaaoehaaDoor
open Go.RowKit
set_option linter.unusedVariables false
set_option linter.unusedSimpArgs false

theorem drop_rev {l : List Cd} {g : Nat} {c : Cd} (h : l[g]? = some c) : (l.drop g).reverse = (l.drop (g + 1)).reverse ++ [c] := by
  rw [drop_cons h]; simp
set_option maxRecDepth 100000 in
set_option maxHeartbeats 16000000 in
theorem condsTurned_any (A : Option Addr) (ac : Nat) (l : List Cd) (PA : Option Addr) (pc : Nat) (ps : List Gv) (w : World) (hV : VOk w) (hls : Ls (fun k => k < w.heap.size) w 15 224 Cd.tr A ac l) (hps : Ls (fun k => k < w.heap.size) w 8 104 Gv.tr PA pc ps) :
    Calls Tryd.prog 3 #[.slice A l.length ac, .slice PA ps.length pc] w (BoolB true w) := by
  have hcap := hls.cap
  have hbyt := hls.bytes
  have HLS := Lib.hid hls
  have HG1 := Lib.hid (csgreat_any _ A ac l w hls)
  have HG2 : Hid (∀ w', Below w.heap.size w w' → Calls Tryd.prog 7 #[.slice PA ps.length pc] w' (BoolOut (gsGreat ps) w')) := Lib.hid (fun w' h => gsgreat_any _ PA pc ps w' (hps.below h))
  have HW : Hid (∀ w', Below w.heap.size w w' → Calls Tryd.prog 8 #[] w' (BoolB true w')) := Lib.hid (fun w' h => wakes_any w' (hV.below h))
  obtain ⟨K, HK⟩ : ∃ K, Hid (gsGreat ps = false → csCheck l (gNames ps) = 0 → ∀ c ∈ l, Dp l ps vSmall K c) := by
    by_cases h : gsGreat ps = false ∧ csCheck l (gNames ps) = 0
    · obtain ⟨K, h1, _⟩ := chk_dp (gs_small h.1).2 h.2
      exact ⟨K, Lib.hid (fun _ _ => h1)⟩
    · exact ⟨0, Lib.hid (fun a b => absurd ⟨a, b⟩ h)⟩
  have HR1 : Hid (csGreat l = false → gsGreat ps = false → ∀ w', Below w.heap.size w w' → Calls Tryd.prog 9 #[.slice A l.length ac, .slice PA ps.length pc] w' (RunL (runOf l ps vEq K) w')) := Lib.hid (fun h1 h2 w' hb =>
    (crun_any _ A ac l PA pc ps w' (hV.below hb) (hls.below hb) (hps.below hb) (by have := (gs_small h2).1; omega) (gs_small h2).2 (cs_ok h1).2 K (HK.out h2)).mono (fun e w'' h => h.l))
  have HR2 : Hid (csGreat l = false → gsGreat ps = false → ∀ w' A' c', Below w.heap.size w w' → Ls (fun k => k < w'.heap.size) w' 15 224 Cd.tr A' c' l.reverse → Calls Tryd.prog 9 #[.slice A' l.length c', .slice PA ps.length pc] w' (RunL (runOf l.reverse ps vEq K) w')) := Lib.hid (fun h1 h2 w' A' c' hb hl => by
    have := crun_any _ A' c' l.reverse PA pc ps w' (hV.below hb) hl ((hps.below hb).mono (fun k hk => Nat.lt_of_lt_of_le hk hb.size)) (by have := (gs_small h2).1; omega) (gs_small h2).2 (csok_rev (cs_ok h1).2) K (dp_rev (HK.out h2))
    rw [List.length_reverse] at this
    exact this.mono (fun e w'' h => h.l))
  have HLEN : Hid (csGreat l = false → l.length ≤ 40) := Lib.hid (fun h => (cs_ok h).1)
  have HT1 : Hid (∀ a, runOf l ps vEq K = .inr a → ∃ b, runOf l.reverse ps vEq K = .inr b ∧ a.length = l.length ∧ b.length = l.length ∧ ∀ (i : Nat) c, l[i]? = some c → ∃ v, a[i]? = some (c.name, v) ∧ b[l.length - 1 - i]? = some (c.name, v)) := Lib.hid (fun a h => turn_law h)
  have HT2 : Hid (∀ n, runOf l ps vEq K = .inl n → n ≠ 0 ∧ ∃ m, m ≠ 0 ∧ runOf l.reverse ps vEq K = .inl m) := Lib.hid (fun n h => by
    obtain ⟨m, hm⟩ := turn_back h
    exact ⟨runOf_inl h, m, runOf_inl hm, hm⟩)
  obtain ⟨g1, hg1⟩ : ∃ g1, g1 = csGreat l := ⟨_, rfl⟩
  obtain ⟨g2, hg2⟩ : ∃ g2, g2 = gsGreat ps := ⟨_, rfl⟩
  obtain ⟨r1, hr1⟩ : ∃ r1, r1 = runOf l ps vEq K := ⟨_, rfl⟩
  obtain ⟨r2, hr2⟩ : ∃ r2, r2 = runOf l.reverse ps vEq K := ⟨_, rfl⟩
  rw [← hg1] at HG1 HR1 HR2 HLEN
  rw [← hg2] at HG2 HR1 HR2
  rw [← hr1] at HR1 HT1 HT2
  rw [← hr2] at HR2 HT1 HT2
  clear hg1 hg2 hr1 hr2 hls hps hV HK
  go_enter Tryd.func3, Tryd.ntmps3
  go_wp2_with fail
  refine HG1.out.mono ?_
  rintro e w1 ⟨rfl, hb1⟩
  have HB1 := Lib.hid hb1
  clear hb1 HG1
  cases g1 with
  | true =>
    go_wp2_with fail
    refine (HW.out w1 HB1.out).mono ?_
    rintro e w2 ⟨rfl, hb2⟩
    have HB2 := Lib.hid (HB1.out.trans (hb2.mono HB1.out.size))
    go_wp2_with fail
    go_ret
    exact ⟨rfl, HB2.out⟩
  | false =>
    go_wp2_with fail
    refine (HG2.out w1 HB1.out).mono ?_
    rintro e w2 ⟨rfl, hb2⟩
    have HB2 := Lib.hid (HB1.out.trans (hb2.mono HB1.out.size))
    clear hb2
    cases g2 with
    | true =>
      go_wp2_with fail
      refine (HW.out w2 HB2.out).mono ?_
      rintro e w3 ⟨rfl, hb3⟩
      have HB3 := Lib.hid (HB2.out.trans (hb3.mono HB2.out.size))
      go_wp2_with fail
      go_ret
      exact ⟨rfl, HB3.out⟩
    | false =>
      have hl40 : l.length ≤ 40 := HLEN.out trivial
      go_wp2_with fail
      go_loopg [6, 5] l.length (fun g i v wr => ∃ (m : Nat) (BA : Option Addr) (bc : Nat) (xs : List Value), m + g = l.length ∧ i = .int .i64 ((g : Int) - 1) ∧ v = .slice BA m bc ∧ Hid (Ow wr w.heap.size 32 15 BA m bc xs) ∧ Hid (Trs.at (fun k => k < w.heap.size) wr ((l.drop g).reverse.flatMap Cd.tr) xs) ∧ Hid (Below w.heap.size w wr))
      case atStart => exact ⟨0, none, 0, [], by omega, by go_num, rfl, Lib.hid (Ow.nil _ _ _ _), Lib.hid (by rw [List.drop_length]; exact at_nil.2 rfl), HB2⟩
      case round =>
        obtain ⟨m, BA, bc, xs, hm, rfl, rfl, HO, HT, HB⟩ := hrel
        rename World => wo
        cases gk with
        | zero =>
          have hg1 : (((0 : Nat) : Int) - 1) = -1 := by omega
          rw [hg1]
          clear hg1
          obtain rfl : m = l.length := by omega
          have HLB : Hid (Ls (fun k => k < wo.heap.size) wo 15 224 Cd.tr BA bc l.reverse) := Lib.hid (own_conds (by simp) (by simp; omega) HO.out (by have := HT.out; rwa [List.drop_zero] at this))
          clear HO HT
          go_wp2_with fail
          refine (HR1.out trivial trivial wo HB.out).mono ?_
          rintro e w3 ⟨hb3, hr1⟩
          have HB3 := Lib.hid (HB.out.trans (hb3.mono HB.out.size))
          have HLB3 : Hid (Ls (fun k => k < w3.heap.size) w3 15 224 Cd.tr BA bc l.reverse) := Lib.hid ((HLB.out.below hb3).mono (fun k hk => Nat.lt_of_lt_of_le hk hb3.size))
          clear HLB hb3
          cases r1 with
          | inl n =>
            simp only at hr1
            subst hr1
            obtain ⟨hn, n2, hn2, hr2⟩ := HT2.out n rfl
            subst hr2
            have hn' : ((n : Int) == 0) = false := by rw [beq_eq_false_iff_ne]; omega
            have hn2' : ((n2 : Int) == 0) = false := by rw [beq_eq_false_iff_ne]; omega
            clear hn hn2
            go_wp2_with fail
            refine (HR2.out trivial trivial w3 BA bc HB3.out HLB3.out).mono ?_
            rintro e w4 ⟨hb4, hr2⟩
            simp only at hr2
            subst hr2
            have HB4 := Lib.hid (HB3.out.trans (hb4.mono HB3.out.size))
            clear hb4
            go_wp2_with fail
            refine (HW.out w4 HB4.out).mono ?_
            rintro e w5 ⟨rfl, hb5⟩
            have HB5 := Lib.hid (HB4.out.trans (hb5.mono HB4.out.size))
            go_wp2_with fail
            go_ret
            exact ⟨rfl, HB5.out⟩
          | inr a =>
            obtain ⟨AA, aac, rfl, hac, ha⟩ := hr1
            obtain ⟨b, hr2, hal, hbl, hall⟩ := HT1.out a rfl
            subst hr2
            have HA := Lib.hid ha
            have HALL := Lib.hid hall
            rw [hal]
            rw [hal] at hac
            have HAL := Lib.hid hal
            clear ha hall hal
            go_wp2_with fail
            refine (HR2.out trivial trivial w3 BA bc HB3.out HLB3.out).mono ?_
            rintro e w4 ⟨hb4, BB, bbc, rfl, hbc, hb⟩
            rw [hbl]
            rw [hbl] at hbc
            have HBV := Lib.hid hb
            have HBL := Lib.hid hbl
            have HB34 := Lib.hid hb4
            have HB4 := Lib.hid (HB3.out.trans (hb4.mono HB3.out.size))
            clear hb4 hb hbl
            go_wp2_with fail
            go_loopg [74] l.length (fun g i wr => ∃ j : Nat, j + g = l.length ∧ i = .int .i64 (j : Nat) ∧ Hid (Below w4.heap.size w4 wr))
            case atStart => exact ⟨0, by omega, rfl, Lib.hid (Below.refl _ _)⟩
            case round =>
              obtain ⟨j, hj, rfl, HBJ⟩ := hrel
              rename World => wq
              have HBQ : Hid (Below w.heap.size w wq) := Lib.hid (HB4.out.trans (HBJ.out.mono HB4.out.size))
              cases gk with
              | zero =>
                have hjj : ¬ ((j : Int) < (l.length : Int)) := by omega
                go_wp2_with fail
                refine (HW.out wq HBQ.out).mono ?_
                rintro e w5 ⟨rfl, hb5⟩
                have HB5 := Lib.hid (HBQ.out.trans (hb5.mono HBQ.out.size))
                go_wp2_with fail
                go_ret
                exact ⟨rfl, HB5.out⟩
              | succ g =>
                have hjj : (j : Int) < (l.length : Int) := by omega
                have hj0 : (0 : Int) ≤ (j : Int) ∧ (j : Int) < (l.length : Int) := by omega
                obtain ⟨c, hc⟩ := get_lt (l := l) (i := j) (by omega)
                obtain ⟨v, hav, hbv⟩ := HALL.out j c hc
                obtain ⟨ld, dcs, hA, hct, hcc⟩ := (HLS.out.below HBQ.out).elem Cd.trlen hc
                obtain ⟨dl, dlc, d0, _, _, _, _⟩ := cd_cel hct hcc
                obtain ⟨ad, rfl, hac1⟩ := HA.out wq (HB34.out.trans (HBJ.out.mono HB34.out.size)) j _ hav
                obtain ⟨bd, rfl, hbc1⟩ := HBV.out wq HBJ.out _ _ hbv
                obtain ⟨p, hp⟩ : ∃ p, p = l.length - 1 - j := ⟨_, rfl⟩
                rw [← hp] at hbc1
                have hpi : (l.length : Int) - 1 - (j : Int) = (p : Int) := by omega
                have hwr1 : IntKind.i64.wrap ((l.length : Int) - 1) = (l.length : Int) - 1 := by rw [IntKind.wrap_i64]; omega
                have hwr2 : IntKind.i64.wrap (p : Int) = (p : Int) := by rw [IntKind.wrap_i64]; omega
                have hp0 : (0 : Int) ≤ (p : Int) ∧ (p : Int) < (l.length : Int) := by omega
                obtain ⟨a0, a1, a2, a3, a4, a5, a6, a7⟩ := cel8 hac1
                obtain ⟨b0, b1, b2, b3, b4, b5, b6, b7⟩ := cel8 hbc1
                subst hA
                have hE : (c.name.toList == c.name.toList) = true := by simp
                have hE2 : (v != v) = false := by cases v <;> rfl
                clear hc hav hbv hct hcc hac1 hbc1 hp
                go_wp2_with fail
                go_still (by kernel_rfl)
                change Exit.then _ _ _ _ wq.drew
                have HBQ2 := Lib.hid HBQ.out.drew
                go_wp2_with fail
                go_roundg g
                case measure => omega
                case rel => exact ⟨j + 1, by omega, by go_num, Lib.hid HBJ.out.drew⟩
        | succ g =>
          have hg1 : (((g + 1 : Nat) : Int) - 1) = (g : Int) := by omega
          rw [hg1]
          clear hg1
          have hgg : (0 : Int) ≤ (g : Int) ∧ (g : Int) < (l.length : Int) := by omega
          have hg0 : (0 : Int) ≤ (g : Int) := by omega
          have hm40 : m + 1 ≤ 40 := by omega
          obtain ⟨c, hc⟩ := get_lt (l := l) (i := g) (by omega)
          obtain ⟨ad, cs, rfl, hct, hcc⟩ := (HLS.out.below HB.out).elem Cd.trlen hc
          have HCT := Lib.hid hct
          obtain ⟨xs1, ys1, L, lc, rfl, hns, _, hxa, hxb, _⟩ := Cd.at_iff.1 hct
          obtain ⟨A1, n1, rfl, _⟩ := ex_cells hxa
          obtain ⟨B1, n2, rfl, _⟩ := ex_cells hxb
          obtain ⟨c0, c1, c2, c3, c4, c5, c6, c7, c8, c9, c10, c11, c12, c13, c14⟩ := cel15 hcc
          have HDR := Lib.hid (drop_rev hc)
          have HRN : Hid (Rd (wo.alloc (.cells #[.string c.name, .int .i8 c.kind, .int .i8 c.a.kind, .string c.a.text, .int .i64 c.a.num, .string c.a.name, .string c.a.attr, .slice A1 c.a.l.length n1, .int .i8 c.b.kind, .string c.b.text, .int .i64 c.b.num, .string c.b.name, .string c.b.attr, .slice B1 c.b.l.length n2, .slice L c.l.length lc] 32)) 15 (some ⟨wo.heap.size, 0, none⟩) 1 1 [.string c.name, .int .i8 c.kind, .int .i8 c.a.kind, .string c.a.text, .int .i64 c.a.num, .string c.a.name, .string c.a.attr, .slice A1 c.a.l.length n1, .int .i8 c.b.kind, .string c.b.text, .int .i64 c.b.num, .string c.b.name, .string c.b.attr, .slice B1 c.b.l.length n2, .slice L c.l.length lc]) := Lib.hid (Rd.lit wo 15 1 #[.string c.name, .int .i8 c.kind, .int .i8 c.a.kind, .string c.a.text, .int .i64 c.a.num, .string c.a.name, .string c.a.attr, .slice A1 c.a.l.length n1, .int .i8 c.b.kind, .string c.b.text, .int .i64 c.b.num, .string c.b.name, .string c.b.attr, .slice B1 c.b.l.length n2, .slice L c.l.length lc] 32 (0, 0) rfl (by simp [maxLen]))
          clear hct hcc hxa hxb hc
          go_wp2_with (at_builtin; refine wpList_row info_cond Tryd.underlying22 rfl (by omega) rfl (.tmp 27) (.tmp 32) rfl w.heap.size BA bc m xs rfl (HO.out.alloc _) (some ⟨wo.heap.size, 0, none⟩) 1 1 [.string c.name, .int .i8 c.kind, .int .i8 c.a.kind, .string c.a.text, .int .i64 c.a.num, .string c.a.name, .string c.a.attr, .slice A1 c.a.l.length n1, .int .i8 c.b.kind, .string c.b.text, .int .i64 c.b.num, .string c.b.name, .string c.b.attr, .slice B1 c.b.l.length n2, .slice L c.l.length lc] rfl HRN.out (by simp [Value.oneCell']) (by omega) (by omega) (by have := HB.out.size; simp; omega) ?_; intro A' c' w6 ho hg hat; have HO6 := Lib.hid ho; have HG6 := Lib.hid hg; have HT6 := Lib.hid hat; clear ho hg hat)
          have hon : Only (fun k => blk BA = some k) wo w6 := ((Only.refl _ wo).alloc _).grown HG6.out (fun g hg _ => hg)
          have hF : ∀ k, k < w.heap.size → ¬ blk BA = some k := fun k hk e => by have := (HO.out.lt e).1; omega
          have HTN : Hid (Trs.at (fun k => k < w.heap.size) w6 ((l.drop g).reverse.flatMap Cd.tr) (xs ++ [.string c.name, .int .i8 c.kind, .int .i8 c.a.kind, .string c.a.text, .int .i64 c.a.num, .string c.a.name, .string c.a.attr, .slice A1 c.a.l.length n1, .int .i8 c.b.kind, .string c.b.text, .int .i64 c.b.num, .string c.b.name, .string c.b.attr, .slice B1 c.b.l.length n2, .slice L c.l.length lc])) := Lib.hid (by
            rw [HDR.out, List.flatMap_append, List.flatMap_singleton]
            exact Trs.at.app.2 ⟨_, _, rfl, HT.out.only hon hF, HCT.out.only hon hF⟩)
          have HBN := Lib.hid (hon.belowB HB.out (fun k e => (HO.out.lt e).1))
          clear hon hF
          go_roundg g
          case measure => omega
          case rel => exact ⟨m + 1, A', c', xs ++ [.string c.name, .int .i8 c.kind, .int .i8 c.a.kind, .string c.a.text, .int .i64 c.a.num, .string c.a.name, .string c.a.attr, .slice A1 c.a.l.length n1, .int .i8 c.b.kind, .string c.b.text, .int .i64 c.b.num, .string c.b.name, .string c.b.attr, .slice B1 c.b.l.length n2, .slice L c.l.length lc], by omega, rfl, rfl, HO6, HTN, HBN⟩
theorem condsTurned_walk (w : World) (hV : VOk w) (A : Option Addr) (n ac : Nat) (l : List Cd) (hn : n = l.length) (hls : Ls (fun k => k < w.heap.size) w 15 224 Cd.tr A ac l) (PA : Option Addr) (m pc : Nat) (ps : List Gv) (hm : m = ps.length) (hps : Ls (fun k => k < w.heap.size) w 8 104 Gv.tr PA pc ps) :
    Calls Tryd.prog 3 #[.slice A n ac, .slice PA m pc] w (BoolB true w) := by
  subst hn; subst hm
  exact condsTurned_any A ac l PA pc ps w hV hls hps
end Go.Proofs.YtmljdppdaaoehaaDoor
