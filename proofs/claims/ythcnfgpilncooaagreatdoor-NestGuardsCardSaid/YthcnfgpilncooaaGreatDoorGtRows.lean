/- hoardingref09.Great, hoardingref14.GreatParams: walks. -/
import Derived.Test.YthcnfgpilncooaaGreatDoorGtCond
namespace Go.Proofs.YthcnfgpilncooaaGreatDoor
open Go.RowKit
set_option linter.unusedVariables false
set_option linter.unusedSimpArgs false

theorem any_drop {α : Type} {l : List α} {p : α → Bool} {i : Nat} {x : α} (h : l[i]? = some x) : (l.drop i).any p = (p x || (l.drop (i + 1)).any p) := by rw [drop_cons h]; rfl
def gOne (g : Gv) : Bool := decide (200 < g.name.size) || vGreat g.v
set_option maxRecDepth 100000 in
set_option maxHeartbeats 4000000 in
theorem gsgreat_any (S : Nat → Prop) (A : Option Addr) (c : Nat) (l : List Gv) (w : World) (hv : Ls S w 8 104 Gv.tr A c l) :
    Calls Tryz.prog 10 #[.slice A l.length c] w (BoolOut (gsGreat l) w) := by
  have hlb := hv.bytes
  have hlc := hv.cap
  have HL := Lib.hid hv
  clear hv
  by_cases h1 : 60 < l.length
  · have HV : Hid (gsGreat l = true) := Lib.hid (by unfold gsGreat; simp [h1])
    go_enter Tryz.func10, Tryz.ntmps10
    go_wp2_with fail
    go_ret
    exact ⟨by rw [HV.out]; rfl, Below.refl _ w⟩
  have HV : Hid (gsGreat l = (l.drop 0).any gOne) := Lib.hid (by unfold gsGreat; rw [decide_eq_false h1, Bool.false_or]; rfl)
  go_enter Tryz.func10, Tryz.ntmps10
  go_wp2_with fail
  go_loopg [3] l.length (fun g i wr => ∃ j : Nat, j + g = l.length ∧ i = .int .i64 (j : Nat) ∧ Hid (gsGreat l = (l.drop j).any gOne) ∧ Hid (Below w.heap.size w wr))
  case atStart => exact ⟨0, by omega, rfl, HV, Lib.hid (Below.refl _ w)⟩
  case round =>
    obtain ⟨j, hj, rfl, HV3, HW3⟩ := hrel
    cases gk with
    | zero =>
      have hjj : ¬ ((j : Int) < (l.length : Int)) := by omega
      have HR : Hid (gsGreat l = false) := Lib.hid (by rw [HV3.out, List.drop_of_length_le (by omega)]; rfl)
      go_wp2_with fail
      go_ret
      exact ⟨by rw [HR.out]; rfl, HW3.out⟩
    | succ g =>
      have hjj : (j : Int) < (l.length : Int) := by omega
      obtain ⟨x, hx⟩ := get_lt (l := l) (i := j) (by omega)
      have hd := any_drop (p := gOne) hx
      obtain ⟨ad, cs, rfl, hxt, hxc⟩ := (HL.out.below HW3.out).elem Gv.trlen hx
      obtain ⟨vs, rfl, hns, hxv⟩ := Gv.at_iff.1 hxt
      have HX := Lib.hid hxv
      obtain ⟨A2, c2, B2, d2, rfl, -⟩ := Vl.at_iff.1 hxv
      obtain ⟨e0, e1, e2, e3, e4, e5, e6, e7⟩ := cel8 hxc
      rw [← HV3.out] at hd
      clear hx hxt hxc hxv
      by_cases h2 : 200 < x.name.size
      · have HV5 : Hid (gsGreat l = true) := Lib.hid (by rw [hd]; unfold gOne; rw [decide_eq_true h2]; rfl)
        clear hd
        go_wp2_with fail
        go_ret
        exact ⟨by rw [HV5.out]; rfl, HW3.out⟩
      have h2' : decide ((200 : Int) < (x.name.size : Int)) = false := decide_eq_false (by omega)
      have HV4 : Hid (gsGreat l = (vGreat x.v || (l.drop (j + 1)).any gOne)) := Lib.hid (by rw [hd]; unfold gOne; rw [decide_eq_false h2, Bool.false_or])
      have HG := Lib.hid (vgreat_any S x.v _ wr HX.out)
      clear hd
      cases hg : vGreat x.v with
      | true =>
        rw [hg] at HG HV4
        have HV5 : Hid (gsGreat l = true) := Lib.hid (by rw [HV4.out]; rfl)
        clear hg
        go_wp2_with fail
        refine HG.out.mono ?_
        rintro e w4 ⟨rfl, hb⟩
        have HW5 := Lib.hid (HW3.out.trans (hb.mono HW3.out.size))
        clear hb
        go_wp2_with fail
        go_ret
        exact ⟨by rw [HV5.out]; rfl, HW5.out⟩
      | false =>
        rw [hg] at HG HV4
        have HV5 : Hid (gsGreat l = (l.drop (j + 1)).any gOne) := Lib.hid (by rw [HV4.out]; rfl)
        clear hg
        go_wp2_with fail
        refine HG.out.mono ?_
        rintro e w4 ⟨rfl, hb⟩
        have HW5 := Lib.hid (HW3.out.trans (hb.mono HW3.out.size))
        clear hb
        go_wp2_with fail
        go_roundg g
        case measure => omega
        case rel => exact ⟨j + 1, by omega, by go_num, HV5, HW5⟩

set_option maxRecDepth 100000 in
set_option maxHeartbeats 8000000 in
theorem pmsgreat_any (S : Nat → Prop) (A : Option Addr) (c : Nat) (l : List Pm) (w : World) (hv : Ls S w 10 128 Pm.tr A c l) :
    Calls Tryz.prog 20 #[.slice A l.length c] w (BoolOut (pmsGreat l) w) := by
  have hlb := hv.bytes
  have hlc := hv.cap
  have HL := Lib.hid hv
  clear hv
  have HV : Hid (l.length ≤ 40 → pmsGreat l = (l.drop 0).any pmGreat) := Lib.hid (fun h => by unfold pmsGreat; rw [decide_eq_false (by omega), Bool.false_or]; rfl)
  have HL4 : Hid (40 < l.length → pmsGreat l = true) := Lib.hid (fun h => by unfold pmsGreat; rw [decide_eq_true h]; rfl)
  go_enter Tryz.func20, Tryz.ntmps20
  go_wp2_with fail
  go_loopg [3] l.length (fun g i wr => ∃ j : Nat, j + g = l.length ∧ j ≤ 41 ∧ i = .int .i64 (j : Nat) ∧ Hid (l.length ≤ 40 → pmsGreat l = (l.drop j).any pmGreat) ∧ Hid (Below w.heap.size w wr))
  case atStart => exact ⟨0, by omega, by omega, rfl, HV, Lib.hid (Below.refl _ w)⟩
  case round =>
    obtain ⟨j, hj, hj1, rfl, HV3, HW3⟩ := hrel
    by_cases h4 : 40 < j
    · have h4' : ¬ ((j : Int) ≤ 40) := by omega
      have h5 : (40 : Int) < (l.length : Int) := by omega
      have HR := Lib.hid (HL4.out (by omega))
      go_wp2_with fail
      all_goals
        go_ret
        exact ⟨by rw [HR.out]; rfl, HW3.out⟩
    have h4' : (j : Int) ≤ 40 := by omega
    cases gk with
    | zero =>
      have hjj : ¬ ((j : Int) < (l.length : Int)) := by omega
      have h5 : ¬ ((40 : Int) < (l.length : Int)) := by omega
      have HR : Hid (pmsGreat l = false) := Lib.hid (by rw [HV3.out (by omega), List.drop_of_length_le (by omega)]; rfl)
      go_wp2_with fail
      all_goals
        go_ret
        exact ⟨by rw [HR.out]; rfl, HW3.out⟩
    | succ g =>
      have hjj : (j : Int) < (l.length : Int) := by omega
      obtain ⟨x, hx⟩ := get_lt (l := l) (i := j) (by omega)
      have hd := any_drop (p := pmGreat) hx
      obtain ⟨ad, cs, rfl, hxt, hxc⟩ := (HL.out.below HW3.out).elem Pm.trlen hx
      obtain ⟨vs, A5, c5, rfl, hns, hxv, hxl⟩ := Pm.at_iff.1 hxt
      have HX := Lib.hid hxv
      have HXL := Lib.hid hxl
      have hxb := hxl.bytes
      obtain ⟨A2, c2, B2, d2, rfl, -⟩ := Vl.at_iff.1 hxv
      have HXC := Lib.hid hxc
      obtain ⟨e0, e1, e2, e3, e4, e5, e6, e7, e8, e9⟩ := cel10 hxc
      have HT : Hid (pmGreat x = true → pmsGreat l = true) := Lib.hid (fun h => by
        by_cases h6 : l.length ≤ 40
        · rw [HV3.out h6, hd, h]; rfl
        · exact HL4.out (by omega))
      have HF : Hid (pmGreat x = false → l.length ≤ 40 → pmsGreat l = (l.drop (j + 1)).any pmGreat) := Lib.hid (fun h h6 => by rw [HV3.out h6, hd, h, Bool.false_or])
      have HG := Lib.hid (vgreat_any S x.dflt _ wr HX.out)
      clear hx hd hxt hxc hxv hxl
      cases hg : vGreat x.dflt with
      | true =>
        rw [hg] at HG
        have HV5 := Lib.hid (HT.out (by unfold pmGreat; rw [hg]; rfl))
        clear hg
        go_wp2_with fail
        refine HG.out.mono ?_
        rintro e w4 ⟨rfl, hb⟩
        have HW5 := Lib.hid (HW3.out.trans (hb.mono HW3.out.size))
        clear hb
        go_wp2_with fail
        go_ret
        exact ⟨by rw [HV5.out]; rfl, HW5.out⟩
      | false =>
        rw [hg] at HG
        have HPM : Hid (pmGreat x = (decide (40 < x.allowed.length) || decide (400 < x.name.size) || x.allowed.any vGreat)) := Lib.hid (by unfold pmGreat; rw [hg, Bool.false_or])
        clear hg
        go_wp2_with fail
        refine HG.out.mono ?_
        rintro e w4 ⟨rfl, hb⟩
        obtain ⟨f0, f1, f2, f3, f4, f5, f6, f7, f8, f9⟩ := cel10 (HXC.out.below hb)
        have HXL2 := Lib.hid (HXL.out.below hb)
        have HXC2 := Lib.hid (HXC.out.below hb)
        have HW5 := Lib.hid (HW3.out.trans (hb.mono HW3.out.size))
        clear hb
        by_cases h6 : 40 < x.allowed.length
        · have HV5 := Lib.hid (HT.out (by rw [HPM.out, decide_eq_true h6]; rfl))
          have h6' : (40 : Int) < (x.allowed.length : Int) := by omega
          go_wp2_with fail
          go_ret
          exact ⟨by rw [HV5.out]; rfl, HW5.out⟩
        have h6' : decide ((40 : Int) < (x.allowed.length : Int)) = false := decide_eq_false (by omega)
        by_cases h7 : 400 < x.name.size
        · have HV5 := Lib.hid (HT.out (by rw [HPM.out, decide_eq_true h7]; simp))
          have h7' : (400 : Int) < (x.name.size : Int) := by omega
          go_wp2_with fail
          go_ret
          exact ⟨by rw [HV5.out]; rfl, HW5.out⟩
        have h7' : decide ((400 : Int) < (x.name.size : Int)) = false := decide_eq_false (by omega)
        have HPA : Hid (pmGreat x = (x.allowed.drop 0).any vGreat) := Lib.hid (by rw [HPM.out, decide_eq_false h6, decide_eq_false h7]; rfl)
        go_wp2_with fail
        go_loopg [4] x.allowed.length (fun g2 i wr => ∃ k : Nat, k + g2 = x.allowed.length ∧ i = .int .i64 (k : Nat) ∧ Hid (pmGreat x = (x.allowed.drop k).any vGreat) ∧ Hid (Below w4.heap.size w4 wr))
        case atStart => exact ⟨0, by omega, rfl, HPA, Lib.hid (Below.refl _ _)⟩
        case round =>
          obtain ⟨k, hk, rfl, HP2, HW6⟩ := hrel
          obtain ⟨g0, g1, g2, g3, g4, g5, g6, g7, g8, g9⟩ := cel10 (HXC2.out.below HW6.out)
          have HW7 := Lib.hid (HW5.out.trans (HW6.out.mono HW5.out.size))
          clear f0 f1 f2 f3 f4 f5 f6 f7 f8 f9
          cases gk with
          | zero =>
            have hkk : ¬ ((k : Int) < (x.allowed.length : Int)) := by omega
            have HPF : Hid (pmGreat x = false) := Lib.hid (by rw [HP2.out, List.drop_of_length_le (by omega)]; rfl)
            have HF2 := Lib.hid (HF.out HPF.out)
            go_wp2_with fail
            go_roundg g
            case measure => omega
            case rel => exact ⟨j + 1, by omega, by omega, by go_num, HF2, HW7⟩
          | succ g3' =>
            have hkk : (k : Int) < (x.allowed.length : Int) := by omega
            obtain ⟨y, hy⟩ := get_lt (l := x.allowed) (i := k) (by omega)
            have hd := any_drop (p := vGreat) hy
            obtain ⟨ad2, cs2, rfl, hyt, hyc⟩ := (HXL2.out.below HW6.out).elem Vl.trlen hy
            have HY := Lib.hid hyt
            obtain ⟨A7, c7, B7, d7, rfl, -⟩ := Vl.at_iff.1 hyt
            obtain ⟨l0, l1, l2, l3, l4, l5⟩ := cel6 hyc
            have HG2 := Lib.hid (vgreat_any S y _ wr HY.out)
            rw [← HP2.out] at hd
            clear hy hyt hyc
            cases hg : vGreat y with
            | true =>
              rw [hg] at HG2 hd
              have HV5 := Lib.hid (HT.out (by rw [hd]; rfl))
              clear hg hd
              go_wp2_with fail
              refine HG2.out.mono ?_
              rintro e w8 ⟨rfl, hb⟩
              have HW8 := Lib.hid (HW7.out.trans (hb.mono HW7.out.size))
              clear hb
              go_wp2_with fail
              go_ret
              exact ⟨by rw [HV5.out]; rfl, HW8.out⟩
            | false =>
              rw [hg] at HG2 hd
              have HP3 : Hid (pmGreat x = (x.allowed.drop (k + 1)).any vGreat) := Lib.hid (by rw [hd]; rfl)
              clear hg hd
              go_wp2_with fail
              refine HG2.out.mono ?_
              rintro e w8 ⟨rfl, hb⟩
              have HW8 := Lib.hid (HW6.out.trans (hb.mono HW6.out.size))
              clear hb
              go_wp2_with fail
              go_roundg g3'
              case measure => omega
              case rel => exact ⟨k + 1, by omega, by go_num, HP3, HW8⟩
end Go.Proofs.YthcnfgpilncooaaGreatDoor
