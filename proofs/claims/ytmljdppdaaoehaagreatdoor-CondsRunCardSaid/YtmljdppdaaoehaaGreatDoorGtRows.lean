/- hoardingref09.Great, hoardingref14.GreatParams: walks. -/
import Derived.Test.YtmljdppdaaoehaaGreatDoorGtCond
namespace Go.Proofs.YtmljdppdaaoehaaGreatDoor
open Go.RowKit
set_option linter.unusedVariables false
set_option linter.unusedSimpArgs false

theorem any_drop {α : Type} {l : List α} {p : α → Bool} {i : Nat} {x : α} (h : l[i]? = some x) : (l.drop i).any p = (p x || (l.drop (i + 1)).any p) := by rw [drop_cons h]; rfl
def gOne (g : Gv) : Bool := decide (200 < g.name.size) || vGreat g.v
set_option maxRecDepth 100000 in
set_option maxHeartbeats 4000000 in
theorem gsgreat_any (S : Nat → Prop) (A : Option Addr) (c : Nat) (l : List Gv) (w : World) (hv : Ls S w 8 104 Gv.tr A c l) :
    Calls Tryz.prog 6 #[.slice A l.length c] w (BoolOut (gsGreat l) w) := by
  have hlb := hv.bytes
  have hlc := hv.cap
  have HL := Lib.hid hv
  clear hv
  by_cases h1 : 60 < l.length
  · have HV : Hid (gsGreat l = true) := Lib.hid (by unfold gsGreat; simp [h1])
    go_enter Tryz.func6, Tryz.ntmps6
    go_wp2_with fail
    go_ret
    exact ⟨by rw [HV.out]; rfl, Below.refl _ w⟩
  have HV : Hid (gsGreat l = (l.drop 0).any gOne) := Lib.hid (by unfold gsGreat; rw [decide_eq_false h1, Bool.false_or]; rfl)
  go_enter Tryz.func6, Tryz.ntmps6
  go_wp2_with fail
  go_loopg [3] l.length (fun g i wr => ∃ j : Nat, j + g = l.length ∧ i = .int .i64 (j : Nat) ∧ Hid (gsGreat l = (l.drop j).any gOne) ∧ Hid (Below w.heap.size w wr))
  case atStart => exact ⟨0, by omega, rfl, HV, Lib.hid (Below.refl _ w)⟩
  case round =>
    obtain ⟨j, hj, rfl, HV3, HW3⟩ := hrel
    cases gk with
    | zero =>
      have hjj : ¬ ((j : Int) < (l.length : Int)) := by omega
      have HR : Hid (gsGreat l = false) := Lib.hid (by rw [HV3.out, List.drop_of_length_le (by omega)]; rfl)
      go_wp2_with fail
      go_ret
      exact ⟨by rw [HR.out]; rfl, HW3.out⟩
    | succ g =>
      have hjj : (j : Int) < (l.length : Int) := by omega
      obtain ⟨x, hx⟩ := get_lt (l := l) (i := j) (by omega)
      have hd := any_drop (p := gOne) hx
      obtain ⟨ad, cs, rfl, hxt, hxc⟩ := (HL.out.below HW3.out).elem Gv.trlen hx
      obtain ⟨vs, rfl, hns, hxv⟩ := Gv.at_iff.1 hxt
      have HX := Lib.hid hxv
      obtain ⟨A2, c2, B2, d2, rfl, -⟩ := Vl.at_iff.1 hxv
      obtain ⟨e0, e1, e2, e3, e4, e5, e6, e7⟩ := cel8 hxc
      rw [← HV3.out] at hd
      clear hx hxt hxc hxv
      by_cases h2 : 200 < x.name.size
      · have HV5 : Hid (gsGreat l = true) := Lib.hid (by rw [hd]; unfold gOne; rw [decide_eq_true h2]; rfl)
        clear hd
        go_wp2_with fail
        go_ret
        exact ⟨by rw [HV5.out]; rfl, HW3.out⟩
      have h2' : decide ((200 : Int) < (x.name.size : Int)) = false := decide_eq_false (by omega)
      have HV4 : Hid (gsGreat l = (vGreat x.v || (l.drop (j + 1)).any gOne)) := Lib.hid (by rw [hd]; unfold gOne; rw [decide_eq_false h2, Bool.false_or])
      have HG := Lib.hid (vgreat_any S x.v _ wr HX.out)
      clear hd
      cases hg : vGreat x.v with
      | true =>
        rw [hg] at HG HV4
        have HV5 : Hid (gsGreat l = true) := Lib.hid (by rw [HV4.out]; rfl)
        clear hg
        go_wp2_with fail
        refine HG.out.mono ?_
        rintro e w4 ⟨rfl, hb⟩
        have HW5 := Lib.hid (HW3.out.trans (hb.mono HW3.out.size))
        clear hb
        go_wp2_with fail
        go_ret
        exact ⟨by rw [HV5.out]; rfl, HW5.out⟩
      | false =>
        rw [hg] at HG HV4
        have HV5 : Hid (gsGreat l = (l.drop (j + 1)).any gOne) := Lib.hid (by rw [HV4.out]; rfl)
        clear hg
        go_wp2_with fail
        refine HG.out.mono ?_
        rintro e w4 ⟨rfl, hb⟩
        have HW5 := Lib.hid (HW3.out.trans (hb.mono HW3.out.size))
        clear hb
        go_wp2_with fail
        go_roundg g
        case measure => omega
        case rel => exact ⟨j + 1, by omega, by go_num, HV5, HW5⟩

end Go.Proofs.YtmljdppdaaoehaaGreatDoor
