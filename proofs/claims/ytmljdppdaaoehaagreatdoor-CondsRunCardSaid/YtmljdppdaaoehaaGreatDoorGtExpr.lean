/- hoardingref12.weight, Great; hoardingref17.parts; hoardingref15.exprs: walks. -/
import Derived.Test.YtmljdppdaaoehaaGreatDoorGtVal
namespace Go.Proofs.YtmljdppdaaoehaaGreatDoor
open Go.RowKit
set_option linter.unusedVariables false
set_option linter.unusedSimpArgs false

set_option maxHeartbeats 1000000 in
theorem vgreat_any (S : Nat → Prop) (v : Vl) (cs : List Value) (w : World) (hv : Trs.at S w v.tr cs) :
    Calls Tryz.prog 17 #[.agg cs.toArray] w (BoolOut (vGreat v) w) := by
  have HV := Lib.hid hv
  obtain ⟨A, c, B, d, rfl, -, -, ht, hl, hks⟩ := Vl.at_iff.1 hv
  clear hv hl hks
  have hb := vW_le 30 v
  go_enter Tryz.func17, Tryz.ntmps17
  go_wp2_with fail
  refine (vweight_any S 30 v _ _ (by omega) (HV.out.alloc _)).mono ?_
  rintro e w2 ⟨rfl, hb⟩
  have HB := Lib.hid (((Below.refl _ w).alloc (Nat.le_refl _) _).trans (hb.mono (by simp)))
  clear hb
  go_wp2_with fail
  go_ret
  exact ⟨by rw [show vGreat v = decide ((5000 : Int) < ((vW 30 v : Nat) : Int)) from decide_eq_decide.2 (by omega)]; rfl, HB.out⟩

theorem partsL_drop {l : List Ex} {i : Nat} {s : Ex} (h : l[i]? = some s) : Ex.partsL (l.drop i) = s.parts + Ex.partsL (l.drop (i + 1)) := by rw [drop_cons h]; rfl
def eS (l : List Ex) : Nat := (l.map fun y => 1 + y.l.length * 10000).sum
theorem eS_drop {l : List Ex} {i : Nat} {s : Ex} (h : l[i]? = some s) : eS (l.drop i) = (1 + s.l.length * 10000) + eS (l.drop (i + 1)) := by rw [drop_cons h]; simp [eS]
/-- the number, which is not too great -/
def ExprOut (n : Nat) (w : World) (e : Ending) (w' : World) : Prop := e = .returned (.int .i64 (n : Nat)) ∧ n ≤ 1000000000000000000 ∧ Below w.heap.size w w'
set_option maxRecDepth 100000 in
set_option maxHeartbeats 4000000 in
theorem exprs_any (S : Nat → Prop) (v : Ex) (cs : List Value) (w : World) (hv : Trs.at S w v.tr cs) :
    Calls Tryz.prog 37 #[.agg cs.toArray] w (ExprOut (eW v) w) := by
  obtain ⟨A, c, rfl, -, -, ht1, ht2, ht3, hl⟩ := Ex.at_iff.1 hv
  clear hv
  have hlb := hl.bytes
  have hlc := hl.cap
  have HL := Lib.hid hl
  clear hl
  by_cases h1 : 50 < v.l.length
  · have HV : Hid (eW v = 10000) := Lib.hid (by unfold eW; rw [if_pos h1])
    go_enter Tryz.func37, Tryz.ntmps37
    go_wp2_with fail
    go_ret
    exact ⟨by rw [HV.out]; rfl, by rw [HV.out]; omega, (Below.refl _ w).alloc (Nat.le_refl _) _⟩
  have HV : Hid (eW v = 1 + min (v.text.size + v.name.size + v.attr.size) 10000 + eS (v.l.drop 0)) := Lib.hid (by unfold eW; rw [if_neg h1]; rfl)
  have HB0 : Hid (Blk (w.alloc (.cells #[.int .i8 v.kind, .string v.text, .int .i64 v.num, .string v.name, .string v.attr, .slice A v.l.length c] 27)) w.heap.size #[.int .i8 v.kind, .string v.text, .int .i64 v.num, .string v.name, .string v.attr, .slice A v.l.length c] 27) := Lib.hid (Blk.new w _ _)
  have HW0 : Hid (Below w.heap.size w (w.alloc (.cells #[.int .i8 v.kind, .string v.text, .int .i64 v.num, .string v.name, .string v.attr, .slice A v.l.length c] 27))) := Lib.hid ((Below.refl _ w).alloc (Nat.le_refl _) _)
  obtain ⟨t0, ht0⟩ : ∃ t0, t0 = min (v.text.size + v.name.size + v.attr.size) 10000 := ⟨_, rfl⟩
  rw [← ht0] at HV
  have hmin : min ((v.text.size : Int) + (v.name.size : Int) + (v.attr.size : Int)) 10000 = (t0 : Int) := by omega
  have ht4 : t0 ≤ 10000 := by omega
  go_enter Tryz.func37, Tryz.ntmps37
  have hmn : ∀ w', (Builtin.min_ #[3, 3] 3 #[.int .i64 ((v.text.size : Int) + (v.name.size : Int) + (v.attr.size : Int)), .int .i64 10000]).run Tryz.prog w' = .ok (.int .i64 (t0 : Nat)) w' := fun w' => run_min hmin
  clear ht0
  go_wp2_with fail
  clear hmin hmn
  go_loopg [3, 4] v.l.length (fun g n i wr => ∃ j m : Nat, j + g = v.l.length ∧ i = .int .i64 (j : Nat) ∧ n = .int .i64 (m : Nat) ∧ m ≤ 10001 + j * 16000000000000001 ∧ Hid (eW v = m + eS (v.l.drop j)) ∧ wr = w.alloc (.cells #[.int .i8 v.kind, .string v.text, .int .i64 v.num, .string v.name, .string v.attr, .slice A v.l.length c] 27))
  case atStart => exact ⟨0, 1 + t0, by omega, rfl, by go_num, by omega, HV, rfl⟩
  case round =>
    obtain ⟨j, m, hj, rfl, rfl, hm, HV3, rfl⟩ := hrel
    have hj5 : j ≤ 50 := by omega
    have hm5 : m ≤ 900000000000000000 := by omega
    cases gk with
    | zero =>
      have hjj : ¬ ((j : Int) < (v.l.length : Int)) := by omega
      have HR : Hid (eW v = m) := Lib.hid (by rw [HV3.out, List.drop_of_length_le (by omega)]; rfl)
      go_wp2_with fail
      go_ret
      exact ⟨by rw [HR.out]; rfl, by rw [HR.out]; omega, HW0.out⟩
    | succ g =>
      have hjj : (j : Int) < (v.l.length : Int) := by omega
      obtain ⟨x, hx⟩ := get_lt (l := v.l) (i := j) (by omega)
      have hd := eS_drop hx
      obtain ⟨ad, cs, rfl, hxt, hxc⟩ := (HL.out.below HW0.out).elem Ex.trlen hx
      obtain ⟨A2, c2, rfl, -, -, -, -, -, hxl⟩ := Ex.at_iff.1 hxt
      have hxb := hxl.bytes
      obtain ⟨e0, e1, e2, e3, e4, e5⟩ := cel6 hxc
      have HV4 : Hid (eW v = m + (1 + x.l.length * 10000) + eS (v.l.drop (j + 1))) := Lib.hid (by rw [HV3.out, hd]; omega)
      have hx1 : x.l.length ≤ 1600000000000 := by omega
      clear hx hd hxt hxc e0 e1 e2 e3 e4 hxl hxb
      go_wp2_with fail
      go_roundg g
      case measure => omega
      case rel => exact ⟨j + 1, m + (1 + x.l.length * 10000), by omega, by go_num, by go_num, by omega, HV4, rfl⟩
end Go.Proofs.YtmljdppdaaoehaaGreatDoor
