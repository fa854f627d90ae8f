/- hoardingref15.weight, Great: walks. -/
import Derived.Test.YtmljdppdaaoehaaGreatDoorGtExpr
import Derived.Deep.RegionHeld3
namespace Go.Proofs.YtmljdppdaaoehaaGreatDoor
open Go.RowKit
set_option linter.unusedVariables false
set_option linter.unusedSimpArgs false

abbrev cbig (k : Nat) : Nat := 2000000000000010001 + 10000 * k
def CondOut (k n : Nat) (w : World) (e : Ending) (w' : World) : Prop := e = .returned (.int .i64 (n : Nat)) ∧ n ≤ 2000000000000010001 + 10000 * k ∧ Below w.heap.size w w'
set_option maxRecDepth 100000 in
set_option maxHeartbeats 4000000 in
theorem cweight_any (S : Nat → Prop) : ∀ (k : Nat) (v : Cd) (cs : List Value) (w : World), k ≤ 40 → Trs.at S w v.tr cs →
    Calls Tryz.prog 16 #[.agg cs.toArray, .int .i64 (k : Nat)] w (CondOut k (cW k v) w)
  | 0, v, cs, w, hk, hv => by
    obtain ⟨xs, ys, A, c, rfl, -, -, hx, hy, -⟩ := Cd.at_iff.1 hv
    obtain ⟨A1, c1, rfl, -⟩ := Ex.at_iff.1 hx
    obtain ⟨A2, c2, rfl, -⟩ := Ex.at_iff.1 hy
    clear hv hx hy
    go_enter Tryz.func16, Tryz.ntmps16
    go_wp2_with fail
    go_ret
    exact ⟨rfl, by simp [cW], (Below.refl _ w).alloc (Nat.le_refl _) _⟩
  | k + 1, v, cs, w, hk, hv => by
    obtain ⟨xs, ys, A, c, rfl, hn, -, hx, hy, hl⟩ := Cd.at_iff.1 hv
    have HXA := Lib.hid hx
    have HXB := Lib.hid hy
    obtain ⟨A1, c1, rfl, -⟩ := Ex.at_iff.1 hx
    obtain ⟨A2, c2, rfl, -⟩ := Ex.at_iff.1 hy
    clear hv hx hy
    have hlb := hl.bytes
    have hlc := hl.cap
    have HL := Lib.hid hl
    clear hl
    have hk0 : ((k : Int) + 1 == 0) = false := by simp; omega
    have hk9 : IntKind.i64.wrap ((k : Int) + 1 - 1) = (k : Int) := by rw [IntWalk.i64_in _ (by omega)]; omega
    obtain ⟨C, hC⟩ : ∃ C : Array Value, C = #[.string v.name, .int .i8 v.kind, .int .i8 v.a.kind, .string v.a.text, .int .i64 v.a.num, .string v.a.name, .string v.a.attr, .slice A1 v.a.l.length c1, .int .i8 v.b.kind, .string v.b.text, .int .i64 v.b.num, .string v.b.name, .string v.b.attr, .slice A2 v.b.l.length c2, .slice A v.l.length c] := ⟨_, rfl⟩
    have HC := Lib.hid hC
    have HW0 : Hid (Below w.heap.size w (w.alloc (.cells C 46))) := Lib.hid ((Below.refl _ w).alloc (Nat.le_refl _) _)
    have HB0 : Hid (Blk (w.alloc (.cells C 46)) w.heap.size C 46) := Lib.hid (Blk.new w _ _)
    rw [hC] at HW0 HB0
    clear hC
    by_cases h1 : 200 < v.l.length
    · have HV : Hid (cW (k + 1) v = 10000) := Lib.hid (by simp only [cW]; rw [if_pos h1])
      go_enter Tryz.func16, Tryz.ntmps16
      go_wp2_with fail
      all_goals
        go_ret
        exact ⟨by rw [HV.out]; rfl, by rw [HV.out]; omega, HW0.out⟩
    have HV : Hid (cW (k + 1) v = efold (cW k) (1 + min v.name.size 10000 + eW v.a + eW v.b) v.l) := Lib.hid (by simp only [cW]; rw [if_neg h1])
    obtain ⟨t0, ht0⟩ : ∃ t0, t0 = min v.name.size 10000 := ⟨_, rfl⟩
    rw [← ht0] at HV
    have hmin : min (v.name.size : Int) 10000 = (t0 : Int) := by omega
    have ht4 : t0 ≤ 10000 := by omega
    go_enter Tryz.func16, Tryz.ntmps16
    have hmn : ∀ w', (Builtin.min_ #[3, 3] 3 #[.int .i64 (v.name.size : Nat), .int .i64 10000]).run Tryz.prog w' = .ok (.int .i64 (t0 : Nat)) w' := fun w' => run_min hmin
    clear ht0
    go_wp2_with fail
    go_region_held3 (fun w' => w'.cell? ⟨w.heap.size, 0, none⟩ = some (.string v.name) ∧ w'.cell? ⟨w.heap.size, 2, none⟩ = some (.int .i8 v.a.kind) ∧ w'.cell? ⟨w.heap.size, 3, none⟩ = some (.string v.a.text) ∧ w'.cell? ⟨w.heap.size, 4, none⟩ = some (.int .i64 v.a.num) ∧ w'.cell? ⟨w.heap.size, 5, none⟩ = some (.string v.a.name) ∧ w'.cell? ⟨w.heap.size, 6, none⟩ = some (.string v.a.attr) ∧ w'.cell? ⟨w.heap.size, 7, none⟩ = some (.slice A1 v.a.l.length c1) ∧ w'.cell? ⟨w.heap.size, 8, none⟩ = some (.int .i8 v.b.kind) ∧ w'.cell? ⟨w.heap.size, 9, none⟩ = some (.string v.b.text) ∧ w'.cell? ⟨w.heap.size, 10, none⟩ = some (.int .i64 v.b.num) ∧ w'.cell? ⟨w.heap.size, 11, none⟩ = some (.string v.b.name) ∧ w'.cell? ⟨w.heap.size, 12, none⟩ = some (.string v.b.attr) ∧ w'.cell? ⟨w.heap.size, 13, none⟩ = some (.slice A2 v.b.l.length c2)) (go_keep)
      ((first
        | (go_at_call 37; (with_reducible refine (exprs_any S v.a _ _ (HXA.out.below HW0.out.drew)).mono ?_); rintro e w1 ⟨rfl, hba, hb1⟩; have hk1 := HB0.out.drew.below hb1; obtain ⟨k0, -, k2, k3, k4, k5, k6, k7, k8, k9, k10, k11, k12, k13, -⟩ := blk15 hk1; have HB1 := Lib.hid hk1; have HW1 := Lib.hid (HW0.out.drew.trans (hb1.mono (by simp))); clear hb1 hk1)
        | (go_at_call 37; (with_reducible refine (exprs_any S v.b _ _ (HXB.out.below HW1.out)).mono ?_); rintro e w2 ⟨rfl, hbb, hb2⟩; have hk2 := HB1.out.below hb2; obtain ⟨m0, -, m2, m3, m4, m5, m6, m7, m8, m9, m10, m11, m12, m13, -⟩ := blk15 hk2; have HB2 := Lib.hid hk2; have HW2 := Lib.hid (HW1.out.trans (hb2.mono HW1.out.size)); clear hb2 hk2)))
    all_goals
      clear hmin hmn HB0 HW0 HB1 HW1
      go_wp2_with fail
      go_loopg [5, 6] v.l.length (fun g n i wr => ∃ j m : Nat, j + g = v.l.length ∧ i = .int .i64 (j : Nat) ∧ n = .int .i64 (m : Nat) ∧ m ≤ 2000000000000010001 + 10000 * (k + 1) ∧ Hid (cW (k + 1) v = efold (cW k) m (v.l.drop j)) ∧ Hid (Blk wr w.heap.size #[.string v.name, .int .i8 v.kind, .int .i8 v.a.kind, .string v.a.text, .int .i64 v.a.num, .string v.a.name, .string v.a.attr, .slice A1 v.a.l.length c1, .int .i8 v.b.kind, .string v.b.text, .int .i64 v.b.num, .string v.b.name, .string v.b.attr, .slice A2 v.b.l.length c2, .slice A v.l.length c] 46) ∧ Hid (Below w.heap.size w wr))
      case atStart => exact ⟨0, 1 + t0 + eW v.a + eW v.b, by omega, rfl, by rw [IntWalk.i64_in (1 + (t0 : Int)) (by omega), IntWalk.i64_in (1 + (t0 : Int) + (eW v.a : Int)) (by omega), IntWalk.i64_in (1 + (t0 : Int) + (eW v.a : Int) + (eW v.b : Int)) (by omega)]; go_num, by omega, HV, HB2, HW2⟩
      case round =>
        obtain ⟨j, m, hj, rfl, rfl, hm, HV3, HB3, HW3⟩ := hrel
        have b4 : wr.cell? ⟨w.heap.size, 14, none⟩ = some (.slice A v.l.length c) := HB3.out.cell 14 rfl
        by_cases hm1 : 10000 < m
        · have hm2 : ¬ ((m : Int) ≤ 10000) := by omega
          have HR : Hid (cW (k + 1) v = m) := Lib.hid (by rw [HV3.out, efold_stop hm1])
          go_wp2_with fail
          all_goals
            go_ret
            exact ⟨by rw [HR.out]; rfl, by rw [HR.out]; exact hm, HW3.out⟩
        have hm2 : (m : Int) ≤ 10000 := by omega
        cases gk with
        | zero =>
          have hjj : ¬ ((j : Int) < (v.l.length : Int)) := by omega
          have HR : Hid (cW (k + 1) v = m) := Lib.hid (by rw [HV3.out, List.drop_of_length_le (by omega)]; rfl)
          go_wp2_with fail
          all_goals
            go_ret
            exact ⟨by rw [HR.out]; rfl, by rw [HR.out]; exact hm, HW3.out⟩
        | succ g =>
          have hjj : (j : Int) < (v.l.length : Int) := by omega
          obtain ⟨x, hx⟩ := get_lt (l := v.l) (i := j) (by omega)
          have hd := drop_cons hx
          obtain ⟨ad, cs, rfl, hxt, hxc⟩ := (HL.out.below HW3.out).elem Cd.trlen hx
          have HX := Lib.hid hxt
          obtain ⟨xs, ys, A5, c5, rfl, -, -, hxa, hxb, -⟩ := Cd.at_iff.1 hxt
          obtain ⟨A3, c3, rfl, -⟩ := Ex.at_iff.1 hxa
          obtain ⟨A4, c4, rfl, -⟩ := Ex.at_iff.1 hxb
          obtain ⟨e0, e1, e2, e3, e4, e5, e6, e7, e8, e9, e10, e11, e12, e13, e14⟩ := cel15 hxc
          have HV4 : Hid (cW (k + 1) v = efold (cW k) (m + cW k x) (v.l.drop (j + 1))) := Lib.hid (by rw [HV3.out, hd, efold_go (by omega)])
          clear hx hd hxt hxc hxa hxb
          go_wp2_with fail
          refine (cweight_any S k x _ wr (by omega) HX.out).mono ?_
          rintro e w4 ⟨rfl, hxw, hb⟩
          have HB5 := Lib.hid (HB3.out.below hb)
          have HW5 := Lib.hid (HW3.out.trans (hb.mono HW3.out.size))
          clear hb
          go_wp2_with fail
          go_roundg g
          case measure => omega
          case rel => exact ⟨j + 1, m + cW k x, by omega, by go_num, by go_num, by omega, HV4, HB5, HW5⟩

set_option maxRecDepth 100000 in
set_option maxHeartbeats 4000000 in
theorem csgreat_any (S : Nat → Prop) (A : Option Addr) (c : Nat) (l : List Cd) (w : World) (hv : Ls S w 15 224 Cd.tr A c l) :
    Calls Tryz.prog 5 #[.slice A l.length c] w (BoolOut (csGreat l) w) := by
  have hlb := hv.bytes
  have hlc := hv.cap
  have HL := Lib.hid hv
  clear hv
  by_cases h1 : 40 < l.length
  · have HV : Hid (csGreat l = true) := Lib.hid (by unfold csGreat; simp [h1])
    go_enter Tryz.func5, Tryz.ntmps5
    go_wp2_with fail
    go_ret
    exact ⟨by rw [HV.out]; rfl, Below.refl _ w⟩
  have HV : Hid (csGreat l = csGo 0 l) := Lib.hid (by unfold csGreat; rw [decide_eq_false h1, Bool.false_or])
  go_enter Tryz.func5, Tryz.ntmps5
  go_wp2_with fail
  go_loopg [3, 4] l.length (fun g n i wr => ∃ j m : Nat, j + g = l.length ∧ i = .int .i64 (j : Nat) ∧ n = .int .i64 (m : Nat) ∧ m ≤ 5000 ∧ Hid (csGreat l = csGo m (l.drop j)) ∧ Hid (Below w.heap.size w wr))
  case atStart => exact ⟨0, 0, by omega, rfl, rfl, by omega, HV, Lib.hid (Below.refl _ w)⟩
  case round =>
    obtain ⟨j, m, hj, rfl, rfl, hm, HV3, HW3⟩ := hrel
    cases gk with
    | zero =>
      have hjj : ¬ ((j : Int) < (l.length : Int)) := by omega
      have HR : Hid (csGreat l = false) := Lib.hid (by rw [HV3.out, List.drop_of_length_le (by omega)]; rfl)
      go_wp2_with fail
      go_ret
      exact ⟨by rw [HR.out]; rfl, HW3.out⟩
    | succ g =>
      have hjj : (j : Int) < (l.length : Int) := by omega
      obtain ⟨x, hx⟩ := get_lt (l := l) (i := j) (by omega)
      have hd := drop_cons hx
      obtain ⟨ad, cs, rfl, hxt, hxc⟩ := (HL.out.below HW3.out).elem Cd.trlen hx
      have HX := Lib.hid hxt
      obtain ⟨xs, ys, A5, c5, rfl, -, -, hxa, hxb, -⟩ := Cd.at_iff.1 hxt
      obtain ⟨A3, c3, rfl, -⟩ := Ex.at_iff.1 hxa
      obtain ⟨A4, c4, rfl, -⟩ := Ex.at_iff.1 hxb
      obtain ⟨e0, e1, e2, e3, e4, e5, e6, e7, e8, e9, e10, e11, e12, e13, e14⟩ := cel15 hxc
      have HV4 : Hid (csGreat l = if 5000 < m + cW 20 x then true else csGo (m + cW 20 x) (l.drop (j + 1))) := Lib.hid (by rw [HV3.out, hd]; rfl)
      clear hx hd hxt hxc hxa hxb
      go_wp2_with fail
      refine (cweight_any S 20 x _ wr (by omega) HX.out).mono ?_
      rintro e w4 ⟨rfl, hxw, hb⟩
      have HW5 := Lib.hid (HW3.out.trans (hb.mono HW3.out.size))
      clear hb
      by_cases h5 : 5000 < m + cW 20 x
      · have HV5 : Hid (csGreat l = true) := Lib.hid (by rw [HV4.out, if_pos h5])
        have hi : (5000 : Int) < (m : Int) + (cW 20 x : Nat) := by omega
        go_wp2_with fail
        go_ret
        exact ⟨by rw [HV5.out]; rfl, HW5.out⟩
      · have HV5 : Hid (csGreat l = csGo (m + cW 20 x) (l.drop (j + 1))) := Lib.hid (by rw [HV4.out, if_neg h5])
        have hi : ¬ ((5000 : Int) < (m : Int) + (cW 20 x : Nat)) := by omega
        go_wp2_with fail
        go_roundg g
        case measure => omega
        case rel => exact ⟨j + 1, m + cW 20 x, by omega, by go_num, by go_num, by omega, HV5, HW5⟩
end Go.Proofs.YtmljdppdaaoehaaGreatDoor
