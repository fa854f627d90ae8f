/- hoardingref17.weight, Great: walks. -/
import Derived.Test.YthcnfgpilncooaaGreatDoorGtRows
import Derived.Deep.DeepCutAuto
namespace Go.Proofs.YthcnfgpilncooaaGreatDoor
open Go.RowKit
set_option linter.unusedVariables false
set_option linter.unusedSimpArgs false

/-- behind the names that are leant on: the nested ones, and what stands behind -/
def inK (f : Tm → Nat) (os : List Ou) (rs : List Rs) (l : List Tm) (m : Nat) : Nat := if 10000 < efold f m l then efold f m l else rsGo f os (efold f m l) rs
def prK (f : Tm → Nat) (os : List Ou) (rs : List Rs) (r : Rs) : Option Nat → Nat
  | none => 10000
  | some m => inK f os rs r.inner (m + mins r.depends)
theorem rsGo_cons (f : Tm → Nat) (os : List Ou) (n : Nat) (r : Rs) (rs : List Rs) (h : ¬ (60 < r.props.length ∨ 60 < r.depends.length ∨ 3 < r.inner.length)) :
    rsGo f os n (r :: rs) = prK f os rs r (prGo (n + (1 + min (r.id.size + r.type.size + r.cond.size) 10000)) r.props) := by
  simp only [rsGo]
  rw [if_neg h]
  cases prGo (n + (1 + min (r.id.size + r.type.size + r.cond.size) 10000)) r.props <;> rfl
theorem prGo_drop {l : List Pr} {i : Nat} {x : Pr} (h : l[i]? = some x) (m : Nat) : prGo m (l.drop i) = if xGreat x.e then none else prGo (m + (min x.name.size 10000 + x.e.parts)) (l.drop (i + 1)) := by rw [drop_cons h]; rfl
theorem ouGo_drop {l : List Ou} {i : Nat} {x : Ou} (h : l[i]? = some x) (m : Nat) : ouGo m (l.drop i) = if xGreat x.e then 10000 else ouGo (m + (min (x.name.size + x.cond.size) 10000 + x.e.parts)) (l.drop (i + 1)) := by rw [drop_cons h]; rfl
theorem inK_go {f : Tm → Nat} {os : List Ou} {rs : List Rs} {x : Tm} {l : List Tm} {m : Nat} (h : m ≤ 10000) : inK f os rs (x :: l) m = inK f os rs l (m + f x) := by unfold inK; rw [efold_go h]
theorem inK_stop {f : Tm → Nat} {os : List Ou} {rs : List Rs} {l : List Tm} {m : Nat} (h : 10000 < m) : inK f os rs l m = m := by unfold inK; rw [efold_stop h, if_pos h]
theorem inK_nil {f : Tm → Nat} {os : List Ou} {rs : List Rs} {m : Nat} (h : m ≤ 10000) : inK f os rs [] m = rsGo f os m rs := by unfold inK; rw [efold_nil, if_neg (by omega)]
theorem xG_parts {x : Ex} (h : xGreat x = false) : xW 30 x ≤ 9999 ∧ x.parts ≤ 3000 := by
  have h1 : xW 30 x ≤ 3000 := by simpa [xGreat] using h
  have := parts_le 30 x (by omega)
  omega

def TmOut (k n : Nat) (w : World) (e : Ending) (w' : World) : Prop := e = .returned (.int .i64 (n : Nat)) ∧ n ≤ 10000000 + 1000000 * k ∧ Below w.heap.size w w'
/-- what the walk of a template says, one level -/
def TmC (S : Nat → Prop) (k : Nat) : Prop := ∀ (v : Tm) (cs : List Value) (w : World), k ≤ 40 → Trs.at S w v.tr cs → Calls Tryz.prog 9 #[.agg cs.toArray, .int .i64 (k : Nat)] w (TmOut k (tW k v) w)
set_option maxRecDepth 100000 in
set_option maxHeartbeats 8000000 in
theorem tweight_step (S : Nat → Prop) (k : Nat) (IH : TmC S k) (v : Tm) (cs : List Value) (w : World) (hk : k + 1 ≤ 40) (hv : Trs.at S w v.tr cs) :
    Calls Tryz.prog 9 #[.agg cs.toArray, .int .i64 ((k + 1 : Nat) : Int)] w (TmOut (k + 1) (tW (k + 1) v) w) := by
  obtain ⟨A, a, B, b, C, c, D, d, rfl, hp, hc, hr, ho⟩ := Tm.at_iff.1 hv
  clear hv
  have hpb := hp.bytes
  have hcb := hc.bytes
  have hrb := hr.bytes
  have hob := ho.bytes
  have hrc := hr.cap
  have hoc := ho.cap
  have HP := Lib.hid hp
  have HC := Lib.hid hc
  have HRS := Lib.hid hr
  have HO := Lib.hid ho
  clear hp hc hr ho
  have hk0 : ((k : Int) + 1 == 0) = false := by simp; omega
  have hk9 : IntKind.i64.wrap ((k : Int) + 1 - 1) = (k : Int) := by rw [IntWalk.i64_in _ (by omega)]; omega
  have HK4 : Hid (k ≤ 40) := Lib.hid (by omega)
  have HW0 : Hid (Below w.heap.size w (w.alloc (.cells #[.slice A v.params.length a, .slice B v.conds.length b, .slice C v.res.length c, .slice D v.outs.length d] 27))) := Lib.hid ((Below.refl _ w).alloc (Nat.le_refl _) _)
  have HB0 : Hid (Blk (w.alloc (.cells #[.slice A v.params.length a, .slice B v.conds.length b, .slice C v.res.length c, .slice D v.outs.length d] 27)) w.heap.size #[.slice A v.params.length a, .slice B v.conds.length b, .slice C v.res.length c, .slice D v.outs.length d] 27) := Lib.hid (Blk.new w _ _)
  by_cases h1 : 60 < v.params.length ∨ 40 < v.conds.length ∨ 60 < v.res.length ∨ 60 < v.outs.length
  · have HV : Hid (tW (k + 1) v = 10000) := Lib.hid (by simp only [tW]; rw [if_pos (by omega)])
    rcases Nat.lt_or_ge 60 v.params.length with h2 | h2
    · clear h1
      go_enter Tryz.func9, Tryz.ntmps9
      go_wp2_with fail
      all_goals
        go_ret
        exact ⟨by rw [HV.out]; rfl, by rw [HV.out]; omega, HW0.out⟩
    rcases Nat.lt_or_ge 40 v.conds.length with h3 | h3
    · clear h1
      go_enter Tryz.func9, Tryz.ntmps9
      go_wp2_with fail
      all_goals
        go_ret
        exact ⟨by rw [HV.out]; rfl, by rw [HV.out]; omega, HW0.out⟩
    rcases Nat.lt_or_ge 60 v.res.length with h4 | h4
    · clear h1
      go_enter Tryz.func9, Tryz.ntmps9
      go_wp2_with fail
      all_goals
        go_ret
        exact ⟨by rw [HV.out]; rfl, by rw [HV.out]; omega, HW0.out⟩
    have h5 : 60 < v.outs.length := by omega
    clear h1
    go_enter Tryz.func9, Tryz.ntmps9
    go_wp2_with fail
    all_goals
      go_ret
      exact ⟨by rw [HV.out]; rfl, by rw [HV.out]; omega, HW0.out⟩
  have h2 : decide ((60 : Int) < (v.params.length : Int)) = false := decide_eq_false (by omega)
  have h3 : decide ((40 : Int) < (v.conds.length : Int)) = false := decide_eq_false (by omega)
  have h4 : decide ((60 : Int) < (v.res.length : Int)) = false := decide_eq_false (by omega)
  have h5 : decide ((60 : Int) < (v.outs.length : Int)) = false := decide_eq_false (by omega)
  have hpl : v.params.length ≤ 60 := by omega
  have hcl : v.conds.length ≤ 40 := by omega
  have hrl : v.res.length ≤ 60 := by omega
  have hol : v.outs.length ≤ 60 := by omega
  have HG1 := Lib.hid (pmsgreat_any S A a v.params _ (HP.out.below HW0.out))
  have HV0 : Hid (tW (k + 1) v = if pmsGreat v.params = true ∨ csGreat v.conds = true then 10000 else rsGo (tW k) v.outs (1 + v.params.length) v.res) := Lib.hid (by
    simp only [tW]
    by_cases hg : pmsGreat v.params = true ∨ csGreat v.conds = true
    · rw [if_pos (by rcases hg with h | h <;> simp [h]), if_pos hg]
    · rw [if_neg (by rintro (h | h | h | h | h | h) <;> first | omega | exact hg (.inl h) | exact hg (.inr h)), if_neg hg])
  clear h1
  cases hg1 : pmsGreat v.params with
  | true =>
    rw [hg1] at HG1 HV0
    have HV : Hid (tW (k + 1) v = 10000) := Lib.hid (by rw [HV0.out, if_pos (.inl rfl)])
    clear hg1
    go_enter Tryz.func9, Tryz.ntmps9
    go_wp2_with fail
    refine HG1.out.mono ?_
    rintro e w1 ⟨rfl, hb⟩
    have HW1 := Lib.hid (HW0.out.trans (hb.mono HW0.out.size))
    clear hb
    go_wp2_with fail
    go_ret
    exact ⟨by rw [HV.out]; rfl, by rw [HV.out]; omega, HW1.out⟩
  | false =>
    rw [hg1] at HG1 HV0
    clear hg1
    go_enter Tryz.func9, Tryz.ntmps9
    go_wp2_with fail
    refine HG1.out.mono ?_
    rintro e w1 ⟨rfl, hb⟩
    have HB1 := Lib.hid (HB0.out.below hb)
    have HW1 := Lib.hid (HW0.out.trans (hb.mono HW0.out.size))
    clear hb
    obtain ⟨b0, b1, b2, b3⟩ := blk4 HB1.out
    have HG2 := Lib.hid (csgreat_any S B b v.conds _ (HC.out.below HW1.out))
    cases hg2 : csGreat v.conds with
    | true =>
      rw [hg2] at HG2 HV0
      have HV : Hid (tW (k + 1) v = 10000) := Lib.hid (by rw [HV0.out, if_pos (.inr rfl)])
      clear hg2
      go_wp2_with fail
      refine HG2.out.mono ?_
      rintro e w2 ⟨rfl, hb⟩
      have HW2 := Lib.hid (HW1.out.trans (hb.mono HW1.out.size))
      clear hb
      go_wp2_with fail
      go_ret
      exact ⟨by rw [HV.out]; rfl, by rw [HV.out]; omega, HW2.out⟩
    | false =>
      rw [hg2] at HG2 HV0
      have HV : Hid (tW (k + 1) v = rsGo (tW k) v.outs (1 + v.params.length) (v.res.drop 0)) := Lib.hid (by rw [HV0.out, if_neg (by simp)]; rfl)
      clear hg2
      go_wp2_with fail
      refine HG2.out.mono ?_
      rintro e w2 ⟨rfl, hb⟩
      have HB2 := Lib.hid (HB1.out.below hb)
      have HW2 := Lib.hid (HW1.out.trans (hb.mono HW1.out.size))
      obtain ⟨d0, d1, d2, d3⟩ := blk4 HB2.out
      clear hb b0 b1 b2 b3 h2 h3 h4 h5
      go_wp2_with fail
      clear d0 d1 d2 d3
      go_loopg [5, 6] v.res.length (fun g n i wr => ∃ j m : Nat, j + g = v.res.length ∧ i = .int .i64 (j : Nat) ∧ n = .int .i64 (m : Nat) ∧ m ≤ 10000 ∧ Hid (tW (k + 1) v = rsGo (tW k) v.outs m (v.res.drop j)) ∧ Hid (Blk wr w.heap.size #[.slice A v.params.length a, .slice B v.conds.length b, .slice C v.res.length c, .slice D v.outs.length d] 27) ∧ Hid (Below w.heap.size w wr))
      case atStart => exact ⟨0, 1 + v.params.length, by omega, rfl, by go_num, by omega, HV, HB2, HW2⟩
      case round =>
        obtain ⟨j, m, hj, rfl, rfl, hm, HV3, HB3, HW3⟩ := hrel
        obtain ⟨b0, b1, b2, b3⟩ := blk4 HB3.out
        cases gk with
        | zero =>
          have hjj : ¬ ((j : Int) < (v.res.length : Int)) := by omega
          have HVO : Hid (tW (k + 1) v = ouGo m (v.outs.drop 0)) := Lib.hid (by rw [HV3.out, List.drop_of_length_le (by omega)]; rfl)
          clear hj
          go_wp2_with fail
          clear b0 b1 b2 b3 hjj
          go_loopg [5, 11] v.outs.length (fun g n i wr => ∃ j m : Nat, j + g = v.outs.length ∧ i = .int .i64 (j : Nat) ∧ n = .int .i64 (m : Nat) ∧ m ≤ 10000 + 13000 * j ∧ Hid (tW (k + 1) v = ouGo m (v.outs.drop j)) ∧ Hid (Blk wr w.heap.size #[.slice A v.params.length a, .slice B v.conds.length b, .slice C v.res.length c, .slice D v.outs.length d] 27) ∧ Hid (Below w.heap.size w wr))
          case atStart => exact ⟨0, m, by omega, rfl, rfl, by omega, HVO, HB3, HW3⟩
          case round =>
            obtain ⟨j, m, hj, rfl, rfl, hm, HV3, HB3, HW3⟩ := hrel
            obtain ⟨b0, b1, b2, b3⟩ := blk4 HB3.out
            cases gk with
            | zero =>
              have hjj : ¬ ((j : Int) < (v.outs.length : Int)) := by omega
              have HR : Hid (tW (k + 1) v = m) := Lib.hid (by rw [HV3.out, List.drop_of_length_le (by omega)]; rfl)
              go_wp2_with fail
              go_ret
              exact ⟨by rw [HR.out]; rfl, by rw [HR.out]; omega, HW3.out⟩
            | succ g =>
              have hjj : (j : Int) < (v.outs.length : Int) := by omega
              obtain ⟨x, hx⟩ := get_lt (l := v.outs) (i := j) (by omega)
              have hd := ouGo_drop hx m
              obtain ⟨ad, cs, rfl, hxt, hxc⟩ := (HO.out.below HW3.out).elem Ou.trlen hx
              obtain ⟨vs, rfl, hn1, hn2, hxe⟩ := Ou.at_iff.1 hxt
              have HXE := Lib.hid hxe
              have HXC := Lib.hid hxc
              obtain ⟨A7, c7, rfl, -⟩ := Ex.at_iff.1 hxe
              obtain ⟨e0, e1, e2, e3, e4, e5, e6, e7⟩ := cel8 hxc
              have HG := Lib.hid (xgreat_any S x.e _ wr HXE.out)
              clear hx hxt hxc hxe
              cases hg : xGreat x.e with
              | true =>
                rw [hg] at HG hd
                have HR : Hid (tW (k + 1) v = 10000) := Lib.hid (by rw [HV3.out, hd]; rfl)
                clear hg hd
                go_wp2_with fail
                refine HG.out.mono ?_
                rintro e w4 ⟨rfl, hb⟩
                have HW4 := Lib.hid (HW3.out.trans (hb.mono HW3.out.size))
                clear hb
                go_wp2_with fail
                go_ret
                exact ⟨by rw [HR.out]; rfl, by rw [HR.out]; omega, HW4.out⟩
              | false =>
                rw [hg] at HG hd
                obtain ⟨hp1, hp2⟩ := xG_parts hg
                obtain ⟨t0, ht0⟩ : ∃ t0, t0 = min (x.name.size + x.cond.size) 10000 := ⟨_, rfl⟩
                rw [← ht0] at hd
                have hmin : min ((x.name.size : Int) + (x.cond.size : Int)) 10000 = (t0 : Int) := by omega
                have ht4 : t0 ≤ 10000 := by omega
                have HR : Hid (tW (k + 1) v = ouGo (m + (t0 + x.e.parts)) (v.outs.drop (j + 1))) := Lib.hid (by rw [HV3.out, hd]; rfl)
                clear hg hd ht0
                have hmn : ∀ w', (Builtin.min_ #[3, 3] 3 #[.int .i64 ((x.name.size : Int) + (x.cond.size : Int)), .int .i64 10000]).run Tryz.prog w' = .ok (.int .i64 (t0 : Nat)) w' := fun w' => run_min hmin
                have z0 : IntKind.i64.wrap ((x.name.size : Int) + (x.cond.size : Int)) = (x.name.size : Int) + (x.cond.size : Int) := IntWalk.i64_in _ (by omega)
                have z1 : IntKind.i64.wrap ((t0 : Int) + (x.e.parts : Int)) = (t0 : Int) + (x.e.parts : Int) := IntWalk.i64_in _ (by omega)
                have z2 : IntKind.i64.wrap ((m : Int) + ((t0 : Int) + (x.e.parts : Int))) = (m : Int) + ((t0 : Int) + (x.e.parts : Int)) := IntWalk.i64_in _ (by omega)
                go_wp2_with fail
                refine HG.out.mono ?_
                rintro e w4 ⟨rfl, hb⟩
                have HB4 := Lib.hid (HB3.out.below hb)
                have HW4 := Lib.hid (HW3.out.trans (hb.mono HW3.out.size))
                have HXC4 := Lib.hid (HXC.out.below hb)
                have HXE4 := Lib.hid (HXE.out.below hb)
                obtain ⟨k0, k1, k2, k3, k4, k5, k6, k7⟩ := cel8 HXC4.out
                obtain ⟨q0, q1, q2, q3⟩ := blk4 HB4.out
                clear hb e0 e1 e2 e3 e4 e5 e6 e7 b0 b1 b2 b3 q0 q1 q2
                go_wp2_with fail
                go_region_held3 (fun w' => w'.cell? ⟨w.heap.size, 3, none⟩ = some (.slice (some ad) v.outs.length d) ∧ w'.cell? (ad.add (j * 8)) = some (.string x.name) ∧ w'.cell? ⟨(ad.add (j * 8)).block, (ad.add (j * 8)).off + 1, none⟩ = some (.string x.cond) ∧ w'.cell? ⟨(ad.add (j * 8)).block, (ad.add (j * 8)).off + 2, none⟩ = some (.int .i8 x.e.kind) ∧ w'.cell? ⟨(ad.add (j * 8)).block, (ad.add (j * 8)).off + 3, none⟩ = some (.string x.e.text) ∧ w'.cell? ⟨(ad.add (j * 8)).block, (ad.add (j * 8)).off + 4, none⟩ = some (.int .i64 x.e.num) ∧ w'.cell? ⟨(ad.add (j * 8)).block, (ad.add (j * 8)).off + 5, none⟩ = some (.string x.e.name) ∧ w'.cell? ⟨(ad.add (j * 8)).block, (ad.add (j * 8)).off + 6, none⟩ = some (.string x.e.attr) ∧ w'.cell? ⟨(ad.add (j * 8)).block, (ad.add (j * 8)).off + 7, none⟩ = some (.slice A7 x.e.l.length c7)) (go_keep)
                  ((go_at_call 23; (with_reducible refine (parts_any S 30 x.e _ _ hp1 (HXE4.out.below (Below.refl _ w4).drew)).mono ?_); rintro e w5 ⟨rfl, hb5⟩; have hk5 := HXC4.out.below ((Below.refl _ w4).drew.trans hb5); have hq5 := HB4.out.below ((Below.refl _ w4).drew.trans hb5); obtain ⟨n0, n1, n2, n3, n4, n5, n6, n7⟩ := cel8 hk5; obtain ⟨-, -, -, m3⟩ := blk4 hq5; have HB5 := Lib.hid hq5; have HW5 := Lib.hid (HW4.out.trans (((Below.refl _ w4).drew.trans hb5).mono HW4.out.size)); clear hb5 hk5 hq5))
                all_goals
                  clear hmn hmin
                  go_wp2_with fail
                  go_roundg g
                  case measure => omega
                  case rel => exact ⟨j + 1, m + (t0 + x.e.parts), by omega, by go_num, by first | go_num | (rw [z1, z2]; go_num), by omega, HR, HB5, HW5⟩
        | succ g =>
          rename World => wo
          have hjj : (j : Int) < (v.res.length : Int) := by omega
          obtain ⟨x, hx⟩ := get_lt (l := v.res) (i := j) (by omega)
          have hd0 := drop_cons hx
          have hd : rsGo (tW k) v.outs m (v.res.drop j) = rsGo (tW k) v.outs m (x :: v.res.drop (j + 1)) := by rw [hd0]
          clear hd0
          obtain ⟨ad, cs, rfl, hxt, hxc⟩ := (HRS.out.below HW3.out).elem Rs.trlen hx
          obtain ⟨A1, a1, B1, bb1, C1, cc1, rfl, hid', hty, hcd, hpr, hdp, hin⟩ := Rs.at_iff.1 hxt
          obtain ⟨e0, e1, e2, e3, e4, e5, e6⟩ := cel7 hxc
          have HXP := Lib.hid hpr
          have HXD := Lib.hid hdp
          have HXI := Lib.hid hin
          clear hx hxt hxc hpr hdp hin
          by_cases hbig : 60 < x.props.length ∨ 60 < x.depends.length ∨ 3 < x.inner.length
          · have HV : Hid (tW (k + 1) v = 10000) := Lib.hid (by rw [HV3.out, hd]; simp only [rsGo]; rw [if_pos hbig])
            clear hd
            rcases Nat.lt_or_ge 60 x.props.length with h2 | h2
            · clear hbig
              go_wp2_with fail
              all_goals
                go_ret
                exact ⟨by rw [HV.out]; rfl, by rw [HV.out]; omega, (HW3.out.alloc HW3.out.size _)⟩
            rcases Nat.lt_or_ge 60 x.depends.length with h3 | h3
            · clear hbig
              go_wp2_with fail
              all_goals
                go_ret
                exact ⟨by rw [HV.out]; rfl, by rw [HV.out]; omega, (HW3.out.alloc HW3.out.size _)⟩
            have h4 : 3 < x.inner.length := by omega
            clear hbig
            go_wp2_with fail
            all_goals
              go_ret
              exact ⟨by rw [HV.out]; rfl, by rw [HV.out]; omega, (HW3.out.alloc HW3.out.size _)⟩
          have h2 : decide ((60 : Int) < (x.props.length : Int)) = false := decide_eq_false (by omega)
          have h3 : decide ((60 : Int) < (x.depends.length : Int)) = false := decide_eq_false (by omega)
          have h4 : decide ((3 : Int) < (x.inner.length : Int)) = false := decide_eq_false (by omega)
          have hpl' : x.props.length ≤ 60 := by omega
          have hdl' : x.depends.length ≤ 60 := by omega
          have hil' : x.inner.length ≤ 3 := by omega
          rw [rsGo_cons _ _ _ _ _ hbig] at hd
          obtain ⟨t0, ht0⟩ : ∃ t0, t0 = min (x.id.size + x.type.size + x.cond.size) 10000 := ⟨_, rfl⟩
          rw [← ht0] at hd
          have hmin : min ((x.id.size : Int) + (x.type.size : Int) + (x.cond.size : Int)) 10000 = (t0 : Int) := by omega
          have ht4 : t0 ≤ 10000 := by omega
          have hmn : ∀ w', (Builtin.min_ #[3, 3] 3 #[.int .i64 ((x.id.size : Int) + (x.type.size : Int) + (x.cond.size : Int)), .int .i64 10000]).run Tryz.prog w' = .ok (.int .i64 (t0 : Nat)) w' := fun w' => run_min hmin
          have HVP : Hid (tW (k + 1) v = prK (tW k) v.outs (v.res.drop (j + 1)) x (prGo (m + (1 + t0)) (x.props.drop 0))) := Lib.hid (by rw [HV3.out, hd]; rfl)
          have HBR : Hid (Blk (wo.alloc (.cells #[.string x.id, .string x.type, .string x.cond, .slice A1 x.props.length a1, .slice B1 x.depends.length bb1, .bool x.retain, .slice C1 x.inner.length cc1] 48)) wo.heap.size #[.string x.id, .string x.type, .string x.cond, .slice A1 x.props.length a1, .slice B1 x.depends.length bb1, .bool x.retain, .slice C1 x.inner.length cc1] 48) := Lib.hid (Blk.new wo _ _)
          have HBT : Hid (Blk (wo.alloc (.cells #[.string x.id, .string x.type, .string x.cond, .slice A1 x.props.length a1, .slice B1 x.depends.length bb1, .bool x.retain, .slice C1 x.inner.length cc1] 48)) w.heap.size #[.slice A v.params.length a, .slice B v.conds.length b, .slice (some ad) v.res.length c, .slice D v.outs.length d] 27) := Lib.hid (HB3.out.alloc _)
          have HWR : Hid (Below wo.heap.size wo (wo.alloc (.cells #[.string x.id, .string x.type, .string x.cond, .slice A1 x.props.length a1, .slice B1 x.depends.length bb1, .bool x.retain, .slice C1 x.inner.length cc1] 48))) := Lib.hid ((Below.refl _ wo).alloc (Nat.le_refl _) _)
          clear hd ht0 hbig
          go_wp2_with fail
          clear hmn hmin h2 h3 h4 b0 b1 b2 b3 e0 e1 e2 e3 e4 e5 e6
          go_loopg [5, 8] x.props.length (fun g n i wo' => ∃ i' m' : Nat, i' + g = x.props.length ∧ i = .int .i64 (i' : Nat) ∧ n = .int .i64 (m' : Nat) ∧ m' ≤ 20001 + 13000 * i' ∧ Hid (tW (k + 1) v = prK (tW k) v.outs (v.res.drop (j + 1)) x (prGo m' (x.props.drop i'))) ∧ Hid (Blk wo' wo.heap.size #[.string x.id, .string x.type, .string x.cond, .slice A1 x.props.length a1, .slice B1 x.depends.length bb1, .bool x.retain, .slice C1 x.inner.length cc1] 48) ∧ Hid (Blk wo' w.heap.size #[.slice A v.params.length a, .slice B v.conds.length b, .slice (some ad) v.res.length c, .slice D v.outs.length d] 27) ∧ Hid (Below wo.heap.size wo wo'))
          case atStart => exact ⟨0, m + (1 + t0), by omega, rfl, by go_num, by omega, HVP, HBR, HBT, HWR⟩
          case round =>
            obtain ⟨i', m', hi, rfl, rfl, hm', HVP2, HBR2, HBT2, HWR2⟩ := hrel
            have HW4 := Lib.hid (HW3.out.trans (HWR2.out.mono HW3.out.size))
            obtain ⟨r0, r1, r2, r3, r4, r5, r6⟩ := blk7 HBR2.out
            clear HBR HBT HWR HVP
            cases gk with
            | zero =>
              have hii : ¬ ((i' : Int) < (x.props.length : Int)) := by omega
              have HVD : Hid (tW (k + 1) v = inK (tW k) v.outs (v.res.drop (j + 1)) x.inner (m' + mins (x.depends.drop 0))) := Lib.hid (by rw [HVP2.out, show x.props.drop i' = [] from List.drop_of_length_le (by omega)]; rfl)
              have hmd : m' ≤ 810001 := by omega
              clear HVP2 hi hm'
              go_wp2_with fail
              clear r0 r1 r2 r3 r4 r5 r6 hii
              go_loopg [5, 9] x.depends.length (fun g n i wr => ∃ i' m' : Nat, i' + g = x.depends.length ∧ i = .int .i64 (i' : Nat) ∧ n = .int .i64 (m' : Nat) ∧ m' ≤ 810001 + 10000 * i' ∧ Hid (tW (k + 1) v = inK (tW k) v.outs (v.res.drop (j + 1)) x.inner (m' + mins (x.depends.drop i'))) ∧ Hid (Blk wr wo.heap.size #[.string x.id, .string x.type, .string x.cond, .slice A1 x.props.length a1, .slice B1 x.depends.length bb1, .bool x.retain, .slice C1 x.inner.length cc1] 48) ∧ Hid (Blk wr w.heap.size #[.slice A v.params.length a, .slice B v.conds.length b, .slice (some ad) v.res.length c, .slice D v.outs.length d] 27) ∧ Hid (Below wo.heap.size wo wr))
              case atStart => exact ⟨0, m', by omega, rfl, rfl, by omega, HVD, HBR2, HBT2, HWR2⟩
              case round =>
                obtain ⟨i', m', hi, rfl, rfl, hm', HVD2, HBR3, HBT3, HWR3⟩ := hrel
                clear HBR2 HBT2 HWR2 HVD
                obtain ⟨r0, r1, r2, r3, r4, r5, r6⟩ := blk7 HBR3.out
                cases gk with
                | zero =>
                  have hii : ¬ ((i' : Int) < (x.depends.length : Int)) := by omega
                  have HVI : Hid (tW (k + 1) v = inK (tW k) v.outs (v.res.drop (j + 1)) (x.inner.drop 0) m') := Lib.hid (by rw [HVD2.out, show x.depends.drop i' = [] from List.drop_of_length_le (by omega)]; rfl)
                  obtain ⟨Bd, hB0, hB1, hB2, hB3⟩ : ∃ Bd, 1410001 ≤ Bd ∧ Hid (10010000 + 1000000 * k ≤ Bd) ∧ Hid (Bd ≤ 10000000 + 1000000 * (k + 1)) ∧ Bd ≤ 100000000 := ⟨10010000 + 1000000 * k, by omega, Lib.hid (Nat.le_refl _), Lib.hid (by omega), by omega⟩
                  have hmi : m' ≤ Bd := by omega
                  clear HVD2 hi hm'
                  go_wp2_with fail
                  clear r0 r1 r2 r3 r4 r5 r6 hii
                  go_loopg [5, 10] x.inner.length (fun g n i wr => ∃ i' m' : Nat, i' + g = x.inner.length ∧ i = .int .i64 (i' : Nat) ∧ n = .int .i64 (m' : Nat) ∧ m' ≤ Bd ∧ Hid (tW (k + 1) v = inK (tW k) v.outs (v.res.drop (j + 1)) (x.inner.drop i') m') ∧ Hid (Blk wr wo.heap.size #[.string x.id, .string x.type, .string x.cond, .slice A1 x.props.length a1, .slice B1 x.depends.length bb1, .bool x.retain, .slice C1 x.inner.length cc1] 48) ∧ Hid (Blk wr w.heap.size #[.slice A v.params.length a, .slice B v.conds.length b, .slice (some ad) v.res.length c, .slice D v.outs.length d] 27) ∧ Hid (Below wo.heap.size wo wr))
                  case atStart => exact ⟨0, m', by omega, rfl, rfl, hmi, HVI, HBR3, HBT3, HWR3⟩
                  case round =>
                    obtain ⟨i', m', hi, rfl, rfl, hm', HVI2, HBR4, HBT4, HWR4⟩ := hrel
                    clear HBR3 HBT3 HWR3 HVI
                    obtain ⟨r0, r1, r2, r3, r4, r5, r6⟩ := blk7 HBR4.out
                    have HW5 := Lib.hid (HW3.out.trans (HWR4.out.mono HW3.out.size))
                    by_cases hm1 : 10000 < m'
                    · have hm2 : ¬ ((m' : Int) ≤ 10000) := by omega
                      have hm3 : (10000 : Int) < (m' : Int) := by omega
                      have HR : Hid (tW (k + 1) v = m') := Lib.hid (by rw [HVI2.out, inK_stop hm1])
                      go_wp2_with fail
                      all_goals
                        go_ret
                        exact ⟨by rw [HR.out]; rfl, by rw [HR.out]; exact Nat.le_trans hm' hB2.out, HW5.out⟩
                    have hm2 : (m' : Int) ≤ 10000 := by omega
                    have hm3 : ¬ ((10000 : Int) < (m' : Int)) := by omega
                    cases gk with
                    | zero =>
                      have hii : ¬ ((i' : Int) < (x.inner.length : Int)) := by omega
                      have HVR : Hid (tW (k + 1) v = rsGo (tW k) v.outs m' (v.res.drop (j + 1))) := Lib.hid (by rw [HVI2.out, show x.inner.drop i' = [] from List.drop_of_length_le (by omega), inK_nil (by omega)])
                      go_wp2_with fail
                      go_roundg g
                      case measure => omega
                      case rel => exact ⟨j + 1, m', by omega, by go_num, rfl, by omega, HVR, HBT4, HW5⟩
                    | succ g4 =>
                      have hii : (i' : Int) < (x.inner.length : Int) := by omega
                      obtain ⟨y, hy⟩ := get_lt (l := x.inner) (i := i') (by omega)
                      have hd := drop_cons hy
                      obtain ⟨ad2, cs2, rfl, hyt, hyc⟩ := (HXI.out.below HWR4.out).elem Tm.trlen hy
                      have HY := Lib.hid hyt
                      obtain ⟨A7, a7, B7, b7, C7, c7, D7, d7, rfl, -⟩ := Tm.at_iff.1 hyt
                      obtain ⟨e0, e1, e2, e3⟩ := cel4 hyc
                      have HVI3 : Hid (tW (k + 1) v = inK (tW k) v.outs (v.res.drop (j + 1)) (x.inner.drop (i' + 1)) (m' + tW k y)) := Lib.hid (by rw [HVI2.out, hd, inK_go (by omega)])
                      have HT := Lib.hid (IH y _ _ HK4.out HY.out)
                      clear hd hy hyt hyc
                      go_wp2_with fail
                      refine HT.out.mono ?_
                      rintro e w6 ⟨rfl, hyw, hb⟩
                      have hm7 : m' + tW k y ≤ Bd := Nat.le_trans (Nat.add_le_add (Nat.le_of_not_lt hm1) hyw) (by have := hB1.out; omega)
                      clear hyw
                      have HBR5 := Lib.hid (HBR4.out.below hb)
                      have HBT5 := Lib.hid (HBT4.out.below hb)
                      have HWR5 := Lib.hid (HWR4.out.trans (hb.mono HWR4.out.size))
                      clear hb
                      go_wp2_with fail
                      go_roundg g4
                      case measure => omega
                      case rel => exact ⟨i' + 1, m' + tW k y, by omega, by go_num, by go_num, hm7, HVI3, HBR5, HBT5, HWR5⟩
                | succ g3 =>
                  have hii : (i' : Int) < (x.depends.length : Int) := by omega
                  obtain ⟨y, hy⟩ := get_lt (l := x.depends) (i := i') (by omega)
                  have hd := mins_drop hy
                  obtain ⟨ad2, rfl, hyc, hys⟩ := (HXD.out.below HWR3.out).str hy
                  obtain ⟨s0, hs0⟩ : ∃ s0, s0 = min y.size 10000 := ⟨_, rfl⟩
                  rw [← hs0] at hd
                  have HVD3 : Hid (tW (k + 1) v = inK (tW k) v.outs (v.res.drop (j + 1)) x.inner (m' + s0 + mins (x.depends.drop (i' + 1)))) := Lib.hid (by rw [HVD2.out, hd, Nat.add_assoc])
                  have hmn : ∀ w', (Builtin.min_ #[3, 3] 3 #[.int .i64 (y.size : Nat), .int .i64 10000]).run Tryz.prog w' = .ok (.int .i64 (s0 : Nat)) w' := fun w' => run_min (by omega)
                  have hs1 : s0 ≤ 10000 := by omega
                  clear hd hy hs0
                  go_wp2_with fail
                  go_roundg g3
                  case measure => omega
                  case rel => exact ⟨i' + 1, m' + s0, by omega, by go_num, by go_num, by omega, HVD3, HBR3, HBT3, HWR3⟩
            | succ g2 =>
              have hii : (i' : Int) < (x.props.length : Int) := by omega
              obtain ⟨y, hy⟩ := get_lt (l := x.props) (i := i') (by omega)
              have hd := prGo_drop hy m'
              obtain ⟨ad2, cs2, rfl, hyt, hyc⟩ := (HXP.out.below HWR2.out).elem Pr.trlen hy
              obtain ⟨vs2, rfl, hn1, hye⟩ := Pr.at_iff.1 hyt
              have HYE := Lib.hid hye
              have HYC := Lib.hid hyc
              obtain ⟨A7, c7, rfl, -⟩ := Ex.at_iff.1 hye
              obtain ⟨e0, e1, e2, e3, e4, e5, e6⟩ := cel7 hyc
              have HG := Lib.hid (xgreat_any S y.e _ _ HYE.out)
              clear hy hyt hyc hye
              cases hg : xGreat y.e with
              | true =>
                rw [hg] at HG hd
                have HR : Hid (tW (k + 1) v = 10000) := Lib.hid (by rw [HVP2.out, hd]; rfl)
                clear hg hd
                go_wp2_with fail
                refine HG.out.mono ?_
                rintro e w5 ⟨rfl, hb⟩
                have HW5 := Lib.hid (HW4.out.trans (hb.mono HW4.out.size))
                clear hb
                go_wp2_with fail
                go_ret
                exact ⟨by rw [HR.out]; rfl, by rw [HR.out]; omega, HW5.out⟩
              | false =>
                rw [hg] at HG hd
                obtain ⟨hp1, hp2⟩ := xG_parts hg
                obtain ⟨s0, hs0⟩ : ∃ s0, s0 = min y.name.size 10000 := ⟨_, rfl⟩
                rw [← hs0] at hd
                have hs1 : s0 ≤ 10000 := by omega
                have HR : Hid (tW (k + 1) v = prK (tW k) v.outs (v.res.drop (j + 1)) x (prGo (m' + (s0 + y.e.parts)) (x.props.drop (i' + 1)))) := Lib.hid (by rw [HVP2.out, hd]; rfl)
                have hmn : ∀ w', (Builtin.min_ #[3, 3] 3 #[.int .i64 (y.name.size : Nat), .int .i64 10000]).run Tryz.prog w' = .ok (.int .i64 (s0 : Nat)) w' := fun w' => run_min (by omega)
                clear hg hd hs0
                have z1 : IntKind.i64.wrap ((s0 : Int) + (y.e.parts : Int)) = (s0 : Int) + (y.e.parts : Int) := IntWalk.i64_in _ (by omega)
                have z2 : IntKind.i64.wrap ((m' : Int) + ((s0 : Int) + (y.e.parts : Int))) = (m' : Int) + ((s0 : Int) + (y.e.parts : Int)) := IntWalk.i64_in _ (by omega)
                go_wp2_with fail
                refine HG.out.mono ?_
                rintro e w5 ⟨rfl, hb⟩
                have HBR5 := Lib.hid (HBR2.out.below hb)
                have HBT5 := Lib.hid (HBT2.out.below hb)
                have HWR5 := Lib.hid (HWR2.out.trans (hb.mono HWR2.out.size))
                have HYC5 := Lib.hid (HYC.out.below hb)
                have HYE5 := Lib.hid (HYE.out.below hb)
                obtain ⟨k0, k1, k2, k3, k4, k5, k6⟩ := cel7 HYC5.out
                obtain ⟨q0, q1, q2, q3, q4, q5, q6⟩ := blk7 HBR5.out
                clear hb e0 e1 e2 e3 e4 e5 e6 r0 r1 r2 r3 r4 r5 r6 q0 q1 q2 q4 q5 q6
                go_wp2_with fail
                go_region_held3 (fun w' => w'.cell? ⟨wo.heap.size, 3, none⟩ = some (.slice (some ad2) x.props.length a1) ∧ w'.cell? (ad2.add (i' * 7)) = some (.string y.name) ∧ w'.cell? ⟨(ad2.add (i' * 7)).block, (ad2.add (i' * 7)).off + 1, none⟩ = some (.int .i8 y.e.kind) ∧ w'.cell? ⟨(ad2.add (i' * 7)).block, (ad2.add (i' * 7)).off + 2, none⟩ = some (.string y.e.text) ∧ w'.cell? ⟨(ad2.add (i' * 7)).block, (ad2.add (i' * 7)).off + 3, none⟩ = some (.int .i64 y.e.num) ∧ w'.cell? ⟨(ad2.add (i' * 7)).block, (ad2.add (i' * 7)).off + 4, none⟩ = some (.string y.e.name) ∧ w'.cell? ⟨(ad2.add (i' * 7)).block, (ad2.add (i' * 7)).off + 5, none⟩ = some (.string y.e.attr) ∧ w'.cell? ⟨(ad2.add (i' * 7)).block, (ad2.add (i' * 7)).off + 6, none⟩ = some (.slice A7 y.e.l.length c7)) (go_keep)
                  ((go_at_call 23; (with_reducible refine (parts_any S 30 y.e _ _ hp1 (HYE5.out.below (Below.refl _ w5).drew)).mono ?_); rintro e w6 ⟨rfl, hb6⟩; have hk6 := HYC5.out.below ((Below.refl _ w5).drew.trans hb6); have hr6 := HBR5.out.below ((Below.refl _ w5).drew.trans hb6); have ht6 := HBT5.out.below ((Below.refl _ w5).drew.trans hb6); obtain ⟨n0, n1, n2, n3, n4, n5, n6⟩ := cel7 hk6; obtain ⟨-, -, -, m3, -, -, -⟩ := blk7 hr6; have HBR6 := Lib.hid hr6; have HBT6 := Lib.hid ht6; have HWR6 := Lib.hid (HWR5.out.trans (((Below.refl _ w5).drew.trans hb6).mono HWR5.out.size)); clear hb6 hk6 hr6 ht6))
                all_goals
                  clear hmn
                  go_wp2_with fail
                  go_roundg g2
                  case measure => omega
                  case rel => exact ⟨i' + 1, m' + (s0 + y.e.parts), by omega, by go_num, by first | go_num | (rw [z1, z2]; go_num), by omega, HR, HBR6, HBT6, HWR6⟩

set_option maxRecDepth 100000 in
set_option maxHeartbeats 1000000 in
theorem tweight_any (S : Nat → Prop) : ∀ (k : Nat), TmC S k := by
  intro k
  induction k with
  | zero =>
    intro v cs w hk hv
    obtain ⟨A, a, B, b, C, c, D, d, rfl, -⟩ := Tm.at_iff.1 hv
    clear hv
    go_enter Tryz.func9, Tryz.ntmps9
    go_wp2_with fail
    go_ret
    exact ⟨rfl, by simp [tW], (Below.refl _ w).alloc (Nat.le_refl _) _⟩
  | succ k ih => exact fun v cs w hk hv => tweight_step S k ih v cs w hk hv

set_option maxHeartbeats 1000000 in
theorem tgreat_any (S : Nat → Prop) (v : Tm) (cs : List Value) (A2 : Option Addr) (c2 : Nat) (l : List Gv) (w : World) (hv : Trs.at S w v.tr cs) (hl : Ls S w 8 104 Gv.tr A2 c2 l) :
    Calls Tryz.prog 4 #[.agg cs.toArray, .slice A2 l.length c2] w (BoolOut (tGreat v l) w) := by
  have HV := Lib.hid hv
  have HL := Lib.hid hl
  obtain ⟨A, a, B, b, C, c, D, d, rfl, -⟩ := Tm.at_iff.1 hv
  clear hv hl
  by_cases h3 : 3000 < tW 8 v
  · have HR : Hid (tGreat v l = true) := Lib.hid (by unfold tGreat; rw [decide_eq_true h3]; rfl)
    have hi : (3000 : Int) < (tW 8 v : Nat) := by omega
    clear h3
    go_enter Tryz.func4, Tryz.ntmps4
    go_wp2_with fail
    refine (tweight_any S 8 v _ _ (by omega) (HV.out.alloc _)).mono ?_
    rintro e w2 ⟨rfl, hn, hb⟩
    have HB := Lib.hid (((Below.refl _ w).alloc (Nat.le_refl _) _).trans (hb.mono (by simp)))
    clear hb hn
    go_wp2_with fail
    go_ret
    exact ⟨by rw [HR.out]; rfl, HB.out⟩
  · have HR : Hid (tGreat v l = gsGreat l) := Lib.hid (by unfold tGreat; rw [decide_eq_false h3, Bool.false_or])
    have hi : decide ((3000 : Int) < (tW 8 v : Nat)) = false := decide_eq_false (by omega)
    clear h3
    go_enter Tryz.func4, Tryz.ntmps4
    go_wp2_with fail
    refine (tweight_any S 8 v _ _ (by omega) (HV.out.alloc _)).mono ?_
    rintro e w2 ⟨rfl, hn, hb⟩
    have HL2 := Lib.hid ((HL.out.alloc (.cells #[.slice A v.params.length a, .slice B v.conds.length b, .slice C v.res.length c, .slice D v.outs.length d] 27)).below hb)
    have HB := Lib.hid (((Below.refl _ w).alloc (Nat.le_refl _) (.cells #[.slice A v.params.length a, .slice B v.conds.length b, .slice C v.res.length c, .slice D v.outs.length d] 27)).trans (hb.mono (by simp)))
    clear hb hn
    go_wp2_with fail
    refine (gsgreat_any S A2 c2 l _ HL2.out).mono ?_
    rintro e w3 ⟨rfl, hb⟩
    have HB2 := Lib.hid (HB.out.trans (hb.mono HB.out.size))
    clear hb
    go_wp2_with fail
    go_ret
    exact ⟨by rw [HR.out]; rfl, HB2.out⟩
end Go.Proofs.YthcnfgpilncooaaGreatDoor
