/- hoardingref03.weight, Great: walks. -/
import Derived.Test.YtmljdppdaaoehaaGreatDoorTi
import Derived.Test.YtmljdppdaaoehaaGreatDoorGtPure
import Derived.Deep.LoopGhost
import Derived.Deep.Slices
namespace Go.Proofs.YtmljdppdaaoehaaGreatDoor
open Go.RowKit
set_option linter.unusedVariables false
set_option linter.unusedSimpArgs false

def NatOut (n : Nat) (w : World) (e : Ending) (w' : World) : Prop := e = .returned (.int .i64 (n : Nat)) ∧ Below w.heap.size w w'
def BoolOut (b : Bool) (w : World) (e : Ending) (w' : World) : Prop := e = .returned (.bool b) ∧ Below w.heap.size w w'
/-- the lengths' sum that is left -/
def mins (l : List ByteArray) : Nat := (l.map fun s => min s.size 10000).sum
theorem mins_drop {l : List ByteArray} {i : Nat} {s : ByteArray} (h : l[i]? = some s) : mins (l.drop i) = min s.size 10000 + mins (l.drop (i + 1)) := by
  have hi := (List.getElem?_eq_some_iff.1 h).1
  rw [List.drop_eq_getElem_cons hi, (List.getElem?_eq_some_iff.1 h).2]
  simp [mins]
theorem mins_le (l : List ByteArray) : mins l ≤ l.length * 10000 := sum_min_le _ _ _
theorem drop_cons {α : Type} {l : List α} {i : Nat} {x : α} (h : l[i]? = some x) : l.drop i = x :: l.drop (i + 1) := by
  have hi := (List.getElem?_eq_some_iff.1 h).1
  rw [List.drop_eq_getElem_cons hi, (List.getElem?_eq_some_iff.1 h).2]
theorem get_lt {α : Type} {l : List α} {i : Nat} (h : i < l.length) : ∃ x, l[i]? = some x := ⟨_, List.getElem?_eq_getElem h⟩

theorem run_min {P : Program} {w : World} {ts : Array TypeId} {t : TypeId} {a b : Int} {n : Int} (h : min a b = n) : (Builtin.min_ ts t #[.int .i64 a, .int .i64 b]).run P w = .ok (.int .i64 n) w := by
  subst h
  simp only [Builtin.min_, List.foldlM, Builtin.min2]
  by_cases hab : a ≤ b
  · simp [Builtin.min2]; split <;> omega
  · simp [Builtin.min2]; split <;> omega

set_option maxRecDepth 100000 in
set_option maxHeartbeats 4000000 in
theorem vweight_any (S : Nat → Prop) : ∀ (k : Nat) (v : Vl) (cs : List Value) (w : World), k ≤ 40 → Trs.at S w v.tr cs →
    Calls Tryz.prog 38 #[.agg cs.toArray, .int .i64 (k : Nat)] w (NatOut (vW k v) w)
  | 0, v, cs, w, hk, hv => by
    obtain ⟨A, c, B, d, rfl, _⟩ := Vl.at_iff.1 hv
    clear hv
    go_enter Tryz.func38, Tryz.ntmps38
    go_wp2_with fail
    go_ret
    exact ⟨rfl, (Below.refl _ w).alloc (Nat.le_refl _) _⟩
  | k + 1, v, cs, w, hk, hv => by
    obtain ⟨A, c, B, d, rfl, -, -, ht, hl, hks⟩ := Vl.at_iff.1 hv
    clear hv
    have hlb := hl.bytes
    have hkb := hks.bytes
    have hlc := hl.cap
    have hkc := hks.cap
    have HL := Lib.hid hl
    have HK := Lib.hid hks
    clear hl hks
    have hk0 : ((k : Int) + 1 == 0) = false := by simp; omega
    have hk9 : IntKind.i64.wrap ((k : Int) + 1 - 1) = (k : Int) := by rw [IntWalk.i64_in _ (by omega)]; omega
    have hbw := vW_le (k + 1) v
    by_cases h1 : 3000 < v.list.length
    · have HV : Hid (vW (k + 1) v = 10000) := Lib.hid (by simp only [vW]; rw [if_pos (.inl h1)])
      go_enter Tryz.func38, Tryz.ntmps38
      go_wp2_with fail
      all_goals
        go_ret
        exact ⟨by rw [HV.out]; rfl, (Below.refl _ w).alloc (Nat.le_refl _) _⟩
    by_cases h2 : 3000 < v.keys.length
    · have HV : Hid (vW (k + 1) v = 10000) := Lib.hid (by simp only [vW]; rw [if_pos (.inr h2)])
      go_enter Tryz.func38, Tryz.ntmps38
      go_wp2_with fail
      all_goals
        go_ret
        exact ⟨by rw [HV.out]; rfl, (Below.refl _ w).alloc (Nat.le_refl _) _⟩
    have HV : Hid (vW (k + 1) v = efold (vW k) (1 + min v.text.size 10000 + mins v.keys) v.list) := Lib.hid (by simp only [vW]; rw [if_neg (by omega)]; rfl)
    have hmk := mins_le v.keys
    have hmt : 1 + min v.text.size 10000 + mins v.keys ≤ 30010001 := by omega
    have HW : Hid (∀ x, vW k x ≤ 30010001 + 10000 * k) := Lib.hid (vW_le k)
    have HB0 : Hid (Blk (w.alloc (.cells #[.int .i8 v.kind, .bool v.bool, .int .i64 v.num, .string v.text, .slice A v.list.length c, .slice B v.keys.length d] 37)) w.heap.size #[.int .i8 v.kind, .bool v.bool, .int .i64 v.num, .string v.text, .slice A v.list.length c, .slice B v.keys.length d] 37) := Lib.hid (Blk.new w _ _)
    have HW0 : Hid (Below w.heap.size w (w.alloc (.cells #[.int .i8 v.kind, .bool v.bool, .int .i64 v.num, .string v.text, .slice A v.list.length c, .slice B v.keys.length d] 37))) := Lib.hid ((Below.refl _ w).alloc (Nat.le_refl _) _)
    obtain ⟨t0, ht0⟩ : ∃ t0, t0 = min v.text.size 10000 := ⟨_, rfl⟩
    rw [← ht0] at hmt HV
    have hmin : min ((v.text.size : Nat) : Int) 10000 = (t0 : Int) := by omega
    have ht1 : t0 ≤ 10000 := by omega
    go_enter Tryz.func38, Tryz.ntmps38
    have hmn : ∀ w', (Builtin.min_ #[3, 3] 3 #[.int .i64 (v.text.size : Nat), .int .i64 10000]).run Tryz.prog w' = .ok (.int .i64 (t0 : Nat)) w' := fun w' => run_min hmin
    clear ht0
    go_wp2_with fail
    clear hmin hmn ht1
    go_loopg [5, 6] v.keys.length (fun g n i wr => ∃ j m : Nat, j + g = v.keys.length ∧ i = .int .i64 (j : Nat) ∧ n = .int .i64 (m : Nat) ∧ m ≤ 30010001 ∧ Hid (m + mins (v.keys.drop j) = 1 + t0 + mins v.keys) ∧ Hid (Blk wr w.heap.size #[.int .i8 v.kind, .bool v.bool, .int .i64 v.num, .string v.text, .slice A v.list.length c, .slice B v.keys.length d] 37) ∧ Hid (Below w.heap.size w wr))
    case atStart => exact ⟨0, 1 + t0, by omega, rfl, by go_num, by omega, Lib.hid (by simp), HB0, HW0⟩
    case round =>
      obtain ⟨j, m, hj, rfl, rfl, hm, HM, HB, HW1⟩ := hrel
      have b4 : wr.cell? ⟨w.heap.size, 4, none⟩ = some (.slice A v.list.length c) := HB.out.cell 4 rfl
      have b5 : wr.cell? ⟨w.heap.size, 5, none⟩ = some (.slice B v.keys.length d) := HB.out.cell 5 rfl
      cases gk with
      | zero =>
        have hjj : ¬ ((j : Int) < (v.keys.length : Int)) := by omega
        have HV2 : Hid (vW (k + 1) v = efold (vW k) m v.list) := Lib.hid (by
          rw [HV.out]
          have := HM.out
          rw [List.drop_of_length_le (by omega)] at this
          rw [← this]; simp [mins])
        clear HM hj
        go_wp2_with fail
        go_loopg [5, 7] v.list.length (fun g n i wr => ∃ j m : Nat, j + g = v.list.length ∧ i = .int .i64 (j : Nat) ∧ n = .int .i64 (m : Nat) ∧ m ≤ 30010001 + 10000 * (k + 1) ∧ Hid (vW (k + 1) v = efold (vW k) m (v.list.drop j)) ∧ Hid (Blk wr w.heap.size #[.int .i8 v.kind, .bool v.bool, .int .i64 v.num, .string v.text, .slice A v.list.length c, .slice B v.keys.length d] 37) ∧ Hid (Below w.heap.size w wr))
        case atStart => exact ⟨0, m, by omega, rfl, rfl, by omega, HV2, HB, HW1⟩
        case round =>
          obtain ⟨j, m, hj, rfl, rfl, hm, HV3, HB2, HW2⟩ := hrel
          have b4 : wr.cell? ⟨w.heap.size, 4, none⟩ = some (.slice A v.list.length c) := HB2.out.cell 4 rfl
          by_cases hm1 : 10000 < m
          · have hm2 : ¬ ((m : Int) ≤ 10000) := by omega
            have HR : Hid (vW (k + 1) v = m) := Lib.hid (by rw [HV3.out, efold_stop hm1])
            go_wp2_with fail
            all_goals
              go_ret
              exact ⟨by rw [HR.out]; rfl, HW2.out⟩
          have hm2 : (m : Int) ≤ 10000 := by omega
          cases gk with
          | zero =>
            have hjj : ¬ ((j : Int) < (v.list.length : Int)) := by omega
            have HR : Hid (vW (k + 1) v = m) := Lib.hid (by rw [HV3.out, List.drop_of_length_le (by omega)]; rfl)
            go_wp2_with fail
            all_goals
              go_ret
              exact ⟨by rw [HR.out]; rfl, HW2.out⟩
          | succ g =>
            have hjj : (j : Int) < (v.list.length : Int) := by omega
            obtain ⟨x, hx⟩ := get_lt (l := v.list) (i := j) (by omega)
            have hd := drop_cons hx
            obtain ⟨ad, cs, rfl, hxt, hxc⟩ := (HL.out.below HW2.out).elem Vl.trlen hx
            have HX := Lib.hid hxt
            obtain ⟨A2, c2, B2, d2, rfl, -, -, -, -, -⟩ := Vl.at_iff.1 hxt
            obtain ⟨e0, e1, e2, e3, e4, e5⟩ := cel6 hxc
            have HV4 : Hid (vW (k + 1) v = efold (vW k) (m + vW k x) (v.list.drop (j + 1))) := Lib.hid (by rw [HV3.out, hd, efold_go (by omega)])
            have hxw := HW.out x
            clear hx hd hxt hxc
            go_wp2_with fail
            refine (vweight_any S k x _ wr (by omega) HX.out).mono ?_
            rintro e w2 ⟨rfl, hb⟩
            have HB3 := Lib.hid (HB2.out.below hb)
            have HW3 := Lib.hid (HW2.out.trans (hb.mono HW2.out.size))
            clear hb
            go_wp2_with fail
            go_roundg g
            case measure => omega
            case rel => exact ⟨j + 1, m + vW k x, by omega, by go_num, by go_num, by omega, HV4, HB3, HW3⟩
      | succ g =>
        have hjj : (j : Int) < (v.keys.length : Int) := by omega
        obtain ⟨s, hs⟩ := get_lt (l := v.keys) (i := j) (by omega)
        have hd := mins_drop hs
        obtain ⟨ad, rfl, hsc, hsz⟩ := (HK.out.below HW1.out).str hs
        have HM2 : Hid (m + min s.size 10000 + mins (v.keys.drop (j + 1)) = 1 + t0 + mins v.keys) := Lib.hid (by have := HM.out; omega)
        have hm2 : m + min s.size 10000 ≤ 30010001 := by have := HM2.out; omega
        clear hs hd
        obtain ⟨s0, hs0⟩ : ∃ s0, s0 = min s.size 10000 := ⟨_, rfl⟩
        rw [← hs0] at HM2 hm2
        have hmn : ∀ w', (Builtin.min_ #[3, 3] 3 #[.int .i64 (s.size : Nat), .int .i64 10000]).run Tryz.prog w' = .ok (.int .i64 (s0 : Nat)) w' := fun w' => run_min (by omega)
        clear hs0
        go_wp2_with fail
        go_roundg g
        case measure => omega
        case rel => exact ⟨j + 1, m + s0, by omega, by go_num, by go_num, by omega, by rw [Nat.add_assoc] at HM2 ⊢; exact HM2, HB, HW1⟩
end Go.Proofs.YtmljdppdaaoehaaGreatDoor
