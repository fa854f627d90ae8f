/- hoardingref01.digit, four. -/
import Derived.Test.YtffamppgnooaeaaDoorRuFour
namespace Go.Proofs.YtffamppgnooaeaaDoor
open Go.RowKit
set_option linter.unusedVariables false
set_option linter.unusedSimpArgs false

def isDg (c : Nat) : Bool := decide (48 ≤ c ∧ c ≤ 57)
theorem rdigit_any (c : Nat) (hc : c < 256) (w : World) : Calls Tryd.prog 32 #[.int .u8 (c : Nat)] w fun e w' => e = .returned (.bool (isDg c)) ∧ w' = w := by
  have h3 : c < 48 ∨ (48 ≤ c ∧ 57 < c) ∨ (48 ≤ c ∧ c ≤ 57) := by omega
  rcases h3 with h | ⟨h, h2⟩ | ⟨h, h2⟩
  · have HE : Hid (isDg c = false) := Lib.hid (by unfold isDg; first | (rw [decide_eq_true_eq]; omega) | (rw [decide_eq_false_iff_not]; omega))
    go_enter Tryd.func32, Tryd.ntmps32
    go_wp2_with fail
    go_ret
    refine ⟨?_, rfl⟩
    rw [HE.out]
    rfl
  · have HE : Hid (isDg c = false) := Lib.hid (by unfold isDg; first | (rw [decide_eq_true_eq]; omega) | (rw [decide_eq_false_iff_not]; omega))
    go_enter Tryd.func32, Tryd.ntmps32
    go_wp2_with fail
    go_ret
    refine ⟨?_, rfl⟩
    rw [HE.out]
    show Ending.returned (.bool (decide ((c : Int) ≤ 57))) = _
    rw [decide_eq_false (by omega)]
  · have HE : Hid (isDg c = true) := Lib.hid (by unfold isDg; first | (rw [decide_eq_true_eq]; omega) | (rw [decide_eq_false_iff_not]; omega))
    go_enter Tryd.func32, Tryd.ntmps32
    go_wp2_with fail
    go_ret
    refine ⟨?_, rfl⟩
    rw [HE.out]
    show Ending.returned (.bool (decide ((c : Int) ≤ 57))) = _
    rw [decide_eq_true (by omega)]
def four2 (o : Option Nat) : Int := match o with | some r => (r : Int) | none => -1
def RFourP (l : List UInt8) (i : Nat) (w : World) (e : Ending) (w' : World) : Prop := e = .returned (.int .i64 (four2 (fourL l i))) ∧ w' = w
set_option maxRecDepth 100000 in
set_option maxHeartbeats 4000000 in
theorem rfour_any (b : ByteArray) (i : Nat) (hb : b.size ≤ 30000) (hi : i ≤ 31000) (w : World) :
    Calls Tryd.prog 27 #[.string b, .int .i64 (i : Nat)] w (RFourP b.data.toList i w) := by
  have HSZ := Lib.hid (Lib.size_eq b)
  by_cases hlen : b.size < i + 4
  · have HN : Hid (fourL b.data.toList i = none) := Lib.hid (by unfold fourL; rw [if_pos (by have := HSZ.out; omega)])
    go_enter Tryd.func27, Tryd.ntmps27
    go_wp2_with fail
    go_ret
    refine ⟨?_, rfl⟩
    rw [HN.out]; rfl
  · have HF := Lib.hid (fourV_four b.data.toList i (by have := HSZ.out; omega))
    go_enter Tryd.func27, Tryd.ntmps27
    go_wp2_with fail
    go_loopg [5, 6] 4 (fun gk q5 q wr => ∃ k r : Nat, k + gk = 4 ∧ q = .int .i64 (k : Nat) ∧ q5 = .int .i64 (r : Nat) ∧ Hid (fourV b.data.toList i k = some r) ∧ Hid (wr = w))
    case atStart => exact ⟨0, 0, rfl, rfl, rfl, Lib.hid rfl, Lib.hid rfl⟩
    case round =>
      obtain ⟨k, r, hk, rfl, rfl, HR, HB⟩ := hrel
      obtain ⟨W, hW⟩ : ∃ W, W = wr := ⟨_, rfl⟩
      subst hW
      cases gk with
      | zero =>
        obtain rfl : k = 4 := by omega
        go_wp2_with fail
        go_ret
        refine ⟨?_, HB.out⟩
        rw [HF.out, HR.out]; rfl
      | succ g =>
        have hk4 : k < 4 := by omega
        have hlt : i + k < b.size := by omega
        obtain ⟨x, hx⟩ : ∃ x, b[i + k] = x := ⟨_, rfl⟩
        have hr : r < 4096 := by
          have := fourV_lt k HR.out
          have : 16 ^ k ≤ 16 ^ 3 := Nat.pow_le_pow_right (by omega) (by omega)
          omega
        have HNB : Hid (nb b.data.toList (i + k) = x.toNat) := Lib.hid (by unfold nb; rw [List.getD_eq_getElem?_getD, Lib.data_getElem? b (i + k) hlt, hx]; rfl)
        obtain ⟨c, hc⟩ : ∃ c, x.toNat = c := ⟨_, rfl⟩
        have hci : (x.toNat : Int) = (c : Int) := by omega
        have hc256 : c < 256 := by rw [← hc]; exact x.toNat_lt
        rw [hc] at HNB
        have HC := Lib.hid hc
        clear hc
        have HDG := Lib.hid (rdigit_any c hc256 W)
        have HR2 : Hid (∀ v, hexV c = some v → fourV b.data.toList i (k + 1) = some (r * 16 + v)) := Lib.hid (fun v hv => by
          show (match fourV b.data.toList i k, hexV (nb b.data.toList (i + k)) with | some a, some v => some (a * 16 + v) | _, _ => none) = _
          rw [HR.out, HNB.out, hv])
        have HR3 : Hid (hexV c = none → fourV b.data.toList i 4 = none) := Lib.hid (fun hv => by
          have h1 : fourV b.data.toList i (k + 1) = none := by
            show (match fourV b.data.toList i k, hexV (nb b.data.toList (i + k)) with | some a, some v => some (a * 16 + v) | _, _ => none) = _
            rw [HR.out, HNB.out, hv]
          have := fourV_none h1 (3 - k)
          rwa [show k + 1 + (3 - k) = 4 by omega] at this)
        have h4 : (48 ≤ c ∧ c ≤ 57) ∨ (97 ≤ c ∧ c ≤ 102) ∨ (65 ≤ c ∧ c ≤ 70) ∨ ((c < 48 ∨ 57 < c) ∧ (c < 97 ∨ 102 < c) ∧ (c < 65 ∨ 70 < c)) := by omega
        rcases h4 with ⟨a1, a2⟩ | ⟨a1, a2⟩ | ⟨a1, a2⟩ | ⟨a1, a2, a3⟩
        · have hdg : isDg c = true := by unfold isDg; rw [decide_eq_true_eq]; omega
          have HRR := Lib.hid (HR2.out (c - 48) (by unfold hexV; rw [if_pos ⟨a1, a2⟩]))
          rw [hdg] at HDG
          clear hdg
          go_wp2_with fail
          refine HDG.out.mono ?_
          rintro e w1 ⟨rfl, rfl⟩
          go_wp2_with fail
          go_roundg g
          case rel => exact ⟨k + 1, r * 16 + (c - 48), by omega, by go_num, by go_num, HRR, HB⟩
          case measure => omega
        · have hdg : isDg c = false := by unfold isDg; rw [decide_eq_false_iff_not]; omega
          have HRR := Lib.hid (HR2.out (c - 87) (by unfold hexV; rw [if_neg (by omega), if_pos ⟨a1, a2⟩]))
          rw [hdg] at HDG
          clear hdg
          go_wp2_with fail
          refine HDG.out.mono ?_
          rintro e w1 ⟨rfl, rfl⟩
          go_wp2_with fail
          go_roundg g
          case rel => exact ⟨k + 1, r * 16 + (c - 87), by omega, by go_num, by go_num, HRR, HB⟩
          case measure => omega
        · have hdg : isDg c = false := by unfold isDg; rw [decide_eq_false_iff_not]; omega
          have HRR := Lib.hid (HR2.out (c - 55) (by unfold hexV; rw [if_neg (by omega), if_neg (by omega), if_pos ⟨a1, a2⟩]))
          rw [hdg] at HDG
          clear hdg
          go_wp2_with fail
          refine HDG.out.mono ?_
          rintro e w1 ⟨rfl, rfl⟩
          go_wp2_with fail
          go_roundg g
          case rel => exact ⟨k + 1, r * 16 + (c - 55), by omega, by go_num, by go_num, HRR, HB⟩
          case measure => omega
        · have hdg : isDg c = false := by unfold isDg; rw [decide_eq_false_iff_not]; omega
          have HRR := Lib.hid (HR3.out (by unfold hexV; rw [if_neg (by omega), if_neg (by omega), if_neg (by omega)]))
          rw [hdg] at HDG
          clear hdg
          have h5 : (c < 65 ∨ (70 < c ∧ c < 97) ∨ 102 < c) := by omega
          clear a2 a3
          rcases h5 with h5 | ⟨h5, h6⟩ | h5
          all_goals
            go_wp2_with fail
            refine HDG.out.mono ?_
            rintro e w1 ⟨rfl, rfl⟩
            go_wp2_with fail
            go_ret
            refine ⟨?_, HB.out⟩
            rw [HF.out, HRR.out]; rfl
end Go.Proofs.YtffamppgnooaeaaDoor
