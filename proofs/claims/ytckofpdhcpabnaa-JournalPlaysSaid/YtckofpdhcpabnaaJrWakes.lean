/- wakes of layer 8; size. -/
import Derived.Test.YtckofpdhcpabnaaJrRowsN
namespace Go.Proofs.Ytckofpdhcpabnaa
open Go.RowKit
set_option linter.unusedVariables false
set_option linter.unusedSimpArgs false

theorem wk1 : jApp DS.new [65] = (0, ⟨[0, 0, 0, 1, 65], false, false, 0⟩) := by rfl
theorem wk2 : dArm ⟨[0, 0, 0, 1, 65], false, false, 0⟩ 4 = (0, ⟨[0, 0, 0, 1, 65], false, true, 4⟩) := by rfl
theorem wk3 : jApp ⟨[0, 0, 0, 1, 65], false, true, 4⟩ [66] = (60, ⟨[0, 0, 0, 1, 65, 0, 0, 0, 1], true, false, 4⟩) := by rfl
theorem wk4 : dUp ⟨[0, 0, 0, 1, 65, 0, 0, 0, 1], true, false, 4⟩ = (0, ⟨[0, 0, 0, 1, 65, 0, 0, 0, 1], false, false, 4⟩) := by rfl
theorem wkl : loads [0, 0, 0, 1, 65, 0, 0, 0, 1] = [[65]] := by
  have h := loads_frame [65] [0, 0, 0, 1] (by decide) (by decide)
  rw [loads_none (l := [0, 0, 0, 1]) (by simp [firstF, beN])] at h
  exact h
theorem wk5 : jOpen ⟨[0, 0, 0, 1, 65, 0, 0, 0, 1], false, false, 4⟩ = (0, ⟨[0, 0, 0, 1, 65], false, false, 4⟩) := by
  unfold jOpen jOpen2
  simp only [wkl]
  rfl

set_option maxHeartbeats 2000000 in
theorem wakes_any (w : World) : Calls Try.prog 7 #[] w (Yes w) := by
  go_enter Try.func7, Try.ntmps7
  go_wp2_with fail
  refine (dnew_any w).mono ?_
  rintro e w1 ⟨rfl, hb1, hk1⟩
  have h1 := japp_any w.heap.size (w1.alloc (.cells #[.int .u8 65] 5)) _ none DS.new _ 1 1 [65] (hk1.below ((Below.refl _ _).alloc (Nat.le_refl _) _)) (Rd.one w1 5 65 65 rfl)
  rw [wk1] at h1
  have HK1 := Lib.hid hk1
  have HB1 := Lib.hid hb1
  have H1 := Lib.hid h1
  clear hb1 hk1 h1
  go_wp2_with fail
  refine H1.out.mono ?_
  rintro e w2 ⟨rfl, hS⟩
  have hB2 : Below w.heap.size w w2 := (HB1.out.alloc HB1.out.size _).trans (hS.below (HK1.out.below ((Below.refl _ _).alloc (Nat.le_refl _) _)))
  obtain ⟨⟨r2, hk2, -⟩, -⟩ := hS
  have h2 := darm_any w.heap.size w2 _ r2 _ 4 (by omega) hk2
  rw [wk2] at h2
  have HK2 := Lib.hid hk2
  have HB2 := Lib.hid hB2
  have H2 := Lib.hid h2
  clear hB2 hk2 h2 HB1 H1 HK1
  go_wp2_with fail
  refine H2.out.mono ?_
  rintro e w3 ⟨rfl, hS⟩
  have hB3 : Below w.heap.size w w3 := HB2.out.trans (hS.below HK2.out)
  obtain ⟨⟨r3, hk3, -⟩, -⟩ := hS
  have h3 := japp_any w.heap.size (w3.alloc (.cells #[.int .u8 66] 5)) _ r3 _ _ 1 1 [66] (hk3.below ((Below.refl _ _).alloc (Nat.le_refl _) _)) (Rd.one w3 5 66 66 rfl)
  rw [wk3] at h3
  have HK3 := Lib.hid hk3
  have HB3 := Lib.hid hB3
  have H3 := Lib.hid h3
  clear hB3 hk3 h3 HB2 H2 HK2
  go_wp2_with fail
  refine H3.out.mono ?_
  rintro e w4 ⟨rfl, hS⟩
  have hB4 : Below w.heap.size w w4 := (HB3.out.alloc HB3.out.size _).trans (hS.below (HK3.out.below ((Below.refl _ _).alloc (Nat.le_refl _) _)))
  obtain ⟨⟨r4, hk4, -⟩, -⟩ := hS
  have h4 := dup_any w.heap.size w4 _ r4 _ hk4
  rw [wk4] at h4
  have HK4 := Lib.hid hk4
  have HB4 := Lib.hid hB4
  have H4 := Lib.hid h4
  clear hB4 hk4 h4 HB3 H3 HK3
  go_wp2_with fail
  refine H4.out.mono ?_
  rintro e w5 ⟨rfl, hS⟩
  have hB5 : Below w.heap.size w w5 := HB4.out.trans (hS.below HK4.out)
  obtain ⟨⟨r5, hk5, -⟩, -⟩ := hS
  have h5 := jopen_any w.heap.size w5 _ r5 _ hk5
  unfold OpenP at h5
  rw [wk5] at h5
  simp only [wkl, show szs [[65]] = 5 from rfl] at h5
  have HK5 := Lib.hid hk5
  have HB5 := Lib.hid hB5
  have H5 := Lib.hid h5
  clear hB5 hk5 h5 HB4 H4 HK4
  go_wp2_with fail
  refine H5.out.mono ?_
  rintro e w6 ⟨hS, -, hg, -⟩
  obtain ⟨A, c, vs, rfl, hbb⟩ := hg trivial
  have hB6 : Below w.heap.size w w6 := HB5.out.trans (hS.below HK5.out)
  obtain ⟨A2, c2, hv, hr2, -⟩ := hbb.row 0 _ rfl
  obtain ⟨ad, rfl, -⟩ := hbb.rd.addr (by simp) (by omega)
  have hcl := hbb.rd.get hv
  have hs := run_str (P := Try.prog) w6 22 5 9 Try.underlying22 Try.underlying5 Try.underlying9 (show Rd w6 1 A2 1 c2 (bv [65]) from hr2)
  have hcl' : w6.cell? ad = some (.slice A2 1 c2) := hcl
  have hcc := hbb.rd.cap
  have HB6 := Lib.hid hB6
  clear hB6 hS hg hbb hr2 hv H5 HB5 HK5 hcl
  go_wp2_with fail
  go_ret
  exact ⟨rfl, HB6.out⟩

set_option maxRecDepth 100000 in
set_option maxHeartbeats 1000000 in
theorem size_l (B : Nat) (A : Option Addr) (n c : Nat) (ls : List (List UInt8)) (vs : List Value) (w : World) (hb : BB w B A n c ls vs) :
    Calls Try.prog 6 #[.slice A n c] w (fun e w' => (∃ z : Int, e = .returned (.int .i64 z)) ∧ w = w') := by
  have hc := hb.rd.cap
  have hm := hb.rd.max
  unfold maxLen at hm
  have HB := Lib.hid hb
  have HL := Lib.hid hb.len
  clear hb
  go_enter Try.func6, Try.ntmps6
  go_wp2_with fail
  go_loop [3, 4] (fun z i => ∃ k t : Nat, k ≤ n ∧ k ≤ 201 ∧ t ≤ k * 1048580 ∧ i = .int .i64 k ∧ z = .int .i64 t) (fun _ i => n - (intOf i).toNat)
  case atStart => exact ⟨0, 0, Nat.zero_le _, Nat.zero_le _, Nat.zero_le _, rfl, rfl⟩
  case round =>
    obtain ⟨k, t, hk, hk2, ht, rfl, rfl⟩ := hrel
    by_cases hlt : k < n
    · by_cases h60 : k ≤ 200
      · obtain ⟨x, hx⟩ : ∃ x, ls[k]? = some x := ⟨_, List.getElem?_eq_getElem (by rw [HL.out]; exact hlt)⟩
        obtain ⟨Ai, ci, hv, hr, -⟩ := HB.out.row k x hx
        obtain ⟨ad, rfl, -⟩ := HB.out.rd.addr (by omega) (by omega)
        have hcl := HB.out.rd.get hv
        have hrc := hr.cap
        have hrm := hr.max
        unfold maxLen at hrm
        clear hr hx hv
        have ht9 : t ≤ 1000000000 := by omega
        by_cases h4 : 1048576 < x.length
        · have hrel2 : t + 1048576 + 4 ≤ (k + 1) * 1048580 := by omega
          have HT := Lib.hid hrel2
          clear ht hrel2
          go_wp2_with fail
          go_round
          case rel => exact ⟨k + 1, t + 1048576 + 4, by omega, by omega, HT.out, by go_num, by go_num⟩
          case measure => simp [intOf]; omega
        · have hrel2 : t + x.length + 4 ≤ (k + 1) * 1048580 := by omega
          have HT := Lib.hid hrel2
          clear ht hrel2
          go_wp2_with fail
          go_round
          case rel => exact ⟨k + 1, t + x.length + 4, by omega, by omega, HT.out, by go_num, by go_num⟩
          case measure => simp [intOf]; omega
      · have h61 : 200 < k := by omega
        go_wp2_with fail
        all_goals
          go_ret
          exact ⟨⟨_, rfl⟩, rfl⟩
    · go_wp2_with fail
      all_goals
        go_ret
        exact ⟨⟨_, rfl⟩, rfl⟩
end Go.Proofs.Ytckofpdhcpabnaa
