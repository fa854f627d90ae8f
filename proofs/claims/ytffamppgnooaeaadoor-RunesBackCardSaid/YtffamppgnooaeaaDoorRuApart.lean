/- The law RunesApart. -/
import Derived.Test.YtffamppgnooaeaaDoorRuWakes
import Derived.StillTailTactics
import Derived.Deep.QuietTactic
import Derived.BigQuiet
namespace Go.Proofs.YtffamppgnooaeaaDoor
open Go.RowKit Go.Lib
set_option linter.unusedVariables false
set_option linter.unusedSimpArgs false

theorem quoteR_zero {l : List UInt8} (h : (quoteR l).2 = 0) : validD l = true ∧ quoteR l = (quoteB l, 0) := by
  unfold quoteR at h ⊢
  split at h
  · rename_i hv; rw [if_pos hv]; exact ⟨hv, rfl⟩
  · simp at h
theorem quoteR_two (l : List UInt8) : (quoteR l).2 = 0 ∨ (quoteR l).2 = 10 := by unfold quoteR; split <;> simp
theorem ext_toList (s : ByteArray) (n : Nat) : (s.extract 0 n).data.toList = s.data.toList.take n := by rw [Lib.extract_data]; simp
theorem bytes_eq {a b : ByteArray} (h : a.data.toList = b.data.toList) : a = b := by
  cases a; cases b; simp at h; congr
/-- what the law holds against one another -/
theorem apart_eq (s t : ByteArray) (hs : validD s.data.toList = true) (ht : validD t.data.toList = true) (qs qt : ByteArray) (es : qs.data.toList = quoteB s.data.toList) (et : qt.data.toList = quoteB t.data.toList) :
    ((qs.extract 0 (min qs.size qt.size)).toList == (qt.extract 0 (min qs.size qt.size)).toList) = (s.toList == t.toList) := by
  have h1 : qs.size = (quoteB s.data.toList).length := by rw [Lib.size_eq, es]
  have h2 : qt.size = (quoteB t.data.toList).length := by rw [Lib.size_eq, et]
  rw [Bool.eq_iff_iff, beq_iff_eq, beq_iff_eq, Lib.toList_data, Lib.toList_data, Lib.toList_data, Lib.toList_data, ext_toList, ext_toList, es, et, h1, h2]
  constructor
  · intro h
    exact quote_apart hs ht h
  · intro h
    rw [h]
set_option maxRecDepth 100000 in
set_option maxHeartbeats 4000000 in
theorem runesApart_walk (w : World) (hv : Vars w) (s : ByteArray) (hs : s.size ≤ 9223372036854775807) (t : ByteArray) (ht : t.size ≤ 9223372036854775807) :
    Calls Tryd.prog 5 #[.string s, .string t] w (Yes w) := by
  have HV := Lib.hid hv
  clear hv
  by_cases hbig : 1000 < s.size ∨ 1000 < t.size
  · have c3 : 1000 < s.size ∨ s.size ≤ 1000 ∧ 1000 < t.size := by omega
    clear hbig
    rcases c3 with c3 | ⟨c3, c4⟩
    all_goals
      go_enter Tryd.func5, Tryd.ntmps5
      go_wp2_with fail
      refine (wakes_any _ HV.out).mono ?_
      rintro e w1 ⟨rfl, hb⟩
      have HB := Lib.hid hb
      clear hb
      go_wp2_with fail
      go_ret
      exact ⟨rfl, HB.out⟩
  have g1 : s.size ≤ 1000 := by omega
  have g2 : t.size ≤ 1000 := by omega
  clear hbig hs ht
  have HQ1 := Lib.hid (quote_any s w (by omega) HV.out.u8)
  go_enter Tryd.func5, Tryd.ntmps5
  go_wp2_with fail
  refine HQ1.out.mono ?_
  rintro e w1 ⟨rfl, hb1⟩
  have HB1 := Lib.hid hb1
  have HV1 := Lib.hid (HV.out.below hb1)
  clear hb1 HQ1
  go_wp2_with fail
  refine (quote_any t w1 (by omega) HV1.out.u8).mono ?_
  rintro e w2 ⟨rfl, hb2⟩
  have HB2 := Lib.hid (HB1.out.trans (hb2.mono HB1.out.size))
  have HV2 := Lib.hid (HV1.out.below hb2)
  clear hb2
  rcases hq1 : quoteR s.data.toList with ⟨q1, e1⟩
  rcases hq2 : quoteR t.data.toList with ⟨q2, e2⟩
  have HE1 := Lib.hid hq1
  have HE2 := Lib.hid hq2
  simp only
  clear hq1 hq2
  by_cases z1 : e1 = 0
  · subst z1
    by_cases z2 : e2 = 0
    · subst z2
      obtain ⟨v1, k1⟩ := quoteR_zero (by rw [HE1.out])
      obtain ⟨v2, k2⟩ := quoteR_zero (by rw [HE2.out])
      rw [HE1.out] at k1
      rw [HE2.out] at k2
      injection k1 with k1
      injection k2 with k2
      have hap := apart_eq s t v1 v2 ⟨q1.toArray⟩ ⟨q2.toArray⟩ (by simpa using k1) (by simpa using k2)
      have hl1 : q1.length ≤ 6002 := by rw [k1, quoteB_len]; have := flat_len s.data.toList; have := Lib.size_eq s; omega
      have hl2 : q2.length ≤ 6002 := by rw [k2, quoteB_len]; have := flat_len t.data.toList; have := Lib.size_eq t; omega
      have hz1 : (ByteArray.mk q1.toArray).size = q1.length := by show q1.toArray.size = _; simp
      have hz2 : (ByteArray.mk q2.toArray).size = q2.length := by show q2.toArray.size = _; simp
      obtain ⟨Q1, hQ1⟩ : ∃ Q1 : ByteArray, ⟨q1.toArray⟩ = Q1 := ⟨_, rfl⟩
      obtain ⟨Q2, hQ2⟩ : ∃ Q2 : ByteArray, ⟨q2.toArray⟩ = Q2 := ⟨_, rfl⟩
      rw [hQ1, hQ2] at hap ⊢
      rw [hQ1] at hz1
      rw [hQ2] at hz2
      have hs1 : Q1.size ≤ 6002 := by omega
      have hs2 : Q2.size ≤ 6002 := by omega
      clear v1 k1 v2 k2 hl1 hl2 hz1 hz2 hQ1 hQ2
      have HAP := Lib.hid hap
      obtain ⟨m, hm⟩ : ∃ m, min Q1.size Q2.size = m := ⟨_, rfl⟩
      have HMM := Lib.hid hm
      have hm1 : m ≤ Q1.size := by omega
      have hm2 : m ≤ Q2.size := by omega
      have hmin : min (Q1.size : Int) (Q2.size : Int) = (m : Int) := by omega
      rw [hm] at hap
      clear hm
      go_wp2_with fail
      go_still_tail 12, (by kernel_rfl)
      change wpList _ _ _ _ _ w2.drew
      have HV3 : Hid (Vars w2.drew) := Lib.hid (HV2.out.below (Below.refl _ w2).drew)
      have HB3 : Hid (Below w.heap.size w w2.drew) := Lib.hid HB2.out.drew
      generalize w2.drew = w3 at HV3 HB3 ⊢
      go_wp2_with (go_at_call 7; refine (wakes_any _ HV3.out).mono ?_; rintro e w4 ⟨rfl, hb4⟩; have HB4 := Lib.hid (HB3.out.trans (hb4.mono HB3.out.size)); clear hb4)
      go_ret
      exact ⟨rfl, HB4.out⟩
    · have hz : ((e2 : Int) != 0) = true := by simp; omega
      clear z2
      go_wp2_with fail
      refine (wakes_any _ HV2.out).mono ?_
      rintro e w3 ⟨rfl, hb3⟩
      have HB3 := Lib.hid (HB2.out.trans (hb3.mono HB2.out.size))
      clear hb3
      go_wp2_with fail
      go_ret
      exact ⟨rfl, HB3.out⟩
  · have hz : ((e1 : Int) != 0) = true := by simp; omega
    clear z1
    go_wp2_with fail
    refine (wakes_any _ HV2.out).mono ?_
    rintro e w3 ⟨rfl, hb3⟩
    have HB3 := Lib.hid (HB2.out.trans (hb3.mono HB2.out.size))
    clear hb3
    go_wp2_with fail
    go_ret
    exact ⟨rfl, HB3.out⟩
end Go.Proofs.YtffamppgnooaeaaDoor
