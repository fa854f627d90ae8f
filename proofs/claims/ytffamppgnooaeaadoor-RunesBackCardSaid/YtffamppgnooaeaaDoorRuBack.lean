/- The law RunesBack. -/
import Derived.Test.YtffamppgnooaeaaDoorRuApart
import Derived.StillTailTactics
import Derived.Deep.QuietTactic
import Derived.BigQuiet
namespace Go.Proofs.YtffamppgnooaeaaDoor
open Go.RowKit Go.Lib
set_option linter.unusedVariables false
set_option linter.unusedSimpArgs false

theorem unqL_len : ∀ (k : Nat) (l out : List UInt8) (pos : Nat), l.length ≤ k → (unqL l out pos).1.length ≤ out.length + l.length
  | _, [], out, pos, _ => by rw [unqL_nil]; simp
  | 0, _ :: _, _, _, hk => by simp at hk
  | k + 1, c :: r, out, pos, hk => by
    rw [unqL_step _ _ _ (by simp)]
    split
    · simp
    · split
      · split
        · simp
        · rename_i h0
          have h1 := unqL_len k ((c :: r).drop (escL (c :: r)).2) (out ++ (escL (c :: r)).1) (pos + (escL (c :: r)).2) (by rw [List.length_drop]; omega)
          have h2 := escL_len (c :: r)
          have h3 := escL_le (c :: r)
          rw [List.length_append, List.length_drop] at h1
          omega
      · split
        · simp
        · rename_i h0
          have h1 := unqL_len k ((c :: r).drop (oneL (c :: r)).2) (out ++ (c :: r).take (oneL (c :: r)).2) (pos + (oneL (c :: r)).2) (by rw [List.length_drop]; omega)
          have h3 := oneL_le (c :: r)
          rw [List.length_append, List.length_drop, List.length_take] at h1
          omega
theorem unquoteL_len {b t : List UInt8} {i e f : Int} (h : unquoteL b i = (t, e, f)) : t.length ≤ b.length := by
  unfold unquoteL at h
  split at h
  · injection h with h _; subst h; simp
  · split at h
    · injection h with h _; subst h; simp
    · simp only at h
      have := unqL_len _ (b.drop (i.toNat + 1)) [] (i.toNat + 1) (Nat.le_refl _)
      injection h with h _
      rw [h, List.length_drop] at this
      simp at this
      omega
theorem quoteR_valid {l : List UInt8} (h : validD l = true) : quoteR l = (quoteB l, 0) := by unfold quoteR; rw [if_pos h]
theorem quoteR_not {l : List UInt8} (h : validD l = false) : quoteR l = ([], 10) := by unfold quoteR; rw [if_neg (by rw [h]; simp)]
/-- a text of bytes that a list tells -/
theorem ba_of (l : List UInt8) : ∃ B : ByteArray, B = ⟨l.toArray⟩ ∧ B.data.toList = l ∧ B.size = l.length := ⟨⟨l.toArray⟩, rfl, by simp, by show l.toArray.size = _; simp⟩
theorem app_list (a b : ByteArray) : (a ++ b).data.toList = a.data.toList ++ b.data.toList := by simp [ByteArray.data_append]
set_option maxRecDepth 100000 in
set_option maxHeartbeats 8000000 in
theorem runesBack_walk (w : World) (hv : Vars w) (s : ByteArray) (hs : s.size ≤ 9223372036854775807) (t : ByteArray) (ht : t.size ≤ 9223372036854775807) :
    Calls Tryd.prog 4 #[.string s, .string t] w (Yes w) := by
  have HV := Lib.hid hv
  clear hv
  by_cases hbig : 1000 < s.size ∨ 1000 < t.size
  · have c3 : 1000 < s.size ∨ s.size ≤ 1000 ∧ 1000 < t.size := by omega
    clear hbig
    rcases c3 with c3 | ⟨c3, c4⟩
    all_goals
      go_enter Tryd.func4, Tryd.ntmps4
      go_wp2_with fail
      refine (wakes_any _ HV.out).mono ?_
      rintro e w1 ⟨rfl, hb⟩
      have HB := Lib.hid hb
      clear hb
      go_wp2_with fail
      go_ret
      exact ⟨rfl, HB.out⟩
  have g1 : s.size ≤ 1000 := by omega
  have g2 : t.size ≤ 1000 := by omega
  clear hbig hs ht
  have HQ1 := Lib.hid (quote_any s w (by omega) HV.out.u8)
  have HSZ := Lib.hid (Lib.size_eq s)
  have HTZ := Lib.hid (Lib.size_eq t)
  obtain ⟨u, hu⟩ : ∃ u, unquoteL t.data.toList 0 = u := ⟨_, rfl⟩
  obtain ⟨u1, u2, u3⟩ := u
  have HU := Lib.hid hu
  have HUL := Lib.hid (unquoteL_len hu)
  clear hu
  obtain ⟨U, hU, hUd, hUz⟩ := ba_of u1
  have HUE := Lib.hid hU
  have HUD := Lib.hid hUd
  have gU : U.size ≤ 1000 := by have := HUL.out; have := HTZ.out; omega
  clear hU hUd hUz
  rcases hvb : validD s.data.toList with _ | _
  · have HVB := Lib.hid hvb
    have HR := Lib.hid (quoteR_not hvb)
    clear hvb
    go_enter Tryd.func4, Tryd.ntmps4
    go_wp2_with fail
    refine HQ1.out.mono ?_
    rintro e wx ⟨rfl, hb1⟩
    rw [HR.out]
    have HBX := Lib.hid hb1
    have HVX := Lib.hid (HV.out.below hb1)
    clear hb1 HQ1 HR
    go_wp2_with fail
    refine (unquote_any t 0 (by omega) (by omega) (by omega) wx HVX.out).mono ?_
    rintro e w5 ⟨rfl, hb5⟩
    rw [HU.out, show (ByteArray.mk (u1, u2, u3).1.toArray) = U from HUE.out.symm]
    have HB5 := Lib.hid (HBX.out.trans (hb5.mono HBX.out.size))
    have HV5 := Lib.hid (HVX.out.below hb5)
    clear hb5 HBX HVX
    simp only
    by_cases z : u3 = 0
    · subst z
      have HUV := Lib.hid (unquote_valid HU.out)
      have HR2 := Lib.hid (quoteR_valid HUV.out)
      have HUQ2 := Lib.hid (unquote_quote HUV.out [])
      have hql := quoteB_len u1
      have hqf := flat_len u1
      obtain ⟨R, hR, hRd, hRz⟩ := ba_of (quoteB u1)
      have gR : R.size ≤ 6002 := by have := HUL.out; have := HTZ.out; omega
      have HRE := Lib.hid hR
      have HRD := Lib.hid hRd
      have HRZ := Lib.hid hRz
      clear hR hRd hRz hql hqf
      go_wp2_with fail
      refine (quote_any U w5 (by omega) HV5.out.u8).mono ?_
      rintro e w6 ⟨rfl, hb6⟩
      rw [HUD.out, HR2.out, show (ByteArray.mk (quoteB u1, 0).1.toArray) = R from HRE.out.symm]
      have HB6 := Lib.hid (HB5.out.trans (hb6.mono HB5.out.size))
      have HV6 := Lib.hid (HV5.out.below hb6)
      clear hb6
      simp only
      go_wp2_with fail
      refine (unquote_any R 0 (by omega) (by omega) (by omega) w6 HV6.out).mono ?_
      rintro e w7 ⟨rfl, hb7⟩
      have e7 : unquoteL R.data.toList 0 = (u1, (R.size : Int), 0) := by rw [HRD.out, HRZ.out]; have := HUQ2.out; rwa [List.append_nil] at this
      rw [e7, show (ByteArray.mk (u1, (R.size : Int), (0 : Int)).1.toArray) = U from HUE.out.symm]
      have HB7 := Lib.hid (HB6.out.trans (hb7.mono HB6.out.size))
      have HV7 := Lib.hid (HV6.out.below hb7)
      clear hb7 e7
      simp only
      go_wp2_with fail
      refine (rvalid_any s w7 (by omega) HV7.out.u8).mono ?_
      rintro e w8 ⟨rfl, hb8⟩
      rw [HVB.out]
      have HB8 := Lib.hid (HB7.out.trans (hb8.mono HB7.out.size))
      have HV8 := Lib.hid (HV7.out.below hb8)
      clear hb8
      go_wp2_with fail
      refine (wakes_any _ HV8.out).mono ?_
      rintro e w9 ⟨rfl, hb9⟩
      have HB9 := Lib.hid (HB8.out.trans (hb9.mono HB8.out.size))
      clear hb9
      go_wp2_with fail
      go_ret
      exact ⟨rfl, HB9.out⟩
    · have hz : (u3 == 0) = false := by simp; omega
      clear z
      go_wp2_with fail
      refine (rvalid_any s w5 (by omega) HV5.out.u8).mono ?_
      rintro e w8 ⟨rfl, hb8⟩
      rw [HVB.out]
      have HB8 := Lib.hid (HB5.out.trans (hb8.mono HB5.out.size))
      have HV8 := Lib.hid (HV5.out.below hb8)
      clear hb8
      go_wp2_with fail
      refine (wakes_any _ HV8.out).mono ?_
      rintro e w9 ⟨rfl, hb9⟩
      have HB9 := Lib.hid (HB8.out.trans (hb9.mono HB8.out.size))
      clear hb9
      go_wp2_with fail
      go_ret
      exact ⟨rfl, HB9.out⟩
  · have HVB := Lib.hid hvb
    have HR := Lib.hid (quoteR_valid hvb)
    have HUQ := Lib.hid (unquote_quote hvb t.data.toList)
    have HQV := Lib.hid (quoteB_valid hvb)
    have HQL := Lib.hid (quoteB_len s.data.toList)
    have HQF := Lib.hid (flat_len s.data.toList)
    clear hvb
    obtain ⟨Q, hQ, hQd, hQz⟩ := ba_of (quoteB s.data.toList)
    have HQD := Lib.hid hQd
    have HQE := Lib.hid hQ
    have gQ : Q.size ≤ 6002 := by have := HQL.out; have := HQF.out; have := HSZ.out; omega
    have HQZ := Lib.hid hQz
    clear hQ hQd hQz
    go_enter Tryd.func4, Tryd.ntmps4
    go_wp2_with fail
    refine HQ1.out.mono ?_
    rintro e w1 ⟨rfl, hb1⟩
    rw [HR.out]
    rw [show (ByteArray.mk (quoteB s.data.toList, 0).1.toArray) = Q from HQE.out.symm]
    have HB1 := Lib.hid hb1
    have HV1 := Lib.hid (HV.out.below hb1)
    clear hb1 HQ1 HR
    go_wp2_with fail
    refine (unquote_any (Q ++ t) 0 (by omega) (by omega) (by rw [ByteArray.size_append]; omega) w1 HV1.out).mono ?_
    rintro e w2 ⟨rfl, hb2⟩
    rw [app_list, HQD.out, HUQ.out, show (ByteArray.mk (s.data.toList, ((quoteB s.data.toList).length : Int), (0 : Int)).1.toArray) = s from by simp, ← HQZ.out]
    have HB2 := Lib.hid (HB1.out.trans (hb2.mono HB1.out.size))
    have HV2 := Lib.hid (HV1.out.below hb2)
    clear hb2 HUQ
    go_wp2_with fail
    refine (rvalid_any s w2 (by omega) HV2.out.u8).mono ?_
    rintro e w3 ⟨rfl, hb3⟩
    rw [HVB.out]
    have HB3 := Lib.hid (HB2.out.trans (hb3.mono HB2.out.size))
    have HV3 := Lib.hid (HV2.out.below hb3)
    clear hb3
    go_wp2_with fail
    refine (rvalid_any Q w3 (by omega) HV3.out.u8).mono ?_
    rintro e wx ⟨rfl, hb4⟩
    rw [HQD.out, HQV.out]
    have HBX := Lib.hid (HB3.out.trans (hb4.mono HB3.out.size))
    have HVX := Lib.hid (HV3.out.below hb4)
    clear hb4
    go_wp2_with fail
    refine (unquote_any t 0 (by omega) (by omega) (by omega) wx HVX.out).mono ?_
    rintro e w5 ⟨rfl, hb5⟩
    rw [HU.out, show (ByteArray.mk (u1, u2, u3).1.toArray) = U from HUE.out.symm]
    have HB5 := Lib.hid (HBX.out.trans (hb5.mono HBX.out.size))
    have HV5 := Lib.hid (HVX.out.below hb5)
    clear hb5 HBX HVX
    simp only
    by_cases z : u3 = 0
    · subst z
      have HUV := Lib.hid (unquote_valid HU.out)
      have HR2 := Lib.hid (quoteR_valid HUV.out)
      have HUQ2 := Lib.hid (unquote_quote HUV.out [])
      have hql := quoteB_len u1
      have hqf := flat_len u1
      obtain ⟨R, hR, hRd, hRz⟩ := ba_of (quoteB u1)
      have gR : R.size ≤ 6002 := by have := HUL.out; have := HTZ.out; omega
      have HRE := Lib.hid hR
      have HRD := Lib.hid hRd
      have HRZ := Lib.hid hRz
      clear hR hRd hRz hql hqf
      go_wp2_with fail
      refine (quote_any U w5 (by omega) HV5.out.u8).mono ?_
      rintro e w6 ⟨rfl, hb6⟩
      rw [HUD.out, HR2.out, show (ByteArray.mk (quoteB u1, 0).1.toArray) = R from HRE.out.symm]
      have HB6 := Lib.hid (HB5.out.trans (hb6.mono HB5.out.size))
      have HV6 := Lib.hid (HV5.out.below hb6)
      clear hb6
      simp only
      go_wp2_with fail
      refine (unquote_any R 0 (by omega) (by omega) (by omega) w6 HV6.out).mono ?_
      rintro e w7 ⟨rfl, hb7⟩
      have e7 : unquoteL R.data.toList 0 = (u1, (R.size : Int), 0) := by rw [HRD.out, HRZ.out]; have := HUQ2.out; rwa [List.append_nil] at this
      rw [e7, show (ByteArray.mk (u1, (R.size : Int), (0 : Int)).1.toArray) = U from HUE.out.symm]
      have HB7 := Lib.hid (HB6.out.trans (hb7.mono HB6.out.size))
      have HV7 := Lib.hid (HV6.out.below hb7)
      clear hb7 e7
      simp only
      go_wp2_with fail
      refine (rvalid_any s w7 (by omega) HV7.out.u8).mono ?_
      rintro e w8 ⟨rfl, hb8⟩
      rw [HVB.out]
      have HB8 := Lib.hid (HB7.out.trans (hb8.mono HB7.out.size))
      have HV8 := Lib.hid (HV7.out.below hb8)
      clear hb8
      go_wp2_with fail
      refine (wakes_any _ HV8.out).mono ?_
      rintro e w9 ⟨rfl, hb9⟩
      have HB9 := Lib.hid (HB8.out.trans (hb9.mono HB8.out.size))
      clear hb9
      go_wp2_with fail
      go_ret
      exact ⟨rfl, HB9.out⟩
    · have hz : (u3 == 0) = false := by simp; omega
      clear z
      go_wp2_with fail
      refine (rvalid_any s w5 (by omega) HV5.out.u8).mono ?_
      rintro e w8 ⟨rfl, hb8⟩
      rw [HVB.out]
      have HB8 := Lib.hid (HB5.out.trans (hb8.mono HB5.out.size))
      have HV8 := Lib.hid (HV5.out.below hb8)
      clear hb8
      go_wp2_with fail
      refine (wakes_any _ HV8.out).mono ?_
      rintro e w9 ⟨rfl, hb9⟩
      have HB9 := Lib.hid (HB8.out.trans (hb9.mono HB8.out.size))
      clear hb9
      go_wp2_with fail
      go_ret
      exact ⟨rfl, HB9.out⟩
end Go.Proofs.YtffamppgnooaeaaDoor
