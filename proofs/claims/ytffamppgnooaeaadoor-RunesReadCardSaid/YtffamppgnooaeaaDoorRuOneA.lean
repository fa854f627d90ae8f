/- hoardingref01.One, walked. -/
import Derived.Test.YtffamppgnooaeaaDoorRuOne3
import Derived.Test.YtffamppgnooaeaaDoorRuOne4
namespace Go.Proofs.YtffamppgnooaeaaDoor
open Go.RowKit Go.Lib
set_option linter.unusedVariables false
set_option linter.unusedSimpArgs false
set_option maxRecDepth 100000
set_option maxRecDepth 100000 in
set_option maxHeartbeats 8000000 in
theorem one_any (s : ByteArray) (i : Nat) (hi : i ≤ s.size) (hs : s.size ≤ 30000) (w : World) : Calls Tryd.prog 13 #[.string s, .int .i64 (i : Nat)] w (OneP (s.data.toList.drop i) w) := by
  have HSZ := Lib.hid (Lib.size_eq s)
  by_cases he : i = s.size
  · have HE := Lib.hid (show oneL (s.data.toList.drop i) = (0, 0) by rw [List.drop_of_length_le (by have := HSZ.out; omega)]; rfl)
    subst he
    go_enter Tryd.func13, Tryd.ntmps13
    go_wp2_with fail
    go_ret2
    exact one_none HE.out
  have hlt : i < s.size := by omega
  clear hi he
  obtain ⟨x, hx⟩ : ∃ x, s[i] = x := ⟨_, rfl⟩
  have HX := Lib.hid hx
  have HO : Hid (∃ n b1 b2 b3, 1 ≤ n ∧ n = s.size - i ∧ b1 = nb s.data.toList (i + 1) ∧ b2 = nb s.data.toList (i + 2) ∧ b3 = nb s.data.toList (i + 3) ∧ oneL (s.data.toList.drop i) = oneN n x.toNat b1 b2 b3) := Lib.hid (by
    refine ⟨_, _, _, _, ?_, rfl, rfl, rfl, rfl, ?_⟩
    · omega
    · unfold oneL; rw [nb_drop, nb_drop, nb_drop, nb_drop, List.length_drop, Nat.add_zero, nb_at s i hlt hx, ← HSZ.out])
  obtain ⟨c, hc⟩ : ∃ c, x.toNat = c := ⟨_, rfl⟩
  have hc256 : c < 256 := by rw [← hc]; exact x.toNat_lt
  rw [hc] at HO
  have hci : (x.toNat : Int) = (c : Int) := by omega
  have HC := Lib.hid hc
  clear hc
  by_cases c1 : c < 128
  · have HE := Lib.hid (show oneL (s.data.toList.drop i) = (c, 1) by obtain ⟨n, b1, b2, b3, h, _, _, _, _, e⟩ := HO.out; rw [e, oneN_asc h c1])
    go_enter Tryd.func13, Tryd.ntmps13
    go_wp2_with fail
    go_ret2
    exact one_some HE.out rfl rfl
  by_cases c2 : c < 192 ∨ 248 ≤ c
  · have HE := Lib.hid (show oneL (s.data.toList.drop i) = (0, 0) by obtain ⟨n, b1, b2, b3, h, _, _, _, _, e⟩ := HO.out; rw [e, oneN_0 (by omega) c2])
    rcases c2 with c2 | c2
    all_goals
      go_enter Tryd.func13, Tryd.ntmps13
      go_wp2_with fail
      go_ret2
      exact one_none HE.out
  by_cases c3 : c < 224
  · have hand : bits .and .i64 (c : Int) 31 = ((c % 32 : Nat) : Int) := and31 ⟨c, hc256⟩
    by_cases hn : s.size < i + 2
    · have HE := Lib.hid (show oneL (s.data.toList.drop i) = (0, 0) by obtain ⟨n, b1, b2, b3, h, hn, _, _, _, e⟩ := HO.out; rw [e, oneN_2 h (by omega) c3, if_pos (.inl (by omega))])
      go_enter Tryd.func13, Tryd.ntmps13
      go_wp2_with fail
      go_ret2
      exact one_none HE.out
    have hlt1 : i + 1 < s.size := by omega
    obtain ⟨y, hy⟩ : ∃ y, s[i + 1] = y := ⟨_, rfl⟩
    have HB1 := Lib.hid (nb_at s (i + 1) hlt1 hy)
    obtain ⟨d, hd⟩ : ∃ d, y.toNat = d := ⟨_, rfl⟩
    have hdi : (y.toNat : Int) = (d : Int) := by omega
    rw [hd] at HB1
    have hd256 : d < 256 := by rw [← hd]; exact y.toNat_lt
    clear hd
    have HE := Lib.hid (show oneL (s.data.toList.drop i) = if d < 128 ∨ 191 < d ∨ c % 32 * 64 + d - 128 < 128 then (0, 0) else (c % 32 * 64 + d - 128, 2) by
      obtain ⟨n, b1, b2, b3, h, hn, h1, _, _, e⟩ := HO.out
      rw [e, oneN_2 h (by omega) c3, h1, HB1.out]
      congr 1
      simp only [eq_iff_iff]
      omega)
    obtain ⟨m, hm⟩ : ∃ m, c % 32 = m := ⟨_, rfl⟩
    rw [hm] at HE hand
    have hm32 : m < 32 := by omega
    clear hm
    by_cases d1 : d < 128
    · rw [if_pos (.inl d1)] at HE
      go_enter Tryd.func13, Tryd.ntmps13
      go_wp2_with fail
      refine wp_loop_rounds 1 ?_
      rw [rounds_succ]
      go_wp2_with fail
      go_ret2
      exact one_none HE.out
    by_cases d2 : 191 < d
    · rw [if_pos (.inr (.inl d2))] at HE
      go_enter Tryd.func13, Tryd.ntmps13
      go_wp2_with fail
      refine wp_loop_rounds 1 ?_
      rw [rounds_succ]
      go_wp2_with fail
      go_ret2
      exact one_none HE.out
    by_cases d3 : m * 64 + d - 128 < 128
    · rw [if_pos (.inr (.inr d3))] at HE
      go_enter Tryd.func13, Tryd.ntmps13
      go_wp2_with fail
      refine wp_loop_rounds 2 ?_
      rw [rounds_succ]
      go_wp2_with fail
      rw [rounds_succ]
      go_wp2_with fail
      go_ret2
      exact one_none HE.out
    rw [if_neg (by omega)] at HE
    go_enter Tryd.func13, Tryd.ntmps13
    go_wp2_with fail
    refine wp_loop_rounds 2 ?_
    rw [rounds_succ]
    go_wp2_with fail
    rw [rounds_succ]
    go_wp2_with fail
    go_ret2
    exact one_some HE.out (by omega) rfl
  have hxs := HX.out
  by_cases c4 : c < 240
  · exact one3 s i hlt hs w x HX c hci (by omega) c4 HO
  · exact one4 s i hlt hs w x HX c hci (by omega) (by omega) HO
end Go.Proofs.YtffamppgnooaeaaDoor
