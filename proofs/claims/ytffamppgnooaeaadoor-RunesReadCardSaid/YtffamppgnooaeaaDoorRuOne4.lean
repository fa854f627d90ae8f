/- hoardingref01.One: a rune of 4 bytes. -/
import Derived.Test.YtffamppgnooaeaaDoorRuOneB
namespace Go.Proofs.YtffamppgnooaeaaDoor
open Go.RowKit Go.Lib
set_option linter.unusedVariables false
set_option linter.unusedSimpArgs false
set_option maxRecDepth 100000

set_option maxHeartbeats 8000000 in
theorem one4 (s : ByteArray) (i : Nat) (hlt : i < s.size) (hs : s.size ≤ 30000) (w : World) (x : UInt8) (HX : Hid (s[i] = x)) (c : Nat) (hci : (x.toNat : Int) = (c : Int)) (clo : 240 ≤ c) (chi : c < 248)
    (HO : Hid (∃ n b1 b2 b3, 1 ≤ n ∧ n = s.size - i ∧ b1 = nb s.data.toList (i + 1) ∧ b2 = nb s.data.toList (i + 2) ∧ b3 = nb s.data.toList (i + 3) ∧ oneL (s.data.toList.drop i) = oneN n c b1 b2 b3)) :
    Calls Tryd.prog 13 #[.string s, .int .i64 (i : Nat)] w (OneP (s.data.toList.drop i) w) := by
  have hx := HX.out
  have hand : bits .and .i64 (c : Int) 7 = ((c % 8 : Nat) : Int) := and7 ⟨c, by omega⟩
  by_cases hn : s.size < i + 4
  · have HE := Lib.hid (show oneL (s.data.toList.drop i) = (0, 0) by obtain ⟨n, b1, b2, b3, h, hn, _, _, _, e⟩ := HO.out; rw [e, oneN_4 h clo chi, if_pos (.inl (by omega))])
    go_enter Tryd.func13, Tryd.ntmps13
    go_wp2_with fail
    go_ret2
    exact one_none HE.out
  have hlt1 : i + 1 < s.size := by omega
  obtain ⟨y, hy⟩ : ∃ y, s[i + 1] = y := ⟨_, rfl⟩
  have HB1 := Lib.hid (nb_at s (i + 1) hlt1 hy)
  obtain ⟨d, hd⟩ : ∃ d, y.toNat = d := ⟨_, rfl⟩
  have hdi : (y.toNat : Int) = (d : Int) := by omega
  rw [hd] at HB1
  have hd256 : d < 256 := by rw [← hd]; exact y.toNat_lt
  clear hd
  have hlt2 : i + 2 < s.size := by omega
  obtain ⟨z, hz⟩ : ∃ z, s[i + 2] = z := ⟨_, rfl⟩
  have HB2 := Lib.hid (nb_at s (i + 2) hlt2 hz)
  obtain ⟨g, hg⟩ : ∃ g, z.toNat = g := ⟨_, rfl⟩
  have hgi : (z.toNat : Int) = (g : Int) := by omega
  rw [hg] at HB2
  have hg256 : g < 256 := by rw [← hg]; exact z.toNat_lt
  clear hg
  have hlt3 : i + 3 < s.size := by omega
  obtain ⟨t, ht⟩ : ∃ t, s[i + 3] = t := ⟨_, rfl⟩
  have HB3 := Lib.hid (nb_at s (i + 3) hlt3 ht)
  obtain ⟨h, hh⟩ : ∃ h, t.toNat = h := ⟨_, rfl⟩
  have hhi : (t.toNat : Int) = (h : Int) := by omega
  rw [hh] at HB3
  have hh256 : h < 256 := by rw [← hh]; exact t.toNat_lt
  clear hh
  have HE := Lib.hid (show oneL (s.data.toList.drop i) = if d < 128 ∨ 191 < d ∨ g < 128 ∨ 191 < g ∨ h < 128 ∨ 191 < h ∨ ((c % 8 * 64 + d - 128) * 64 + g - 128) * 64 + h - 128 < 65536 ∨ 1114111 < ((c % 8 * 64 + d - 128) * 64 + g - 128) * 64 + h - 128 then (0, 0) else (((c % 8 * 64 + d - 128) * 64 + g - 128) * 64 + h - 128, 4) by
    obtain ⟨n, b1, b2, b3, h, hn, h1, h2, h3, e⟩ := HO.out
    rw [e, oneN_4 h clo chi, h1, HB1.out, h2, HB2.out, h3, HB3.out]
    congr 1
    simp only [eq_iff_iff]
    omega)
  clear HO HX
  obtain ⟨m, hm⟩ : ∃ m, c % 8 = m := ⟨_, rfl⟩
  rw [hm] at HE hand
  have hm1 : m < 8 := by omega
  clear hm
  by_cases e1 : d < 128
  · rw [if_pos (.inl e1)] at HE
    go_enter Tryd.func13, Tryd.ntmps13
    go_wp2_with fail
    refine wp_loop_rounds 1 ?_
    rw [rounds_succ]
    go_wp2_with fail
    go_ret2
    exact one_none HE.out
  have f0 := e1
  clear e1
  by_cases e1 : 191 < d
  · rw [if_pos (.inr (.inl e1))] at HE
    go_enter Tryd.func13, Tryd.ntmps13
    go_wp2_with fail
    refine wp_loop_rounds 1 ?_
    rw [rounds_succ]
    go_wp2_with fail
    go_ret2
    exact one_none HE.out
  have f1 := e1
  clear e1
  by_cases e1 : g < 128
  · rw [if_pos (.inr (.inr (.inl e1)))] at HE
    go_enter Tryd.func13, Tryd.ntmps13
    go_wp2_with fail
    refine wp_loop_rounds 2 ?_
    rw [rounds_succ]
    go_wp2_with fail
    rw [rounds_succ]
    go_wp2_with fail
    go_ret2
    exact one_none HE.out
  have f2 := e1
  clear e1
  by_cases e1 : 191 < g
  · rw [if_pos (.inr (.inr (.inr (.inl e1))))] at HE
    go_enter Tryd.func13, Tryd.ntmps13
    go_wp2_with fail
    refine wp_loop_rounds 2 ?_
    rw [rounds_succ]
    go_wp2_with fail
    rw [rounds_succ]
    go_wp2_with fail
    go_ret2
    exact one_none HE.out
  have f3 := e1
  clear e1
  by_cases e1 : h < 128
  · rw [if_pos (.inr (.inr (.inr (.inr (.inl e1)))))] at HE
    go_enter Tryd.func13, Tryd.ntmps13
    go_wp2_with fail
    refine wp_loop_rounds 3 ?_
    rw [rounds_succ]
    go_wp2_with fail
    rw [rounds_succ]
    go_wp2_with fail
    rw [rounds_succ]
    go_wp2_with fail
    go_ret2
    exact one_none HE.out
  have f4 := e1
  clear e1
  by_cases e1 : 191 < h
  · rw [if_pos (.inr (.inr (.inr (.inr (.inr (.inl e1))))))] at HE
    go_enter Tryd.func13, Tryd.ntmps13
    go_wp2_with fail
    refine wp_loop_rounds 3 ?_
    rw [rounds_succ]
    go_wp2_with fail
    rw [rounds_succ]
    go_wp2_with fail
    rw [rounds_succ]
    go_wp2_with fail
    go_ret2
    exact one_none HE.out
  have f5 := e1
  clear e1
  by_cases e1 : ((m * 64 + d - 128) * 64 + g - 128) * 64 + h - 128 < 65536
  · rw [if_pos (.inr (.inr (.inr (.inr (.inr (.inr (.inl e1)))))))] at HE
    go_enter Tryd.func13, Tryd.ntmps13
    go_wp2_with fail
    refine wp_loop_rounds 4 ?_
    rw [rounds_succ]
    go_wp2_with fail
    rw [rounds_succ]
    go_wp2_with fail
    rw [rounds_succ]
    go_wp2_with fail
    rw [rounds_succ]
    go_wp2_with fail
    go_ret2
    exact one_none HE.out
  have f6 := e1
  clear e1
  by_cases e1 : 1114111 < ((m * 64 + d - 128) * 64 + g - 128) * 64 + h - 128
  · rw [if_pos (.inr (.inr (.inr (.inr (.inr (.inr (.inr (e1))))))))] at HE
    go_enter Tryd.func13, Tryd.ntmps13
    go_wp2_with fail
    refine wp_loop_rounds 4 ?_
    rw [rounds_succ]
    go_wp2_with fail
    rw [rounds_succ]
    go_wp2_with fail
    rw [rounds_succ]
    go_wp2_with fail
    rw [rounds_succ]
    go_wp2_with fail
    go_ret2
    exact one_none HE.out
  have f7 := e1
  clear e1
  rw [if_neg (by omega)] at HE
  go_enter Tryd.func13, Tryd.ntmps13
  go_wp2_with fail
  refine wp_loop_rounds 4 ?_
  rw [rounds_succ]
  go_wp2_with fail
  rw [rounds_succ]
  go_wp2_with fail
  rw [rounds_succ]
  go_wp2_with fail
  rw [rounds_succ]
  go_wp2_with fail
  go_ret2
  exact one_some HE.out (by omega) rfl
end Go.Proofs.YtffamppgnooaeaaDoor
