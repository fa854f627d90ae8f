/- hoardingref01.escape. -/
import Derived.Test.YtffamppgnooaeaaDoorRuRef1
import Derived.Test.YtffamppgnooaeaaDoorRuRef2
import Derived.Test.YtffamppgnooaeaaDoorRuEsc3
namespace Go.Proofs.YtffamppgnooaeaaDoor
open Go.RowKit
set_option linter.unusedVariables false
set_option linter.unusedSimpArgs false
set_option maxRecDepth 1000000

theorem nb_at' (s : ByteArray) (i : Nat) (h : i < s.size) {x : UInt8} (hx : s[i] = x) : nb s.data.toList i = x.toNat := by
  unfold nb; rw [List.getD_eq_getElem?_getD, Lib.data_getElem? s i h, hx]; rfl
theorem bytes_of {a : ByteArray} {l : List UInt8} (h : a.data.toList = l) : a = ⟨l.toArray⟩ := by
  cases a; subst h; simp
theorem escL_at {l : List UInt8} {i c : Nat} (h : i + 1 < l.length) (hc : nb l (i + 1) = c) : escL (l.drop i) =
    if c = 34 ∨ c = 92 ∨ c = 47 then ([UInt8.ofNat c], 2) else if c = 98 then ([8], 2) else if c = 102 then ([12], 2) else if c = 110 then ([10], 2) else if c = 114 then ([13], 2) else if c = 116 then ([9], 2)
    else if c = 117 then (match fourL l (i + 2) with
      | none => ([], 0)
      | some r => if 56320 ≤ r ∧ r ≤ 57343 then ([], 0) else if r < 55296 ∨ 57343 < r then (uB r, 6) else pairL (l.drop i) r)
    else ([], 0) := by
  unfold escL
  rw [if_neg (by rw [List.length_drop]; omega)]
  simp only [nb_drop, hc, fourL_drop l i 2 (by omega)]
  rfl
theorem pairL_at {l : List UInt8} {i r : Nat} (h : i ≤ l.length) : pairL (l.drop i) r =
    if l.length < i + 8 ∨ nb l (i + 6) ≠ 92 ∨ nb l (i + 7) ≠ 117 then ([], 0) else match fourL l (i + 8) with
    | none => ([], 0)
    | some low => if low < 56320 ∨ 57343 < low then ([], 0) else (uB (65536 + 1024 * (r - 55296) + (low - 56320)), 12) := by
  unfold pairL
  rw [nb_drop, nb_drop, fourL_drop l i 8 h, List.length_drop]
  congr 1
  simp only [eq_iff_iff]
  omega
theorem pair_z2 {r low : Nat} (hr : 55296 ≤ r) (hr2 : r ≤ 56319) (hl : 56320 ≤ low) (hl2 : low ≤ 57343) :
    ∃ z : Nat, 65536 + 1024 * (r - 55296) + (low - 56320) = z ∧ (65536 : Int) + 1024 * ((r : Int) - 55296) + (low : Int) - 56320 = (z : Int) ∧ z < 1114112 := ⟨_, rfl, by omega, by omega⟩
theorem esc_no {l : List UInt8} {i : Nat} {w w' : World} (h : escL (l.drop i) = ([], 0)) (hb : Below w.heap.size w w') : EscP l i w (.returned (.tuple #[.string ⟨#[]⟩, .int .i64 0])) w' := ⟨by rw [h]; rfl, hb⟩
theorem esc_yes {l s : List UInt8} {i n : Nat} {w w' : World} {x : Int} {t : ByteArray} (h : escL (l.drop i) = (s, n)) (hx : x = (n : Int)) (ht : t = ⟨s.toArray⟩) (hb : Below w.heap.size w w') : EscP l i w (.returned (.tuple #[.string t, .int .i64 x])) w' := ⟨by rw [h, hx, ht], hb⟩

set_option maxHeartbeats 8000000 in
theorem rescape_u (b : ByteArray) (i : Nat) (hb : b.size ≤ 30000) (hlt1 : i + 1 < b.size) (y : UInt8) (HYB : Hid (b[i + 1] = y)) (HC : Hid (y.toNat = 117)) (HSZ : Hid (b.size = b.data.toList.length)) (w : World) :
    Calls Tryd.prog 18 #[.string b, .int .i64 (i : Nat)] w (EscP b.data.toList i w) := by
  have hy := HYB.out
  have hci : (y.toNat : Int) = 117 := by rw [HC.out]; rfl
  have HES : Hid (escL (b.data.toList.drop i) = (match fourL b.data.toList (i + 2) with
      | none => ([], 0)
      | some r => if 56320 ≤ r ∧ r ≤ 57343 then ([], 0) else if r < 55296 ∨ 57343 < r then (uB r, 6) else pairL (b.data.toList.drop i) r)) := Lib.hid (by
    rw [escL_at (by have := HSZ.out; omega) ((nb_at' b (i + 1) hlt1 hy).trans HC.out)]
    rfl)
  have HF := Lib.hid (rfour_any b (i + 2) hb (by omega) w)
  rcases h4 : fourL b.data.toList (i + 2) with _ | r
  · have HE := Lib.hid (show escL (b.data.toList.drop i) = ([], 0) by rw [HES.out, h4])
    have HX := Lib.hid (show four2 (fourL b.data.toList (i + 2)) = -1 by rw [h4]; rfl)
    clear h4
    go_enter Tryd.func18, Tryd.ntmps18
    go_wp2_with fail
    refine HF.out.mono ?_
    rintro e w1 ⟨rfl, rfl⟩
    rw [HX.out]
    go_wp2_with fail
    go_ret2
    exact esc_no HE.out (Below.refl _ _)
  have hr64 := fourL_lt h4
  have HX := Lib.hid (show four2 (fourL b.data.toList (i + 2)) = (r : Int) by rw [h4]; rfl)
  have HES2 : Hid (escL (b.data.toList.drop i) = if 56320 ≤ r ∧ r ≤ 57343 then ([], 0) else if r < 55296 ∨ 57343 < r then (uB r, 6) else pairL (b.data.toList.drop i) r) := Lib.hid (by rw [HES.out, h4])
  clear h4 HES
  by_cases c1 : 56320 ≤ r ∧ r ≤ 57343
  · have HE := Lib.hid (show escL (b.data.toList.drop i) = ([], 0) by rw [HES2.out, if_pos c1])
    obtain ⟨c1, c2⟩ := c1
    go_enter Tryd.func18, Tryd.ntmps18
    go_wp2_with fail
    refine HF.out.mono ?_
    rintro e w1 ⟨rfl, rfl⟩
    rw [HX.out]
    go_wp2_with fail
    go_ret2
    exact esc_no HE.out (Below.refl _ _)
  by_cases c2 : r < 55296 ∨ 57343 < r
  · have HE := Lib.hid (show escL (b.data.toList.drop i) = (uB r, 6) by rw [HES2.out, if_neg c1, if_pos c2])
    have HBY := Lib.hid (rbytes_any r (by omega) w)
    clear c1
    rcases c2 with c2 | c2
    all_goals
      go_enter Tryd.func18, Tryd.ntmps18
      go_wp2_with fail
      refine HF.out.mono ?_
      rintro e w1 ⟨rfl, rfl⟩
      rw [HX.out]
      go_wp2_with fail
      refine HBY.out.mono ?_
      rintro e w2 ⟨rfl, hb2⟩
      have HB2 := Lib.hid hb2
      clear hb2
      go_wp2_with fail
      go_ret2
      exact esc_yes HE.out rfl rfl HB2.out
  have d1 : 55296 ≤ r := by omega
  have d2 : r < 56320 := by omega
  have HES3 : Hid (escL (b.data.toList.drop i) = if b.data.toList.length < i + 8 ∨ nb b.data.toList (i + 6) ≠ 92 ∨ nb b.data.toList (i + 7) ≠ 117 then ([], 0) else match fourL b.data.toList (i + 8) with
    | none => ([], 0)
    | some low => if low < 56320 ∨ 57343 < low then ([], 0) else (uB (65536 + 1024 * (r - 55296) + (low - 56320)), 12)) := Lib.hid (by
      rw [HES2.out, if_neg c1, if_neg c2, pairL_at (by have := HSZ.out; omega)])
  clear c1 c2 HES2
  by_cases e1 : b.size ≤ i + 7
  · have HE := Lib.hid (show escL (b.data.toList.drop i) = ([], 0) by rw [HES3.out, if_pos (.inl (by have := HSZ.out; omega))])
    go_enter Tryd.func18, Tryd.ntmps18
    go_wp2_with fail
    refine HF.out.mono ?_
    rintro e w1 ⟨rfl, rfl⟩
    rw [HX.out]
    go_wp2_with fail
    go_ret2
    exact esc_no HE.out (Below.refl _ _)
  have hlt6 : i + 6 < b.size := by omega
  have hlt7 : i + 7 < b.size := by omega
  have q6 : (0 : Int) ≤ (i : Int) + 6 := by omega
  have q6' : (i : Int) + 6 < (b.size : Int) := by omega
  have q7 : (0 : Int) ≤ (i : Int) + 7 := by omega
  have q7' : (i : Int) + 7 < (b.size : Int) := by omega
  obtain ⟨y6, hy6⟩ : ∃ y6, b[i + 6] = y6 := ⟨_, rfl⟩
  obtain ⟨y7, hy7⟩ : ∃ y7, b[i + 7] = y7 := ⟨_, rfl⟩
  have HN6 := Lib.hid (nb_at' b (i + 6) hlt6 hy6)
  have HN7 := Lib.hid (nb_at' b (i + 7) hlt7 hy7)
  by_cases e2 : y6.toNat = 92
  · have hz6 : ((y6.toNat : Int) != 92) = false := by simp [e2]
    have HE2 := Lib.hid e2
    clear e2
    by_cases e3 : y7.toNat = 117
    · have hz7 : ((y7.toNat : Int) != 117) = false := by simp [e3]
      have HES4 : Hid (escL (b.data.toList.drop i) = match fourL b.data.toList (i + 8) with
        | none => ([], 0)
        | some low => if low < 56320 ∨ 57343 < low then ([], 0) else (uB (65536 + 1024 * (r - 55296) + (low - 56320)), 12)) := Lib.hid (by
          rw [HES3.out, if_neg (by rw [HN6.out, HN7.out]; have := HSZ.out; have := HE2.out; omega)])
      clear e3 HES3
      have HF8 := Lib.hid (rfour_any b (i + 8) hb (by omega) w)
      rcases h8 : fourL b.data.toList (i + 8) with _ | low
      · have HE := Lib.hid (show escL (b.data.toList.drop i) = ([], 0) by rw [HES4.out, h8])
        have HX8 := Lib.hid (show four2 (fourL b.data.toList (i + 8)) = -1 by rw [h8]; rfl)
        clear h8 HES4
        go_enter Tryd.func18, Tryd.ntmps18
        go_wp2_with fail
        refine HF.out.mono ?_
        rintro e w1 ⟨rfl, rfl⟩
        rw [HX.out]
        go_wp2_with fail
        refine HF8.out.mono ?_
        rintro e w1 ⟨rfl, rfl⟩
        rw [HX8.out]
        go_wp2_with fail
        go_ret2
        exact esc_no HE.out (Below.refl _ _)
      have HX8 := Lib.hid (show four2 (fourL b.data.toList (i + 8)) = (low : Int) by rw [h8]; rfl)
      have HES5 : Hid (escL (b.data.toList.drop i) = if low < 56320 ∨ 57343 < low then ([], 0) else (uB (65536 + 1024 * (r - 55296) + (low - 56320)), 12)) := Lib.hid (by rw [HES4.out, h8])
      have hl64 := fourL_lt h8
      clear h8 HES4
      by_cases f1 : low < 56320 ∨ 57343 < low
      · have HE := Lib.hid (show escL (b.data.toList.drop i) = ([], 0) by rw [HES5.out, if_pos f1])
        rcases f1 with f1 | f1
        all_goals
          go_enter Tryd.func18, Tryd.ntmps18
          go_wp2_with fail
          refine HF.out.mono ?_
          rintro e w1 ⟨rfl, rfl⟩
          rw [HX.out]
          go_wp2_with fail
          refine HF8.out.mono ?_
          rintro e w1 ⟨rfl, rfl⟩
          rw [HX8.out]
          go_wp2_with fail
          go_ret2
          exact esc_no HE.out (Below.refl _ _)
      · have f2 : 56320 ≤ low := by omega
        have f3 : low ≤ 57343 := by omega
        obtain ⟨z, hz1, hz2, hz3⟩ := pair_z2 (r := r) (low := low) d1 (by omega) f2 f3
        have HE := Lib.hid (show escL (b.data.toList.drop i) = (uB z, 12) by rw [HES5.out, if_neg f1, hz1])
        have HZ := Lib.hid hz2
        have HBY := Lib.hid (rbytes_any z hz3 w)
        clear f1 hz1 hz2 hz3 HES5
        go_enter Tryd.func18, Tryd.ntmps18
        go_wp2_with fail
        refine HF.out.mono ?_
        rintro e w1 ⟨rfl, rfl⟩
        rw [HX.out]
        go_wp2_with fail
        refine HF8.out.mono ?_
        rintro e w1 ⟨rfl, rfl⟩
        rw [HX8.out]
        go_wp2_with fail
        rw [HZ.out]
        refine HBY.out.mono ?_
        rintro e w2 ⟨rfl, hb2⟩
        have HB2 := Lib.hid hb2
        clear hb2
        go_wp2_with fail
        go_ret2
        exact esc_yes HE.out rfl rfl HB2.out
    · have hz7 : ((y7.toNat : Int) != 117) = true := by simp; omega
      have HE := Lib.hid (show escL (b.data.toList.drop i) = ([], 0) by rw [HES3.out, if_pos (.inr (.inr (by rw [HN7.out]; exact e3)))])
      clear e3
      go_enter Tryd.func18, Tryd.ntmps18
      go_wp2_with fail
      refine HF.out.mono ?_
      rintro e w1 ⟨rfl, rfl⟩
      rw [HX.out]
      go_wp2_with fail

      go_ret2
      exact esc_no HE.out (Below.refl _ _)
  · have hz6 : ((y6.toNat : Int) != 92) = true := by simp; omega
    have HE := Lib.hid (show escL (b.data.toList.drop i) = ([], 0) by rw [HES3.out, if_pos (.inr (.inl (by rw [HN6.out]; exact e2)))])
    clear e2
    go_enter Tryd.func18, Tryd.ntmps18
    go_wp2_with fail
    refine HF.out.mono ?_
    rintro e w1 ⟨rfl, rfl⟩
    rw [HX.out]
    go_wp2_with fail
    go_ret2
    exact esc_no HE.out (Below.refl _ _)
set_option maxHeartbeats 8000000 in
theorem rescape_any (b : ByteArray) (i : Nat) (hb : b.size ≤ 30000) (hi : i ≤ 30000) (w : World) :
    Calls Tryd.prog 18 #[.string b, .int .i64 (i : Nat)] w (EscP b.data.toList i w) := by
  have HSZ := Lib.hid (Lib.size_eq b)
  by_cases hlen : b.size ≤ i + 1
  · have HE := Lib.hid (show escL (b.data.toList.drop i) = ([], 0) by unfold escL; rw [if_pos (by rw [List.length_drop]; have := HSZ.out; omega)])
    go_enter Tryd.func18, Tryd.ntmps18
    go_wp2_with fail
    go_ret2
    exact esc_no HE.out (Below.refl _ _)
  have hlt1 : i + 1 < b.size := by omega
  obtain ⟨y, hy⟩ : ∃ y, b[i + 1] = y := ⟨_, rfl⟩
  have HYB := Lib.hid hy
  by_cases c117 : y.toNat = 117
  · exact rescape_u b i hb hlt1 y HYB (Lib.hid c117) HSZ w
  have HES := Lib.hid (escL_at (l := b.data.toList) (i := i) (by have := HSZ.out; omega) (nb_at' b (i + 1) hlt1 hy))
  obtain ⟨c, hc⟩ : ∃ c, y.toNat = c := ⟨_, rfl⟩
  have hci : (y.toNat : Int) = (c : Int) := by rw [hc]
  rw [hc] at HES c117
  have HC := Lib.hid hc
  clear hc
  by_cases k34 : c = 34
  · subst k34
    have HE := Lib.hid (show escL (b.data.toList.drop i) = ([34], 2) by rw [HES.out]; rfl)
    have HX : Hid (b.extract (i + 1) (i + 2) = ⟨#[34]⟩) := Lib.hid (by
      have h1 := byte_cut b (i + 1) y (by rw [Lib.data_getElem? b (i + 1) hlt1, HYB.out])
      have h2 : y = 34 := UInt8.toNat_inj.1 HC.out
      rw [h2] at h1
      exact bytes_of h1)
    have hsl : (Instr.slice 9 (.string b) (some (.int .i64 ((i : Int) + 1))) (some (.int .i64 ((i : Int) + 2))) none).run Tryd.prog w = .ok (.string (b.extract (i + 1) (i + 2))) w :=
      run_slice_str (P := Tryd.prog) w 9 b Tryd.underlying9 .i64 .i64 (i + 1) (i + 2) _ _ (by omega) (by omega) (by omega) (by omega)
    clear HES
    go_enter Tryd.func18, Tryd.ntmps18
    go_wp2_with fail
    go_ret2
    exact esc_yes HE.out rfl HX.out (Below.refl _ _)
  by_cases k92 : c = 92
  · subst k92
    have HE := Lib.hid (show escL (b.data.toList.drop i) = ([92], 2) by rw [HES.out]; rfl)
    have HX : Hid (b.extract (i + 1) (i + 2) = ⟨#[92]⟩) := Lib.hid (by
      have h1 := byte_cut b (i + 1) y (by rw [Lib.data_getElem? b (i + 1) hlt1, HYB.out])
      have h2 : y = 92 := UInt8.toNat_inj.1 HC.out
      rw [h2] at h1
      exact bytes_of h1)
    have hsl : (Instr.slice 9 (.string b) (some (.int .i64 ((i : Int) + 1))) (some (.int .i64 ((i : Int) + 2))) none).run Tryd.prog w = .ok (.string (b.extract (i + 1) (i + 2))) w :=
      run_slice_str (P := Tryd.prog) w 9 b Tryd.underlying9 .i64 .i64 (i + 1) (i + 2) _ _ (by omega) (by omega) (by omega) (by omega)
    clear HES
    go_enter Tryd.func18, Tryd.ntmps18
    go_wp2_with fail
    go_ret2
    exact esc_yes HE.out rfl HX.out (Below.refl _ _)
  by_cases k47 : c = 47
  · subst k47
    have HE := Lib.hid (show escL (b.data.toList.drop i) = ([47], 2) by rw [HES.out]; rfl)
    have HX : Hid (b.extract (i + 1) (i + 2) = ⟨#[47]⟩) := Lib.hid (by
      have h1 := byte_cut b (i + 1) y (by rw [Lib.data_getElem? b (i + 1) hlt1, HYB.out])
      have h2 : y = 47 := UInt8.toNat_inj.1 HC.out
      rw [h2] at h1
      exact bytes_of h1)
    have hsl : (Instr.slice 9 (.string b) (some (.int .i64 ((i : Int) + 1))) (some (.int .i64 ((i : Int) + 2))) none).run Tryd.prog w = .ok (.string (b.extract (i + 1) (i + 2))) w :=
      run_slice_str (P := Tryd.prog) w 9 b Tryd.underlying9 .i64 .i64 (i + 1) (i + 2) _ _ (by omega) (by omega) (by omega) (by omega)
    clear HES
    go_enter Tryd.func18, Tryd.ntmps18
    go_wp2_with fail
    go_ret2
    exact esc_yes HE.out rfl HX.out (Below.refl _ _)
  by_cases k98 : c = 98
  · subst k98
    have HE := Lib.hid (show escL (b.data.toList.drop i) = ([8], 2) by rw [HES.out]; rfl)
    clear HES
    go_enter Tryd.func18, Tryd.ntmps18
    go_wp2_with fail
    go_ret2
    exact esc_yes HE.out rfl rfl (Below.refl _ _)
  by_cases k102 : c = 102
  · subst k102
    have HE := Lib.hid (show escL (b.data.toList.drop i) = ([12], 2) by rw [HES.out]; rfl)
    clear HES
    go_enter Tryd.func18, Tryd.ntmps18
    go_wp2_with fail
    go_ret2
    exact esc_yes HE.out rfl rfl (Below.refl _ _)
  by_cases k110 : c = 110
  · subst k110
    have HE := Lib.hid (show escL (b.data.toList.drop i) = ([10], 2) by rw [HES.out]; rfl)
    clear HES
    go_enter Tryd.func18, Tryd.ntmps18
    go_wp2_with fail
    go_ret2
    exact esc_yes HE.out rfl rfl (Below.refl _ _)
  by_cases k114 : c = 114
  · subst k114
    have HE := Lib.hid (show escL (b.data.toList.drop i) = ([13], 2) by rw [HES.out]; rfl)
    clear HES
    go_enter Tryd.func18, Tryd.ntmps18
    go_wp2_with fail
    go_ret2
    exact esc_yes HE.out rfl rfl (Below.refl _ _)
  by_cases k116 : c = 116
  · subst k116
    have HE := Lib.hid (show escL (b.data.toList.drop i) = ([9], 2) by rw [HES.out]; rfl)
    clear HES
    go_enter Tryd.func18, Tryd.ntmps18
    go_wp2_with fail
    go_ret2
    exact esc_yes HE.out rfl rfl (Below.refl _ _)
  have HE := Lib.hid (show escL (b.data.toList.drop i) = ([], 0) by rw [HES.out, if_neg (by omega), if_neg k98, if_neg k102, if_neg k110, if_neg k114, if_neg k116, if_neg c117])
  have z34 : ((c : Int) == 34) = false := by simp; omega
  have z92 : ((c : Int) == 92) = false := by simp; omega
  have z47 : ((c : Int) == 47) = false := by simp; omega
  have z98 : ((c : Int) == 98) = false := by simp; omega
  have z102 : ((c : Int) == 102) = false := by simp; omega
  have z110 : ((c : Int) == 110) = false := by simp; omega
  have z114 : ((c : Int) == 114) = false := by simp; omega
  have z116 : ((c : Int) == 116) = false := by simp; omega
  have z117 : ((c : Int) == 117) = false := by simp; omega
  clear HES c117 k34 k92 k47 k98 k102 k110 k114 k116
  go_enter Tryd.func18, Tryd.ntmps18
  go_wp2_with fail
  go_ret2
  exact esc_no HE.out (Below.refl _ _)
end Go.Proofs.YtffamppgnooaeaaDoor
