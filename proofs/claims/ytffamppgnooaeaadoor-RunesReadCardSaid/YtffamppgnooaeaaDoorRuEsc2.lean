/- runes.escape. -/
import Derived.Test.YtffamppgnooaeaaDoorRuEsc
import Derived.Maps.RangeWalk
namespace Go.Proofs.YtffamppgnooaeaaDoor
open Go.RowKit Go.Maps
set_option linter.unusedVariables false
set_option linter.unusedSimpArgs false

theorem encode_eq {r : Nat} (h : r < 55296 ∨ 57343 < r) (h2 : r < 1114112) : Utf8.encode (r : Int) = ⟨(uB r).toArray⟩ := by
  have := encode_uB h h2
  cases he : Utf8.encode (r : Int) with
  | mk d => rw [he] at this; simp at this; rw [← this]
theorem nb_drop (l : List UInt8) (i j : Nat) : nb (l.drop i) j = nb l (i + j) := by
  unfold nb
  rw [List.getD_eq_getElem?_getD, List.getD_eq_getElem?_getD, List.getElem?_drop]
theorem fourL_drop (l : List UInt8) (i j : Nat) (h : i ≤ l.length) : fourL (l.drop i) j = fourL l (i + j) := by
  unfold fourL
  rw [List.length_drop, nb_drop, nb_drop, nb_drop, nb_drop]
  by_cases hc : l.length < i + j + 4
  · rw [if_pos (by omega), if_pos hc]
  · rw [if_neg (by omega), if_neg hc]; simp only [Nat.add_assoc]
/-- what is left when the letters are through -/
inductive EscD (l : List UInt8) (i : Nat) : Prop where
  | no (h1 : (halfL l i 0 55295).2 = false) (h2 : (halfL l i 57344 65535).2 = false) (h3 : (halfL l i 55296 56319).2 = false ∨ (halfL l (i + 6) 56320 57343).2 = false) (he : escL (l.drop i) = ([], 0))
  | one (r : Nat) (h1 : halfL l i 0 55295 = (r, true)) (hr : r < 55296) (he : escL (l.drop i) = (uB r, 6))
  | two (r : Nat) (h1 : (halfL l i 0 55295).2 = false) (h2 : halfL l i 57344 65535 = (r, true)) (hr : 57343 < r) (hr2 : r < 65536) (he : escL (l.drop i) = (uB r, 6))
  | both (r low : Nat) (h1 : (halfL l i 0 55295).2 = false) (h2 : (halfL l i 57344 65535).2 = false) (h3 : halfL l i 55296 56319 = (r, true)) (h4 : halfL l (i + 6) 56320 57343 = (low, true)) (hr : 55296 ≤ r) (hr2 : r ≤ 56319) (hl : 56320 ≤ low) (hl2 : low ≤ 57343)
      (he : escL (l.drop i) = (uB (65536 + 1024 * (r - 55296) + (low - 56320)), 12))
theorem halfL_no {l : List UInt8} {i lo hi : Nat} (h : nb l (i + 1) ≠ 117) : halfL l i lo hi = (0, false) := by unfold halfL; rw [if_pos (.inr (.inr h))]
theorem halfL_none {l : List UInt8} {i lo hi : Nat} (h : fourL l (i + 2) = none) : halfL l i lo hi = (0, false) := by
  unfold halfL; split
  · rfl
  · rw [h]
theorem halfL_some {l : List UInt8} {i lo hi r : Nat} (h0 : i + 1 < l.length) (h1 : nb l i = 92) (h2 : nb l (i + 1) = 117) (h : fourL l (i + 2) = some r) : halfL l i lo hi = (r, decide (lo ≤ r) && decide (r ≤ hi)) := by
  unfold halfL; rw [if_neg (by omega), h]
theorem halfL_low {l : List UInt8} {i lo hi : Nat} (h : (halfL l i lo hi).2 = true) : i + 1 < l.length ∧ nb l i = 92 ∧ nb l (i + 1) = 117 ∧ ∃ r, fourL l (i + 2) = some r ∧ halfL l i lo hi = (r, true) ∧ lo ≤ r ∧ r ≤ hi := by
  unfold halfL at h ⊢
  split at h
  · simp at h
  · rename_i hc
    rw [if_neg hc]
    cases hf : fourL l (i + 2) with
    | none => rw [hf] at h; simp at h
    | some r =>
      rw [hf] at h
      simp only [Bool.and_eq_true, decide_eq_true_eq] at h
      refine ⟨by omega, by omega, by omega, r, rfl, ?_, h.1, h.2⟩
      simp [h.1, h.2]
theorem escD {l : List UInt8} {i : Nat} (h0 : i + 1 < l.length) (h1 : nb l i = 92) (h47 : nb l (i + 1) ≠ 47) (hs : ∀ c x, shortQ c = some x → nb l (i + 1) ≠ x.toNat) : EscD l i := by
  have hx : ∀ (c x : UInt8) (n : Nat), shortQ c = some x → x.toNat = n → nb l (i + 1) ≠ n := fun c x n h e => by rw [← e]; exact hs c x h
  have n34 := hx 34 34 34 rfl rfl
  have n92 := hx 92 92 92 rfl rfl
  have n98 := hx 8 98 98 rfl rfl
  have n116 := hx 9 116 116 rfl rfl
  have n110 := hx 10 110 110 rfl rfl
  have n102 := hx 12 102 102 rfl rfl
  have n114 := hx 13 114 114 rfl rfl
  have hE : escL (l.drop i) = if nb l (i + 1) = 117 then (match fourL l (i + 2) with
    | none => ([], 0)
    | some r => if 56320 ≤ r ∧ r ≤ 57343 then ([], 0) else if r < 55296 ∨ 57343 < r then (uB r, 6) else pairL (l.drop i) r) else ([], 0) := by
    unfold escL
    rw [List.length_drop, if_neg (by omega), nb_drop, fourL_drop _ _ _ (by omega)]
    simp only
    rw [if_neg (by omega), if_neg n98, if_neg n102, if_neg n110, if_neg n114, if_neg n116]
    rfl
  by_cases h117 : nb l (i + 1) = 117
  · rw [if_pos h117] at hE
    cases hf : fourL l (i + 2) with
    | none =>
      rw [hf] at hE
      exact .no (by rw [halfL_none hf]) (by rw [halfL_none hf]) (.inl (by rw [halfL_none hf])) hE
    | some r =>
      rw [hf] at hE
      simp only at hE
      have g1 := halfL_some (lo := 0) (hi := 55295) h0 h1 h117 hf
      have g2 := halfL_some (lo := 57344) (hi := 65535) h0 h1 h117 hf
      have g3 := halfL_some (lo := 55296) (hi := 56319) h0 h1 h117 hf
      have hr6 := fourL_lt hf
      by_cases c1 : r < 55296
      · rw [if_neg (by omega), if_pos (.inl c1)] at hE
        exact .one r (by rw [g1]; simp; omega) c1 hE
      · by_cases c2 : 57343 < r
        · rw [if_neg (by omega), if_pos (.inr c2)] at hE
          exact .two r (by rw [g1]; simp; omega) (by rw [g2]; simp; omega) c2 hr6 hE
        · by_cases c3 : 56320 ≤ r
          · rw [if_pos ⟨c3, by omega⟩] at hE
            exact .no (by rw [g1]; simp; omega) (by rw [g2]; simp; omega) (.inl (by rw [g3]; simp; omega)) hE
          · rw [if_neg (by omega), if_neg (by omega)] at hE
            cases hh : (halfL l (i + 6) 56320 57343).2 with
            | false =>
              refine .no (by rw [g1]; simp; omega) (by rw [g2]; simp; omega) (.inr hh) ?_
              rw [hE]
              unfold pairL
              rw [List.length_drop, nb_drop, nb_drop, fourL_drop _ _ _ (by omega)]
              split
              · rfl
              · rename_i hc
                cases hg : fourL l (i + 8) with
                | none => rfl
                | some low =>
                  simp only
                  split
                  · rfl
                  · rename_i hl
                    have := halfL_some (l := l) (i := i + 6) (lo := 56320) (hi := 57343) (by omega) (by omega) (by rw [show i + 6 + 1 = i + 7 by omega]; omega) (by rw [show i + 6 + 2 = i + 8 by omega]; exact hg)
                    rw [this] at hh
                    simp at hh
                    omega
            | true =>
              obtain ⟨k1, k2, k3, low, k4, k5, k6, k7⟩ := halfL_low hh
              refine .both r low (by rw [g1]; simp; omega) (by rw [g2]; simp; omega) (by rw [g3]; simp; omega) k5 (by omega) (by omega) k6 k7 ?_
              rw [hE]
              unfold pairL
              rw [List.length_drop, nb_drop, nb_drop, fourL_drop _ _ _ (by omega), if_neg (by rw [show i + 6 + 1 = i + 7 by omega] at k1 k3; omega), show i + 8 = i + 6 + 2 by omega, k4]
              simp only
              rw [if_neg (by omega)]
  · rw [if_neg h117] at hE
    exact .no (by rw [halfL_no h117]) (by rw [halfL_no h117]) (.inl (by rw [halfL_no h117])) hE
end Go.Proofs.YtffamppgnooaeaaDoor
