/- Plain: a journal's file between two acts; behind a tearing, and opened again. -/
import Derived.Test.YtckofpdhcpabnaaJrOpen
namespace Go.Proofs.Ytckofpdhcpabnaa
open Go.RowKit
set_option linter.unusedVariables false
set_option linter.unusedSimpArgs false

theorem frs_append (a b : List (List UInt8)) : frs (a ++ b) = frs a ++ frs b := by simp [frs]
theorem frs_cons (x : List UInt8) (ps : List (List UInt8)) : frs (x :: ps) = frm x ++ frs ps := by simp [frs]
theorem loads_frs (r : List UInt8) : ∀ (ps : List (List UInt8)), (∀ x ∈ ps, fErr x = 0) → loads (frs ps ++ r) = ps ++ loads r
  | [], _ => by simp [frs]
  | x :: ps, h => by
    obtain ⟨h1, h2⟩ := fErr_zero (h x (by simp))
    rw [frs_cons, List.append_assoc]
    unfold frm
    rw [loads_frame x _ h1 h2, loads_frs r ps (fun y hy => h y (by simp [hy]))]
    rfl
theorem szs_frs (ps : List (List UInt8)) : szs ps = (frs ps).length := by
  induction ps with
  | nil => rfl
  | cons x ps ih => rw [frs_cons, List.length_append, frm_len, ← ih]; simp [szs]
theorem loads_frs' {ps : List (List UInt8)} (h : ∀ x ∈ ps, fErr x = 0) : loads (frs ps) = ps := by
  have := loads_frs [] ps h
  rwa [List.append_nil, loads_nil, List.append_nil] at this
theorem firstF_short (x r : List UInt8) (cut : Nat) (h1 : 1 ≤ x.length) (h2 : x.length ≤ 524288) (h : cut < x.length + 4) : firstF ((by4 x.length ++ x ++ r).take cut) = none := by
  unfold firstF
  have hl : ((by4 x.length ++ x ++ r).take cut).length ≤ cut := List.length_take_le _ _
  by_cases h4 : ((by4 x.length ++ x ++ r).take cut).length < 4
  · rw [if_pos h4]
  · have e1 : ((by4 x.length ++ x ++ r).take cut).take 4 = by4 x.length := by
      rw [List.take_take, Nat.min_eq_left (by omega), List.append_assoc, List.take_append_of_le_length (by rw [by4_len]; exact Nat.le_refl _)]
      exact List.take_of_length_le (by rw [by4_len]; exact Nat.le_refl _)
    rw [if_neg h4, e1, by4_be _ (by omega), if_pos (by omega)]
theorem loads_torn (x : List UInt8) (k : Nat) (h : fErr x = 0) (hk : k < x.length + 4) : loads ((frm x).take k) = [] := by
  obtain ⟨h1, h2⟩ := fErr_zero h
  refine loads_none ?_
  have := firstF_short x [] k h1 h2 hk
  rwa [List.append_nil] at this
/-- a whole journal -/
structure JW (s : DS) (want : List (List UInt8)) (keep : Int) : Prop where
  up : s.down = false
  b : s.b = frs want
  ok : ∀ x ∈ want, fErr x = 0
  keep : s.armed = true → keep = (s.keep : Int)
/-- one that is down -/
structure JD (s : DS) (want : List (List UInt8)) : Prop where
  dn : s.down = true
  ar : s.armed = false
  b : ∃ r, s.b = frs want ++ r ∧ loads r = []
  ok : ∀ x ∈ want, fErr x = 0

theorem jw_app {s : DS} {want : List (List UInt8)} {keep : Int} (h : JW s want keep) (x : List UInt8) :
    ((jApp s x).1 = 0 ∧ JW (jApp s x).2 (want ++ [x]) keep) ∨ ((jApp s x).1 ≠ 0 ∧ (jApp s x).1 ≠ 60 ∧ JW (jApp s x).2 want keep) ∨
    ((jApp s x).1 = 60 ∧ x.length ≤ 524288 ∧ JD (jApp s x).2 (if (x.length : Int) + 4 ≤ keep then want ++ [x] else want)) := by
  unfold jApp
  by_cases h0 : fErr x = 0
  · rw [if_neg (by simpa using h0)]
    unfold dAppend
    rw [if_neg (by rw [h.up]; simp)]
    have hok : ∀ y ∈ want ++ [x], fErr y = 0 := fun y hy => by
      rcases List.mem_append.1 hy with hy | hy
      · exact h.ok y hy
      · rw [List.mem_singleton] at hy; subst hy; exact h0
    split
    · right; left; exact ⟨by simp, by simp, h⟩
    · split
      · rename_i _ ha
        right; right
        refine ⟨rfl, (fErr_zero h0).2, rfl, rfl, ?_, ?_⟩
        · rw [h.b, h.keep ha]
          split
          · rename_i hk
            refine ⟨[], ?_, loads_nil⟩
            rw [List.take_of_length_le (by rw [frm_len]; omega), frs_append, List.append_nil]
            simp [frs]
          · rename_i hk
            exact ⟨_, rfl, loads_torn x _ h0 (by omega)⟩
        · split
          · exact hok
          · exact h.ok
      · left
        refine ⟨rfl, h.up, ?_, hok, h.keep⟩
        simp only [h.b, frs_append]
        simp [frs]
  · rw [if_pos h0]
    right; left
    refine ⟨h0, ?_, h⟩
    simp only
    unfold fErr
    split
    · simp
    · split <;> simp
theorem jw_snap {s : DS} {want : List (List UInt8)} {keep : Int} (h : JW s want keep) (ls : List (List UInt8)) :
    ((jSnap s ls).1 = 0 ∧ ls.length ≤ 1048576 ∧ JW (jSnap s ls).2 ls keep) ∨ ((jSnap s ls).1 ≠ 0 ∧ (JW (jSnap s ls).2 want keep ∨ JD (jSnap s ls).2 want)) := by
  unfold jSnap
  by_cases h0 : rowsErr ls = 0
  · rw [if_neg (by simpa using h0)]
    split
    · right; exact ⟨by simp, .inl h⟩
    · rename_i hle
      unfold dSwap
      rw [if_neg (by rw [h.up]; simp), if_neg hle]
      split
      · right
        refine ⟨by simp, .inr ⟨rfl, rfl, ⟨[], by simpa using h.b, loads_nil⟩, h.ok⟩⟩
      · left
        refine ⟨rfl, ?_, h.up, rfl, rowsErr_zero h0, h.keep⟩
        have := frs_len ls
        omega
  · rw [if_pos h0]
    right; exact ⟨h0, .inl h⟩
theorem jw_arm {s : DS} {want : List (List UInt8)} {keep : Int} (h : JW s want keep) (n : Int) :
    ((dArm s n).1 = 0 ∧ JW (dArm s n).2 want n) ∨ ((dArm s n).1 ≠ 0 ∧ JW (dArm s n).2 want keep) := by
  unfold dArm
  rw [if_neg (by rw [h.up]; simp)]
  split
  · right; exact ⟨by simp, h⟩
  · left; exact ⟨rfl, h.up, h.b, h.ok, fun _ => by simp only; omega⟩
theorem jw_crash {s : DS} {want : List (List UInt8)} {keep : Int} (h : JW s want keep) : JD (dCrash s).2 want := by
  unfold dCrash
  rw [if_neg (by rw [h.up]; simp)]
  exact ⟨rfl, rfl, ⟨[], by simpa using h.b, loads_nil⟩, h.ok⟩
/-- up and opened -/
theorem jd_open {s : DS} {want : List (List UInt8)} (h : JD s want) (keep : Int) :
    ∃ s1 s2, (dUp s).2 = s1 ∧ s1.down = false ∧ loads s1.b = want ∧ jOpen s1 = (0, s2) ∧ JW s2 want keep ∧ loads s2.b = want ∧ szs want = s2.b.length ∧ jOpen s2 = (0, s2) := by
  obtain ⟨r, hb, hr⟩ := h.b
  have hl : loads (frs want ++ r) = want := by rw [loads_frs r want h.ok, hr, List.append_nil]
  have key : ∀ a k, jOpen ⟨frs want, false, a, k⟩ = (0, ⟨frs want, false, a, k⟩) := fun a k => by
    unfold jOpen jOpen2
    rw [if_neg (by simp), if_pos (by simp only [loads_frs' h.ok, szs_frs])]
  refine ⟨⟨s.b, false, s.armed, s.keep⟩, ⟨frs want, false, s.armed, s.keep⟩, ?_, rfl, by rw [hb]; exact hl, ?_, ⟨rfl, rfl, h.ok, fun e => by rw [h.ar] at e; cases e⟩, loads_frs' h.ok, szs_frs want, key _ _⟩
  · unfold dUp; rw [if_pos h.dn]
  · rw [hb]
    unfold jOpen jOpen2
    rw [if_neg (by simp)]
    simp only [hl, szs_frs]
    split
    · rename_i he
      rw [List.length_append] at he
      have : r = [] := List.eq_nil_of_length_eq_zero (by omega)
      rw [this, List.append_nil]
    · unfold dCut
      rw [if_neg (by simp), if_neg (by rw [List.length_append]; omega), if_neg (by rw [h.ar]; simp)]
      simp
theorem jw_new : JW DS.new [] 0 := ⟨rfl, rfl, by simp, fun e => by cases e⟩
end Go.Proofs.Ytckofpdhcpabnaa
