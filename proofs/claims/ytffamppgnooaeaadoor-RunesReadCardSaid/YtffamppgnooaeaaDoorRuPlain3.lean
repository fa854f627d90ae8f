/- Plain: what is written reads as the text. No program is named here. -/
import Derived.Test.YtffamppgnooaeaaDoorRuPlain2
namespace Go.Proofs.YtffamppgnooaeaaDoor
open Go.Lib
set_option linter.unusedVariables false
set_option linter.unusedSimpArgs false

theorem nb_zero (c : UInt8) (r : List UInt8) : nb (c :: r) 0 = c.toNat := rfl
theorem nb_succ (c : UInt8) (r : List UInt8) (i : Nat) : nb (c :: r) (i + 1) = nb r i := rfl
theorem nb_take {l : List UInt8} {k i : Nat} (r : List UInt8) (h : i < k) (hk : k ≤ l.length) : nb (l.take k ++ r) i = nb l i := by
  unfold nb
  rw [List.getD_eq_getElem?_getD, List.getD_eq_getElem?_getD, List.getElem?_append_left (by rw [List.length_take]; omega), List.getElem?_take_of_lt h]
set_option maxRecDepth 100000 in
set_option maxHeartbeats 4000000 in
theorem oneN_ext {n b0 b1 b2 b3 n' c1 c2 c3 : Nat} (h : 1 ≤ (oneN n b0 b1 b2 b3).2) (hn : (oneN n b0 b1 b2 b3).2 ≤ n') (h1 : 2 ≤ (oneN n b0 b1 b2 b3).2 → b1 = c1) (h2 : 3 ≤ (oneN n b0 b1 b2 b3).2 → b2 = c2) (h3 : 4 ≤ (oneN n b0 b1 b2 b3).2 → b3 = c3) :
    oneN n' b0 c1 c2 c3 = oneN n b0 b1 b2 b3 := by
  obtain ⟨p, hp⟩ : ∃ p, oneN n b0 b1 b2 b3 = p := ⟨_, rfl⟩
  rw [hp] at h hn h1 h2 h3 ⊢
  unfold oneN at hp
  repeat' split at hp
  all_goals subst hp
  all_goals simp only at h hn h1 h2 h3
  all_goals
    first
    | (exfalso; omega)
    | (unfold oneN; repeat' split
       all_goals first | (exfalso; omega) | (apply Prod.ext <;> simp only <;> omega))
set_option maxRecDepth 100000 in
theorem oneN_high {n b0 b1 b2 b3 : Nat} (hb : 128 ≤ b0) (h : 1 ≤ (oneN n b0 b1 b2 b3).2) : 2 ≤ (oneN n b0 b1 b2 b3).2 ∧ (oneN n b0 b1 b2 b3).2 ≤ 4 ∧ 128 ≤ b1 ∧ (3 ≤ (oneN n b0 b1 b2 b3).2 → 128 ≤ b2) ∧ (4 ≤ (oneN n b0 b1 b2 b3).2 → 128 ≤ b3) := by
  obtain ⟨p, hp⟩ : ∃ p, oneN n b0 b1 b2 b3 = p := ⟨_, rfl⟩
  rw [hp] at h ⊢
  unfold oneN at hp
  repeat' split at hp
  all_goals subst hp
  all_goals simp only at h ⊢
  all_goals omega
theorem oneN_asc {n b0 b1 b2 b3 : Nat} (hn : 1 ≤ n) (hb : b0 < 128) : oneN n b0 b1 b2 b3 = (b0, 1) := by
  unfold oneN; rw [if_neg (by omega), if_pos hb]
theorem oneL_take {l : List UInt8} (r : List UInt8) (h : 1 ≤ (oneL l).2) : oneL (l.take (oneL l).2 ++ r) = oneL l := by
  have hle := oneL_le l
  have h0 : nb (l.take (oneL l).2 ++ r) 0 = nb l 0 := nb_take r (by omega) hle
  have key := oneN_ext (n' := (l.take (oneL l).2 ++ r).length) (c1 := nb (l.take (oneL l).2 ++ r) 1) (c2 := nb (l.take (oneL l).2 ++ r) 2) (c3 := nb (l.take (oneL l).2 ++ r) 3) h
    (by show (oneL l).2 ≤ _; rw [List.length_append, List.length_take]; omega) (fun h1 => (nb_take r (by exact h1) hle).symm) (fun h1 => (nb_take r (by exact h1) hle).symm) (fun h1 => (nb_take r (by exact h1) hle).symm)
  unfold oneL at key h0 ⊢
  rw [h0]
  exact key
theorem oneL_cons {c : UInt8} (r : List UInt8) (h : c.toNat < 128) : oneL (c :: r) = (c.toNat, 1) := oneN_asc (by simp) h

theorem shortQ_cases {c x : UInt8} (h : shortQ c = some x) : (c = 34 ∧ x = 34) ∨ (c = 92 ∧ x = 92) ∨ (c = 8 ∧ x = 98) ∨ (c = 9 ∧ x = 116) ∨ (c = 10 ∧ x = 110) ∨ (c = 12 ∧ x = 102) ∨ (c = 13 ∧ x = 114) := by
  unfold shortQ at h
  repeat' split at h
  all_goals first | cases h | skip
  all_goals simp_all
theorem shortQ_none {c : UInt8} (h : shortQ c = none) : c ≠ 34 ∧ c ≠ 92 := by
  unfold shortQ at h
  constructor <;> (rintro rfl; simp at h)
theorem escL_short {c x : UInt8} (r : List UInt8) (h : shortQ c = some x) : escL (92 :: x :: r) = ([c], 2) := by
  rcases shortQ_cases h with ⟨rfl, rfl⟩ | ⟨rfl, rfl⟩ | ⟨rfl, rfl⟩ | ⟨rfl, rfl⟩ | ⟨rfl, rfl⟩ | ⟨rfl, rfl⟩ | ⟨rfl, rfl⟩ <;>
    (unfold escL; rw [if_neg (by simp)]; simp [nb])
set_option maxRecDepth 100000 in
theorem hexD_V : ∀ n : Fin 16, hexV (hexD n.val).toNat = some n.val := by decide
theorem escL_ctl {c : UInt8} (r : List UInt8) (h : c.toNat < 32) : escL (92 :: 117 :: 48 :: 48 :: hexD (c.toNat / 16) :: hexD (c.toNat % 16) :: r) = ([c], 6) := by
  have h1 := hexD_V ⟨c.toNat / 16, by omega⟩
  have h2 := hexD_V ⟨c.toNat % 16, by omega⟩
  simp only at h1 h2
  have hf : fourL (92 :: 117 :: 48 :: 48 :: hexD (c.toNat / 16) :: hexD (c.toNat % 16) :: r) 2 = some c.toNat := by
    unfold fourL
    rw [if_neg (by simp)]
    simp only [nb_succ, nb_zero, show 2 = 1 + 1 from rfl, show 2 + 1 = 1 + 1 + 1 from rfl, show 2 + 2 = 1 + 1 + 1 + 1 from rfl, show 2 + 3 = 1 + 1 + 1 + 1 + 1 from rfl]
    rw [h1, h2]
    show four4 (some 0) (some 0) _ _ = _
    unfold four4
    simp only
    congr 1
    omega
  unfold escL
  rw [if_neg (by simp), show nb (92 :: 117 :: 48 :: 48 :: hexD (c.toNat / 16) :: hexD (c.toNat % 16) :: r) 1 = 117 from rfl, hf]
  simp only
  rw [if_neg (by omega), if_neg (by omega), if_neg (by omega), if_neg (by omega), if_neg (by omega), if_neg (by omega), if_pos trivial, if_neg (by omega), if_pos (by omega)]
  unfold uB
  rw [if_pos (by omega), UInt8.ofNat_toNat]
theorem flat_high : ∀ (k : Nat) (s : List UInt8), (∀ b ∈ s.take k, 128 ≤ b.toNat) → s.flatMap escB = s.take k ++ (s.drop k).flatMap escB
  | 0, s, _ => by simp
  | k + 1, [], _ => by simp
  | k + 1, b :: t, h => by
    have hb := h b (by simp)
    have he : escB b = [b] := by
      unfold escB
      cases hs : shortQ b with
      | some x => rcases shortQ_cases hs with ⟨rfl, _⟩ | ⟨rfl, _⟩ | ⟨rfl, _⟩ | ⟨rfl, _⟩ | ⟨rfl, _⟩ | ⟨rfl, _⟩ | ⟨rfl, _⟩ <;> simp at hb
      | none => simp only; rw [if_neg (by omega)]
    rw [List.flatMap_cons, he, List.take_succ_cons, List.drop_succ_cons, flat_high k t (fun c hc => h c (by simp [hc]))]
    rfl
theorem take_high {s : List UInt8} (h1 : 1 ≤ (oneL s).2) (h0 : 128 ≤ nb s 0) : ∀ b ∈ s.take (oneL s).2, 128 ≤ b.toNat := by
  intro b hb
  obtain ⟨i, hi, rfl⟩ := List.getElem_of_mem hb
  obtain ⟨g1, g2, g3, g4, g5⟩ := oneN_high (n := s.length) (b0 := nb s 0) (b1 := nb s 1) (b2 := nb s 2) (b3 := nb s 3) h0 h1
  have hl : i < (oneL s).2 := by rw [List.length_take] at hi; omega
  have he : ((s.take (oneL s).2)[i]).toNat = nb s i := by
    unfold nb
    rw [List.getElem_take, List.getD_eq_getElem?_getD, List.getElem?_eq_getElem]; rfl
  rw [he]
  have hk : (oneL s).2 ≤ 4 := g2
  rcases (by omega : i = 0 ∨ i = 1 ∨ i = 2 ∨ i = 3) with rfl | rfl | rfl | rfl
  · exact h0
  · exact g3
  · exact g4 (by show 3 ≤ (oneL s).2; omega)
  · exact g5 (by show 4 ≤ (oneL s).2; omega)
theorem valid_head {s : List UInt8} (hne : s ≠ []) (hv : validD s = true) : 1 ≤ (oneL s).2 ∧ validD (s.drop (oneL s).2) = true := by
  rw [validD_step s hne] at hv
  rcases oneL_decode s hne with ⟨h1, h2⟩ | ⟨h1, h2, h3, h4⟩
  · rw [h2] at hv; simp at hv
  · rw [h3, if_neg h4] at hv; exact ⟨h1, hv⟩
/-- WHAT IS WRITTEN READS AS THE TEXT -/
theorem quote_read (behind : List UInt8) : ∀ (k : Nat) (s out : List UInt8) (pos : Nat), s.length ≤ k → validD s = true →
    unqL (s.flatMap escB ++ 34 :: behind) out pos = (out ++ s, pos + (s.flatMap escB).length + 1, 0)
  | _, [], out, pos, _, _ => by
    rw [unqL_step _ _ _ (by simp)]; simp [nb]
  | 0, _ :: _, _, _, h, _ => by simp at h
  | k + 1, c :: t, out, pos, hk, hv => by
    obtain ⟨h1, h2⟩ := valid_head (by simp) hv
    by_cases hc : c.toNat < 128
    · have ho := oneL_cons t hc
      rw [ho] at h2
      simp only [List.drop_succ_cons, List.drop_zero] at h2
      have ih := fun out pos => quote_read behind k t out pos (by simpa using hk) h2
      rw [List.flatMap_cons]
      cases hs : shortQ c with
      | some x =>
        have he : escB c = [92, x] := by unfold escB; rw [hs]
        rw [he, unqL_step _ _ _ (by simp)]
        have hl : [92, x] ++ t.flatMap escB ++ 34 :: behind = 92 :: x :: (t.flatMap escB ++ 34 :: behind) := by simp
        rw [hl, escL_short _ hs, nb_zero]
        simp only [List.drop_succ_cons, List.drop_zero]
        rw [if_neg (by decide), if_pos (by decide), if_neg (by decide), ih]
        simp [List.append_assoc]; omega
      | none =>
        obtain ⟨n34, n92⟩ := shortQ_none hs
        by_cases h32 : c.toNat < 32
        · have he : escB c = [92, 117, 48, 48, hexD (c.toNat / 16), hexD (c.toNat % 16)] := by unfold escB; rw [hs]; simp only; rw [if_pos h32]
          rw [he, unqL_step _ _ _ (by simp)]
          have hl : [92, 117, 48, 48, hexD (c.toNat / 16), hexD (c.toNat % 16)] ++ t.flatMap escB ++ 34 :: behind = 92 :: 117 :: 48 :: 48 :: hexD (c.toNat / 16) :: hexD (c.toNat % 16) :: (t.flatMap escB ++ 34 :: behind) := by simp
          rw [hl, escL_ctl _ h32, nb_zero]
          simp only [List.drop_succ_cons, List.drop_zero]
          rw [if_neg (by decide), if_pos (by decide), if_neg (by decide), ih]
          simp [List.append_assoc]; omega
        · have he : escB c = [c] := by unfold escB; rw [hs]; simp only; rw [if_neg h32]
          rw [he, unqL_step _ _ _ (by simp)]
          have hl : [c] ++ t.flatMap escB ++ 34 :: behind = c :: (t.flatMap escB ++ 34 :: behind) := by simp
          have e1 : ¬ c.toNat = 34 := fun h => n34 (UInt8.toNat_inj.1 h)
          have e2 : ¬ c.toNat = 92 := fun h => n92 (UInt8.toNat_inj.1 h)
          rw [hl, nb_zero, if_neg e1, if_neg e2, oneL_cons _ hc]
          simp only [List.drop_succ_cons, List.drop_zero, List.take_succ_cons, List.take_zero]
          rw [if_neg (by omega), ih]
          simp [List.append_assoc]; omega
    · have hb := take_high h1 (show 128 ≤ nb (c :: t) 0 by rw [nb_zero]; omega)
      have hle := oneL_le (c :: t)
      have hfl := flat_high _ _ hb
      have ih := fun out pos => quote_read behind k ((c :: t).drop (oneL (c :: t)).2) out pos (by rw [List.length_drop]; omega) h2
      have hne : (c :: t).flatMap escB ++ 34 :: behind ≠ [] := by simp
      rw [unqL_step _ _ _ hne, hfl, List.append_assoc]
      have ht := oneL_take (l := c :: t) (((c :: t).drop (oneL (c :: t)).2).flatMap escB ++ 34 :: behind) h1
      have h0 : nb ((c :: t).take (oneL (c :: t)).2 ++ (((c :: t).drop (oneL (c :: t)).2).flatMap escB ++ 34 :: behind)) 0 = c.toNat := nb_take _ (by omega) hle
      have hlen : ((c :: t).take (oneL (c :: t)).2).length = (oneL (c :: t)).2 := by rw [List.length_take]; omega
      rw [ht, h0, if_neg (by omega), if_neg (by omega), if_neg (by omega), List.drop_left' hlen, List.take_left' hlen, ih, List.append_assoc, List.take_append_drop, List.length_append, hlen]
      simp; omega
end Go.Proofs.YtffamppgnooaeaaDoor
