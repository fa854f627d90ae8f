/- Plain: what is read is a text; texts that are not the same are written otherwise. No program is named here. -/
import Derived.Test.YtffamppgnooaeaaDoorRuPlain3
namespace Go.Proofs.YtffamppgnooaeaaDoor
open Go.Lib
set_option linter.unusedVariables false
set_option linter.unusedSimpArgs false

theorem valid_of_one {l : List UInt8} (h1 : 1 ≤ (oneL l).2) (h2 : validD (l.drop (oneL l).2) = true) : validD l = true := by
  have hne : l ≠ [] := by rintro rfl; exact absurd h1 (by decide)
  rw [validD_step l hne]
  rcases oneL_decode l hne with ⟨h3, _⟩ | ⟨_, _, h4, h5⟩
  · omega
  · rw [h4, if_neg h5]; exact h2
theorem valid_take {l : List UInt8} (h1 : 1 ≤ (oneL l).2) : validD (l.take (oneL l).2) = true := by
  have h := oneL_take (l := l) [] h1
  rw [List.append_nil] at h
  refine valid_of_one (by rw [h]; exact h1) ?_
  rw [h, List.drop_of_length_le (by rw [List.length_take]; omega)]
  rfl
theorem valid_append : ∀ (k : Nat) (a b : List UInt8), a.length ≤ k → validD a = true → validD (a ++ b) = validD b
  | _, [], b, _, _ => rfl
  | 0, _ :: _, _, h, _ => by simp at h
  | k + 1, c :: t, b, hk, hv => by
    obtain ⟨h1, h2⟩ := valid_head (by simp) hv
    have hle := oneL_le (c :: t)
    have he : (c :: t) ++ b = (c :: t).take (oneL (c :: t)).2 ++ ((c :: t).drop (oneL (c :: t)).2 ++ b) := by rw [← List.append_assoc, List.take_append_drop]
    have ho := oneL_take (l := c :: t) ((c :: t).drop (oneL (c :: t)).2 ++ b) h1
    rw [← he] at ho
    have hlen : ((c :: t).take (oneL (c :: t)).2).length = (oneL (c :: t)).2 := by rw [List.length_take]; omega
    rw [validD_step _ (by simp)]
    rcases oneL_decode (c :: t ++ b) (by simp) with ⟨h3, _⟩ | ⟨_, _, h4, h5⟩
    · rw [ho] at h3; omega
    · rw [h4, if_neg h5, ho, show (c :: t ++ b).drop (oneL (c :: t)).2 = (c :: t).drop (oneL (c :: t)).2 ++ b from by rw [he, List.drop_left' hlen]]
      exact valid_append k _ b (by rw [List.length_drop]; omega) h2
theorem valid_app {a b : List UInt8} (ha : validD a = true) (hb : validD b = true) : validD (a ++ b) = true := by
  rw [valid_append _ a b (Nat.le_refl _) ha]; exact hb
theorem ofNat_toNat' {n : Nat} (h : n < 256) : (UInt8.ofNat n).toNat = n := by simp [UInt8.toNat_ofNat']; omega
set_option maxRecDepth 100000 in
set_option maxHeartbeats 1000000 in
theorem uB_one {r : Nat} (h : r < 55296 ∨ 57343 < r) (h2 : r < 1114112) : oneL (uB r) = (r, (uB r).length) := by
  unfold uB
  split
  · rename_i h0
    rw [oneL_cons _ (by rw [ofNat_toNat' (by omega)]; exact h0), ofNat_toNat' (by omega)]; rfl
  · split
    · unfold oneL
      rw [nb_zero, show nb [UInt8.ofNat (192 + r / 64), UInt8.ofNat (128 + r % 64)] 1 = (UInt8.ofNat (128 + r % 64)).toNat from rfl]
      rw [ofNat_toNat' (by omega), ofNat_toNat' (by omega)]
      simp only [List.length_cons, List.length_nil]
      unfold oneN
      rw [if_neg (by omega), if_neg (by omega), if_pos (by omega), if_neg (by omega)]
      apply Prod.ext <;> simp only <;> omega
    · split
      · unfold oneL
        rw [nb_zero, show nb [UInt8.ofNat (224 + r / 4096), UInt8.ofNat (128 + r / 64 % 64), UInt8.ofNat (128 + r % 64)] 1 = (UInt8.ofNat (128 + r / 64 % 64)).toNat from rfl, show nb [UInt8.ofNat (224 + r / 4096), UInt8.ofNat (128 + r / 64 % 64), UInt8.ofNat (128 + r % 64)] 2 = (UInt8.ofNat (128 + r % 64)).toNat from rfl]
        rw [ofNat_toNat' (by omega), ofNat_toNat' (by omega), ofNat_toNat' (by omega)]
        simp only [List.length_cons, List.length_nil]
        unfold oneN
        rw [if_neg (by omega), if_neg (by omega), if_neg (by omega), if_pos (by omega), if_neg (by omega)]
        apply Prod.ext <;> simp only <;> omega
      · unfold oneL
        rw [nb_zero, show nb [UInt8.ofNat (240 + r / 262144), UInt8.ofNat (128 + r / 4096 % 64), UInt8.ofNat (128 + r / 64 % 64), UInt8.ofNat (128 + r % 64)] 1 = (UInt8.ofNat (128 + r / 4096 % 64)).toNat from rfl,
          show nb [UInt8.ofNat (240 + r / 262144), UInt8.ofNat (128 + r / 4096 % 64), UInt8.ofNat (128 + r / 64 % 64), UInt8.ofNat (128 + r % 64)] 2 = (UInt8.ofNat (128 + r / 64 % 64)).toNat from rfl,
          show nb [UInt8.ofNat (240 + r / 262144), UInt8.ofNat (128 + r / 4096 % 64), UInt8.ofNat (128 + r / 64 % 64), UInt8.ofNat (128 + r % 64)] 3 = (UInt8.ofNat (128 + r % 64)).toNat from rfl]
        rw [ofNat_toNat' (by omega), ofNat_toNat' (by omega), ofNat_toNat' (by omega), ofNat_toNat' (by omega)]
        simp only [List.length_cons, List.length_nil]
        unfold oneN
        rw [if_neg (by omega), if_neg (by omega), if_neg (by omega), if_neg (by omega), if_pos (by omega), if_neg (by omega)]
        apply Prod.ext <;> simp only <;> omega
theorem uB_valid {r : Nat} (h : r < 55296 ∨ 57343 < r) (h2 : r < 1114112) : validD (uB r) = true := by
  have ho := uB_one h h2
  refine valid_of_one (by rw [ho]; unfold uB; repeat' split
                          all_goals simp) ?_
  rw [ho, List.drop_length]; rfl
theorem valid_byte {c : UInt8} (h : c.toNat < 128) : validD [c] = true := by rw [validD_cons c [] h]; rfl
theorem escL_valid (l : List UInt8) (h : (escL l).2 ≠ 0) : validD (escL l).1 = true := by
  unfold escL at h ⊢
  split at h
  · exact absurd rfl h
  · rename_i hl
    rw [if_neg hl]
    simp only at h ⊢
    split at h
    · rename_i h1
      rw [if_pos h1]
      exact valid_byte (by rw [ofNat_toNat' (by omega)]; omega)
    · rename_i h1
      rw [if_neg h1]
      split at h
      · rename_i h2; rw [if_pos h2]; decide
      · rename_i h2
        rw [if_neg h2]
        split at h
        · rename_i h3; rw [if_pos h3]; decide
        · rename_i h3
          rw [if_neg h3]
          split at h
          · rename_i h4; rw [if_pos h4]; decide
          · rename_i h4
            rw [if_neg h4]
            split at h
            · rename_i h5; rw [if_pos h5]; decide
            · rename_i h5
              rw [if_neg h5]
              split at h
              · rename_i h6; rw [if_pos h6]; decide
              · rename_i h6
                rw [if_neg h6]
                split at h
                · rename_i h7
                  rw [if_pos h7]
                  cases hf : fourL l 2 with
                  | none => rw [hf] at h; exact absurd rfl h
                  | some r =>
                    rw [hf] at h
                    simp only at h ⊢
                    split at h
                    · exact absurd rfl h
                    · rename_i h8
                      rw [if_neg h8]
                      split at h
                      · rename_i h9
                        rw [if_pos h9]
                        exact uB_valid h9 (by have := fourL_lt hf; exact Nat.lt_trans this (by decide))
                      · rename_i h9
                        rw [if_neg h9]
                        unfold pairL at h ⊢
                        split at h
                        · exact absurd rfl h
                        · rename_i h10
                          rw [if_neg h10]
                          cases hg : fourL l 8 with
                          | none => rw [hg] at h; exact absurd rfl h
                          | some low =>
                            rw [hg] at h
                            simp only at h ⊢
                            split at h
                            · exact absurd rfl h
                            · rename_i h11
                              rw [if_neg h11]
                              have hr := fourL_lt hf
                              have hb : 57343 < 65536 + 1024 * (r - 55296) + (low - 56320) ∧ 65536 + 1024 * (r - 55296) + (low - 56320) < 1114112 := by omega
                              simp only
                              generalize 65536 + 1024 * (r - 55296) + (low - 56320) = z at hb ⊢
                              exact uB_valid (.inr hb.1) hb.2
                · exact absurd rfl h
/-- WHAT IS READ IS A TEXT -/
theorem read_valid : ∀ (k : Nat) (l out t : List UInt8) (pos p : Nat), l.length ≤ k → validD out = true → unqL l out pos = (t, p, 0) → validD t = true
  | _, [], out, t, pos, p, _, _, h => by rw [unqL_nil] at h; simp at h
  | 0, _ :: _, _, _, _, _, hk, _, _ => by simp at hk
  | k + 1, c :: r, out, t, pos, p, hk, hv, h => by
    rw [unqL_step _ _ _ (by simp)] at h
    split at h
    · injection h with h1 h2; subst h1; exact hv
    · split at h
      · split at h
        · simp at h
        · rename_i h0
          exact read_valid k _ _ t _ p (by rw [List.length_drop]; omega) (valid_app hv (escL_valid _ h0)) h
      · split at h
        · simp at h
        · rename_i h0
          have h1 : 1 ≤ (oneL (c :: r)).2 := by omega
          exact read_valid k _ _ t _ p (by rw [List.length_drop]; omega) (valid_app hv (valid_take h1)) h
theorem hexD_lt : ∀ n : Fin 16, (hexD n.val).toNat < 128 := by decide
theorem escB_asc (c : UInt8) (h : c.toNat < 128) : validD (escB c) = true := by
  unfold escB
  cases hs : shortQ c with
  | some x =>
    rcases shortQ_cases hs with ⟨_, rfl⟩ | ⟨_, rfl⟩ | ⟨_, rfl⟩ | ⟨_, rfl⟩ | ⟨_, rfl⟩ | ⟨_, rfl⟩ | ⟨_, rfl⟩ <;> (simp only; decide)
  | none =>
    simp only
    split
    · rw [validD_cons _ _ (by decide), validD_cons _ _ (by decide), validD_cons _ _ (by decide), validD_cons _ _ (by decide), validD_cons _ _ (hexD_lt ⟨c.toNat / 16, by omega⟩), validD_cons _ _ (hexD_lt ⟨c.toNat % 16, by omega⟩)]
      rfl
    · exact valid_byte h
theorem flat_valid : ∀ (k : Nat) (s : List UInt8), s.length ≤ k → validD s = true → validD (s.flatMap escB) = true
  | _, [], _, _ => rfl
  | 0, _ :: _, h, _ => by simp at h
  | k + 1, c :: t, hk, hv => by
    obtain ⟨h1, h2⟩ := valid_head (by simp) hv
    by_cases hc : c.toNat < 128
    · rw [oneL_cons t hc] at h2
      simp only [List.drop_succ_cons, List.drop_zero] at h2
      rw [List.flatMap_cons]
      exact valid_app (escB_asc c hc) (flat_valid k t (by simpa using hk) h2)
    · rw [flat_high _ _ (take_high h1 (show 128 ≤ nb (c :: t) 0 by rw [nb_zero]; omega))]
      exact valid_app (valid_take h1) (flat_valid k _ (by rw [List.length_drop]; omega) h2)
theorem quoteB_valid {s : List UInt8} (h : validD s = true) : validD (quoteB s) = true := by
  unfold quoteB
  rw [validD_cons _ _ (by decide)]
  exact valid_app (flat_valid _ s (Nat.le_refl _) h) (by decide)
theorem quoteB_len (s : List UInt8) : (quoteB s).length = (s.flatMap escB).length + 2 := by unfold quoteB; simp
theorem unquote_quote {s : List UInt8} (h : validD s = true) (behind : List UInt8) : unquoteL (quoteB s ++ behind) 0 = (s, ((quoteB s).length : Int), 0) := by
  have hq : quoteB s ++ behind = 34 :: (s.flatMap escB ++ 34 :: behind) := by unfold quoteB; simp
  unfold unquoteL
  have hne : ¬ ((0 : Int) = ((34 :: (s.flatMap escB ++ 34 :: behind)).length : Nat) ∨ nb (34 :: (s.flatMap escB ++ 34 :: behind)) (0 : Int).toNat ≠ 34) := by
    rintro (h1 | h1)
    · rw [List.length_cons] at h1; omega
    · exact h1 rfl
  rw [hq, if_neg (by rw [List.length_cons]; omega), if_neg hne]
  show ((unqL (s.flatMap escB ++ 34 :: behind) [] 1).1, _, _) = _
  rw [show (0 : Int).toNat + 1 = 1 from rfl, List.drop_succ_cons, List.drop_zero, quote_read behind _ s [] 1 (Nat.le_refl _) h, quoteB_len]
  simp
  omega
theorem quote_apart {s t : List UInt8} (hs : validD s = true) (ht : validD t = true) (h : (quoteB s).take (min (quoteB s).length (quoteB t).length) = (quoteB t).take (min (quoteB s).length (quoteB t).length)) : s = t := by
  rcases Nat.le_total (quoteB s).length (quoteB t).length with hl | hl
  · rw [Nat.min_eq_left hl, List.take_length] at h
    have h1 := unquote_quote hs ((quoteB t).drop (quoteB s).length)
    have h2 : quoteB s ++ (quoteB t).drop (quoteB s).length = quoteB t := by
      have := List.take_append_drop (quoteB s).length (quoteB t)
      rwa [← h] at this
    have h3 := unquote_quote ht []
    rw [List.append_nil] at h3
    rw [h2, h3] at h1
    injection h1 with h1 _
    exact h1.symm
  · rw [Nat.min_eq_right hl, List.take_length] at h
    have h1 := unquote_quote ht ((quoteB s).drop (quoteB t).length)
    have h2 : quoteB t ++ (quoteB s).drop (quoteB t).length = quoteB s := by
      have := List.take_append_drop (quoteB t).length (quoteB s)
      rwa [h] at this
    have h3 := unquote_quote hs []
    rw [List.append_nil] at h3
    rw [h2, h3] at h1
    injection h1 with h1 _
theorem unquote_valid {b : List UInt8} {i e : Int} {t : List UInt8} (h : unquoteL b i = (t, e, 0)) : validD t = true := by
  unfold unquoteL at h
  split at h
  · simp at h
  · split at h
    · simp at h
    · simp only at h
      rcases hr : unqL (b.drop (i.toNat + 1)) [] (i.toNat + 1) with ⟨r1, r2, r3⟩
      rw [hr] at h
      simp only at h
      injection h with h1 h2
      injection h2 with h2 h3
      subst h1
      have h3' : r3 = 0 := by omega
      subst h3'
      exact read_valid _ _ [] _ _ _ (Nat.le_refl _) rfl hr
end Go.Proofs.YtffamppgnooaeaaDoor
