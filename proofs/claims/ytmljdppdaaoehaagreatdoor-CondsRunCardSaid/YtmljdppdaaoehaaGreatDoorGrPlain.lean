/- Plain laws of graphs: orders, ranks. No program is named here. -/
import Derived.Test.YtmljdppdaaoehaaGreatDoorBase
namespace Go.Proofs.YtmljdppdaaoehaaGreatDoor
set_option linter.unusedVariables false
set_option linter.unusedSimpArgs false

/-- what node i leans on -/
def lean' (L : List (List Nat)) (i : Nat) : List Nat := L.getD i []
/-- all leans name nodes -/
def okG (L : List (List Nat)) : Prop := ∀ i x, x ∈ lean' L i → x < L.length
def rdyB (L : List (List Nat)) (T : List Nat) (i : Nat) : Bool := !T.contains i && (lean' L i).all fun x => T.contains x
theorem rdyB_iff {L : List (List Nat)} {T : List Nat} {i : Nat} : rdyB L T i = true ↔ i ∉ T ∧ ∀ x ∈ lean' L i, x ∈ T := by simp [rdyB]
def nextF (L : List (List Nat)) (T : List Nat) : Option Nat := (List.range L.length).find? (rdyB L T)
def ordGo (L : List (List Nat)) : Nat → List Nat → Option (List Nat)
  | 0, T => some T
  | f + 1, T => match nextF L T with
    | none => none
    | some i => ordGo L f (T ++ [i])
def orderF (L : List (List Nat)) : Option (List Nat) := ordGo L L.length []

/-- a row of nodes, each once, behind what it leans on -/
structure Part (L : List (List Nat)) (T : List Nat) : Prop where
  nd : T.Nodup
  lt : ∀ x ∈ T, x < L.length
  pre : ∀ (A : List Nat) (i : Nat) (B : List Nat), T = A ++ i :: B → ∀ x ∈ lean' L i, x ∈ A
theorem Part.nil (L : List (List Nat)) : Part L [] := ⟨List.nodup_nil, by simp, fun A i B h => by cases A <;> cases h⟩
theorem Part.snoc {L : List (List Nat)} {T : List Nat} {i : Nat} (h : Part L T) (hi : i < L.length) (hr : rdyB L T i = true) : Part L (T ++ [i]) := by
  obtain ⟨h1, h2⟩ := rdyB_iff.1 hr
  refine ⟨?_, ?_, ?_⟩
  · rw [List.nodup_append]
    exact ⟨h.nd, by simp, fun a ha b hb => by rw [List.mem_singleton] at hb; subst hb; rintro rfl; exact h1 ha⟩
  · intro x hx
    rcases List.mem_append.1 hx with hx | hx
    · exact h.lt x hx
    · rw [List.mem_singleton] at hx; subst hx; exact hi
  · intro A j B e x hx
    rcases List.eq_nil_or_concat B with rfl | ⟨B', b, rfl⟩
    · have := List.append_inj' e rfl
      obtain ⟨rfl, h3⟩ := this
      injection h3 with h3; subst h3
      exact h2 x hx
    · have e' : T ++ [i] = (A ++ j :: B') ++ [b] := by rw [e]; simp
      obtain ⟨e1, _⟩ := List.append_inj' e' rfl
      exact h.pre A j B' e1 x hx
theorem nextF_some {L : List (List Nat)} {T : List Nat} {i : Nat} (h : nextF L T = some i) : i < L.length ∧ rdyB L T i = true ∧ ∀ j, j < i → rdyB L T j = false := by
  unfold nextF at h
  have h1 := List.find?_some h
  have h2 := List.mem_of_find?_eq_some h
  rw [List.mem_range] at h2
  refine ⟨h2, h1, fun j hj => ?_⟩
  rw [List.find?_range_eq_some] at h
  simpa using h.2.2 j hj
theorem nextF_none {L : List (List Nat)} {T : List Nat} (h : nextF L T = none) : ∀ j, j < L.length → rdyB L T j = false := by
  unfold nextF at h
  rw [List.find?_eq_none] at h
  intro j hj
  have := h j (List.mem_range.2 hj)
  simpa using this
theorem nextF_of {L : List (List Nat)} {T : List Nat} {i : Nat} (hi : i < L.length) (hr : rdyB L T i = true) (hl : ∀ j, j < i → rdyB L T j = false) : nextF L T = some i := by
  unfold nextF
  rw [List.find?_range_eq_some]
  exact ⟨hr, List.mem_range.2 hi, fun j hj => by simp [hl j hj]⟩
theorem nextF_of_none {L : List (List Nat)} {T : List Nat} (h : ∀ j, j < L.length → rdyB L T j = false) : nextF L T = none := by
  unfold nextF
  rw [List.find?_eq_none]
  intro j hj
  simp [h j (List.mem_range.1 hj)]
theorem ordGo_part : ∀ (f : Nat) (L : List (List Nat)) (T O : List Nat), Part L T → ordGo L f T = some O → Part L O ∧ O.length = T.length + f
  | 0, L, T, O, h, e => by simp only [ordGo, Option.some.injEq] at e; subst e; exact ⟨h, rfl⟩
  | f + 1, L, T, O, h, e => by
    unfold ordGo at e
    split at e
    · cases e
    · rename_i i hi
      obtain ⟨h1, h2, _⟩ := nextF_some hi
      obtain ⟨h3, h4⟩ := ordGo_part f L (T ++ [i]) O (h.snoc h1 h2) e
      exact ⟨h3, by rw [h4, List.length_append, List.length_singleton]; omega⟩
theorem orderF_part {L : List (List Nat)} {O : List Nat} (h : orderF L = some O) : Part L O ∧ O.length = L.length := by
  obtain ⟨h1, h2⟩ := ordGo_part _ _ _ _ (Part.nil L) h
  exact ⟨h1, by simpa using h2⟩
theorem nodup_len : ∀ (n : Nat) (T : List Nat), T.Nodup → (∀ x ∈ T, x < n) → T.length ≤ n
  | 0, T, _, h => by
    cases T with
    | nil => exact Nat.le_refl _
    | cons a T => have := h a (by simp); omega
  | n + 1, T, hn, h => by
    by_cases hm : n ∈ T
    · have h1 := nodup_len n (T.erase n) (hn.erase n) (fun x hx => by
        rw [hn.mem_erase_iff] at hx
        have := h x hx.2
        omega)
      rw [List.length_erase_of_mem hm] at h1
      omega
    · have := nodup_len n T hn (fun x hx => by
        have h2 := h x hx
        have : x ≠ n := fun e => hm (e ▸ hx)
        omega)
      omega
theorem nodup_sub : ∀ (A B : List Nat), A.Nodup → (∀ x ∈ A, x ∈ B) → A.length ≤ B.length
  | [], B, _, _ => Nat.zero_le _
  | a :: A, B, hn, h => by
    have ha := h a (by simp)
    have h1 := nodup_sub A (B.erase a) (List.nodup_cons.1 hn).2 (fun x hx => by
      have hne : x ≠ a := by rintro rfl; exact (List.nodup_cons.1 hn).1 hx
      exact (List.mem_erase_of_ne hne).2 (h x (by simp [hx])))
    rw [List.length_erase_of_mem ha] at h1
    have := List.length_pos_of_mem ha
    rw [List.length_cons]
    omega
/-- a row of all nodes -/
theorem Part.all {L : List (List Nat)} {T : List Nat} (h : Part L T) (hl : T.length = L.length) : ∀ i, i < L.length → i ∈ T := by
  intro i hi
  by_cases hm : i ∈ T
  · exact hm
  · have := nodup_len L.length (i :: T) (List.nodup_cons.2 ⟨hm, h.nd⟩) (fun x hx => by
      rcases List.mem_cons.1 hx with rfl | hx
      · exact hi
      · exact h.lt x hx)
    rw [List.length_cons, hl] at this
    omega

/-- a walk of k steps from i to t along leans -/
inductive Walk (L : List (List Nat)) (t : Nat) : Nat → Nat → Prop
  | one {i : Nat} : t ∈ lean' L i → Walk L t 1 i
  | more {i n k : Nat} : n ∈ lean' L i → Walk L t k n → Walk L t (k + 1) i
theorem Walk.snoc {L : List (List Nat)} {t x k i : Nat} (h : Walk L t k i) (hx : x ∈ lean' L t) : Walk L x (k + 1) i := by
  induction h with
  | one h => exact .more h (.one hx)
  | more h _ ih => exact .more h ih
theorem Walk.pos {L : List (List Nat)} {t k i : Nat} (h : Walk L t k i) : 1 ≤ k := by
  cases h <;> omega
theorem lean_lt {L : List (List Nat)} {i x : Nat} (h : x ∈ lean' L i) : i < L.length := by
  rcases Nat.lt_or_ge i L.length with hi | hi
  · exact hi
  · unfold lean' at h
    rw [List.getD_eq_getElem?_getD, List.getElem?_eq_none hi] at h
    cases h
theorem Walk.lt {L : List (List Nat)} {t k i : Nat} (h : Walk L t k i) : i < L.length := by
  cases h with
  | one h => exact lean_lt h
  | more h _ => exact lean_lt h

theorem Part.edge {L : List (List Nat)} {O : List Nat} (h : Part L O) {i x : Nat} (hi : i ∈ O) (hx : x ∈ lean' L i) : O.idxOf x < O.idxOf i := by
  obtain ⟨A, B, rfl⟩ := List.append_of_mem hi
  have hxA := h.pre A i B rfl x hx
  have hiA : i ∉ A := fun hm => by
    have := (List.nodup_append.1 h.nd).2.2 i hm i (by simp)
    exact this rfl
  rw [List.idxOf_append, List.idxOf_append, if_pos hxA, if_neg hiA, List.idxOf_cons_self]
  have := List.idxOf_lt_length_of_mem hxA
  omega
/-- with an order nothing leads back -/
theorem Part.acyclic {L : List (List Nat)} {O : List Nat} (h : Part L O) (hl : O.length = L.length) {t k i : Nat} (hw : Walk L t k i) : O.idxOf t < O.idxOf i := by
  induction hw with
  | one hx => exact h.edge (h.all hl _ (lean_lt hx)) hx
  | more hx _ ih => have := h.edge (h.all hl _ (lean_lt hx)) hx; omega
theorem Part.no_circle {L : List (List Nat)} {O : List Nat} (h : Part L O) (hl : O.length = L.length) (s k : Nat) : ¬ Walk L s k s := fun hw => by
  have := h.acyclic hl hw; omega

/-- where nothing is ready, something leads back -/
theorem stuck_walk {L : List (List Nat)} (hok : okG L) {T : List Nat} (hn : nextF L T = none) (i0 : Nat) (hi0 : i0 < L.length) (hT : i0 ∉ T) :
    ∀ m : Nat, (∃ s k, Walk L s k s) ∨ ∃ (p : Nat) (P : List Nat), (p :: P).Nodup ∧ (p :: P).length = m + 1 ∧ (∀ q ∈ p :: P, q < L.length ∧ q ∉ T) ∧ ∀ q ∈ P, ∃ k, Walk L p k q := by
  intro m
  induction m with
  | zero => exact .inr ⟨i0, [], by simp, by simp, by simp [hi0, hT], by simp⟩
  | succ m ih =>
    rcases ih with h | ⟨p, P, hnd, hlen, hq, hw⟩
    · exact .inl h
    · obtain ⟨hp1, hp2⟩ := hq p (by simp)
      have hr := nextF_none hn p hp1
      have hx : ∃ x ∈ lean' L p, x ∉ T := by
        by_cases hh : ∃ x ∈ lean' L p, x ∉ T
        · exact hh
        · exfalso
          have : rdyB L T p = true := rdyB_iff.2 ⟨hp2, fun x hx => by
            by_cases hxT : x ∈ T
            · exact hxT
            · exact absurd ⟨x, hx, hxT⟩ hh⟩
          rw [hr] at this; cases this
      obtain ⟨x, hx, hxT⟩ := hx
      have hxl := hok p x hx
      by_cases hm : x ∈ p :: P
      · left
        rcases List.mem_cons.1 hm with rfl | hm
        · exact ⟨x, 1, .one hx⟩
        · obtain ⟨k, hk⟩ := hw x hm
          exact ⟨x, k + 1, hk.snoc hx⟩
      · right
        refine ⟨x, p :: P, List.nodup_cons.2 ⟨hm, hnd⟩, by rw [List.length_cons, hlen], ?_, ?_⟩
        · intro q hq'
          rcases List.mem_cons.1 hq' with rfl | hq'
          · exact ⟨hxl, hxT⟩
          · exact hq q hq'
        · intro q hq'
          rcases List.mem_cons.1 hq' with rfl | hq'
          · exact ⟨1, .one hx⟩
          · obtain ⟨k, hk⟩ := hw q hq'
            exact ⟨k + 1, hk.snoc hx⟩
theorem stuck_circle {L : List (List Nat)} (hok : okG L) {T : List Nat} (hn : nextF L T = none) (i0 : Nat) (hi0 : i0 < L.length) (hT : i0 ∉ T) : ∃ s k, Walk L s k s := by
  rcases stuck_walk hok hn i0 hi0 hT L.length with h | ⟨p, P, hnd, hlen, hq, _⟩
  · exact h
  · exfalso
    have := nodup_len L.length (p :: P) hnd (fun q h => (hq q h).1)
    omega
theorem ordGo_none : ∀ (f : Nat) (L : List (List Nat)) (T : List Nat), okG L → Part L T → T.length + f = L.length → ordGo L f T = none → ∃ s k, Walk L s k s
  | 0, L, T, _, _, _, e => by cases e
  | f + 1, L, T, hok, hp, hl, e => by
    unfold ordGo at e
    split at e
    · rename_i hn
      have : ∃ i0, i0 < L.length ∧ i0 ∉ T := by
        by_cases hh : ∃ i0, i0 < L.length ∧ i0 ∉ T
        · exact hh
        · exfalso
          have h1 := nodup_sub (List.range L.length) T List.nodup_range (fun x hx => by
            by_cases hx' : x ∈ T
            · exact hx'
            · exact absurd ⟨x, List.mem_range.1 hx, hx'⟩ hh)
          rw [List.length_range] at h1
          omega
      obtain ⟨i0, h1, h2⟩ := this
      exact stuck_circle hok hn i0 h1 h2
    · rename_i i hi
      obtain ⟨h1, h2, _⟩ := nextF_some hi
      exact ordGo_none f L (T ++ [i]) hok (hp.snoc h1 h2) (by rw [List.length_append, List.length_singleton]; omega) e
end Go.Proofs.YtmljdppdaaoehaaGreatDoor
