/- Plain laws of graphs: distances by relaxing. No program is named here. -/
import Derived.Test.YtjpljkjclamjnaaGrPlain3
namespace Go.Proofs.Ytjpljkjclamjnaa
set_option linter.unusedVariables false
set_option linter.unusedSimpArgs false

/-- one lean looked at: is there something to better -/
def rel (t : Nat) (s : (Nat → Nat) × Bool) (e : Nat × Nat) : (Nat → Nat) × Bool :=
  if e.2 ≠ t ∧ s.1 e.2 = 0 then s else
  if s.1 e.1 = 0 ∨ (if e.2 = t then 1 else s.1 e.2 + 1) < s.1 e.1 then (upd s.1 e.1 (if e.2 = t then 1 else s.1 e.2 + 1), true) else s
/-- all leans, in order -/
def edges (L : List (List Nat)) : List (Nat × Nat) := (List.range L.length).flatMap fun i => (lean' L i).map fun x => (i, x)
theorem mem_edges {L : List (List Nat)} {i x : Nat} : (i, x) ∈ edges L ↔ x ∈ lean' L i := by
  unfold edges
  simp only [List.mem_flatMap, List.mem_range, List.mem_map, Prod.mk.injEq]
  constructor
  · rintro ⟨j, _, y, hy, rfl, rfl⟩; exact hy
  · intro h; exact ⟨i, lean_lt h, x, h, rfl, rfl⟩

def cnt (n : Nat) (g : Nat → Nat) : Nat := ((List.range n).filter fun i => g i != 0).length
structure RelI (L : List (List Nat)) (t : Nat) (g : Nat → Nat) : Prop where
  sound : ∀ i, g i ≠ 0 → Walk L t (g i) i
  le : ∀ i, g i ≤ cnt L.length g
theorem RelI.start (L : List (List Nat)) (t : Nat) : RelI L t (fun _ => 0) := ⟨fun i h => absurd rfl h, fun _ => Nat.zero_le _⟩
theorem cnt_le (n : Nat) (g : Nat → Nat) : cnt n g ≤ n := by
  have := List.length_filter_le (fun i => g i != 0) (List.range n)
  simpa [cnt] using this
theorem filter_mono {p q : Nat → Bool} : ∀ (l : List Nat), (∀ x ∈ l, p x = true → q x = true) → (l.filter p).length ≤ (l.filter q).length
  | [], _ => Nat.le_refl _
  | x :: l, h => by
    have ih := filter_mono l (fun y hy => h y (by simp [hy]))
    by_cases hp : p x = true
    · simp [List.filter_cons, hp, h x (by simp) hp]; exact ih
    · rw [show (x :: l).filter p = l.filter p from by simp [List.filter_cons, hp]]
      by_cases hq : q x = true
      · rw [show (x :: l).filter q = x :: l.filter q from by simp [List.filter_cons, hq], List.length_cons]; omega
      · rw [show (x :: l).filter q = l.filter q from by simp [List.filter_cons, hq]]; exact ih
theorem filter_more {p q : Nat → Bool} {i : Nat} : ∀ (l : List Nat), (∀ x ∈ l, p x = true → q x = true) → i ∈ l → p i = false → q i = true → (l.filter p).length + 1 ≤ (l.filter q).length
  | [], _, h, _, _ => by cases h
  | x :: l, h, hi, hp, hq => by
    rcases List.mem_cons.1 hi with rfl | hi
    · have ih := filter_mono l (fun y hy => h y (by simp [hy]))
      simp [List.filter_cons, hp, hq]; exact ih
    · have ih := filter_more l (fun y hy => h y (by simp [hy])) hi hp hq
      by_cases hp' : p x = true
      · simp [List.filter_cons, hp', h x (by simp) hp']; omega
      · rw [show (x :: l).filter p = l.filter p from by simp [List.filter_cons, hp']]
        by_cases hq' : q x = true
        · rw [show (x :: l).filter q = x :: l.filter q from by simp [List.filter_cons, hq'], List.length_cons]; omega
        · rw [show (x :: l).filter q = l.filter q from by simp [List.filter_cons, hq']]; exact ih
/-- how much is to be bettered -/
def wgt (n : Nat) (g : Nat → Nat) (i : Nat) : Nat := if g i = 0 then n + 1 else g i
def tot (n : Nat) (g : Nat → Nat) : Nat := ((List.range n).map (wgt n g)).sum
theorem sum_le {f h : Nat → Nat} : ∀ (l : List Nat), (∀ x ∈ l, f x ≤ h x) → (l.map f).sum ≤ (l.map h).sum
  | [], _ => Nat.le_refl _
  | x :: l, hh => by
    have := sum_le l (fun y hy => hh y (by simp [hy]))
    have := hh x (by simp)
    simp only [List.map_cons, List.sum_cons]; omega
theorem sum_lt {f h : Nat → Nat} {i : Nat} : ∀ (l : List Nat), (∀ x ∈ l, f x ≤ h x) → i ∈ l → f i < h i → (l.map f).sum < (l.map h).sum
  | [], _, hi, _ => by cases hi
  | x :: l, hh, hi, hlt => by
    have hx := hh x (by simp)
    rcases List.mem_cons.1 hi with rfl | hi
    · have := sum_le l (fun y hy => hh y (by simp [hy]))
      simp only [List.map_cons, List.sum_cons]; omega
    · have := sum_lt l (fun y hy => hh y (by simp [hy])) hi hlt
      simp only [List.map_cons, List.sum_cons]; omega
theorem tot_le (n : Nat) (g : Nat → Nat) (hg : ∀ i, g i ≤ n) : tot n g ≤ n * (n + 1) := by
  have : ∀ l : List Nat, (l.map (wgt n g)).sum ≤ l.length * (n + 1) := by
    intro l
    induction l with
    | nil => simp
    | cons x l ih =>
      simp only [List.map_cons, List.sum_cons, List.length_cons]
      have : wgt n g x ≤ n + 1 := by
        have := hg x
        unfold wgt; split <;> omega
      rw [Nat.succ_mul]; omega
  have h := this (List.range n)
  simpa [tot] using h

/-- a look either leaves all or betters -/
theorem rel_step {L : List (List Nat)} {t i x : Nat} {g : Nat → Nat} {a : Bool} (h : RelI L t g) (hx : x ∈ lean' L i) :
    (rel t (g, a) (i, x) = (g, a) ∧ ((x = t → g i ≠ 0 ∧ g i ≤ 1) ∧ (x ≠ t → g x ≠ 0 → g i ≠ 0 ∧ g i ≤ g x + 1))) ∨
    ∃ d, rel t (g, a) (i, x) = (upd g i d, true) ∧ d ≠ 0 ∧ RelI L t (upd g i d) ∧ tot L.length (upd g i d) < tot L.length g := by
  have hi := lean_lt hx
  unfold rel
  simp only
  by_cases h1 : x ≠ t ∧ g x = 0
  · left
    rw [if_pos h1]
    exact ⟨rfl, fun e => absurd e h1.1, fun _ e => absurd h1.2 e⟩
  · rw [if_neg h1]
    obtain ⟨d, hd⟩ : ∃ d, (if x = t then 1 else g x + 1) = d := ⟨_, rfl⟩
    rw [hd]
    have hd0 : d ≠ 0 := by rw [← hd]; split <;> omega
    by_cases h2 : g i = 0 ∨ d < g i
    · right
      rw [if_pos h2]
      have hw : Walk L t d i := by
        by_cases hxt : x = t
        · rw [if_pos hxt] at hd; subst hd; subst hxt; exact .one hx
        · rw [if_neg hxt] at hd; subst hd
          exact .more hx (h.sound x (fun e => h1 ⟨hxt, e⟩))
      have hcm : cnt L.length g ≤ cnt L.length (upd g i d) := filter_mono _ (fun y _ hy => by
        unfold upd; split
        · simp [hd0]
        · exact hy)
      have hdc : d ≤ cnt L.length (upd g i d) := by
        rcases h2 with h2 | h2
        · have hc1 : cnt L.length g + 1 ≤ cnt L.length (upd g i d) := filter_more (i := i) _ (fun y _ hy => by
            unfold upd; split
            · simp [hd0]
            · exact hy) (List.mem_range.2 hi) (by simp [h2]) (by simp [upd, hd0])
          have hdl : d ≤ cnt L.length g + 1 := by
            rw [← hd]; split
            · omega
            · have := h.le x; omega
          omega
        · have := h.le i; omega
      have hlt : tot L.length (upd g i d) < tot L.length g := by
        have hdn := Nat.le_trans hdc (cnt_le _ _)
        refine sum_lt (i := i) _ (fun y _ => ?_) (List.mem_range.2 hi) ?_
        · unfold wgt upd
          by_cases hy : y = i
          · subst hy
            simp only [if_true, hd0, if_false]
            rcases h2 with h2 | h2
            · rw [if_pos h2]; omega
            · split <;> omega
          · simp only [hy, if_false]; exact Nat.le_refl _
        · unfold wgt upd
          simp only [if_true, hd0, if_false]
          rcases h2 with h2 | h2
          · rw [if_pos h2]; omega
          · rw [if_neg (by omega)]; exact h2
      refine ⟨d, rfl, hd0, ⟨fun j hj => ?_, fun j => ?_⟩, hlt⟩
      · unfold upd at hj ⊢
        split
        · rename_i e; subst e; exact hw
        · rename_i e; rw [if_neg e] at hj; exact h.sound j hj
      · by_cases e : j = i
        · subst e; simpa [upd] using hdc
        · rw [show upd g i d j = g j from by unfold upd; rw [if_neg e]]
          exact Nat.le_trans (h.le j) hcm
    · left
      rw [if_neg h2]
      refine ⟨rfl, fun e => ?_, fun e hg => ?_⟩
      · rw [if_pos e] at hd; omega
      · rw [if_neg e] at hd; omega
/-- some looks one behind the other -/
theorem rel_fold {L : List (List Nat)} {t : Nat} : ∀ (l : List (Nat × Nat)) (g : Nat → Nat) (a : Bool), (∀ e ∈ l, e.2 ∈ lean' L e.1) → RelI L t g →
    RelI L t (l.foldl (rel t) (g, a)).1 ∧ tot L.length (l.foldl (rel t) (g, a)).1 ≤ tot L.length g ∧ (a = true → (l.foldl (rel t) (g, a)).2 = true) ∧ ((l.foldl (rel t) (g, a)).2 = true → a = true ∨ tot L.length (l.foldl (rel t) (g, a)).1 < tot L.length g) ∧
      ((l.foldl (rel t) (g, a)).2 = false → (l.foldl (rel t) (g, a)).1 = g ∧ ∀ e ∈ l, (e.2 = t → g e.1 ≠ 0 ∧ g e.1 ≤ 1) ∧ (e.2 ≠ t → g e.2 ≠ 0 → g e.1 ≠ 0 ∧ g e.1 ≤ g e.2 + 1))
  | [], g, a, _, h => ⟨h, Nat.le_refl _, id, .inl, fun _ => ⟨rfl, by simp⟩⟩
  | (i, x) :: l, g, a, hl, h => by
    rw [List.foldl_cons]
    rcases rel_step (a := a) h (hl (i, x) (by simp)) with ⟨h1, h2⟩ | ⟨d, h1, hd, h2, h3⟩
    · rw [h1]
      obtain ⟨i1, i2, i3, i4, i5⟩ := rel_fold l g a (fun e he => hl e (by simp [he])) h
      refine ⟨i1, i2, i3, i4, fun hf => ⟨(i5 hf).1, fun e he => ?_⟩⟩
      rcases List.mem_cons.1 he with rfl | he
      · exact h2
      · exact (i5 hf).2 e he
    · rw [h1]
      obtain ⟨i1, i2, i3, i4, i5⟩ := rel_fold l (upd g i d) true (fun e he => hl e (by simp [he])) h2
      refine ⟨i1, Nat.le_trans i2 (Nat.le_of_lt h3), fun _ => i3 rfl, fun _ => .inr (Nat.lt_of_le_of_lt i2 h3), fun hf => ?_⟩
      rw [i3 rfl] at hf; cases hf
theorem rel_done {L : List (List Nat)} {t : Nat} {g : Nat → Nat} (h : RelI L t g) (hc : ∀ e ∈ edges L, (e.2 = t → g e.1 ≠ 0 ∧ g e.1 ≤ 1) ∧ (e.2 ≠ t → g e.2 ≠ 0 → g e.1 ≠ 0 ∧ g e.1 ≤ g e.2 + 1)) : IsD L t g := by
  have key : ∀ k i, Walk L t k i → g i ≠ 0 ∧ g i ≤ k := by
    intro k i hw
    induction hw with
    | one hx => exact (hc _ (mem_edges.2 hx)).1 rfl
    | more hn hw ih =>
      rename_i i n k
      have h1 := hc _ (mem_edges.2 hn)
      have hp := hw.pos
      by_cases hnt : n = t
      · have := h1.1 hnt; exact ⟨this.1, by have := this.2; simp only at this; omega⟩
      · obtain ⟨h3, h4⟩ := ih
        have := h1.2 hnt h3
        exact ⟨this.1, by have := this.2; simp only at this; omega⟩
  intro i
  by_cases hf : g i = 0
  · left; exact ⟨hf, fun k hw => (key k i hw).1 hf⟩
  · right; exact ⟨by omega, h.sound i hf, fun k hw => (key k i hw).2⟩
end Go.Proofs.Ytjpljkjclamjnaa
