/- Plain laws of graphs: distances, circles. No program is named here. -/
import Derived.Test.YtjpljkjclamjnaaGrPlain2
namespace Go.Proofs.Ytjpljkjclamjnaa
set_option linter.unusedVariables false
set_option linter.unusedSimpArgs false

/-- D tells the fewest steps to t, 0: none -/
def IsD (L : List (List Nat)) (t : Nat) (D : Nat → Nat) : Prop := ∀ i, (D i = 0 ∧ ∀ k, ¬ Walk L t k i) ∨ (1 ≤ D i ∧ Walk L t (D i) i ∧ ∀ k, Walk L t k i → D i ≤ k)
theorem IsD.unique {L : List (List Nat)} {t : Nat} {D D' : Nat → Nat} (h : IsD L t D) (h' : IsD L t D') (i : Nat) : D i = D' i := by
  rcases h i with ⟨h1, h2⟩ | ⟨h1, h2, h3⟩ <;> rcases h' i with ⟨g1, g2⟩ | ⟨g1, g2, g3⟩
  · omega
  · exact absurd g2 (h2 _)
  · exact absurd h2 (g2 _)
  · exact Nat.le_antisymm (h3 _ g2) (g3 _ h2)

def nxt (L : List (List Nat)) (D : Nat → Nat) (s left at_ : Nat) : Nat := (lean' L at_).foldl (fun least x => if D x = left ∧ x ≠ s then min least x else least) L.length
def pathGo (L : List (List Nat)) (D : Nat → Nat) (s : Nat) : Nat → Nat → List Nat
  | 0, _ => []
  | left + 1, at_ => at_ :: pathGo L D s left (nxt L D s left at_)
theorem minf_spec {p : Nat → Prop} [DecidablePred p] : ∀ (l : List Nat) (a : Nat), (l.foldl (fun least x => if p x then min least x else least) a = a ∨ (l.foldl (fun least x => if p x then min least x else least) a ∈ l ∧ p (l.foldl (fun least x => if p x then min least x else least) a))) ∧
    l.foldl (fun least x => if p x then min least x else least) a ≤ a ∧ ∀ x ∈ l, p x → l.foldl (fun least x => if p x then min least x else least) a ≤ x
  | [], a => by simp
  | x :: l, a => by
    rw [List.foldl_cons]
    by_cases hp : p x
    · rw [if_pos hp]
      obtain ⟨h1, h2, h3⟩ := minf_spec (p := p) l (min a x)
      refine ⟨?_, by omega, ?_⟩
      · rcases h1 with h1 | ⟨h1, h1'⟩
        · rcases Nat.le_total a x with h | h
          · left; rw [h1]; exact Nat.min_eq_left h
          · right; rw [h1, Nat.min_eq_right h]; exact ⟨by simp, hp⟩
        · exact .inr ⟨by simp [h1], h1'⟩
      · intro y hy hpy
        rcases List.mem_cons.1 hy with rfl | hy
        · omega
        · exact h3 y hy hpy
    · rw [if_neg hp]
      obtain ⟨h1, h2, h3⟩ := minf_spec (p := p) l a
      refine ⟨h1.imp id (fun h => ⟨by simp [h.1], h.2⟩), h2, ?_⟩
      intro y hy hpy
      rcases List.mem_cons.1 hy with rfl | hy
      · exact absurd hpy hp
      · exact h3 y hy hpy
theorem nxt_spec {L : List (List Nat)} (hok : okG L) {s : Nat} {D : Nat → Nat} (hD : IsD L s D) {left at_ : Nat} (hl : 1 ≤ left) (hat : D at_ = left + 1) :
    nxt L D s left at_ ∈ lean' L at_ ∧ D (nxt L D s left at_) = left ∧ nxt L D s left at_ ≠ s ∧ nxt L D s left at_ < L.length := by
  have hx : ∃ x ∈ lean' L at_, D x = left ∧ x ≠ s := by
    rcases hD at_ with ⟨h1, _⟩ | ⟨h1, h2, h3⟩
    · omega
    · rw [hat] at h2
      cases h2 with
      | one _ => omega
      | more hn hw =>
        rename_i n
        refine ⟨n, hn, ?_, ?_⟩
        · rcases hD n with ⟨g1, g2⟩ | ⟨g1, g2, g3⟩
          · exact absurd hw (g2 _)
          · have := g3 _ hw
            have := h3 _ (.more hn g2)
            omega
        · rintro rfl
          have := h3 _ (.one hn)
          omega
  obtain ⟨x, hx1, hx2, hx3⟩ := hx
  obtain ⟨h1, h2, h3⟩ := minf_spec (p := fun x => D x = left ∧ x ≠ s) (lean' L at_) L.length
  have h4 := h3 x hx1 ⟨hx2, hx3⟩
  have hxl := hok _ x hx1
  rcases h1 with h1 | ⟨h1, h5⟩
  · exfalso
    rw [h1] at h4
    omega
  · exact ⟨h1, h5.1, h5.2, hok _ _ h1⟩
/-- each once, each on the next, back again -/
structure Circ (L : List (List Nat)) (s : Nat) (D : Nat → Nat) (m at_ : Nat) (c : List Nat) : Prop where
  len : c.length = m
  lt : ∀ x ∈ c, x < L.length
  d : ∀ (j x : Nat), c[j]? = some x → D x = m - j
  step : ∀ (j x y : Nat), c[j]? = some x → c[j + 1]? = some y → y ∈ lean' L x
  last : ∀ x, c[m - 1]? = some x → s ∈ lean' L x
theorem pathGo_circ {L : List (List Nat)} (hok : okG L) {s : Nat} {D : Nat → Nat} (hD : IsD L s D) : ∀ (m at_ : Nat), 1 ≤ m → D at_ = m → at_ < L.length → Circ L s D m at_ (pathGo L D s m at_)
  | 0, _, h, _, _ => by omega
  | 1, at_, _, hd, hl => by
    have hs : s ∈ lean' L at_ := by
      rcases hD at_ with ⟨h1, _⟩ | ⟨h1, h2, _⟩
      · omega
      · rw [hd] at h2
        cases h2 with
        | one h => exact h
        | more _ hw => have := hw.pos; omega
    refine ⟨rfl, by simp [pathGo, hl], ?_, ?_, ?_⟩
    · intro j x hx
      cases j with
      | zero => simp [pathGo] at hx; subst hx; omega
      | succ j => simp [pathGo] at hx
    · intro j x y _ hy; simp [pathGo] at hy
    · intro x hx; simp [pathGo] at hx; subst hx; exact hs
  | m + 2, at_, _, hd, hl => by
    obtain ⟨h1, h2, h3, h4⟩ := nxt_spec hok hD (left := m + 1) (by omega) hd
    have ih := pathGo_circ hok hD (m + 1) (nxt L D s (m + 1) at_) (by omega) h2 h4
    refine ⟨?_, ?_, ?_, ?_, ?_⟩
    · show (at_ :: pathGo L D s (m + 1) _).length = _
      rw [List.length_cons, ih.len]
    · intro x hx
      rcases List.mem_cons.1 (show x ∈ at_ :: pathGo L D s (m + 1) _ from hx) with rfl | hx
      · exact hl
      · exact ih.lt x hx
    · intro j x hx
      cases j with
      | zero =>
        have : at_ = x := by simpa [pathGo] using hx
        subst this; omega
      | succ j =>
        have := ih.d j x (by simpa [pathGo] using hx)
        omega
    · intro j x y hx hy
      cases j with
      | zero =>
        have e1 : at_ = x := by simpa [pathGo] using hx
        have e2 : nxt L D s (m + 1) at_ = y := by simpa [pathGo] using hy
        subst e1 e2; exact h1
      | succ j => exact ih.step j x y (by simpa [pathGo] using hx) (by simpa [pathGo] using hy)
    · intro x hx
      exact ih.last x (by simpa [pathGo] using hx)

def circF (L : List (List Nat)) (Ds : Nat → Nat → Nat) : List Nat :=
  match (List.range L.length).find? (fun s => Ds s s != 0) with
  | none => []
  | some s => pathGo L (Ds s) s (Ds s s) s
theorem circF_none {L : List (List Nat)} {Ds : Nat → Nat → Nat} (hD : ∀ s, s < L.length → IsD L s (Ds s)) : circF L Ds = [] ↔ ∀ s k, ¬ Walk L s k s := by
  unfold circF
  cases hf : (List.range L.length).find? (fun s => Ds s s != 0) with
  | none =>
    simp only [true_iff]
    intro s k hw
    have hs := hw.lt
    rw [List.find?_eq_none] at hf
    have := hf s (List.mem_range.2 hs)
    rcases hD s hs s with ⟨_, h2⟩ | ⟨h1, _, _⟩
    · exact h2 k hw
    · simp at this; omega
  | some s =>
    have h1 := List.find?_some hf
    have h2 := List.mem_range.1 (List.mem_of_find?_eq_some hf)
    simp at h1
    constructor
    · intro h
      obtain ⟨m, hm⟩ : ∃ m, Ds s s = m + 1 := ⟨Ds s s - 1, by omega⟩
      have h' : pathGo L (Ds s) s (Ds s s) s = [] := h
      rw [hm] at h'
      cases h'
    · intro h
      rcases hD s h2 s with ⟨h3, _⟩ | ⟨_, h3, _⟩
      · exact absurd h3 h1
      · exact absurd h3 (h s _)
theorem circF_congr {L L' : List (List Nat)} {Ds Ds' : Nat → Nat → Nat} (hlen : L'.length = L.length) (hl : ∀ i x, x ∈ lean' L' i ↔ x ∈ lean' L i) (hD : ∀ s, s < L.length → IsD L s (Ds s)) (hD' : ∀ s, s < L.length → IsD L' s (Ds' s)) : circF L' Ds' = circF L Ds := by
  have hw : ∀ {t k i : Nat}, Walk L' t k i ↔ Walk L t k i := by
    intro t k i
    constructor
    · intro h
      induction h with
      | one h => exact .one ((hl _ _).1 h)
      | more h _ ih => exact .more ((hl _ _).1 h) ih
    · intro h
      induction h with
      | one h => exact .one ((hl _ _).2 h)
      | more h _ ih => exact .more ((hl _ _).2 h) ih
  have hDe : ∀ s, s < L.length → Ds' s = Ds s := by
    intro s hs
    funext i
    refine IsD.unique (L := L) (t := s) (fun i => ?_) (hD s hs) i
    rcases hD' s hs i with ⟨h1, h2⟩ | ⟨h1, h2, h3⟩
    · exact .inl ⟨h1, fun k hk => h2 k (hw.2 hk)⟩
    · exact .inr ⟨h1, hw.1 h2, fun k hk => h3 k (hw.2 hk)⟩
  have hn : ∀ D s left at_, nxt L' D s left at_ = nxt L D s left at_ := by
    intro D s left at_
    unfold nxt
    rw [hlen]
    obtain ⟨a1, a2, a3⟩ := minf_spec (p := fun x => D x = left ∧ x ≠ s) (lean' L' at_) L.length
    obtain ⟨b1, b2, b3⟩ := minf_spec (p := fun x => D x = left ∧ x ≠ s) (lean' L at_) L.length
    apply Nat.le_antisymm
    · rcases b1 with b1 | ⟨b1, b4⟩
      · rw [b1]; exact a2
      · exact a3 _ ((hl _ _).2 b1) b4
    · rcases a1 with a1 | ⟨a1, a4⟩
      · rw [a1]; exact b2
      · exact b3 _ ((hl _ _).1 a1) a4
  have hp : ∀ D s m at_, pathGo L' D s m at_ = pathGo L D s m at_ := by
    intro D s m
    induction m with
    | zero => intro at_; rfl
    | succ m ih =>
      intro at_
      show at_ :: pathGo L' D s m _ = at_ :: pathGo L D s m _
      rw [hn, ih]
  unfold circF
  rw [hlen]
  have hfe : (List.range L.length).find? (fun s => Ds' s s != 0) = (List.range L.length).find? (fun s => Ds s s != 0) := by
    have : ∀ l : List Nat, (∀ x ∈ l, x < L.length) → l.find? (fun s => Ds' s s != 0) = l.find? (fun s => Ds s s != 0) := by
      intro l
      induction l with
      | nil => intro _; rfl
      | cons x l ih =>
        intro h
        rw [List.find?_cons, List.find?_cons, hDe x (h x (by simp)), ih (fun y hy => h y (by simp [hy]))]
    exact this _ (fun x hx => List.mem_range.1 hx)
  rw [hfe]
  cases hf : (List.range L.length).find? (fun s => Ds s s != 0) with
  | none => rfl
  | some s =>
    have h2 := List.mem_range.1 (List.mem_of_find?_eq_some hf)
    simp only
    rw [hp, hDe s h2]

/-! breadth first -/
def upd (f : Nat → Nat) (i d : Nat) : Nat → Nat := fun j => if j = i then d else f j
/-- one more node looked at: what is known, what has come new -/
def bStep (d : Nat) (s : (Nat → Nat) × List Nat) (i : Nat) : (Nat → Nat) × List Nat := if s.1 i = 0 then (upd s.1 i d, s.2 ++ [i]) else s
theorem bStep_fold {d : Nat} (hd : d ≠ 0) : ∀ (l : List Nat) (f : Nat → Nat) (nx : List Nat), (∀ i, i ∈ nx → f i = d) →
    (∀ i, (l.foldl (bStep d) (f, nx)).1 i = if f i ≠ 0 then f i else if i ∈ l then d else 0) ∧ (∀ i, i ∈ (l.foldl (bStep d) (f, nx)).2 ↔ i ∈ nx ∨ (f i = 0 ∧ i ∈ l))
  | [], f, nx, _ => by
    refine ⟨fun i => ?_, fun i => by simp⟩
    simp only [List.foldl_nil]
    by_cases h : f i = 0 <;> simp [h]
  | x :: l, f, nx, hnx => by
    rw [List.foldl_cons]
    by_cases hx : f x = 0
    · rw [show bStep d (f, nx) x = (upd f x d, nx ++ [x]) from by unfold bStep; rw [if_pos hx]]
      obtain ⟨h1, h2⟩ := bStep_fold hd l (upd f x d) (nx ++ [x]) (fun i hi => by
        unfold upd
        rcases List.mem_append.1 hi with hi | hi
        · split
          · rfl
          · exact hnx i hi
        · rw [List.mem_singleton] at hi; rw [if_pos hi])
      refine ⟨fun i => ?_, fun i => ?_⟩
      · rw [show (l.foldl (bStep d) (upd f x d, nx ++ [x])).1 i = _ from h1 i]
        unfold upd
        by_cases hi : i = x
        · subst hi; simp [hx, hd]
        · simp [hi]
      · rw [show i ∈ (l.foldl (bStep d) (upd f x d, nx ++ [x])).2 ↔ _ from h2 i]
        unfold upd
        by_cases hi : i = x
        · subst hi; simp [hx]
        · simp [hi]
    · rw [show bStep d (f, nx) x = (f, nx) from by unfold bStep; rw [if_neg hx]]
      obtain ⟨h1, h2⟩ := bStep_fold hd l f nx hnx
      refine ⟨fun i => ?_, fun i => ?_⟩
      · rw [show (l.foldl (bStep d) (f, nx)).1 i = _ from h1 i]
        by_cases hi : i = x
        · subst hi; simp [hx]
        · simp [hi]
      · rw [show i ∈ (l.foldl (bStep d) (f, nx)).2 ↔ _ from h2 i]
        by_cases hi : i = x
        · subst hi; simp [hx]
        · simp [hi]

/-- ahead of a round -/
structure BfsI (L : List (List Nat)) (t d : Nat) (f : Nat → Nat) (W : List Nat) : Prop where
  pos : 1 ≤ d
  sound : ∀ i, f i ≠ 0 → Walk L t (f i) i ∧ f i < d
  full : ∀ i k, Walk L t k i → k < d → f i ≠ 0 ∧ f i ≤ k
  wave : ∀ n, n ∈ W ↔ (d = 1 ∧ n = t) ∨ (2 ≤ d ∧ f n = d - 1)
theorem BfsI.start (L : List (List Nat)) (t : Nat) : BfsI L t 1 (fun _ => 0) [t] :=
  ⟨Nat.le_refl _, fun i h => absurd rfl h, fun i k hw hk => by have := hw.pos; omega, fun n => by simp⟩
/-- a round: back n: who leans on n -/
theorem BfsI.round {L : List (List Nat)} {t d : Nat} {f : Nat → Nat} {W l : List Nat} (h : BfsI L t d f W) (hl : ∀ i, i ∈ l ↔ ∃ n ∈ W, n ∈ lean' L i) :
    BfsI L t (d + 1) (l.foldl (bStep d) (f, [])).1 (l.foldl (bStep d) (f, [])).2 := by
  obtain ⟨h1, h2⟩ := bStep_fold (d := d) (by have := h.pos; omega) l f [] (by simp)
  have hd := h.pos
  generalize (l.foldl (bStep d) (f, [])).1 = f' at h1 ⊢
  generalize (l.foldl (bStep d) (f, [])).2 = W' at h2 ⊢
  refine ⟨by omega, fun i hi => ?_, fun i k hw hk => ?_, fun n => ?_⟩
  · rw [h1 i] at hi ⊢
    by_cases hf : f i = 0
    · simp only [hf, ne_eq, not_true_eq_false, if_false] at hi ⊢
      by_cases hm : i ∈ l
      · rw [if_pos hm]
        obtain ⟨n, hn, hni⟩ := (hl i).1 hm
        refine ⟨?_, by omega⟩
        rcases (h.wave n).1 hn with ⟨rfl, rfl⟩ | ⟨h3, h4⟩
        · exact .one hni
        · have := (h.sound n (by omega)).1
          rw [h4] at this
          have h5 := Walk.more hni this
          rwa [show d - 1 + 1 = d from by omega] at h5
      · rw [if_neg hm] at hi; exact absurd rfl hi
    · simp only [ne_eq, hf, not_false_eq_true, if_true] at hi ⊢
      have := h.sound i hf
      exact ⟨this.1, by omega⟩
  · rw [h1 i]
    by_cases hf : f i = 0
    · simp only [hf, ne_eq, not_true_eq_false, if_false]
      have hkd : k = d := by
        rcases Nat.lt_or_ge k d with h3 | h3
        · exact absurd hf (h.full i k hw h3).1
        · omega
      subst hkd
      have hm : i ∈ l := by
        rw [hl]
        cases hw with
        | one hx => exact ⟨t, (h.wave t).2 (.inl ⟨rfl, rfl⟩), hx⟩
        | more hn hw' =>
          rename_i n k'
          have hp := hw'.pos
          obtain ⟨g1, g2⟩ := h.full n k' hw' (by omega)
          refine ⟨n, (h.wave n).2 (.inr ⟨by omega, ?_⟩), hn⟩
          rcases Nat.lt_or_ge (f n) k' with h3 | h3
          · exact absurd hf (h.full i (f n + 1) (.more hn (h.sound n g1).1) (by omega)).1
          · omega
      rw [if_pos hm]
      exact ⟨by omega, Nat.le_refl _⟩
    · rw [if_pos hf]
      rcases Nat.lt_or_ge k d with h3 | h3
      · exact h.full i k hw h3
      · have := (h.sound i hf).2
        exact ⟨hf, by omega⟩
  · rw [h2 n, h1 n]
    by_cases hf : f n = 0
    · simp only [hf, ne_eq, not_true_eq_false, if_false, List.not_mem_nil, false_or, true_and]
      by_cases hm : n ∈ l
      · rw [if_pos hm]; simp only [hm, true_iff]; right; omega
      · rw [if_neg hm]; simp only [hm, false_iff]; omega
    · simp only [hf, ne_eq, not_false_eq_true, if_true, List.not_mem_nil, false_or, false_and, false_iff]
      have := (h.sound n hf).2
      omega
theorem BfsI.done {L : List (List Nat)} {t d : Nat} {f : Nat → Nat} (h : BfsI L t d f []) : IsD L t f := by
  have hd := h.pos
  have h2 : 2 ≤ d := by
    rcases Nat.lt_or_ge d 2 with h2 | h2
    · have := (h.wave t).2 (.inl ⟨by omega, rfl⟩); cases this
    · exact h2
  have key : ∀ k i, Walk L t k i → f i ≠ 0 ∧ f i ≤ k := by
    intro k i hw
    induction hw with
    | one hx => exact h.full _ 1 (.one hx) (by omega)
    | more hn hw ih =>
      rename_i i n k
      obtain ⟨h3, h4⟩ := ih
      have h5 := h.sound n h3
      have h6 : f n ≠ d - 1 := fun e => by have := (h.wave n).2 (.inr ⟨h2, e⟩); cases this
      obtain ⟨h7, h8⟩ := h.full i (f n + 1) (.more hn h5.1) (by omega)
      exact ⟨h7, by omega⟩
  intro i
  by_cases hf : f i = 0
  · left; exact ⟨hf, fun k hw => (key k i hw).1 hf⟩
  · right; exact ⟨by omega, (h.sound i hf).1, fun k hw => (key k i hw).2⟩
end Go.Proofs.Ytjpljkjclamjnaa
