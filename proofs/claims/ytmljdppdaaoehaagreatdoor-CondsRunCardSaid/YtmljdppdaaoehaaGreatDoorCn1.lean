/- Conditions, plain: what may be, what they name, where a name stands, steps back, circles. -/
import Derived.Test.YtmljdppdaaoehaaGreatDoorNs1
import Derived.Lib.ValidU
namespace Go.Proofs.YtmljdppdaaoehaaGreatDoor
set_option linter.unusedVariables false
set_option linter.unusedSimpArgs false

def xOnly (e : Ex) : Bool := bEq e.text ByteArray.empty && decide (e.num = 0) && bEq e.name ByteArray.empty && bEq e.attr ByteArray.empty && decide (e.l.length = 0)
def xPlain (e : Ex) : Bool :=
  if e.kind = 0 then xOnly ⟨e.kind, ByteArray.empty, e.num, e.name, e.attr, e.l⟩ && Lib.validD e.text.data.toList
  else if e.kind = 1 then xOnly ⟨e.kind, e.text, 0, e.name, e.attr, e.l⟩ && decide (-9007199254740992 ≤ e.num ∧ e.num ≤ 9007199254740992)
  else if e.kind = 3 then xOnly ⟨e.kind, e.text, e.num, ByteArray.empty, e.attr, e.l⟩
  else false
def xNothing (e : Ex) : Bool := decide (e.kind = 0) && xOnly e
def cShape : Nat → Cd → Bool
  | 0, _ => false
  | k + 1, c =>
    if c.kind = 0 then decide (c.l.length = 0) && (xPlain c.a && xPlain c.b)
    else if c.kind = 4 then (xNothing c.a && xNothing c.b) && (decide (c.l.length = 0) && !bEq c.name ByteArray.empty)
    else (if c.kind = 1 ∨ c.kind = 2 then decide (1 ≤ c.l.length ∧ c.l.length ≤ 4) else if c.kind = 3 then decide (c.l.length = 1) else false) && (xNothing c.a && xNothing c.b) &&
      c.l.all fun p => (decide (p.kind = 4) || bEq p.name ByteArray.empty) && cShape k p
/-- texts put behind those that they are not among -/
def addT (a : List ByteArray) (d : ByteArray) : List ByteArray := if sHas d a then a else a ++ [d]
/-- what a condition names, one by one -/
def cNm : Nat → Cd → List ByteArray
  | 0, _ => []
  | k + 1, c => if c.kind = 4 then [c.name] else c.l.flatMap (cNm k)
def xRef (e : Ex) : List ByteArray := if e.kind = 3 then [e.name] else []
/-- the parameters that it refers tg -/
def cPs : Nat → Cd → List ByteArray
  | 0, _ => []
  | k + 1, c => if c.kind = 4 then [] else (if c.kind = 0 then xRef c.a ++ xRef c.b else []) ++ c.l.flatMap (cPs k)
def names (c : Cd) : List ByteArray := (cNm 20 c).foldl addT []
def prms (c : Cd) : List ByteArray := (cPs 20 c).foldl addT []
/-- the first definition of a name -/
def plAt (l : List Cd) (s : ByteArray) : Option Nat := l.findIdx? fun c => bEq c.name s
def nextOf (l : List Cd) (i : Nat) : List Nat :=
  match l[i]? with
  | some c => if c.kind = 4 then [] else (names c).filterMap (plAt l)
  | none => []
def bkLeads (l : List Cd) (tg r : Nat) (n : List Nat) (i : Nat) : Bool := (nextOf l i).any fun k => (decide (r = 1) && decide (k = tg)) || (decide (1 < r) && decide (n.getD k 0 = r - 1))
def bkStep (l : List Cd) (tg r : Nat) (n : List Nat) (i : Nat) : List Nat := if n.getD i 0 = 0 ∧ bkLeads l tg r n i = true then n.set i r else n
def bkRound (l : List Cd) (tg r : Nat) (n : List Nat) : List Nat := (List.range l.length).foldl (bkStep l tg r) n
def bk (l : List Cd) (tg : Nat) : List Nat := ((List.range l.length).map (· + 1)).foldl (fun n r => bkRound l tg r n) (List.replicate l.length 0)
def better (n : List Nat) (b : Option Nat) (k : Nat) : Option Nat :=
  if 0 < n.getD k 0 then (match b with | none => some k | some j => if n.getD k 0 < n.getD j 0 then some k else some j) else b
def bestOf (n : List Nat) (ks : List Nat) : Option Nat := ks.foldl (better n) none
/-- the way on from a definition: the definitions behind it -/
def circGo (l : List Cd) (n : List Nat) : Nat → Nat → List Nat
  | 0, _ => []
  | f + 1, here => if 1 < n.getD here 0 then (match bestOf n (nextOf l here) with | some k => k :: circGo l n f k | none => []) else []
def circAt (l : List Cd) (i : Nat) : Bool := decide (plAt l (((l[i]?).map Cd.name).getD ByteArray.empty) = some i) && decide ((bk l i).getD i 0 ≠ 0)
/-- the circle's definitions -/
def circI (l : List Cd) : List Nat :=
  match (List.range l.length).find? (circAt l) with
  | some i => i :: circGo l (bk l i) (l.length + 1) i
  | none => []
def nmAt (l : List Cd) (i : Nat) : ByteArray := ((l[i]?).map Cd.name).getD ByteArray.empty
def circ (l : List Cd) : List ByteArray := (circI l).map (nmAt l)
/-- runes.Name -/
def isLetter (b : Nat) : Bool := decide (97 ≤ bits BinOp.or IntKind.u8 (b : Int) 32 ∧ bits BinOp.or IntKind.u8 (b : Int) 32 ≤ 122)
def nameGo : Nat → List UInt8 → Bool
  | _, [] => true
  | i, b :: r => (isLetter b.toNat || (decide (i ≠ 0) && decide (48 ≤ b.toNat ∧ b.toNat ≤ 57))) && nameGo (i + 1) r
def isName (s : ByteArray) : Bool := nameGo 0 s.data.toList && decide (0 < s.size ∧ s.size ≤ 32)

/-! ### Places -/
theorem plAt_some {l : List Cd} {s : ByteArray} {i : Nat} (h : plAt l s = some i) : (∃ c, l[i]? = some c ∧ c.name = s) ∧ ∀ j c, j < i → l[j]? = some c → c.name ≠ s := by
  unfold plAt at h
  obtain ⟨hi, h1, h2⟩ := List.findIdx?_eq_some_iff_getElem.1 h
  refine ⟨⟨l[i], List.getElem?_eq_getElem hi, bEq_iff.1 h1⟩, fun j c hj hc e => ?_⟩
  have h3 := h2 j hj
  have hjl : j < l.length := by omega
  rw [List.getElem?_eq_getElem hjl] at hc
  injection hc with hc
  rw [hc, bEq_iff.2 e] at h3
  simp at h3
theorem plAt_lt {l : List Cd} {s : ByteArray} {i : Nat} (h : plAt l s = some i) : i < l.length := by
  obtain ⟨⟨c, hc, _⟩, _⟩ := plAt_some h
  exact (List.getElem?_eq_some_iff.1 hc).1
theorem nmAt_of {l : List Cd} {s : ByteArray} {i : Nat} (h : plAt l s = some i) : nmAt l i = s := by
  obtain ⟨⟨c, hc, e⟩, _⟩ := plAt_some h
  unfold nmAt
  rw [hc]; exact e
theorem plAt_self {l : List Cd} {s : ByteArray} {i : Nat} (h : plAt l s = some i) : plAt l (nmAt l i) = some i := by rw [nmAt_of h]; exact h
theorem next_mem {l : List Cd} {i k : Nat} (h : k ∈ nextOf l i) : ∃ c s, l[i]? = some c ∧ s ∈ names c ∧ plAt l s = some k := by
  unfold nextOf at h
  split at h
  · next c hc =>
    split at h
    · cases h
    · obtain ⟨s, h1, h2⟩ := List.mem_filterMap.1 h
      exact ⟨c, s, hc, h1, h2⟩
  · cases h
theorem next_lt {l : List Cd} {i k : Nat} (h : k ∈ nextOf l i) : k < l.length := by
  obtain ⟨_, _, _, _, h1⟩ := next_mem h
  exact plAt_lt h1

/-! ### Steps back -/
/-- what a number of steps stands for -/
def Bk (l : List Cd) (tg : Nat) (n : List Nat) : Prop := n.length = l.length ∧ ∀ i r, n[i]? = some r → 0 < r → (r = 1 ∧ tg ∈ nextOf l i) ∨ (1 < r ∧ ∃ k ∈ nextOf l i, n[k]? = some (r - 1))
theorem Bk.step {l : List Cd} {tg : Nat} {n : List Nat} (h : Bk l tg n) {r i : Nat} (hr : 0 < r) : Bk l tg (bkStep l tg r n i) := by
  unfold bkStep
  split
  · next hc =>
    obtain ⟨h0, hl⟩ := hc
    refine ⟨by rw [List.length_set]; exact h.1, fun j q hj hq => ?_⟩
    have keep : ∀ k x, n[k]? = some x → 0 < x → (n.set i r)[k]? = some x := fun k x hk hx => by
      have hne : i ≠ k := fun e => by
        subst e
        rw [List.getD_eq_getElem?_getD, hk] at h0
        simp at h0; omega
      rw [List.getElem?_set_ne hne]; exact hk
    rcases Decidable.em (i = j) with rfl | hne
    · have hlt : i < n.length := by
        have := (List.getElem?_eq_some_iff.1 hj).1
        simpa using this
      rw [List.getElem?_set_self hlt] at hj
      injection hj with hj
      subst hj
      obtain ⟨k, hk, hk2⟩ := List.any_eq_true.1 hl
      simp only [Bool.or_eq_true, Bool.and_eq_true, decide_eq_true_eq] at hk2
      rcases hk2 with ⟨e1, e2⟩ | ⟨e1, e2⟩
      · subst e2; exact .inl ⟨e1, hk⟩
      · refine .inr ⟨e1, k, hk, ?_⟩
        have hkl : k < n.length := by rw [h.1]; exact next_lt hk
        have hnk : n[k]? = some (r - 1) := by
          rw [List.getElem?_eq_getElem hkl]
          rw [List.getD_eq_getElem?_getD, List.getElem?_eq_getElem hkl] at e2
          simpa using e2
        exact keep k _ hnk (by omega)
    · rw [List.getElem?_set_ne hne] at hj
      rcases h.2 j q hj hq with h1 | ⟨h1, k, hk, hk2⟩
      · exact .inl h1
      · exact .inr ⟨h1, k, hk, keep k _ hk2 (by omega)⟩
  · exact h
theorem Bk.round {l : List Cd} {tg : Nat} {n : List Nat} (h : Bk l tg n) {r : Nat} (hr : 0 < r) : Bk l tg (bkRound l tg r n) := by
  unfold bkRound
  generalize List.range l.length = is
  induction is generalizing n with
  | nil => exact h
  | cons i is ih => exact ih (h.step hr)
theorem bk_ok (l : List Cd) (tg : Nat) : Bk l tg (bk l tg) := by
  unfold bk
  have key : ∀ (rs : List Nat) (n : List Nat), (∀ r ∈ rs, 0 < r) → Bk l tg n → Bk l tg (rs.foldl (fun n r => bkRound l tg r n) n) := by
    intro rs
    induction rs with
    | nil => intro n _ h; exact h
    | cons r rs ih => intro n hr h; exact ih _ (fun r' h' => hr r' (by simp [h'])) (h.round (hr r (by simp)))
  refine key _ _ (fun r hr => ?_) ⟨by simp, fun i r hi hr => ?_⟩
  · obtain ⟨x, _, rfl⟩ := List.mem_map.1 hr; omega
  · have := List.mem_of_getElem? hi
    rw [List.mem_replicate] at this
    omega
theorem bkStep_le {l : List Cd} {tg r : Nat} {n : List Nat} {i B : Nat} (h : ∀ k, n.getD k 0 ≤ B) (hr : r ≤ B) : ∀ k, (bkStep l tg r n i).getD k 0 ≤ B := by
  intro k
  unfold bkStep
  split
  · rw [List.getD_eq_getElem?_getD, List.getElem?_set]
    split
    · split <;> simp <;> omega
    · rw [← List.getD_eq_getElem?_getD]; exact h k
  · exact h k
theorem bk_le (l : List Cd) (tg i : Nat) : (bk l tg).getD i 0 ≤ l.length := by
  unfold bk
  have key : ∀ (rs : List Nat) (n : List Nat), (∀ r ∈ rs, r ≤ l.length) → (∀ k, n.getD k 0 ≤ l.length) → ∀ k, (rs.foldl (fun n r => bkRound l tg r n) n).getD k 0 ≤ l.length := by
    intro rs
    induction rs with
    | nil => intro n _ h; exact h
    | cons r rs ih =>
      intro n hr h
      refine ih _ (fun r' h' => hr r' (by simp [h'])) ?_
      unfold bkRound
      have hr0 := hr r (by simp)
      generalize List.range l.length = is
      induction is generalizing n with
      | nil => exact h
      | cons i is ih2 => exact ih2 _ (bkStep_le h hr0)
  refine key _ _ (fun r hr => ?_) (fun k => ?_) i
  · obtain ⟨x, hx, rfl⟩ := List.mem_map.1 hr
    have := List.mem_range.1 hx
    omega
  · rw [List.getD_eq_getElem?_getD, List.getElem?_replicate]
    split <;> simp
theorem best_gen {n : List Nat} : ∀ (ks : List Nat) (b : Option Nat), (∀ j, b = some j → 0 < n.getD j 0) → (ks.foldl (better n) b = none → b = none ∧ ∀ k ∈ ks, n.getD k 0 = 0) ∧
    ∀ k, ks.foldl (better n) b = some k → (k ∈ ks ∨ b = some k) ∧ 0 < n.getD k 0 ∧ (∀ j ∈ ks, 0 < n.getD j 0 → n.getD k 0 ≤ n.getD j 0) ∧ ∀ j, b = some j → n.getD k 0 ≤ n.getD j 0
  | [], b, hb => ⟨fun h => ⟨h, by simp⟩, fun k h => by
    simp only [List.foldl_nil] at h
    subst h
    exact ⟨.inr rfl, hb k rfl, by simp, fun j hj => by injection hj with hj; subst hj; exact Nat.le_refl _⟩⟩
  | x :: ks, b, hb => by
    have hb' : ∀ j, better n b x = some j → 0 < n.getD j 0 := by
      intro j hj
      unfold better at hj
      split at hj
      · split at hj
        · injection hj with hj; subst hj; assumption
        · split at hj <;> (injection hj with hj; subst hj)
          · assumption
          · exact hb _ rfl
      · exact hb j hj
    obtain ⟨h1, h2⟩ := best_gen ks (better n b x) hb'
    simp only [List.foldl_cons]
    constructor
    · intro h
      obtain ⟨h3, h4⟩ := h1 h
      unfold better at h3
      split at h3
      · split at h3
        · cases h3
        · split at h3 <;> cases h3
      · next hx =>
        refine ⟨h3, fun k hk => ?_⟩
        rcases List.mem_cons.1 hk with rfl | hk
        · omega
        · exact h4 k hk
    · intro k h
      obtain ⟨h3, h4, h5, h6⟩ := h2 k h
      have hx : 0 < n.getD x 0 → n.getD k 0 ≤ n.getD x 0 := fun hx => by
        cases b with
        | none =>
          have e : better n none x = some x := by unfold better; rw [if_pos hx]
          exact h6 x e
        | some j =>
          by_cases hlt : n.getD x 0 < n.getD j 0
          · have e : better n (some j) x = some x := by unfold better; rw [if_pos hx]; exact if_pos hlt
            exact h6 x e
          · have e : better n (some j) x = some j := by unfold better; rw [if_pos hx]; exact if_neg hlt
            have := h6 j e; omega
      have hbk : ∀ j, b = some j → n.getD k 0 ≤ n.getD j 0 := fun j hj => by
        subst hj
        by_cases hx0 : 0 < n.getD x 0
        · by_cases hlt : n.getD x 0 < n.getD j 0
          · have e : better n (some j) x = some x := by unfold better; rw [if_pos hx0]; exact if_pos hlt
            have := h6 x e; omega
          · have e : better n (some j) x = some j := by unfold better; rw [if_pos hx0]; exact if_neg hlt
            exact h6 j e
        · have e : better n (some j) x = some j := by unfold better; rw [if_neg hx0]
          exact h6 j e
      refine ⟨?_, h4, fun j hj hj0 => ?_, hbk⟩
      · rcases h3 with h3 | h3
        · exact .inl (List.mem_cons_of_mem _ h3)
        · unfold better at h3
          split at h3
          · split at h3
            · injection h3 with h3; subst h3; exact .inl (by simp)
            · split at h3
              · injection h3 with h3; subst h3; exact .inl (by simp)
              · exact .inr h3
          · exact .inr h3
      · rcases List.mem_cons.1 hj with rfl | hj
        · exact hx hj0
        · exact h5 j hj hj0
/-- where more than one step leads back there is a next one with fewer -/
theorem best_next {l : List Cd} {tg : Nat} {n : List Nat} (h : Bk l tg n) {i : Nat} (hi : 1 < n.getD i 0) : ∃ k, bestOf n (nextOf l i) = some k ∧ k ∈ nextOf l i ∧ 0 < n.getD k 0 ∧ n.getD k 0 < n.getD i 0 := by
  have hs : n[i]? = some (n.getD i 0) := by
    rw [List.getD_eq_getElem?_getD] at hi ⊢
    cases hx : n[i]? with
    | none => rw [hx] at hi; simp at hi
    | some x => simp
  rcases h.2 i _ hs (by omega) with ⟨h1, _⟩ | ⟨_, k, hk, hk2⟩
  · omega
  · have hkv : n.getD k 0 = n.getD i 0 - 1 := by rw [List.getD_eq_getElem?_getD (l := n) (i := k), hk2]; rfl
    obtain ⟨g1, g2⟩ := best_gen (n := n) (nextOf l i) none (fun j hj => by cases hj)
    cases hb : bestOf n (nextOf l i) with
    | none =>
      have := (g1 hb).2 k hk
      omega
    | some b =>
      obtain ⟨h3, h4, h5, _⟩ := g2 b hb
      have := h5 k hk (by omega)
      refine ⟨b, rfl, h3.resolve_right (by simp), h4, by omega⟩

/-! ### The circle -/
/-- a way: each leads tg the next, the numbers fall, all are first definitions, and the last leads tg the goal -/
def Way (l : List Cd) (tg : Nat) (n : List Nat) : List Nat → Prop
  | [] => False
  | [i] => plAt l (nmAt l i) = some i ∧ n.getD i 0 = 1 ∧ tg ∈ nextOf l i
  | i :: j :: r => plAt l (nmAt l i) = some i ∧ j ∈ nextOf l i ∧ n.getD j 0 < n.getD i 0 ∧ Way l tg n (j :: r)
theorem way_go {l : List Cd} {tg : Nat} {n : List Nat} (h : Bk l tg n) : ∀ (f i : Nat), n.getD i 0 ≤ f → 0 < n.getD i 0 → plAt l (nmAt l i) = some i → Way l tg n (i :: circGo l n f i)
  | 0, i, hf, h0, _ => by omega
  | f + 1, i, hf, h0, hp => by
    simp only [circGo]
    by_cases h1 : 1 < n.getD i 0
    · rw [if_pos h1]
      obtain ⟨k, hk, hk1, hk2, hk3⟩ := best_next h h1
      rw [hk]
      obtain ⟨_, s, _, _, hs⟩ := next_mem hk1
      exact ⟨hp, hk1, hk3, way_go h f k (by omega) hk2 (plAt_self hs)⟩
    · rw [if_neg h1]
      refine ⟨hp, by omega, ?_⟩
      have hs : n[i]? = some (n.getD i 0) := by
        rw [List.getD_eq_getElem?_getD] at h0 ⊢
        cases hx : n[i]? with
        | none => rw [hx] at h0; simp at h0
        | some x => simp
      rcases h.2 i _ hs h0 with ⟨_, h2⟩ | ⟨h2, _⟩
      · exact h2
      · omega
theorem way_at {l : List Cd} {tg : Nat} {n : List Nat} : ∀ {C : List Nat} {j p : Nat}, Way l tg n C → C[j]? = some p →
    plAt l (nmAt l p) = some p ∧ ((∃ q, C[j + 1]? = some q ∧ q ∈ nextOf l p ∧ n.getD q 0 < n.getD p 0) ∨ (j + 1 = C.length ∧ tg ∈ nextOf l p))
  | [], j, p, h, hj => by cases h
  | [i], j, p, h, hj => by
    have hj0 : j = 0 := by
      have := (List.getElem?_eq_some_iff.1 hj).1
      simpa using this
    subst hj0
    simp at hj; subst hj
    exact ⟨h.1, .inr ⟨rfl, h.2.2⟩⟩
  | i :: k :: r, 0, p, h, hj => by
    simp at hj; subst hj
    exact ⟨h.1, .inl ⟨k, rfl, h.2.1, h.2.2.1⟩⟩
  | i :: k :: r, j + 1, p, h, hj => by
    have := way_at (j := j) (p := p) h.2.2.2 (by simpa using hj)
    simpa using this
theorem way_falls {l : List Cd} {tg : Nat} {n : List Nat} {C : List Nat} (h : Way l tg n C) : ∀ {d j p q : Nat}, C[j]? = some p → C[j + d + 1]? = some q → n.getD q 0 < n.getD p 0
  | 0, j, p, q, hp, hq => by
    obtain ⟨_, h2⟩ := way_at h hp
    rcases h2 with ⟨q', h3, _, h4⟩ | ⟨h3, _⟩
    · rw [Nat.add_zero] at hq
      rw [h3] at hq; injection hq with hq; rw [← hq]; exact h4
    · rw [Nat.add_zero, List.getElem?_eq_none (by omega)] at hq; cases hq
  | d + 1, j, p, q, hp, hq => by
    obtain ⟨_, h2⟩ := way_at h hp
    rcases h2 with ⟨q', h3, _, h4⟩ | ⟨h3, _⟩
    · have := way_falls h (d := d) (j := j + 1) h3 (by rw [show j + 1 + d + 1 = j + (d + 1) + 1 by omega]; exact hq)
      omega
    · have := (List.getElem?_eq_some_iff.1 hq).1; omega
theorem circI_way {l : List Cd} (h : circI l ≠ []) : ∃ i r, circI l = i :: r ∧ Way l i (bk l i) (i :: r) := by
  unfold circI at h ⊢
  cases hf : (List.range l.length).find? (circAt l) with
  | none => rw [hf] at h; exact absurd rfl h
  | some i =>
    have h1 := List.find?_some hf
    unfold circAt at h1
    simp only [Bool.and_eq_true, decide_eq_true_eq] at h1
    have h2 : i < l.length := by
      have := List.mem_of_find?_eq_some hf
      simpa using this
    exact ⟨i, _, rfl, way_go (bk_ok l i) _ _ (by
      have : (bk l i).getD i 0 ≤ l.length := bk_le l i i
      omega) (by omega) h1.1⟩
/-- each of the circle's names is its first definition's; that names the next; they are unlike -/
theorem circ_law {l : List Cd} {j : Nat} {s : ByteArray} (h : (circ l)[j]? = some s) :
    ∃ p c, (circI l)[j]? = some p ∧ plAt l s = some p ∧ l[p]? = some c ∧ (∃ z, (circ l)[(j + 1) % (circ l).length]? = some z ∧ z ∈ names c) ∧ ∀ k, k < j → (circ l)[k]? ≠ some s := by
  unfold circ at h
  rw [List.getElem?_map] at h
  obtain ⟨p, hp, rfl⟩ := Option.map_eq_some_iff.1 h
  have hne : circI l ≠ [] := fun e => by rw [e] at hp; simp at hp
  obtain ⟨i, r, hI, hw⟩ := circI_way hne
  rw [← hI] at hw
  obtain ⟨h1, h2⟩ := way_at hw hp
  obtain ⟨⟨c, hc, _⟩, _⟩ := plAt_some h1
  have hlen : (circ l).length = (circI l).length := by unfold circ; simp
  refine ⟨p, c, hp, h1, hc, ?_, fun k hk hk2 => ?_⟩
  · have key : ∀ q, q ∈ nextOf l p → nmAt l q ∈ names c := fun q hq => by
      obtain ⟨c', s, hc', hs, hs2⟩ := next_mem hq
      rw [hc] at hc'; injection hc' with hc'; subst hc'
      rw [nmAt_of hs2]; exact hs
    have hjl := (List.getElem?_eq_some_iff.1 hp).1
    rcases h2 with ⟨q, h3, h4, _⟩ | ⟨h3, h4⟩
    · have := (List.getElem?_eq_some_iff.1 h3).1
      refine ⟨nmAt l q, ?_, key q h4⟩
      rw [hlen, Nat.mod_eq_of_lt this]
      unfold circ; rw [List.getElem?_map, h3]; rfl
    · refine ⟨nmAt l i, ?_, key i h4⟩
      rw [hlen, h3, Nat.mod_self]
      unfold circ; rw [hI]; rfl
  · unfold circ at hk2
    rw [List.getElem?_map] at hk2
    obtain ⟨p', hp', he⟩ := Option.map_eq_some_iff.1 hk2
    obtain ⟨h5, _⟩ := way_at hw hp'
    rw [he, h1] at h5
    injection h5 with h5
    subst h5
    have := way_falls hw (d := j - k - 1) hp' (by rw [show k + (j - k - 1) + 1 = j by omega]; exact hp)
    omega
end Go.Proofs.YtmljdppdaaoehaaGreatDoor
