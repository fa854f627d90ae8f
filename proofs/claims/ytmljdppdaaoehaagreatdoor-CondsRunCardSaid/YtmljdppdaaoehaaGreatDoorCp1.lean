/- Conditions, plain laws: circles: there is one just if the definitions have no order. -/
/- Conditions, plain laws: what conds.Check says, by names alone; that an answer is come to. -/
/- Conditions, plain laws: what is not great is small. -/
import Derived.Test.YtmljdppdaaoehaaGreatDoorCn1
import Derived.Test.YtmljdppdaaoehaaGreatDoorGrPlain
import Derived.Test.YtmljdppdaaoehaaGreatDoorCn10
import Derived.Test.YtmljdppdaaoehaaGreatDoorCn21
import Derived.Test.YtmljdppdaaoehaaGreatDoorEq5
import Derived.Test.YtmljdppdaaoehaaGreatDoorGtPure
namespace Go.Proofs.YtmljdppdaaoehaaGreatDoor
set_option linter.unusedVariables false
set_option linter.unusedSimpArgs false

/-- after j definitions of round r -/
structure Bj (l : List Cd) (tg r j : Nat) (n : List Nat) : Prop where
  len : n.length = l.length
  le : ∀ k, n.getD k 0 ≤ r
  old : ∀ i, i < l.length → ∀ k ∈ nextOf l i, n.getD k 0 ≠ 0 → n.getD k 0 + 1 < r → n.getD i 0 ≠ 0
  tgo : 1 < r → ∀ i, i < l.length → tg ∈ nextOf l i → n.getD i 0 ≠ 0
  now : ∀ i, i < j → ∀ k ∈ nextOf l i, n.getD k 0 ≠ 0 → n.getD k 0 + 1 = r → n.getD i 0 ≠ 0
  tgn : r = 1 → ∀ i, i < j → tg ∈ nextOf l i → n.getD i 0 ≠ 0
theorem getD_set {n : List Nat} {i r k : Nat} : (n.set i r).getD k 0 = if i = k ∧ k < n.length then r else n.getD k 0 := by
  rw [List.getD_eq_getElem?_getD, List.getElem?_set, List.getD_eq_getElem?_getD]
  by_cases h : i = k
  · subst h
    by_cases h2 : i < n.length
    · simp [h2]
    · simp [h2]
  · simp [h]
theorem Bj.step {l : List Cd} {tg r j : Nat} {n : List Nat} (h : Bj l tg r j n) (hr : 0 < r) (hj : j < l.length) : Bj l tg r (j + 1) (bkStep l tg r n j) := by
  unfold bkStep
  split
  · next hc =>
    obtain ⟨h0, hl⟩ := hc
    have hg : ∀ k, (n.set j r).getD k 0 = if j = k ∧ k < n.length then r else n.getD k 0 := fun k => getD_set
    have hne : ∀ k, n.getD k 0 ≠ 0 → (n.set j r).getD k 0 ≠ 0 := fun k hk => by
      rw [hg]; split
      · omega
      · exact hk
    have hsame : ∀ k, (n.set j r).getD k 0 + 1 ≤ r → (n.set j r).getD k 0 = n.getD k 0 := fun k hk => by
      rw [hg] at hk ⊢
      split at hk
      · omega
      · next e => rw [if_neg e]
    have hjj : (n.set j r).getD j 0 ≠ 0 := by rw [hg, if_pos ⟨rfl, by rw [h.len]; exact hj⟩]; omega
    refine ⟨by rw [List.length_set]; exact h.len, fun k => by rw [hg]; split; exact Nat.le_refl _; exact h.le k, fun i hi k hk h1 h2 => ?_, fun h1 i hi ht => hne _ (h.tgo h1 i hi ht), fun i hi k hk h1 h2 => ?_, fun e i hi ht => ?_⟩
    · rw [hsame k (by omega)] at h1 h2
      exact hne _ (h.old i hi k hk h1 h2)
    · rw [hsame k (by omega)] at h1 h2
      rcases Nat.lt_or_ge i j with hij | hij
      · exact hne _ (h.now i hij k hk h1 h2)
      · have : i = j := by omega
        subst this; exact hjj
    · rcases Nat.lt_or_ge i j with hij | hij
      · exact hne _ (h.tgn e i hij ht)
      · have : i = j := by omega
        subst this; exact hjj
  · next hc =>
    have hc2 : n.getD j 0 ≠ 0 ∨ ∀ k ∈ nextOf l j, ¬ (r = 1 ∧ k = tg) ∧ ¬ (1 < r ∧ n.getD k 0 = r - 1) := by
      by_cases h0 : n.getD j 0 = 0
      · refine .inr (fun k hk => ?_)
        have hb : bkLeads l tg r n j = false := by
          cases hb : bkLeads l tg r n j with
          | false => rfl
          | true => exact absurd ⟨h0, hb⟩ hc
        unfold bkLeads at hb
        have := List.any_eq_false.1 hb k hk
        simp only [Bool.or_eq_true, Bool.and_eq_true, decide_eq_true_eq, not_or] at this
        exact this
      · exact .inl h0
    refine ⟨h.len, h.le, h.old, h.tgo, fun i hi k hk h1 h2 => ?_, fun e i hi ht => ?_⟩
    · rcases Nat.lt_or_ge i j with hij | hij
      · exact h.now i hij k hk h1 h2
      · have : i = j := by omega
        subst this
        rcases hc2 with hc2 | hc2
        · exact hc2
        · exact absurd ⟨by omega, by omega⟩ (hc2 k hk).2
    · rcases Nat.lt_or_ge i j with hij | hij
      · exact h.tgn e i hij ht
      · have : i = j := by omega
        subst this
        rcases hc2 with hc2 | hc2
        · exact hc2
        · exact absurd ⟨e, rfl⟩ (hc2 tg ht).1
theorem Bj.round {l : List Cd} {tg r : Nat} {n : List Nat} (h : Bj l tg r 0 n) (hr : 0 < r) : Bj l tg r l.length (bkRound l tg r n) := by
  have key : ∀ m, m ≤ l.length → Bj l tg r m ((List.range m).foldl (bkStep l tg r) n) := by
    intro m
    induction m with
    | zero => intro _; exact h
    | succ m ih =>
      intro hm
      rw [List.range_succ, List.foldl_append, List.foldl_cons, List.foldl_nil]
      exact (ih (by omega)).step hr (by omega)
  exact key _ (Nat.le_refl _)
theorem Bj.up {l : List Cd} {tg r : Nat} {n : List Nat} (h : Bj l tg r l.length n) (hr : 0 < r) : Bj l tg (r + 1) 0 n := by
  refine ⟨h.len, fun k => by have := h.le k; omega, fun i hi k hk h1 h2 => ?_, fun _ i hi ht => ?_, fun i hi => absurd hi (by omega), fun e => absurd e (by omega)⟩
  · by_cases h3 : n.getD k 0 + 1 < r
    · exact h.old i hi k hk h1 h3
    · exact h.now i hi k hk h1 (by omega)
  · by_cases h3 : 1 < r
    · exact h.tgo h3 i hi ht
    · exact h.tgn (by omega) i hi ht
theorem bk_j (l : List Cd) (tg : Nat) : Bj l tg (l.length + 1) 0 (bk l tg) := by
  unfold bk
  have key : ∀ m, Bj l tg (m + 1) 0 (((List.range m).map (· + 1)).foldl (fun n r => bkRound l tg r n) (List.replicate l.length 0)) := by
    intro m
    induction m with
    | zero =>
      have hz : ∀ k, (List.replicate l.length 0).getD k 0 = 0 := fun k => by rw [List.getD_eq_getElem?_getD, List.getElem?_replicate]; split <;> rfl
      exact ⟨by simp, fun k => by simp only [List.range_zero, List.map_nil, List.foldl_nil]; rw [hz]; omega, fun i hi k hk h1 => absurd (hz k) h1, fun e => absurd e (by omega), fun i hi => absurd hi (by omega), fun _ i hi => absurd hi (by omega)⟩
    | succ m ih =>
      rw [List.range_succ, List.map_append, List.map_cons, List.map_nil, List.foldl_append, List.foldl_cons, List.foldl_nil]
      exact (ih.round (by omega)).up (by omega)
  exact key _
theorem bk_chain {l : List Cd} {tg : Nat} {n : List Nat} (h : Bk l tg n) : ∀ (r i : Nat), n.getD i 0 = r + 1 → ∃ C : List Nat, C.length = r + 1 ∧ C.Nodup ∧ ∀ q ∈ C, q < l.length ∧ 0 < n.getD q 0 ∧ n.getD q 0 ≤ r + 1 := by
  intro r
  induction r with
  | zero =>
    intro i hi
    have hlt : i < l.length := by
      rw [← h.1]
      rcases Nat.lt_or_ge i n.length with h1 | h1
      · exact h1
      · rw [List.getD_eq_getElem?_getD, List.getElem?_eq_none h1] at hi; simp at hi
    exact ⟨[i], rfl, by simp, fun q hq => by rw [List.mem_singleton] at hq; subst hq; omega⟩
  | succ r ih =>
    intro i hi
    have hlt : i < n.length := by
      rcases Nat.lt_or_ge i n.length with h1 | h1
      · exact h1
      · rw [List.getD_eq_getElem?_getD, List.getElem?_eq_none h1] at hi; simp at hi
    have hs : n[i]? = some (r + 1 + 1) := by
      rw [List.getD_eq_getElem?_getD, List.getElem?_eq_getElem hlt] at hi
      rw [List.getElem?_eq_getElem hlt]; simpa using hi
    rcases h.2 i _ hs (by omega) with ⟨e, _⟩ | ⟨_, k, hk, hk2⟩
    · omega
    · have hk3 : n.getD k 0 = r + 1 := by rw [List.getD_eq_getElem?_getD, hk2]; simp
      obtain ⟨C, h1, h2, h3⟩ := ih k hk3
      refine ⟨i :: C, by rw [List.length_cons, h1], List.nodup_cons.2 ⟨fun hm => ?_, h2⟩, fun q hq => ?_⟩
      · have := (h3 i hm).2.2; omega
      · rcases List.mem_cons.1 hq with rfl | hq
        · rw [h.1] at hlt; omega
        · have := h3 q hq; omega
/-- where a definition has a number, so has each that names it -/
theorem bk_shut {l : List Cd} {tg i k : Nat} (hi : i < l.length) (hk : k ∈ nextOf l i) (h0 : (bk l tg).getD k 0 ≠ 0) : (bk l tg).getD i 0 ≠ 0 := by
  have hj := bk_j l tg
  have hle := bk_le l tg k
  by_cases h1 : (bk l tg).getD k 0 + 1 < l.length + 1
  · exact hj.old i hi k hk h0 h1
  · obtain ⟨C, h2, h3, h4⟩ := bk_chain (bk_ok l tg) (l.length - 1) k (by omega)
    by_cases hm : i ∈ C
    · have := (h4 i hm).2.1; omega
    · have := nodup_len l.length (i :: C) (List.nodup_cons.2 ⟨hm, h3⟩) (fun x hx => by
        rcases List.mem_cons.1 hx with rfl | hx
        · exact hi
        · exact (h4 x hx).1)
      rw [List.length_cons, h2] at this
      omega
/-- what names what -/
def nxL (l : List Cd) : List (List Nat) := (List.range l.length).map (nextOf l)
theorem nxL_at {l : List Cd} {i : Nat} (hi : i < l.length) : lean' (nxL l) i = nextOf l i := by
  unfold lean' nxL
  rw [List.getD_eq_getElem?_getD, List.getElem?_map, List.getElem?_range hi]; rfl
theorem nxL_len (l : List Cd) : (nxL l).length = l.length := by simp [nxL]
theorem nxL_ok (l : List Cd) : okG (nxL l) := fun i x hx => by
  have hi := lean_lt hx
  rw [nxL_len] at hi ⊢
  rw [nxL_at hi] at hx
  exact next_lt hx
theorem walk_bk {l : List Cd} {tg k i : Nat} (h : Walk (nxL l) tg k i) : (bk l tg).getD i 0 ≠ 0 := by
  induction h with
  | one hx =>
    have hi := lean_lt hx
    rw [nxL_len] at hi
    rw [nxL_at hi] at hx
    exact (bk_j l tg).tgo (by omega) _ hi hx
  | more hx _ ih =>
    have hi := lean_lt hx
    rw [nxL_len] at hi
    rw [nxL_at hi] at hx
    exact bk_shut hi hx ih
theorem bk_walk {l : List Cd} {tg : Nat} : ∀ (r i : Nat), (bk l tg).getD i 0 = r + 1 → Walk (nxL l) tg (r + 1) i := by
  have h := bk_ok l tg
  intro r
  induction r with
  | zero =>
    intro i hi
    have hlt : i < (bk l tg).length := by
      rcases Nat.lt_or_ge i (bk l tg).length with h1 | h1
      · exact h1
      · rw [List.getD_eq_getElem?_getD, List.getElem?_eq_none h1] at hi; simp at hi
    have hs : (bk l tg)[i]? = some 1 := by
      rw [List.getD_eq_getElem?_getD, List.getElem?_eq_getElem hlt] at hi
      rw [List.getElem?_eq_getElem hlt]; simpa using hi
    rcases h.2 i _ hs (by omega) with ⟨_, e⟩ | ⟨e, _⟩
    · exact .one (by rw [nxL_at (by rw [← h.1]; exact hlt)]; exact e)
    · omega
  | succ r ih =>
    intro i hi
    have hlt : i < (bk l tg).length := by
      rcases Nat.lt_or_ge i (bk l tg).length with h1 | h1
      · exact h1
      · rw [List.getD_eq_getElem?_getD, List.getElem?_eq_none h1] at hi; simp at hi
    have hs : (bk l tg)[i]? = some (r + 1 + 1) := by
      rw [List.getD_eq_getElem?_getD, List.getElem?_eq_getElem hlt] at hi
      rw [List.getElem?_eq_getElem hlt]; simpa using hi
    rcases h.2 i _ hs (by omega) with ⟨e, _⟩ | ⟨_, k, hk, hk2⟩
    · omega
    · exact .more (by rw [nxL_at (by rw [← h.1]; exact hlt)]; exact hk) (ih k (by rw [List.getD_eq_getElem?_getD, hk2]; simp))
/-- no circle, just if nothing leads back (of definitions of unlike names) -/
theorem circ_walk {l : List Cd} (hu : ∀ i c, l[i]? = some c → plAt l c.name = some i) : circ l = [] ↔ ∀ s k, ¬ Walk (nxL l) s k s := by
  have hnil : circ l = [] ↔ ∀ i, i < l.length → (bk l i).getD i 0 = 0 := by
    unfold circ circI
    constructor
    · intro h i hi
      cases hf : (List.range l.length).find? (circAt l) with
      | some j => rw [hf] at h; simp at h
      | none =>
        have := List.find?_eq_none.1 hf i (List.mem_range.2 hi)
        unfold circAt at this
        rw [List.getElem?_eq_getElem hi] at this
        simp only [Option.map_some, Option.getD_some] at this
        have e := hu i _ (List.getElem?_eq_getElem hi)
        simpa [e] using this
    · intro h
      rw [List.find?_eq_none.2 (fun i hi => by
        unfold circAt
        rw [h i (List.mem_range.1 hi)]; simp)]
      rfl
  rw [hnil]
  constructor
  · intro h s k hw
    exact walk_bk hw (h s (by have := hw.lt; rwa [nxL_len] at this))
  · intro h i hi
    cases hb : (bk l i).getD i 0 with
    | zero => rfl
    | succ r => exact absurd (bk_walk r i hb) (h i _)
theorem walk_order {l : List Cd} (h : ∀ s k, ¬ Walk (nxL l) s k s) : ∃ O, Part (nxL l) O ∧ O.length = (nxL l).length := by
  cases ho : orderF (nxL l) with
  | some O => exact ⟨O, orderF_part ho⟩
  | none =>
    obtain ⟨s, k, hw⟩ := ordGo_none (nxL l).length (nxL l) [] (nxL_ok l) (Part.nil _) (by simp) ho
    exact absurd hw (h s k)
end Go.Proofs.YtmljdppdaaoehaaGreatDoor
namespace Go.Proofs.YtmljdppdaaoehaaGreatDoor
set_option linter.unusedVariables false
set_option linter.unusedSimpArgs false

/-- the first definition of a name -/
def lk (l : List Cd) (s : ByteArray) : Option Cd := l.find? fun c => bEq c.name s
theorem lk_pl : ∀ (l : List Cd) (s : ByteArray), lk l s = (plAt l s).bind (fun i => l[i]?)
  | [], s => rfl
  | c :: l, s => by
    have ih := lk_pl l s
    unfold lk plAt at ih ⊢
    rw [List.find?_cons, List.findIdx?_cons]
    cases bEq c.name s with
    | true => rfl
    | false =>
      simp only [Bool.false_eq_true, if_false]
      rw [ih]
      cases l.findIdx? (fun c => bEq c.name s) with
      | none => rfl
      | some i => rfl
theorem pl_lk {l : List Cd} {s : ByteArray} {d : Cd} : lk l s = some d ↔ ∃ i, plAt l s = some i ∧ l[i]? = some d := by
  rw [lk_pl]
  cases plAt l s with
  | none => simp
  | some i => simp
theorem lk_isSome (l : List Cd) (s : ByteArray) : (lk l s).isSome = (plAt l s).isSome := by
  rw [lk_pl]
  cases h : plAt l s with
  | none => rfl
  | some i =>
    obtain ⟨⟨c, h1, _⟩, _⟩ := plAt_some h
    simp [h1]
/-- unlike names -/
def UqN (l : List Cd) : Prop := l.Pairwise (fun a b => a.name ≠ b.name)
theorem lk_cons (c : Cd) (l : List Cd) (s : ByteArray) : lk (c :: l) s = if c.name = s then some c else lk l s := by
  unfold lk
  rw [List.find?_cons]
  by_cases h : c.name = s
  · rw [if_pos h, bEq_iff.2 h]
  · rw [if_neg h, bEq_ne h]
theorem lk_some {l : List Cd} (hu : UqN l) {s : ByteArray} {d : Cd} : lk l s = some d ↔ d ∈ l ∧ d.name = s := by
  induction l with
  | nil => simp [lk]
  | cons c l ih =>
    obtain ⟨h1, h2⟩ := List.pairwise_cons.1 hu
    rw [lk_cons]
    by_cases h : c.name = s
    · rw [if_pos h]
      constructor
      · rintro ⟨⟩; exact ⟨by simp, h⟩
      · rintro ⟨hm, hn⟩
        rcases List.mem_cons.1 hm with rfl | hm
        · rfl
        · exact absurd (h.trans hn.symm) (h1 d hm)
    · rw [if_neg h, ih h2]
      constructor
      · rintro ⟨a, b⟩; exact ⟨by simp [a], b⟩
      · rintro ⟨hm, hn⟩
        rcases List.mem_cons.1 hm with rfl | hm
        · exact absurd hn h
        · exact ⟨hm, hn⟩
theorem uq_iff : ∀ {l : List Cd}, (∀ i c, l[i]? = some c → plAt l c.name = some i) ↔ UqN l := by
  intro l
  constructor
  · intro h
    unfold UqN
    rw [List.pairwise_iff_getElem]
    intro i j hi hj hij e
    have h1 := h i _ (List.getElem?_eq_getElem hi)
    have h2 := h j _ (List.getElem?_eq_getElem hj)
    rw [e, h2] at h1
    injection h1 with h1
    omega
  · intro h i c hc
    cases hp : plAt l c.name with
    | none =>
      have := List.findIdx?_eq_none_iff.1 hp c (List.mem_of_getElem? hc)
      rw [bEq_iff.2 rfl] at this; cases this
    | some j =>
      obtain ⟨⟨d, h1, h2⟩, h3⟩ := plAt_some hp
      unfold UqN at h
      rw [List.pairwise_iff_getElem] at h
      obtain ⟨hi, rfl⟩ := List.getElem?_eq_some_iff.1 hc
      obtain ⟨hj, rfl⟩ := List.getElem?_eq_some_iff.1 h1
      rcases Nat.lt_trichotomy i j with hl | hl | hl
      · exact absurd h2.symm (h i j hi hj hl)
      · rw [hl]
      · exact absurd h2 (h j i hj hi hl)
/-- definitions that name one another no deeper -/
def Fd (l : List Cd) : Nat → Cd → Prop
  | 0, _ => False
  | m + 1, c => ∀ s ∈ names c, ∀ d, lk l s = some d → Fd l m d
theorem Fd.succ {l : List Cd} : ∀ {m : Nat} {c : Cd}, Fd l m c → Fd l (m + 1) c
  | 0, _, h => h.elim
  | m + 1, c, h => fun s hs d hd => Fd.succ (h s hs d hd)
theorem Fd.le {l : List Cd} {m n : Nat} {c : Cd} (h : Fd l m c) (hmn : m ≤ n) : Fd l n c := by
  induction hmn with
  | refl => exact h
  | step _ ih => exact ih.succ
theorem Fd.congr {l l' : List Cd} (hl : ∀ s, lk l s = lk l' s) : ∀ {m : Nat} {c : Cd}, Fd l m c → Fd l' m c
  | 0, _, h => h
  | m + 1, c, h => fun s hs d hd => Fd.congr hl (h s hs d ((hl s).trans hd))
theorem circ_fd {l : List Cd} (hu : UqN l) (hk : ∀ c ∈ l, c.kind ≠ 4) : circ l = [] ↔ ∃ m, ∀ c ∈ l, Fd l m c := by
  rw [circ_walk (uq_iff.2 hu)]
  have hnx : ∀ i c, l[i]? = some c → nextOf l i = (names c).filterMap (plAt l) := fun i c hc => by
    unfold nextOf
    rw [hc]
    exact if_neg (hk c (List.mem_of_getElem? hc))
  constructor
  · intro h
    obtain ⟨O, hp, hl⟩ := walk_order h
    rw [nxL_len] at hl
    have key : ∀ (r i : Nat) (c : Cd), l[i]? = some c → O.idxOf i < r → Fd l r c := by
      intro r
      induction r with
      | zero => intro i c _ h; omega
      | succ r ih =>
        intro i c hc hr s hs d hd
        obtain ⟨j, h1, h2⟩ := pl_lk.1 hd
        have hi := (List.getElem?_eq_some_iff.1 hc).1
        have hj : j ∈ lean' (nxL l) i := by
          rw [nxL_at hi, hnx i c hc]
          exact List.mem_filterMap.2 ⟨s, hs, h1⟩
        have := hp.edge (hp.all (by rw [nxL_len]; exact hl) i (by rw [nxL_len]; exact hi)) hj
        exact ih j d h2 (by omega)
    refine ⟨l.length + 1, fun c hc => ?_⟩
    obtain ⟨i, hi, rfl⟩ := List.getElem_of_mem hc
    refine key _ i _ (List.getElem?_eq_getElem hi) ?_
    have := List.idxOf_le_length (a := i) (l := O)
    omega
  · rintro ⟨m, hm⟩ s k hw
    have hs := hw.lt
    rw [nxL_len] at hs
    have step : ∀ {t k i : Nat}, Walk (nxL l) t k i → ∀ (m : Nat) (c : Cd), l[i]? = some c → Fd l m c → ∃ (m' : Nat) (d : Cd), m' < m ∧ l[t]? = some d ∧ Fd l m' d := by
      intro t k i hw
      have one : ∀ {i t : Nat}, t ∈ lean' (nxL l) i → ∀ (m : Nat) (c : Cd), l[i]? = some c → Fd l m c → ∃ (m' : Nat) (d : Cd), m' < m ∧ l[t]? = some d ∧ Fd l m' d := by
        intro i t hx m c hc hf
        have hi := lean_lt hx
        rw [nxL_len] at hi
        rw [nxL_at hi, hnx i c hc] at hx
        obtain ⟨s, hs, hs2⟩ := List.mem_filterMap.1 hx
        obtain ⟨⟨d, h1, h2⟩, _⟩ := plAt_some hs2
        cases m with
        | zero => exact hf.elim
        | succ m => exact ⟨m, d, by omega, h1, hf s hs d (pl_lk.2 ⟨t, hs2, h1⟩)⟩
      induction hw with
      | one hx => exact one hx
      | more hx _ ih =>
        intro m c hc hf
        obtain ⟨m1, d1, h1, h2, h3⟩ := one hx m c hc hf
        obtain ⟨m2, d2, h4, h5, h6⟩ := ih m1 d1 h2 h3
        exact ⟨m2, d2, by omega, h5, h6⟩
    have no : ∀ (m : Nat) (c : Cd), l[s]? = some c → ¬ Fd l m c := by
      intro m
      induction m using Nat.strongRecOn with
      | _ m ih =>
        intro c hc hf
        obtain ⟨m', d, h1, h2, h3⟩ := step hw m c hc hf
        exact ih m' h1 d h2 h3
    exact no m _ (List.getElem?_eq_getElem hs) (hm _ (List.getElem_mem hs))
theorem ckGo_iff {l : List Cd} {ns : List ByteArray} : ∀ (r : List Cd) (i : Nat), ckGo l ns i r = none ↔ ∀ j c, r[j]? = some c → ckAt l ns (i + j) c = none
  | [], i => by simp [ckGo]
  | c :: r, i => by
    rw [ckGo, Option.or_eq_none_iff, ckGo_iff r (i + 1)]
    constructor
    · rintro ⟨h1, h2⟩ j d hd
      cases j with
      | zero => simp at hd; subst hd; exact h1
      | succ j => have := h2 j d (by simpa using hd); rwa [show i + 1 + j = i + (j + 1) by omega] at this
    · intro h
      exact ⟨h 0 c rfl, fun j d hd => by have := h (j + 1) d (by simpa using hd); rwa [show i + (j + 1) = i + 1 + j by omega] at this⟩
/-- a definition that may be -/
def CdOk (l : List Cd) (ns : List ByteArray) (c : Cd) : Prop := isName c.name = true ∧ c.kind ≠ 4 ∧ cShape 6 c = true ∧ isLost l ns c = false
theorem ckAt_iff {l : List Cd} {ns : List ByteArray} {i : Nat} {c : Cd} : ckAt l ns i c = none ↔ plAt l c.name = some i ∧ CdOk l ns c := by
  unfold ckAt CdOk
  by_cases h1 : plAt l c.name = some i
  · by_cases h2 : isName c.name = false
    · simp [h1, h2]
    · by_cases h3 : c.kind = 4
      · simp [h1, h2, h3]
      · by_cases h4 : cShape 6 c = false
        · simp [h1, h2, h3, h4]
        · by_cases h5 : isLost l ns c = true
          · simp [h1, h2, h3, h4, h5]
          · simp [h1, h2, h3, h4, h5]
  · simp [h1]
theorem chk_iff {l : List Cd} {ns : List ByteArray} : csCheck l ns = 0 ↔ l.length ≤ 6 ∧ UqN l ∧ (∀ c ∈ l, CdOk l ns c) ∧ ∃ m, ∀ c ∈ l, Fd l m c := by
  unfold csCheck
  by_cases h6 : 6 < l.length
  · rw [if_pos h6]
    constructor
    · intro h; cases h
    · rintro ⟨h, _⟩; omega
  · rw [if_neg h6]
    constructor
    · intro h
      cases hc : ckGo l ns 0 l with
      | some e =>
        rw [hc] at h
        exfalso
        have : ∀ (r : List Cd) (i e : Nat), ckGo l ns i r = some e → e ≠ 0 := by
          intro r
          induction r with
          | nil => intro i e h; cases h
          | cons c r ih =>
            intro i e h
            rw [ckGo] at h
            cases ha : ckAt l ns i c with
            | none => rw [ha] at h; exact ih _ _ h
            | some x =>
              rw [ha] at h
              simp at h
              subst h
              unfold ckAt at ha
              repeat (split at ha; · injection ha with ha; omega)
              cases ha
        exact this l 0 e hc h
      | none =>
        rw [hc] at h
        simp only at h
        have hcirc : circ l = [] := by
          by_cases hh : circ l = []
          · exact hh
          · rw [if_neg hh] at h; cases h
        have h1 := (ckGo_iff l 0).1 hc
        have hall : ∀ c ∈ l, CdOk l ns c := fun c hm => by
          obtain ⟨i, hi, rfl⟩ := List.getElem_of_mem hm
          exact (ckAt_iff.1 (h1 i _ (List.getElem?_eq_getElem hi))).2
        have hu : UqN l := uq_iff.1 (fun i c hic => by
          have := (ckAt_iff.1 (h1 i c hic)).1
          simpa using this)
        exact ⟨by omega, hu, hall, (circ_fd hu (fun c hm => (hall c hm).2.1)).1 hcirc⟩
    · rintro ⟨_, hu, hall, hf⟩
      have : ckGo l ns 0 l = none := (ckGo_iff l 0).2 (fun j c hj => ckAt_iff.2 ⟨by
        rw [Nat.zero_add]; exact uq_iff.2 hu j c hj, hall c (List.mem_of_getElem? hj)⟩)
      rw [this]
      exact if_pos ((circ_fd hu (fun c hm => (hall c hm).2.1)).2 hf)
/-! ### An answer is come to -/
theorem addT_in {a : List ByteArray} {d : ByteArray} : d ∈ addT a d := by
  unfold addT
  split
  · next h => exact sHas_iff.1 h
  · simp
theorem addT_sub {a : List ByteArray} {d z : ByteArray} (h : z ∈ a) : z ∈ addT a d := by
  unfold addT
  split
  · exact h
  · simp [h]
theorem foldT_in : ∀ {ds a : List ByteArray} {z : ByteArray}, z ∈ a ∨ z ∈ ds → z ∈ ds.foldl addT a
  | [], a, z, h => by simpa using h
  | d :: ds, a, z, h => by
    rw [List.foldl_cons]
    refine foldT_in ?_
    rcases h with h | h
    · exact .inl (addT_sub h)
    · rcases List.mem_cons.1 h with rfl | h
      · exact .inl addT_in
      · exact .inr h
theorem mem_names {c : Cd} {s : ByteArray} : s ∈ names c ↔ s ∈ cNm 20 c := ⟨fun h => (foldT_mem h).resolve_left (by simp), fun h => foldT_in (.inr h)⟩
theorem mem_prms {c : Cd} {s : ByteArray} : s ∈ prms c ↔ s ∈ cPs 20 c := ⟨fun h => (foldT_mem h).resolve_left (by simp), fun h => foldT_in (.inr h)⟩
theorem lost_iff {l : List Cd} {ns : List ByteArray} {c : Cd} : isLost l ns c = false ↔ (∀ s ∈ cPs 20 c, s ∈ ns) ∧ ∀ s ∈ cNm 20 c, ∃ d, lk l s = some d := by
  unfold isLost
  rw [Bool.or_eq_false_iff, List.any_eq_false, List.any_eq_false]
  constructor
  · rintro ⟨h1, h2⟩
    refine ⟨fun s hs => ?_, fun s hs => ?_⟩
    · have := h1 s (mem_prms.2 hs)
      simp at this
      exact sHas_iff.1 this
    · have := h2 s (mem_names.2 hs)
      rw [← lk_isSome] at this
      simp only [Bool.not_eq_true', Bool.not_eq_false] at this
      exact Option.isSome_iff_exists.1 this
  · rintro ⟨h1, h2⟩
    refine ⟨fun s hs => ?_, fun s hs => ?_⟩
    · simp [sHas_iff.2 (h1 s (mem_prms.1 hs))]
    · rw [← lk_isSome]
      obtain ⟨d, hd⟩ := h2 s (mem_names.1 hs)
      simp [hd]
theorem txtV_small (s : ByteArray) : vSmall (txtV s) := by
  have h : vWalk 24 (txtV s) = [txtV s] := rfl
  unfold vSmall
  rw [h]
  refine ⟨by simp, fun x hx => ?_⟩
  rw [List.mem_singleton.1 hx]
  exact ⟨by simp [txtV], by simp [txtV]⟩
theorem numV_small (n : Int) : vSmall (numV n) := by
  have h : vWalk 24 (numV n) = [numV n] := rfl
  unfold vSmall
  rw [h]
  refine ⟨by simp, fun x hx => ?_⟩
  rw [List.mem_singleton.1 hx]
  exact ⟨by simp [numV], by simp [numV]⟩
theorem plainG_some {e : Ex} {ps : List Gv} (h : xPlain e = true) (hr : ∀ s ∈ xRef e, s ∈ gNames ps) (hg : ∀ p ∈ ps, vSmall p.v) : ∃ x, plainG e ps = some x ∧ vSmall x.v := by
  unfold plainG
  rw [h]
  simp only [Bool.true_eq_false, if_false]
  by_cases h0 : e.kind = 0
  · rw [if_pos h0]; exact ⟨_, rfl, txtV_small _⟩
  · rw [if_neg h0]
    by_cases h1 : e.kind = 1
    · rw [if_pos h1]; exact ⟨_, rfl, numV_small _⟩
    · rw [if_neg h1]
      have h3 : e.kind = 3 := by
        unfold xPlain at h
        rw [if_neg h0, if_neg h1] at h
        split at h
        · assumption
        · cases h
      have hm := hr e.name (by unfold xRef; rw [if_pos h3]; simp)
      obtain ⟨p, hp, hp2⟩ := List.mem_map.1 hm
      cases hf : fiG ps e.name with
      | none =>
        have := List.findIdx?_eq_none_iff.1 hf p hp
        rw [bEq_iff.2 hp2] at this; cases this
      | some k =>
        have hk := (List.findIdx?_eq_some_iff_getElem.1 hf).1
        simp only [List.getElem?_eq_getElem hk, Option.map_some]
        exact ⟨_, rfl, hg ps[k] (List.getElem_mem hk)⟩
theorem part_dp {l : List Cd} {ps : List Gv} (hg : ∀ p ∈ ps, vSmall p.v) {K : Nat} : ∀ (k j : Nat) (c : Cd), k ≤ j → cShape k c = true → (∀ s ∈ cPs j c, s ∈ gNames ps) → (∀ s ∈ cNm j c, ∃ d, lk l s = some d ∧ Dp l ps vSmall K d) → Dp l ps vSmall (K + k) c
  | 0, j, c, _, h, _, _ => by cases h
  | k + 1, 0, c, hj, _, _, _ => by omega
  | k + 1, j + 1, c, hj, h, hp, hn => by
    unfold cShape at h
    by_cases h0 : c.kind = 0
    · rw [if_pos h0] at h
      simp only [Bool.and_eq_true, decide_eq_true_eq] at h
      obtain ⟨hl, ha, hb⟩ := h
      have hx : ∀ s, s ∈ xRef c.a ∨ s ∈ xRef c.b → s ∈ gNames ps := fun s hs => hp s (by
        unfold cPs
        rw [if_neg (by omega), if_pos h0]
        simp only [List.mem_append]
        exact .inl hs)
      obtain ⟨x, hx1, hx2⟩ := plainG_some ha (fun s hs => hx s (.inl hs)) hg
      obtain ⟨y, hy1, hy2⟩ := plainG_some hb (fun s hs => hx s (.inr hs)) hg
      exact ⟨fun _ => ⟨x, y, hx1, hy1, hx2, hy2⟩, fun e => by omega, fun e => absurd h0 e⟩
    · rw [if_neg h0] at h
      by_cases h4 : c.kind = 4
      · refine ⟨fun e => absurd e h0, fun _ => ?_, fun _ e => absurd h4 e⟩
        obtain ⟨d, h1, h2⟩ := hn c.name (by unfold cNm; rw [if_pos h4]; simp)
        obtain ⟨i, h3, h5⟩ := pl_lk.1 h1
        exact ⟨i, d, h3, h5, (h2.more (eq := vEq) k).1⟩
      · rw [if_neg h4] at h
        simp only [Bool.and_eq_true] at h
        obtain ⟨⟨h1, _⟩, h2⟩ := h
        refine ⟨fun e => absurd e h0, fun e => absurd e h4, fun _ _ => ⟨?_, fun p hpm => ?_⟩⟩
        · by_cases h5 : c.kind = 1 ∨ c.kind = 2
          · omega
          · rw [if_neg h5] at h1
            by_cases h6 : c.kind = 3
            · omega
            · rw [if_neg h6] at h1; cases h1
        · have h3 := List.all_eq_true.1 h2 p hpm
          simp only [Bool.and_eq_true] at h3
          refine part_dp hg k j p (by omega) h3.2 (fun s hs => hp s ?_) (fun s hs => hn s ?_)
          · unfold cPs
            rw [if_neg h4]
            simp only [List.mem_append, List.mem_flatMap]
            exact .inr ⟨p, hpm, hs⟩
          · unfold cNm
            rw [if_neg h4]
            exact List.mem_flatMap.2 ⟨p, hpm, hs⟩
theorem fd_dp {l : List Cd} {ps : List Gv} (hg : ∀ p ∈ ps, vSmall p.v) (hok : ∀ c ∈ l, CdOk l (gNames ps) c) : ∀ (m : Nat) (c : Cd), c ∈ l → Fd l m c → Dp l ps vSmall (6 * m) c
  | 0, c, _, h => h.elim
  | m + 1, c, hc, h => by
    obtain ⟨_, _, h3, h4⟩ := hok c hc
    obtain ⟨h5, h6⟩ := lost_iff.1 h4
    refine part_dp hg (K := 6 * m) 6 20 c (by omega) h3 h5 (fun s hs => ?_)
    obtain ⟨d, hd⟩ := h6 s hs
    exact ⟨d, hd, fd_dp hg hok m d (List.mem_of_find?_eq_some hd) (h s (mem_names.2 hs) d hd)⟩
/-- what conds.Run wants of the conditions -/
theorem chk_dp {l : List Cd} {ps : List Gv} (hg : ∀ p ∈ ps, vSmall p.v) (h : csCheck l (gNames ps) = 0) : ∃ K, (∀ c ∈ l, Dp l ps vSmall K c) ∧ ∀ i c, l[i]? = some c → plAt l c.name = some i := by
  obtain ⟨_, hu, hok, m, hm⟩ := chk_iff.1 h
  exact ⟨6 * m, fun c hc => fd_dp hg hok m c hc (hm c hc), uq_iff.2 hu⟩
end Go.Proofs.YtmljdppdaaoehaaGreatDoor
namespace Go.Proofs.YtmljdppdaaoehaaGreatDoor
set_option linter.unusedVariables false
set_option linter.unusedSimpArgs false

theorem sum_flat_le {α β : Type} {f : α → List β} {g : α → Nat} : ∀ (l : List α), (∀ x ∈ l, (f x).length ≤ g x) → (l.flatMap f).length ≤ (l.map g).sum
  | [], _ => by simp
  | x :: l, h => by
    rw [List.flatMap_cons, List.length_append, List.map_cons, List.sum_cons]
    have := h x (by simp)
    have := sum_flat_le l (fun y hy => h y (by simp [hy]))
    omega
theorem mem_sum_le {α : Type} {f : α → Nat} {l : List α} {x : α} (h : x ∈ l) : f x ≤ (l.map f).sum := sum_mem_le h
theorem vW_walk : ∀ (k j : Nat) (v : Vl), j ≤ k → vW k v ≤ 9999 → (vWalk j v).length ≤ vW k v ∧ ∀ x ∈ vWalk j v, x.keys.length ≤ 3000 ∧ x.list.length ≤ 3000
  | _, 0, v, _, _ => by simp [vWalk]
  | 0, j + 1, v, hj, _ => by omega
  | k + 1, j + 1, v, hj, h => by
    simp only [vW] at h ⊢
    split at h
    · omega
    · next hl =>
      rw [if_neg hl]
      have h2 := efold_sum (f := vW k) v.list (1 + min v.text.size 10000 + (v.keys.map fun s => min s.size 10000).sum) (by omega)
      rw [h2] at h ⊢
      have hx : ∀ x ∈ v.list, vW k x ≤ 9999 := fun x hx => by have := mem_sum_le (f := vW k) hx; omega
      refine ⟨?_, fun x hx2 => ?_⟩
      · have := sum_flat_le (f := vWalk j) (g := vW k) v.list (fun x hxm => (vW_walk k j x (by omega) (hx x hxm)).1)
        simp only [vWalk, List.length_cons]
        omega
      · simp only [vWalk, List.mem_cons, List.mem_flatMap] at hx2
        rcases hx2 with rfl | ⟨y, hy, hxy⟩
        · omega
        · exact (vW_walk k j y (by omega) (hx y hy)).2 x hxy
theorem small_of {v : Vl} (h : vGreat v = false) : vSmall v := by
  unfold vGreat at h
  simp only [decide_eq_false_iff_not] at h
  obtain ⟨h1, h2⟩ := vW_walk 30 24 v (by omega) (by omega)
  exact ⟨by omega, fun x hx => by have := h2 x hx; omega⟩
theorem gs_small {ps : List Gv} (h : gsGreat ps = false) : ps.length ≤ 60 ∧ ∀ p ∈ ps, vSmall p.v := by
  unfold gsGreat at h
  rw [Bool.or_eq_false_iff, List.any_eq_false] at h
  refine ⟨by simpa using h.1, fun p hp => ?_⟩
  have := h.2 p hp
  simp only [Bool.or_eq_true, not_or] at this
  exact small_of (by simpa using this.2)
theorem cW_ok : ∀ (k : Nat) (c : Cd), cW k c ≤ 9999 → c.deep k ∧ (cNm k c).length ≤ cW k c ∧ (cPs k c).length ≤ 2 * cW k c
  | 0, c, h => by simp [cW] at h
  | k + 1, c, h => by
    simp only [cW] at h ⊢
    split at h
    · omega
    · next hl =>
      rw [if_neg hl]
      have h2 := efold_sum (f := cW k) c.l (1 + min c.name.size 10000 + eW c.a + eW c.b) (by omega)
      rw [h2] at h ⊢
      have hx : ∀ x ∈ c.l, cW k x ≤ 9999 := fun x hx => by have := mem_sum_le (f := cW k) hx; omega
      refine ⟨fun p hp => (cW_ok k p (hx p hp)).1, ?_, ?_⟩
      · unfold cNm
        split
        · simp; omega
        · have := sum_flat_le (f := cNm k) (g := cW k) c.l (fun x hxm => (cW_ok k x (hx x hxm)).2.1)
          omega
      · unfold cPs
        split
        · simp
        · have h3 := sum_flat_le (f := cPs k) (g := fun x => 2 * cW k x) c.l (fun x hxm => (cW_ok k x (hx x hxm)).2.2)
          have h4 : (c.l.map (fun x => 2 * cW k x)).sum = 2 * (c.l.map (cW k)).sum := by
            generalize c.l = L
            induction L with
            | nil => rfl
            | cons y L ih => simp only [List.map_cons, List.sum_cons, ih]; omega
          have h5 : (if c.kind = 0 then xRef c.a ++ xRef c.b else []).length ≤ 2 := by
            split
            · unfold xRef; rw [List.length_append]; split <;> split <;> simp
            · simp
          rw [List.length_append]
          omega
theorem csGo_all : ∀ {l : List Cd} {n : Nat}, csGo n l = false → ∀ c ∈ l, cW 20 c ≤ 5000
  | [], _, _, c, hc => by cases hc
  | d :: l, n, h, c, hc => by
    simp only [csGo] at h
    split at h
    · cases h
    · rcases List.mem_cons.1 hc with rfl | hc
      · omega
      · exact csGo_all h c hc
theorem cs_ok {l : List Cd} (h : csGreat l = false) : l.length ≤ 40 ∧ CsOk l := by
  unfold csGreat at h
  rw [Bool.or_eq_false_iff] at h
  refine ⟨by simpa using h.1, fun c hc => ?_⟩
  have h1 := csGo_all h.2 c hc
  obtain ⟨h2, h3, h4⟩ := cW_ok 20 c (by omega)
  exact ⟨h2, by omega, by omega⟩
/-- conds.Run, of what is not great -/
theorem crun_any (S : Nat → Prop) (A : Option Addr) (ac : Nat) (l : List Cd) (PA : Option Addr) (pc : Nat) (ps : List Gv) (w : World) (hV : VOk w) (hls : Ls S w 15 224 Cd.tr A ac l) (hps : Ls S w 8 104 Gv.tr PA pc ps) (hpl : ps.length ≤ 1000000) (hg : ∀ p ∈ ps, vSmall p.v) (hok : CsOk l) (K : Nat) (hK : csCheck l (gNames ps) = 0 → ∀ c ∈ l, Dp l ps vSmall K c) :
    Calls Tryz.prog 8 #[.slice A l.length ac, .slice PA ps.length pc] w (RunOut (runOf l ps vEq K) w) :=
  run_any S A ac l PA pc ps vEq vSmall K w hV (equal_any w hV) hls hps hpl hok (fun h => ⟨hK h, uq_iff.2 (chk_iff.1 h).2.1⟩)
end Go.Proofs.YtmljdppdaaoehaaGreatDoor
