/- Plain laws of graphs: ranks, widths; distances. No program is named here. -/
import Derived.Test.YtjpljkjclamjnaaGrPlain
namespace Go.Proofs.Ytjpljkjclamjnaa
set_option linter.unusedVariables false
set_option linter.unusedSimpArgs false

theorem order_none {L : List (List Nat)} (hok : okG L) (h : orderF L = none) : ∃ s k, Walk L s k s := ordGo_none _ L [] hok (Part.nil L) (by simp) h
theorem order_some_of {L : List (List Nat)} (hok : okG L) (h : ∀ s k, ¬ Walk L s k s) : ∃ O, orderF L = some O := by
  cases ho : orderF L with
  | some O => exact ⟨O, rfl⟩
  | none => obtain ⟨s, k, hw⟩ := order_none hok ho; exact absurd hw (h s k)
theorem order_acyclic {L : List (List Nat)} {O : List Nat} (h : orderF L = some O) (s k : Nat) : ¬ Walk L s k s := by
  obtain ⟨h1, h2⟩ := orderF_part h
  exact h1.no_circle h2 s k

/-! ranks -/
def rk (R : List Nat) (i : Nat) : Nat := R.getD i 0
def mx (g : Nat → Nat) (a : Nat) (l : List Nat) : Nat := l.foldl (fun a x => max a (g x + 1)) a
theorem mx_le {g : Nat → Nat} : ∀ (l : List Nat) (a b : Nat), mx g a l ≤ b ↔ a ≤ b ∧ ∀ x ∈ l, g x + 1 ≤ b
  | [], a, b => by simp [mx]
  | x :: l, a, b => by
    show mx g (max a (g x + 1)) l ≤ b ↔ _
    rw [mx_le l, Nat.max_le, and_assoc]
    simp only [List.mem_cons, forall_eq_or_imp]
theorem mx_ge {g : Nat → Nat} (l : List Nat) (a : Nat) : a ≤ mx g a l ∧ ∀ x ∈ l, g x + 1 ≤ mx g a l := (mx_le l a _).1 (Nat.le_refl _)
theorem mx_congr {g g' : Nat → Nat} : ∀ (l : List Nat) (a : Nat), (∀ x ∈ l, g x = g' x) → mx g a l = mx g' a l
  | [], _, _ => rfl
  | x :: l, a, h => by
    show mx g (max a (g x + 1)) l = mx g' (max a (g' x + 1)) l
    rw [h x (by simp), mx_congr l _ (fun y hy => h y (by simp [hy]))]
theorem mx_mem {g : Nat → Nat} {l l' : List Nat} (a : Nat) (h : ∀ x, x ∈ l ↔ x ∈ l') : mx g a l = mx g a l' :=
  Nat.le_antisymm ((mx_le l a _).2 ⟨(mx_ge l' a).1, fun x hx => (mx_ge l' a).2 x ((h x).1 hx)⟩) ((mx_le l' a _).2 ⟨(mx_ge l a).1, fun x hx => (mx_ge l a).2 x ((h x).2 hx)⟩)

def rInner (i : Nat) (R : List Nat) (l : List Nat) : List Nat := l.foldl (fun R x => R.set i (max (rk R i) (rk R x + 1))) R
def rankGo (L : List (List Nat)) (R : List Nat) (O : List Nat) : List Nat := O.foldl (fun R i => rInner i R (lean' L i)) R
def rankF (L : List (List Nat)) (O : List Nat) : List Nat := rankGo L (List.replicate L.length 0) O
theorem rk_set {R : List Nat} {i j v : Nat} (hi : i < R.length) : rk (R.set i v) j = if j = i then v else rk R j := by
  unfold rk
  rw [List.getD_eq_getElem?_getD, List.getD_eq_getElem?_getD, List.getElem?_set]
  by_cases h : i = j
  · subst h; simp [hi]
  · rw [if_neg h, if_neg (fun e => h e.symm)]
theorem rInner_len (i : Nat) : ∀ (l R : List Nat), (rInner i R l).length = R.length
  | [], _ => rfl
  | x :: l, R => by
    show (rInner i (R.set i _) l).length = _
    rw [rInner_len i l]; simp
theorem rInner_rk {i : Nat} : ∀ (l R : List Nat), i < R.length → i ∉ l → ∀ j, rk (rInner i R l) j = if j = i then mx (rk R) (rk R i) l else rk R j
  | [], R, _, _, j => by
    show rk R j = _
    split
    · rename_i h; subst h; rfl
    · rfl
  | x :: l, R, hi, hm, j => by
    have hx : i ≠ x := fun e => hm (by simp [e])
    show rk (rInner i (R.set i (max (rk R i) (rk R x + 1))) l) j = _
    rw [rInner_rk l _ (by simpa using hi) (fun h => hm (by simp [h])) j]
    by_cases hj : j = i
    · subst hj
      rw [if_pos rfl, if_pos rfl, rk_set hi, if_pos rfl]
      show _ = mx (rk R) (max (rk R j) (rk R x + 1)) l
      exact mx_congr _ _ (fun y hy => by rw [rk_set hi, if_neg (fun e => hm (by simp [← e, hy]))])
    · rw [if_neg hj, if_neg hj, rk_set hi, if_neg hj]

def RankEq (L : List (List Nat)) (R : List Nat) : Prop := R.length = L.length ∧ ∀ i, i < L.length → rk R i = mx (rk R) 0 (lean' L i)
theorem rankGo_snoc (L : List (List Nat)) (R O : List Nat) (i : Nat) : rankGo L R (O ++ [i]) = rInner i (rankGo L R O) (lean' L i) := by simp [rankGo, List.foldl_append]
theorem rankF_snoc (L : List (List Nat)) (O : List Nat) (i : Nat) : rankF L (O ++ [i]) = rInner i (rankF L O) (lean' L i) := rankGo_snoc _ _ _ _
structure RankI (L : List (List Nat)) (A : List Nat) (R : List Nat) : Prop where
  len : R.length = L.length
  out : ∀ j, j ∉ A → rk R j = 0
  eq : ∀ j ∈ A, rk R j = mx (rk R) 0 (lean' L j)
theorem RankI.step {L : List (List Nat)} {A : List Nat} {R : List Nat} {i : Nat} (h : RankI L A R) (hi : i < L.length) (hA : i ∉ A) (hl : ∀ x ∈ lean' L i, x ∈ A) (hpre : ∀ j ∈ A, ∀ x ∈ lean' L j, x ∈ A) : RankI L (A ++ [i]) (rInner i R (lean' L i)) := by
  have hil : i ∉ lean' L i := fun hm => hA (hl i hm)
  have hrk := rInner_rk (lean' L i) R (by rw [h.len]; exact hi) hil
  have hAne : ∀ x ∈ A, x ≠ i := by rintro x hx rfl; exact hA hx
  refine ⟨by rw [rInner_len, h.len], fun j hj => ?_, fun j hj => ?_⟩
  · have h1 : j ≠ i := by rintro rfl; exact hj (by simp)
    rw [hrk, if_neg h1]
    exact h.out j (fun hm => hj (by simp [hm]))
  · rcases List.mem_append.1 hj with hj | hj
    · rw [hrk, if_neg (hAne j hj), h.eq j hj]
      exact mx_congr _ _ (fun x hx => by rw [hrk, if_neg (hAne x (hpre j hj x hx))])
    · rw [List.mem_singleton] at hj
      subst hj
      rw [hrk, if_pos rfl, h.out j hA]
      exact mx_congr _ _ (fun x hx => by rw [hrk, if_neg (hAne x (hl x hx))])
theorem Part.left {L : List (List Nat)} {A B : List Nat} (h : Part L (A ++ B)) : Part L A :=
  ⟨(List.nodup_append.1 h.nd).1, fun x hx => h.lt x (by simp [hx]), fun A' i B' e x hx => h.pre A' i (B' ++ B) (by rw [e]; simp) x hx⟩
theorem Part.closed {L : List (List Nat)} {A : List Nat} (h : Part L A) : ∀ j ∈ A, ∀ x ∈ lean' L j, x ∈ A := by
  intro j hj x hx
  obtain ⟨A', B', rfl⟩ := List.append_of_mem hj
  have := h.pre A' j B' rfl x hx
  simp [this]
theorem rankI_of {L : List (List Nat)} : ∀ (n : Nat) (O : List Nat), O.length = n → Part L O → RankI L O (rankF L O)
  | 0, O, hn, _ => by
    have : O = [] := List.eq_nil_of_length_eq_zero hn
    subst this
    refine ⟨by simp [rankF, rankGo], fun j _ => ?_, by simp⟩
    show rk (List.replicate L.length 0) j = 0
    unfold rk
    rw [List.getD_eq_getElem?_getD, List.getElem?_replicate]
    split <;> rfl
  | n + 1, O, hn, hp => by
    rcases List.eq_nil_or_concat O with rfl | ⟨A, i, rfl⟩
    · cases hn
    · rw [List.concat_eq_append] at hn hp ⊢
      rw [rankF_snoc]
      have hA := hp.left
      have h1 := rankI_of n A (by simpa using hn) hA
      have hnd := hp.nd
      rw [List.nodup_append] at hnd
      refine h1.step (hp.lt i (by simp)) (fun hm => hnd.2.2 i hm i (by simp) rfl) (fun x hx => hp.pre A i [] rfl x hx) hA.closed
theorem rankEq_of {L : List (List Nat)} {O : List Nat} (h : orderF L = some O) : RankEq L (rankF L O) := by
  obtain ⟨h1, h2⟩ := orderF_part h
  have h3 := rankI_of _ O rfl h1
  exact ⟨h3.len, fun i hi => h3.eq i (h1.all h2 i hi)⟩
/-- with more leans ranks are greater -/
theorem rank_mono {L L' : List (List Nat)} {O R R' : List Nat} (hO : Part L O) (hl : O.length = L.length) (hR : RankEq L R) (hR' : RankEq L' R') (hlen : L'.length = L.length) (hs : ∀ i x, x ∈ lean' L' i → x ∈ lean' L i) :
    ∀ (m i : Nat), i < L.length → O.idxOf i = m → rk R' i ≤ rk R i := by
  intro m
  induction m using Nat.strongRecOn with
  | _ m ih =>
    intro i hi hm
    rw [hR.2 i hi, hR'.2 i (by omega), mx_le]
    refine ⟨Nat.zero_le _, fun x hx => ?_⟩
    have hx' := hs i x hx
    have hlt := hO.edge (hO.all hl i hi) hx'
    have hxL := hO.lt x (hO.closed i (hO.all hl i hi) x hx')
    have := ih _ (by omega) x hxL rfl
    have := (mx_ge (g := rk R) (lean' L i) 0).2 x hx'
    omega
theorem rank_unique {L L' : List (List Nat)} {O R R' : List Nat} (hO : Part L O) (hl : O.length = L.length) (hR : RankEq L R) (hR' : RankEq L' R') (hlen : L'.length = L.length) (hs : ∀ i x, x ∈ lean' L' i ↔ x ∈ lean' L i) : R' = R := by
  have key : ∀ (m i : Nat), i < L.length → O.idxOf i = m → rk R' i = rk R i := by
    intro m
    induction m using Nat.strongRecOn with
    | _ m ih =>
      intro i hi hm
      rw [hR.2 i hi, hR'.2 i (by omega), mx_mem 0 (hs i)]
      refine mx_congr _ _ (fun x hx' => ?_)
      have hlt := hO.edge (hO.all hl i hi) hx'
      exact ih _ (by omega) x (hO.lt x (hO.closed i (hO.all hl i hi) x hx')) rfl
  refine List.ext_getElem (by rw [hR'.1, hR.1, hlen]) (fun i h1 h2 => ?_)
  have := key _ i (by rw [← hR.1]; exact h2) rfl
  simpa [rk, List.getD_eq_getElem?_getD, h1, h2] using this

/-! how wide -/
def wid (R : List Nat) : Nat := R.foldl (fun a r => max a (R.count r)) 0
theorem wid_le {R : List Nat} : ∀ (l : List Nat) (a b : Nat), l.foldl (fun a r => max a (R.count r)) a ≤ b ↔ a ≤ b ∧ ∀ r ∈ l, R.count r ≤ b
  | [], a, b => by simp
  | x :: l, a, b => by
    rw [List.foldl_cons, wid_le l, Nat.max_le, and_assoc]
    simp only [List.mem_cons, forall_eq_or_imp]
theorem wid_iff {R : List Nat} {b : Nat} : wid R ≤ b ↔ ∀ r, R.count r ≤ b := by
  unfold wid
  rw [wid_le]
  constructor
  · rintro ⟨_, h⟩ r
    by_cases hr : r ∈ R
    · exact h r hr
    · rw [List.count_eq_zero.2 hr]; exact Nat.zero_le _
  · intro h; exact ⟨Nat.zero_le _, fun r _ => h r⟩
theorem wid_perm {R R' : List Nat} (h : R.Perm R') : wid R = wid R' := by
  apply Nat.le_antisymm
  · rw [wid_iff]; intro r; rw [h.count_eq]; exact wid_iff.1 (Nat.le_refl _) r
  · rw [wid_iff]; intro r; rw [← h.count_eq]; exact wid_iff.1 (Nat.le_refl _) r
/-- counted as one goes -/
theorem wid_snoc (R : List Nat) (r : Nat) : wid (R ++ [r]) = max (wid R) (R.count r + 1) := by
  apply Nat.le_antisymm
  · rw [wid_iff]
    intro x
    have h1 := wid_iff.1 (Nat.le_refl (wid R)) x
    rw [List.count_append]
    by_cases hx : x = r
    · subst hx; simp; omega
    · rw [List.count_singleton]
      have : (r == x) = false := by simp; exact fun e => hx e.symm
      rw [this]; simp; omega
  · refine Nat.max_le.2 ⟨?_, ?_⟩
    · rw [wid_iff]; intro x
      have := wid_iff.1 (Nat.le_refl (wid (R ++ [r]))) x
      rw [List.count_append] at this; omega
    · have := wid_iff.1 (Nat.le_refl (wid (R ++ [r]))) r
      rw [List.count_append] at this; simpa using this
end Go.Proofs.Ytjpljkjclamjnaa
