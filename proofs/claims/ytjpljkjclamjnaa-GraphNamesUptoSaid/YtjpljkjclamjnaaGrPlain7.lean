/- Plain: nodes turned, leans twice. -/
import Derived.Test.YtjpljkjclamjnaaGrLess
namespace Go.Proofs.Ytjpljkjclamjnaa
set_option linter.unusedVariables false
set_option linter.unusedSimpArgs false

theorem rdyB_congr {L L' : List (List Nat)} (hl : ∀ i x, x ∈ lean' L' i ↔ x ∈ lean' L i) (T : List Nat) (i : Nat) : rdyB L' T i = rdyB L T i := by
  rw [Bool.eq_iff_iff, rdyB_iff, rdyB_iff]
  constructor
  · rintro ⟨h1, h2⟩; exact ⟨h1, fun x hx => h2 x ((hl i x).2 hx)⟩
  · rintro ⟨h1, h2⟩; exact ⟨h1, fun x hx => h2 x ((hl i x).1 hx)⟩
theorem nextF_congr {L L' : List (List Nat)} (hlen : L'.length = L.length) (hl : ∀ i x, x ∈ lean' L' i ↔ x ∈ lean' L i) (T : List Nat) : nextF L' T = nextF L T := by
  unfold nextF
  rw [hlen, show rdyB L' T = rdyB L T from funext (rdyB_congr hl T)]
theorem ordGo_congr {L L' : List (List Nat)} (hlen : L'.length = L.length) (hl : ∀ i x, x ∈ lean' L' i ↔ x ∈ lean' L i) : ∀ (f : Nat) (T : List Nat), ordGo L' f T = ordGo L f T
  | 0, T => rfl
  | f + 1, T => by
    unfold ordGo
    rw [nextF_congr hlen hl]
    split
    · rfl
    · exact ordGo_congr hlen hl f _
theorem orderF_congr {L L' : List (List Nat)} (hlen : L'.length = L.length) (hl : ∀ i x, x ∈ lean' L' i ↔ x ∈ lean' L i) : orderF L' = orderF L := by
  unfold orderF; rw [hlen, ordGo_congr hlen hl]

def dbl (l : List Nat) : List Nat := l.flatMap fun x => [x, x]
theorem dbl_snoc (l : List Nat) (x : Nat) : dbl (l ++ [x]) = dbl l ++ [x, x] := by simp [dbl]
theorem dbl_len (l : List Nat) : (dbl l).length = 2 * l.length := by
  induction l with
  | nil => rfl
  | cons x l ih => simp [dbl] at ih ⊢; omega
theorem dbl_mem (l : List Nat) (x : Nat) : x ∈ dbl l ↔ x ∈ l := by
  simp [dbl]
def twL (L : List (List Nat)) : List (List Nat) := (List.range L.length).map fun i => dbl (lean' L i)
theorem twL_len (L : List (List Nat)) : (twL L).length = L.length := by simp [twL]
theorem twL_lean (L : List (List Nat)) (i x : Nat) : x ∈ lean' (twL L) i ↔ x ∈ lean' L i := by
  rcases Nat.lt_or_ge i L.length with hi | hi
  · rw [show lean' (twL L) i = dbl (lean' L i) by simp [lean', twL, List.getD_eq_getElem?_getD, hi], dbl_mem]
  · have h1 : lean' (twL L) i = [] := by unfold lean'; rw [List.getD_eq_getElem?_getD, List.getElem?_eq_none (by rw [twL_len]; exact hi)]; rfl
    have h2 : lean' L i = [] := by unfold lean'; rw [List.getD_eq_getElem?_getD, List.getElem?_eq_none hi]; rfl
    rw [h1, h2]
theorem twL_ok {L : List (List Nat)} (hok : okG L) : okG (twL L) := fun i x hx => by rw [twL_len]; exact hok i x ((twL_lean L i x).1 hx)

def tnL (L : List (List Nat)) : List (List Nat) := (List.range L.length).map fun z => (lean' L (L.length - 1 - z)).map fun x => L.length - 1 - x
theorem tnL_len (L : List (List Nat)) : (tnL L).length = L.length := by simp [tnL]
theorem tnL_lean {L : List (List Nat)} {z : Nat} (hz : z < L.length) : lean' (tnL L) z = (lean' L (L.length - 1 - z)).map fun x => L.length - 1 - x := by
  simp [lean', tnL, List.getD_eq_getElem?_getD, hz]
theorem tnL_ok {L : List (List Nat)} (hok : okG L) : okG (tnL L) := by
  intro i x hx
  have hi := lean_lt hx
  rw [tnL_len] at hi ⊢
  rw [tnL_lean hi] at hx
  simp only [List.mem_map] at hx
  obtain ⟨y, _, rfl⟩ := hx
  omega
theorem tn_walk {L : List (List Nat)} (hok : okG L) {t k i : Nat} (h : Walk L t k i) : Walk (tnL L) (L.length - 1 - t) k (L.length - 1 - i) := by
  have key : ∀ {i x : Nat}, x ∈ lean' L i → L.length - 1 - x ∈ lean' (tnL L) (L.length - 1 - i) := by
    intro i x hx
    have hi := lean_lt hx
    rw [tnL_lean (by omega), show L.length - 1 - (L.length - 1 - i) = i by omega]
    exact List.mem_map_of_mem hx
  induction h with
  | one h => exact .one (key h)
  | more h _ ih => exact .more (key h) ih
theorem tn_walk' {L : List (List Nat)} (hok : okG L) {t k i : Nat} (h : Walk (tnL L) t k i) : Walk L (L.length - 1 - t) k (L.length - 1 - i) := by
  have key : ∀ {i x : Nat}, x ∈ lean' (tnL L) i → L.length - 1 - x ∈ lean' L (L.length - 1 - i) := by
    intro i x hx
    have hi := lean_lt hx
    rw [tnL_len] at hi
    rw [tnL_lean hi] at hx
    simp only [List.mem_map] at hx
    obtain ⟨y, hy, rfl⟩ := hx
    have := hok _ y hy
    rw [show L.length - 1 - (L.length - 1 - y) = y by omega]
    exact hy
  induction h with
  | one h => exact .one (key h)
  | more h _ ih => exact .more (key h) ih
theorem tn_cyc {L : List (List Nat)} (hok : okG L) : (∀ s k, ¬ Walk (tnL L) s k s) ↔ ∀ s k, ¬ Walk L s k s := by
  constructor
  · intro h s k hw; exact h _ k (tn_walk hok hw)
  · intro h s k hw; exact h _ k (tn_walk' hok hw)
theorem tn_order {L : List (List Nat)} (hok : okG L) : orderF (tnL L) = none ↔ orderF L = none := by
  have key : ∀ M : List (List Nat), okG M → (orderF M = none ↔ ¬ ∀ s k, ¬ Walk M s k s) := fun M hM => by
    constructor
    · intro h hn; obtain ⟨s, k, hw⟩ := order_none hM h; exact hn s k hw
    · intro h
      cases ho : orderF M with
      | none => rfl
      | some O => exact absurd (order_acyclic ho) h
  rw [key _ (tnL_ok hok), key _ hok, tn_cyc hok]
theorem tn_circ {L : List (List Nat)} (hok : okG L) {Ds Ds' : Nat → Nat → Nat} (hD : ∀ s, s < L.length → IsD L s (Ds s)) (hD' : ∀ s, s < (tnL L).length → IsD (tnL L) s (Ds' s)) : circF (tnL L) Ds' = [] ↔ circF L Ds = [] := by
  rw [circF_none hD, circF_none hD', tn_cyc hok]
theorem rk_rev {R : List Nat} {i : Nat} (h : i < R.length) : rk R.reverse i = rk R (R.length - 1 - i) := by
  unfold rk
  rw [List.getD_eq_getElem?_getD, List.getD_eq_getElem?_getD, List.getElem?_reverse h]
theorem mx_map (g g' : Nat → Nat) (f : Nat → Nat) : ∀ (l : List Nat) (a : Nat), (∀ x ∈ l, g (f x) = g' x) → mx g a (l.map f) = mx g' a l
  | [], _, _ => rfl
  | x :: l, a, h => by
    show mx g (max a (g (f x) + 1)) (l.map f) = mx g' (max a (g' x + 1)) l
    rw [h x (by simp), mx_map g g' f l _ (fun y hy => h y (by simp [hy]))]
theorem tn_rank {L : List (List Nat)} (hok : okG L) {O O' : List Nat} (h : orderF L = some O) (h' : orderF (tnL L) = some O') : rankF (tnL L) O' = (rankF L O).reverse := by
  have hr := rankEq_of h
  have hp' := orderF_part h'
  refine rank_unique hp'.1 hp'.2 (R := (rankF L O).reverse) (R' := rankF (tnL L) O') ?_ (rankEq_of h') rfl (fun _ _ => Iff.rfl)
  refine ⟨by rw [List.length_reverse, hr.1, tnL_len], fun i hi => ?_⟩
  rw [tnL_len] at hi
  rw [rk_rev (by rw [hr.1]; exact hi), hr.1, hr.2 _ (by omega), tnL_lean hi]
  refine (mx_map _ _ _ _ _ (fun x hx => ?_)).symm
  have hx := hok _ x hx
  rw [rk_rev (by rw [hr.1]; omega), hr.1, show L.length - 1 - (L.length - 1 - x) = x by omega]
theorem tn_wid {L : List (List Nat)} (hok : okG L) {O O' : List Nat} (h : orderF L = some O) (h' : orderF (tnL L) = some O') : wid (rankF (tnL L) O') = wid (rankF L O) := by
  rw [tn_rank hok h h']
  exact wid_perm (List.reverse_perm _)
theorem twL_sum (L : List (List Nat)) : ((twL L).map List.length).sum = 2 * (L.map List.length).sum := by
  have h : (L.map List.length).sum = (((List.range L.length).map (lean' L)).map List.length).sum := by rw [rows_self]
  rw [h]
  unfold twL
  generalize List.range L.length = l
  induction l with
  | nil => rfl
  | cons x l ih => simp only [List.map_cons, List.sum_cons, dbl_len] at ih ⊢; omega
theorem tnL_sum_le (L : List (List Nat)) (B : Nat) (h : ∀ i, (lean' L i).length ≤ B) : ((tnL L).map List.length).sum ≤ L.length * B := by
  have key : ∀ l : List Nat, ((l.map fun z => (lean' L (L.length - 1 - z)).map fun x => L.length - 1 - x).map List.length).sum ≤ l.length * B := by
    intro l
    induction l with
    | nil => simp
    | cons x l ih =>
      simp only [List.map_cons, List.sum_cons, List.length_cons, List.length_map]
      have := h (L.length - 1 - x)
      have e : (l.length + 1) * B = l.length * B + B := Nat.succ_mul _ _
      simp only [List.map_map, Function.comp_def, List.length_map] at ih ⊢
      omega
  have := key (List.range L.length)
  simpa [tnL] using this
end Go.Proofs.Ytjpljkjclamjnaa
