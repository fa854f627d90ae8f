/- Plain: an order is one; a circle's nodes in turn; ranks one by one. -/
import Derived.Test.YtjpljkjclamjnaaGrTells
namespace Go.Proofs.Ytjpljkjclamjnaa
set_option linter.unusedVariables false
set_option linter.unusedSimpArgs false

theorem isGo_part {L : List (List Nat)} : ∀ (B A : List Nat), Part L (A ++ B) → isGoI (cL L) (tk A) (cI B) = true
  | [], _, _ => rfl
  | i :: B, A, h => by
    have hi := h.lt i (by simp)
    have hA : i ∉ A := fun hm => by
      have := (List.nodup_append.1 h.nd).2.2 i hm i (by simp)
      exact this rfl
    have hrow : (cI (lean' L i)).all (tk A) = true := by
      rw [List.all_eq_true]
      intro z hz
      simp only [cI, List.mem_map] at hz
      obtain ⟨x, hx, rfl⟩ := hz
      rw [tk_nat]
      have := h.pre A i B rfl x hx
      simpa using this
    show isGoI (cL L) (tk A) ((i : Int) :: cI B) = true
    rw [isGoI_go (cL_get hi) (by rw [tk_nat]; simpa using hA) hrow, tk_put]
    exact isGo_part B (A ++ [i]) (by rw [List.append_assoc]; exact h)
theorem isI_order {L : List (List Nat)} {O : List Nat} (hok : okG L) (h : orderF L = some O) : isI (cL L) (cI O) = true := by
  obtain ⟨h1, h2⟩ := orderF_part h
  have := isGo_part O [] h1
  rw [tk_nil] at this
  simp only [isI, mayI_cL hok, this, cI_len, cL_len, h2, Bool.and_true, Bool.true_and]
  simp
theorem isI_sub {L L' : List (List Nat)} {O : List Nat} (hok : okG L') (h : orderF L = some O) (hlen : L'.length = L.length) (hs : ∀ i x, x ∈ lean' L' i → x ∈ lean' L i) : isI (cL L') (cI O) = true := by
  obtain ⟨h1, h2⟩ := orderF_part h
  have hp : Part L' ([] ++ O) := ⟨h1.nd, fun x hx => by rw [hlen]; exact h1.lt x hx, fun A i B e x hx => h1.pre A i B e x (hs i x hx)⟩
  have := isGo_part O [] hp
  rw [tk_nil] at this
  simp only [isI, mayI_cL hok, this, cI_len, cL_len, h2, hlen, Bool.and_true, Bool.true_and]
  simp

/-- the circle that is told -/
structure Ring (L : List (List Nat)) (c : List Nat) : Prop where
  pos : 1 ≤ c.length
  lt : ∀ x ∈ c, x < L.length
  inj : ∀ j k x : Nat, c[j]? = some x → c[k]? = some x → j = k
  step : ∀ j x y : Nat, c[j]? = some x → c[(j + 1) % c.length]? = some y → y ∈ lean' L x
theorem circF_ring {L : List (List Nat)} {Ds : Nat → Nat → Nat} (hok : okG L) (hD : ∀ s, s < L.length → IsD L s (Ds s)) (h : circF L Ds ≠ []) : Ring L (circF L Ds) := by
  have : ∃ s, s < L.length ∧ Ds s s ≠ 0 ∧ circF L Ds = pathGo L (Ds s) s (Ds s s) s := by
    unfold circF at h ⊢
    cases hf : (List.range L.length).find? (fun s => Ds s s != 0) with
    | none => rw [hf] at h; exact absurd rfl h
    | some s =>
      have h1 := List.find?_some hf
      simp at h1
      exact ⟨s, List.mem_range.1 (List.mem_of_find?_eq_some hf), h1, rfl⟩
  obtain ⟨s, hs, hz, e⟩ := this
  have hc := pathGo_circ hok (hD s hs) (Ds s s) s (by omega) rfl hs
  obtain ⟨m, hm⟩ : ∃ m, Ds s s = m + 1 := ⟨Ds s s - 1, by omega⟩
  have h0 : (circF L Ds)[0]? = some s := by rw [e, hm]; rfl
  rw [← e] at hc
  have hl := hc.len
  refine ⟨by omega, hc.lt, fun j k x hj hk => ?_, fun j x y hx hy => ?_⟩
  · have h1 := hc.d j x hj
    have h2 := hc.d k x hk
    have h3 := (List.getElem?_eq_some_iff.1 hj).1
    have h4 := (List.getElem?_eq_some_iff.1 hk).1
    omega
  · have hj := (List.getElem?_eq_some_iff.1 hx).1
    rcases Nat.lt_or_ge (j + 1) (circF L Ds).length with h1 | h1
    · rw [Nat.mod_eq_of_lt h1] at hy
      exact hc.step j x y hx hy
    · have : j + 1 = (circF L Ds).length := by omega
      rw [this, Nat.mod_self, h0] at hy
      injection hy with hy
      subst hy
      exact hc.last x (by rw [show Ds s s - 1 = j by omega]; exact hx)
/-- an order or a circle -/
theorem order_circ {L : List (List Nat)} {Ds : Nat → Nat → Nat} (hok : okG L) (hD : ∀ s, s < L.length → IsD L s (Ds s)) : orderF L = none ↔ circF L Ds ≠ [] := by
  constructor
  · intro h e
    obtain ⟨s, k, hw⟩ := order_none hok h
    exact (circF_none hD).1 e s k hw
  · intro h
    cases ho : orderF L with
    | none => rfl
    | some O => exact absurd ((circF_none hD).2 (order_acyclic ho)) h
theorem mx_snoc (g : Nat → Nat) (l : List Nat) (x : Nat) : mx g 0 (l ++ [x]) = max (mx g 0 l) (g x + 1) := by
  unfold mx; rw [List.foldl_append]; rfl
theorem Ring.seen {L : List (List Nat)} {c : List Nat} (h : Ring L c) {j x : Nat} (hx : c[j]? = some x) : (c.take j).contains x = false := by
  rw [Bool.eq_false_iff]
  intro hm
  have hm : x ∈ c.take j := by simpa using hm
  obtain ⟨k, hk⟩ := List.mem_iff_getElem?.1 hm
  rw [List.getElem?_take] at hk
  split at hk
  · have := h.inj j k x hx hk; omega
  · cases hk
end Go.Proofs.Ytjpljkjclamjnaa
