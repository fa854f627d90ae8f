/- Conditions, plain laws: what hangs on names alone; the row turned about. -/
import Derived.Test.YtmljdppdaaoehaaGreatDoorCp1
namespace Go.Proofs.YtmljdppdaaoehaaGreatDoor
set_option linter.unusedVariables false
set_option linter.unusedSimpArgs false

theorem Dp.congr {l l' : List Cd} (hl : ∀ s, lk l s = lk l' s) {ps : List Gv} {G : Vl → Prop} : ∀ {k : Nat} {c : Cd}, Dp l ps G k c → Dp l' ps G k c
  | 0, _, h => h
  | k + 1, c, h => by
    obtain ⟨h0, h4, hn⟩ := h
    refine ⟨h0, fun e => ?_, fun e0 e4 => ⟨(hn e0 e4).1, fun p hp => Dp.congr hl ((hn e0 e4).2 p hp)⟩⟩
    obtain ⟨i, d, h1, h2, h3⟩ := h4 e
    obtain ⟨j, h5, h6⟩ := pl_lk.1 ((hl c.name).symm.trans (pl_lk.2 ⟨i, h1, h2⟩))
    exact ⟨j, d, h5, h6, Dp.congr hl h3⟩
theorem evC_congr {l l' : List Cd} (hl : ∀ s, lk l s = lk l' s) {ps : List Gv} {eq : Vl → Vl → Bool} : ∀ (k : Nat) (c : Cd), evC l ps eq k c = evC l' ps eq k c
  | 0, _ => rfl
  | k + 1, c => by
    have ih : evC l ps eq k = evC l' ps eq k := funext (evC_congr hl k)
    by_cases h0 : c.kind = 0
    · rw [evC, evC, if_pos h0, if_pos h0]
    · rw [evC, evC, if_neg h0, if_neg h0]
      by_cases h4 : c.kind = 4
      · rw [if_pos h4, if_pos h4]
        have e := hl c.name
        rw [lk_pl, lk_pl] at e
        cases h1 : plAt l c.name with
        | none =>
          rw [h1] at e
          cases h2 : plAt l' c.name with
          | none => rfl
          | some j =>
            rw [h2] at e
            obtain ⟨⟨d, h3, _⟩, _⟩ := plAt_some h2
            simp [h3] at e
        | some i =>
          obtain ⟨⟨d, h3, _⟩, _⟩ := plAt_some h1
          rw [h1] at e
          cases h2 : plAt l' c.name with
          | none => rw [h2] at e; simp [h3] at e
          | some j =>
            rw [h2] at e
            simp only [Option.bind_some, h3] at e
            simp only [h3, ← e]
            exact congrFun ih d
      · rw [if_neg h4, if_neg h4, ih]
theorem uq_rev {l : List Cd} (h : UqN l) : UqN l.reverse := by
  unfold UqN at h ⊢
  rw [List.pairwise_reverse]
  exact h.imp (fun h e => h e.symm)
theorem lk_rev {l : List Cd} (h : UqN l) (s : ByteArray) : lk l s = lk l.reverse s := by
  cases h1 : lk l s with
  | some d =>
    obtain ⟨h2, h3⟩ := (lk_some h).1 h1
    exact ((lk_some (uq_rev h)).2 ⟨by simpa using h2, h3⟩).symm
  | none =>
    cases h2 : lk l.reverse s with
    | none => rfl
    | some d =>
      obtain ⟨h3, h4⟩ := (lk_some (uq_rev h)).1 h2
      rw [(lk_some h).2 ⟨by simpa using h3, h4⟩] at h1
      cases h1
theorem lost_congr {l l' : List Cd} (hl : ∀ s, lk l s = lk l' s) {ns : List ByteArray} {c : Cd} (h : isLost l ns c = false) : isLost l' ns c = false := by
  obtain ⟨h1, h2⟩ := lost_iff.1 h
  exact lost_iff.2 ⟨h1, fun s hs => by
    obtain ⟨d, hd⟩ := h2 s hs
    exact ⟨d, (hl s).symm.trans hd⟩⟩
theorem chk_rev {l : List Cd} {ns : List ByteArray} (h : csCheck l ns = 0) : csCheck l.reverse ns = 0 := by
  obtain ⟨h1, hu, hok, m, hm⟩ := chk_iff.1 h
  have hl := lk_rev hu
  exact chk_iff.2 ⟨by simpa using h1, uq_rev hu, fun c hc => by
    obtain ⟨a, b, d, e⟩ := hok c (by simpa using hc)
    exact ⟨a, b, d, lost_congr hl e⟩, m, fun c hc => (hm c (by simpa using hc)).congr hl⟩
theorem chk_rev_iff {l : List Cd} {ns : List ByteArray} : csCheck l.reverse ns = 0 ↔ csCheck l ns = 0 :=
  ⟨fun h => by have := chk_rev h; rwa [List.reverse_reverse] at this, chk_rev⟩
/-- what is told of each -/
theorem runEv_get {l : List Cd} {ps : List Gv} {eq : Vl → Vl → Bool} {K : Nat} : ∀ {r : List Cd} {o : List (ByteArray × Bool)}, runEv l ps eq K r = some o → o.length = r.length ∧ ∀ (i : Nat) c, r[i]? = some c → ∃ b, evC l ps eq K c = some b ∧ o[i]? = some (c.name, b)
  | [], o, h => by
    unfold runEv at h
    injection h with h; subst h
    exact ⟨rfl, fun i c hc => by cases hc⟩
  | c :: r, o, h => by
    unfold runEv at h
    split at h
    · cases h
    · next b hb =>
      obtain ⟨x, hx, rfl⟩ := Option.map_eq_some_iff.1 h
      obtain ⟨h1, h2⟩ := runEv_get hx
      refine ⟨by simp [h1], fun i d hd => ?_⟩
      cases i with
      | zero => simp at hd; subst hd; exact ⟨b, hb, rfl⟩
      | succ i => exact h2 i d (by simpa using hd)
theorem runEv_some {l : List Cd} {ps : List Gv} {eq : Vl → Vl → Bool} {K : Nat} : ∀ {r : List Cd}, (∀ c ∈ r, ∃ b, evC l ps eq K c = some b) → ∃ o, runEv l ps eq K r = some o
  | [], _ => ⟨[], rfl⟩
  | c :: r, h => by
    obtain ⟨b, hb⟩ := h c (by simp)
    obtain ⟨o, ho⟩ := runEv_some (r := r) (fun d hd => h d (by simp [hd]))
    exact ⟨(c.name, b) :: o, by unfold runEv; rw [hb, ho]; rfl⟩
theorem runEv_all {l : List Cd} {ps : List Gv} {eq : Vl → Vl → Bool} {K : Nat} {r : List Cd} {o : List (ByteArray × Bool)} (h : runEv l ps eq K r = some o) : ∀ c ∈ r, ∃ b, evC l ps eq K c = some b := fun c hc => by
  obtain ⟨i, hi, rfl⟩ := List.getElem_of_mem hc
  obtain ⟨b, hb, _⟩ := (runEv_get h).2 i _ (List.getElem?_eq_getElem hi)
  exact ⟨b, hb⟩
theorem runOf_inr {l : List Cd} {ps : List Gv} {eq : Vl → Vl → Bool} {K : Nat} {o : List (ByteArray × Bool)} : runOf l ps eq K = .inr o ↔ csCheck l (gNames ps) = 0 ∧ runEv l ps eq K l = some o := by
  unfold runOf
  by_cases h : csCheck l (gNames ps) = 0
  · rw [if_neg (by omega)]
    cases runEv l ps eq K l with
    | none => simp
    | some x => simp [h]
  · rw [if_pos h]; simp [h]
theorem runOf_inl {l : List Cd} {ps : List Gv} {eq : Vl → Vl → Bool} {K n : Nat} (h : runOf l ps eq K = .inl n) : n ≠ 0 := by
  unfold runOf at h
  split at h
  · injection h with h; omega
  · split at h
    · injection h with h; omega
    · cases h
/-- the row turned about: it may be just if the row may, and each holds as it did -/
theorem turn_law {l : List Cd} {ps : List Gv} {eq : Vl → Vl → Bool} {K : Nat} {a : List (ByteArray × Bool)} (h : runOf l ps eq K = .inr a) :
    ∃ b, runOf l.reverse ps eq K = .inr b ∧ a.length = l.length ∧ b.length = l.length ∧ ∀ (i : Nat) c, l[i]? = some c → ∃ v, a[i]? = some (c.name, v) ∧ b[l.length - 1 - i]? = some (c.name, v) := by
  obtain ⟨h1, h2⟩ := runOf_inr.1 h
  have hu := (chk_iff.1 h1).2.1
  have hev : ∀ c, evC l.reverse ps eq K c = evC l ps eq K c := fun c => (evC_congr (lk_rev hu) K c).symm
  obtain ⟨b, hb⟩ := runEv_some (l := l.reverse) (ps := ps) (eq := eq) (K := K) (r := l.reverse) (fun c hc => by
    rw [hev]; exact runEv_all h2 c (by simpa using hc))
  obtain ⟨h3, h4⟩ := runEv_get h2
  obtain ⟨h5, h6⟩ := runEv_get hb
  refine ⟨b, runOf_inr.2 ⟨chk_rev h1, hb⟩, h3, by simpa using h5, fun i c hc => ?_⟩
  obtain ⟨v, hv, hi⟩ := h4 i c hc
  have hlt := (List.getElem?_eq_some_iff.1 hc).1
  obtain ⟨v', hv', hj⟩ := h6 (l.length - 1 - i) c (by
    rw [List.getElem?_reverse (by omega)]
    rw [show l.length - 1 - (l.length - 1 - i) = i by omega]; exact hc)
  rw [hev, hv] at hv'
  injection hv' with hv'
  exact ⟨v, hi, by rw [hj, hv']⟩
theorem turn_back {l : List Cd} {ps : List Gv} {eq : Vl → Vl → Bool} {K n : Nat} (h : runOf l ps eq K = .inl n) : ∃ m, runOf l.reverse ps eq K = .inl m := by
  cases hr : runOf l.reverse ps eq K with
  | inl m => exact ⟨m, rfl⟩
  | inr b =>
    obtain ⟨a, ha, _⟩ := turn_law hr
    rw [List.reverse_reverse, h] at ha
    cases ha
theorem dp_rev {l : List Cd} {ps : List Gv} {K : Nat} (hK : csCheck l (gNames ps) = 0 → ∀ c ∈ l, Dp l ps vSmall K c) (h : csCheck l.reverse (gNames ps) = 0) : ∀ c ∈ l.reverse, Dp l.reverse ps vSmall K c := fun c hc => by
  have h1 := chk_rev_iff.1 h
  exact (hK h1 c (by simpa using hc)).congr (lk_rev (chk_iff.1 h1).2.1)
theorem csok_rev {l : List Cd} (h : CsOk l) : CsOk l.reverse := fun c hc => h c (by simpa using hc)
end Go.Proofs.YtmljdppdaaoehaaGreatDoor
