/- judge.Most: how many are in flight at most (plain). -/
import Derived.Test.YtfjhomegjceilaaBase
namespace Go.Proofs.Ytfjhomegjceilaa
set_option linter.unusedVariables false
set_option linter.unusedSimpArgs false

/-- a step of a trace -/
structure Tc where
  tok : Int
  fin : Bool
  ok : Bool
def oput (f : Int → Nat) (k : Int) (y : Nat) : Int → Nat := fun j => if j = k then y else f j
/-- who is open, how many, the most -/
structure Ms where
  f : Int → Nat
  n : Int
  m : Int
def Ms.step (s : Ms) (x : Tc) : Ms := if x.fin then ⟨oput s.f x.tok 0, s.n - s.f x.tok, max s.m (s.n - s.f x.tok)⟩ else ⟨oput s.f x.tok (s.f x.tok + 1), s.n + 1, max s.m (s.n + 1)⟩
def ms0 : Ms := ⟨fun _ => 0, 0, 0⟩
def mF (l : List Tc) : Ms := l.foldl Ms.step ms0
def sentF (l : List Tc) : Nat := l.countP fun x => !x.fin
theorem mF_take {l : List Tc} {j : Nat} {x : Tc} (h : l[j]? = some x) : mF (l.take (j + 1)) = (mF (l.take j)).step x := by
  unfold mF
  rw [List.take_add_one, h, Option.toList_some, List.foldl_append]; rfl
theorem sent_take {l : List Tc} {j : Nat} {x : Tc} (h : l[j]? = some x) : sentF (l.take (j + 1)) = sentF (l.take j) + if x.fin then 0 else 1 := by
  unfold sentF
  rw [List.take_add_one, h, Option.toList_some, List.countP_append]
  cases hf : x.fin <;> simp [List.countP_cons, hf]
structure MsOk (j s : Nat) (t : Ms) : Prop where
  op : ∀ k, t.f k ≤ j
  lo : -(200 * (j : Int)) ≤ t.n
  hi : t.n ≤ s
  m0 : 0 ≤ t.m
  mx : t.m ≤ s
  sj : s ≤ j
theorem mF_ok {l : List Tc} (hl : l.length ≤ 200) : ∀ j, j ≤ l.length → MsOk j (sentF (l.take j)) (mF (l.take j))
  | 0, _ => by
    simp only [List.take_zero]
    exact ⟨fun _ => Nat.le_refl _, by show -(200 * ((0 : Nat) : Int)) ≤ (0 : Int); omega, by show (0 : Int) ≤ ((0 : Nat) : Int); omega, by show (0 : Int) ≤ (0 : Int); omega, by show (0 : Int) ≤ ((0 : Nat) : Int); omega, Nat.le_refl _⟩
  | j + 1, hj => by
    obtain ⟨x, hx⟩ : ∃ x, l[j]? = some x := ⟨l[j], List.getElem?_eq_getElem (by omega)⟩
    have h := mF_ok hl j (by omega)
    rw [mF_take hx, sent_take hx]
    generalize mF (l.take j) = t at h ⊢
    generalize sentF (l.take j) = s at h ⊢
    obtain ⟨h1, h2, h3, h4, h5, h6⟩ := h
    have h7 := h1 x.tok
    unfold Ms.step
    cases hf : x.fin with
    | true =>
      rw [if_pos rfl]
      refine ⟨fun k => ?_, ?_, ?_, ?_, ?_, ?_⟩
      · show oput t.f x.tok 0 k ≤ _
        unfold oput
        have := h1 k
        split <;> omega
      · show _ ≤ t.n - (t.f x.tok : Int); omega
      · show t.n - (t.f x.tok : Int) ≤ _; simp; omega
      · show 0 ≤ max t.m _; omega
      · show max t.m (t.n - (t.f x.tok : Int)) ≤ _; simp; omega
      · simp; omega
    | false =>
      rw [if_neg (by simp)]
      refine ⟨fun k => ?_, ?_, ?_, ?_, ?_, ?_⟩
      · show oput t.f x.tok (t.f x.tok + 1) k ≤ _
        unfold oput
        have := h1 k
        split <;> omega
      · show _ ≤ t.n + 1; omega
      · show t.n + 1 ≤ _; simp; omega
      · show 0 ≤ max t.m _; omega
      · show max t.m (t.n + 1) ≤ _; simp; omega
      · simp; omega
theorem step_le (s : Ms) (x : Tc) : s.m ≤ (s.step x).m := by
  unfold Ms.step
  split
  · exact Int.le_max_left _ _
  · exact Int.le_max_left _ _
theorem mF_mono {l : List Tc} {j : Nat} : ∀ k, j ≤ k → k ≤ l.length → (mF (l.take j)).m ≤ (mF (l.take k)).m
  | 0, h, _ => by obtain rfl : j = 0 := by omega
                  exact Int.le_refl _
  | k + 1, h, hk => by
    rcases Nat.lt_or_ge k j with h1 | h1
    · obtain rfl : j = k + 1 := by omega
      exact Int.le_refl _
    · obtain ⟨x, hx⟩ : ∃ x, l[k]? = some x := ⟨l[k], List.getElem?_eq_getElem (by omega)⟩
      rw [mF_take hx]
      exact Int.le_trans (mF_mono k h1 (by omega)) (step_le _ _)
/-- what is submitted first counts -/
theorem mF_first {x : Tc} {l : List Tc} (h : x.fin = false) : 1 ≤ (mF (x :: l)).m := by
  have h1 := mF_mono (l := x :: l) (j := 1) (x :: l).length (by simp) (Nat.le_refl _)
  rw [List.take_length] at h1
  refine Int.le_trans ?_ h1
  show 1 ≤ (mF [x]).m
  unfold mF
  rw [List.foldl_cons, List.foldl_nil]
  unfold Ms.step
  rw [h]
  show 1 ≤ max (0 : Int) ((0 : Int) + 1)
  omega
end Go.Proofs.Ytfjhomegjceilaa
