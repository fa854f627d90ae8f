/- How much there is in values, expressions, conditions, templates: what the statements' 'Great' functions count. Plain laws. -/
import Derived.Test.YtmljdppdaaoehaaGreatDoorTd
namespace Go.Proofs.YtmljdppdaaoehaaGreatDoor
set_option linter.unusedVariables false
set_option linter.unusedSimpArgs false

/-- a sum that stops when it is great -/
def efold {α : Type} (f : α → Nat) : Nat → List α → Nat
  | n, [] => n
  | n, x :: r => if n ≤ 10000 then efold f (n + f x) r else n
section
variable {α : Type} {f : α → Nat}
theorem efold_nil (n : Nat) : efold f n [] = n := rfl
theorem efold_stop {n : Nat} {l : List α} (h : 10000 < n) : efold f n l = n := by
  cases l with
  | nil => rfl
  | cons x r => simp only [efold]; rw [if_neg (by omega)]
theorem efold_go {n : Nat} {x : α} {l : List α} (h : n ≤ 10000) : efold f n (x :: l) = efold f (n + f x) l := by simp only [efold]; rw [if_pos h]
theorem efold_le {B : Nat} : ∀ (l : List α) (n M : Nat), (∀ x ∈ l, f x ≤ B) → n ≤ M → 10000 + B ≤ M → efold f n l ≤ M
  | [], n, M, _, h, _ => h
  | x :: l, n, M, hf, h, hM => by
    simp only [efold]
    split
    · have := hf x (by simp)
      exact efold_le l _ M (fun y hy => hf y (by simp [hy])) (by omega) hM
    · exact h
theorem efold_ge : ∀ (l : List α) (n : Nat), n ≤ efold f n l
  | [], n => Nat.le_refl _
  | x :: l, n => by
    simp only [efold]
    split
    · have := efold_ge l (n + f x); omega
    · exact Nat.le_refl _
theorem efold_sum : ∀ (l : List α) (n : Nat), efold f n l ≤ 10000 → efold f n l = n + (l.map f).sum
  | [], n, _ => by simp [efold]
  | x :: l, n, h => by
    simp only [efold] at h ⊢
    split at h
    · next h1 =>
      rw [if_pos h1, efold_sum l _ h]
      simp; omega
    · omega
end

/-- hoardingref03.weight -/
def vW : Nat → Vl → Nat
  | 0, _ => 10000
  | k + 1, v => if 3000 < v.list.length ∨ 3000 < v.keys.length then 10000 else efold (vW k) (1 + min v.text.size 10000 + (v.keys.map fun s => min s.size 10000).sum) v.list
theorem sum_min_le {α : Type} (f : α → Nat) (B : Nat) : ∀ l : List α, ((l.map fun s => min (f s) B).sum) ≤ l.length * B
  | [] => by simp
  | x :: l => by
    have := sum_min_le f B l
    simp only [List.map_cons, List.sum_cons, List.length_cons, Nat.succ_mul]
    have := Nat.min_le_right (f x) B
    omega
theorem vW_le : ∀ (k : Nat) (v : Vl), vW k v ≤ 30010001 + 10000 * k
  | 0, v => by simp [vW]
  | k + 1, v => by
    simp only [vW]
    split
    · omega
    · next h =>
      have h1 := sum_min_le (fun s : ByteArray => s.size) 10000 v.keys
      have h2 : v.keys.length * 10000 ≤ 30000000 := by omega
      refine efold_le (B := 30010001 + 10000 * k) _ _ _ (fun x _ => vW_le k x) ?_ (by omega)
      have := Nat.min_le_right v.text.size 10000
      omega
def vGreat (v : Vl) : Bool := decide (5000 < vW 30 v)
/-- hoardingref12.weight -/
def xW : Nat → Ex → Nat
  | 0, _ => 10000
  | k + 1, x => if 500 < x.l.length then 10000 else efold (xW k) (1 + min (x.text.size + x.name.size + x.attr.size) 10000) x.l
theorem xW_le : ∀ (k : Nat) (x : Ex), xW k x ≤ 10001 + 10000 * k
  | 0, v => by simp [xW]
  | k + 1, v => by
    simp only [xW]
    split
    · omega
    · next h =>
      refine efold_le (B := 10001 + 10000 * k) _ _ _ (fun x _ => xW_le k x) ?_ (by omega)
      have := Nat.min_le_right (v.text.size + v.name.size + v.attr.size) 10000
      omega
def xGreat (x : Ex) : Bool := decide (3000 < xW 30 x)
mutual
/-- hoardingref17.parts -/
def Ex.parts : Ex → Nat
  | ⟨_, t, _, n, _, l⟩ => 1 + t.size + n.size + Ex.partsL l
def Ex.partsL : List Ex → Nat
  | [] => 0
  | x :: r => x.parts + Ex.partsL r
end
theorem Ex.parts_eq (x : Ex) : x.parts = 1 + x.text.size + x.name.size + Ex.partsL x.l := by cases x; rfl
theorem Ex.partsL_eq : ∀ l, Ex.partsL l = (l.map Ex.parts).sum
  | [] => rfl
  | x :: r => by rw [Ex.partsL, Ex.partsL_eq r]; rfl
theorem parts_le : ∀ (k : Nat) (x : Ex), xW k x ≤ 9999 → x.parts ≤ xW k x ∧ x.l.length ≤ 500 ∧ x.text.size + x.name.size ≤ 9999
  | 0, x, h => by simp [xW] at h
  | k + 1, x, h => by
    simp only [xW] at h ⊢
    split at h
    · omega
    · next hl =>
      rw [if_neg hl]
      have h1 := efold_ge (f := xW k) x.l (1 + min (x.text.size + x.name.size + x.attr.size) 10000)
      have h2 := efold_sum (f := xW k) x.l (1 + min (x.text.size + x.name.size + x.attr.size) 10000) (by omega)
      rw [h2] at h ⊢
      have h3 : (x.l.map Ex.parts).sum ≤ (x.l.map (xW k)).sum := by
        have : ∀ l : List Ex, (l.map (xW k)).sum ≤ 9999 → (l.map Ex.parts).sum ≤ (l.map (xW k)).sum := by
          intro l
          induction l with
          | nil => intro _; simp
          | cons y l ih =>
            intro hs
            simp only [List.map_cons, List.sum_cons] at hs ⊢
            have := parts_le k y (by omega)
            have := ih (by omega)
            omega
        exact this _ (by omega)
      rw [Ex.parts_eq, Ex.partsL_eq]
      have h4 := @Nat.min_def (x.text.size + x.name.size + x.attr.size) 10000
      split at h4 <;> exact ⟨by omega, by omega, by omega⟩
/-- hoardingref15.exprs -/
def eW (x : Ex) : Nat := if 50 < x.l.length then 10000 else 1 + min (x.text.size + x.name.size + x.attr.size) 10000 + (x.l.map fun y => 1 + y.l.length * 10000).sum
/-- hoardingref15.weight -/
def cW : Nat → Cd → Nat
  | 0, _ => 10000
  | k + 1, c => if 200 < c.l.length then 10000 else efold (cW k) (1 + min c.name.size 10000 + eW c.a + eW c.b) c.l
def csGo : Nat → List Cd → Bool
  | n, [] => false
  | n, c :: r => if 5000 < n + cW 20 c then true else csGo (n + cW 20 c) r
/-- hoardingref15.Great -/
def csGreat (l : List Cd) : Bool := decide (40 < l.length) || csGo 0 l
/-- hoardingref09.Great -/
def gsGreat (l : List Gv) : Bool := decide (60 < l.length) || l.any fun g => decide (200 < g.name.size) || vGreat g.v
/-- hoardingref14.GreatParams -/
def pmGreat (p : Pm) : Bool := vGreat p.dflt || decide (40 < p.allowed.length) || decide (400 < p.name.size) || p.allowed.any vGreat
def pmsGreat (l : List Pm) : Bool := decide (40 < l.length) || l.any pmGreat
def prGo : Nat → List Pr → Option Nat
  | n, [] => some n
  | n, p :: r => if xGreat p.e then none else prGo (n + (min p.name.size 10000 + p.e.parts)) r
def ouGo : Nat → List Ou → Nat
  | n, [] => n
  | n, o :: r => if xGreat o.e then 10000 else ouGo (n + (min (o.name.size + o.cond.size) 10000 + o.e.parts)) r
def rsGo (f : Tm → Nat) (os : List Ou) : Nat → List Rs → Nat
  | n, [] => ouGo n os
  | n, r :: rs =>
    if 60 < r.props.length ∨ 60 < r.depends.length ∨ 3 < r.inner.length then 10000 else
    match prGo (n + (1 + min (r.id.size + r.type.size + r.cond.size) 10000)) r.props with
    | none => 10000
    | some m =>
      if 10000 < efold f (m + (r.depends.map fun s => min s.size 10000).sum) r.inner then efold f (m + (r.depends.map fun s => min s.size 10000).sum) r.inner
      else rsGo f os (efold f (m + (r.depends.map fun s => min s.size 10000).sum) r.inner) rs
/-- hoardingref17.weight -/
def tW : Nat → Tm → Nat
  | 0, _ => 10000
  | k + 1, t => if 60 < t.params.length ∨ 40 < t.conds.length ∨ 60 < t.res.length ∨ 60 < t.outs.length ∨ pmsGreat t.params = true ∨ csGreat t.conds = true then 10000
    else rsGo (tW k) t.outs (1 + t.params.length) t.res
/-- hoardingref17.Great -/
def tGreat (t : Tm) (l : List Gv) : Bool := decide (3000 < tW 8 t) || gsGreat l

/-- what a template has that is not great -/
def Tm.ok : Nat → Tm → Prop
  | 0, _ => False
  | k + 1, t => t.res.length ≤ 60 ∧ ∀ r ∈ t.res, r.props.length ≤ 60 ∧ r.depends.length ≤ 60 ∧ r.inner.length ≤ 3 ∧ r.id.size + r.type.size + r.cond.size ≤ 3000 ∧ (∀ d ∈ r.depends, d.size ≤ 3000) ∧ ∀ t' ∈ r.inner, Tm.ok k t'
theorem prGo_ge : ∀ (l : List Pr) (n m : Nat), prGo n l = some m → n ≤ m
  | [], n, m, h => by simp [prGo] at h; omega
  | p :: r, n, m, h => by
    simp only [prGo] at h
    split at h
    · cases h
    · have := prGo_ge r _ m h; omega
theorem prGo_le : ∀ (l : List Pr) (n m : Nat), prGo n l = some m → m ≤ n + l.length * 13000
  | [], n, m, h => by simp [prGo] at h; omega
  | p :: r, n, m, h => by
    simp only [prGo] at h
    split at h
    · cases h
    · next hx =>
      have := prGo_le r _ m h
      have hx : xW 30 p.e ≤ 3000 := by simpa [xGreat] using hx
      have := (parts_le 30 p.e (by omega)).1
      have := Nat.min_le_right p.name.size 10000
      simp only [List.length_cons, Nat.succ_mul]
      omega
theorem sum_mem_le {α : Type} {f : α → Nat} : ∀ {l : List α} {x : α}, x ∈ l → f x ≤ (l.map f).sum
  | y :: l, x, h => by
    simp only [List.map_cons, List.sum_cons]
    rcases List.mem_cons.1 h with rfl | h
    · omega
    · have := sum_mem_le (f := f) h; omega
theorem rsGo_ge (f : Tm → Nat) (os : List Ou) : ∀ (l : List Rs) (n : Nat), rsGo f os n l ≤ 3000 → n ≤ 3000
  | [], n, h => by
    simp only [rsGo] at h
    have : ∀ (os : List Ou) (n : Nat), ouGo n os ≤ 3000 → n ≤ 3000 := by
      intro os
      induction os with
      | nil => intro n h; exact h
      | cons o r ih =>
        intro n h
        simp only [ouGo] at h
        split at h
        · omega
        · have := ih _ h; omega
    exact this os n h
  | r :: rs, n, h => by
    simp only [rsGo] at h
    split at h
    · omega
    · split at h
      · omega
      · next m hm =>
        have h1 := prGo_ge _ _ _ hm
        split at h
        · omega
        · have h2 := rsGo_ge f os rs _ h
          have h3 := efold_ge (f := f) r.inner (m + (r.depends.map fun s => min s.size 10000).sum)
          omega
theorem tW_ok : ∀ (k : Nat) (t : Tm), tW k t ≤ 3000 → t.ok k
  | 0, t, h => by simp [tW] at h
  | k + 1, t, h => by
    simp only [tW] at h
    split at h
    · omega
    · next hg =>
      refine ⟨by omega, ?_⟩
      have key : ∀ (l : List Rs) (n : Nat), rsGo (tW k) t.outs n l ≤ 3000 → ∀ r ∈ l, r.props.length ≤ 60 ∧ r.depends.length ≤ 60 ∧ r.inner.length ≤ 3 ∧ r.id.size + r.type.size + r.cond.size ≤ 3000 ∧ (∀ d ∈ r.depends, d.size ≤ 3000) ∧ ∀ t' ∈ r.inner, Tm.ok k t' := by
        intro l
        induction l with
        | nil => intro n _ r hr; cases hr
        | cons r rs ih =>
          intro n h r' hr'
          simp only [rsGo] at h
          split at h
          · omega
          · next hl =>
            split at h
            · omega
            · next m hm =>
              have h1 := prGo_ge _ _ _ hm
              split at h
              · omega
              · have h2 := rsGo_ge (tW k) t.outs rs _ h
                rcases List.mem_cons.1 hr' with rfl | hr'
                · have h3 := efold_ge (f := tW k) r'.inner (m + (r'.depends.map fun s => min s.size 10000).sum)
                  have h4 := efold_sum (f := tW k) r'.inner (m + (r'.depends.map fun s => min s.size 10000).sum) (by omega)
                  have h5 := @Nat.min_def (r'.id.size + r'.type.size + r'.cond.size) 10000
                  refine ⟨by omega, by omega, by omega, by split at h5 <;> omega, fun d hd => ?_, fun t' ht' => ?_⟩
                  · have h6 := sum_mem_le (f := fun s : ByteArray => min s.size 10000) hd
                    have h7 := @Nat.min_def d.size 10000
                    split at h7 <;> omega
                  · have h6 := sum_mem_le (f := tW k) ht'
                    exact tW_ok k t' (by omega)
                · exact ih _ h r' hr'
      exact key _ _ h
theorem ouGo_le : ∀ (l : List Ou) (n : Nat), ouGo n l ≤ n + 10000 + l.length * 13000
  | [], n => by simp [ouGo]
  | o :: r, n => by
    simp only [ouGo]
    split
    · omega
    · next hx =>
      have hx : xW 30 o.e ≤ 3000 := by simpa [xGreat] using hx
      have := (parts_le 30 o.e (by omega)).1
      have := Nat.min_le_right (o.name.size + o.cond.size) 10000
      have := ouGo_le r (n + (min (o.name.size + o.cond.size) 10000 + o.e.parts))
      simp only [List.length_cons, Nat.succ_mul]
      omega
end Go.Proofs.YtmljdppdaaoehaaGreatDoor
