/- Maps from ints: to bools, to ints; what they hold as functions. -/
import Derived.Test.YtjpljkjclamjnaaGrMem
import Derived.Maps.OwnSet
import Derived.Maps.OwnOps
import Derived.Maps.Views
namespace Go.Proofs.Ytjpljkjclamjnaa
open Go.RowKit
open Go.Maps (Keyed)
set_option linter.unusedVariables false
set_option linter.unusedSimpArgs false

theorem zero_bool (w : World) : (zeroValue 4).run Try.prog w = .ok (.bool false) w := by kernel_rfl
theorem zero_int (w : World) : (zeroValue 3).run Try.prog w = .ok (.int .i64 0) w := by kernel_rfl
theorem key_int : Keyed Try.prog 3 := Go.Maps.int_keyed Try.underlying3
theorem key_of {k : Int} (h1 : -9223372036854775808 ≤ k) (h2 : k ≤ 9223372036854775807) : keyOf Try.prog 3 (.int .i64 k) = some (.int .i64 k) :=
  Go.Maps.keyOf_int_mk Try.underlying3 (WalkArith.wf_i64 ⟨h1, h2⟩)
theorem isKey_int (k : Int) : WideAt.IsKeyLit (.int .i64 k) := by unfold WideAt.IsKeyLit; trivial

/-- f, at k another -/
def fput {α : Type} (f : Int → α) (k : Int) (y : α) : Int → α := fun j => if j = k then y else f j
theorem fput_same {α : Type} (f : Int → α) (k : Int) (y : α) : fput f k y k = y := if_pos rfl
theorem fput_other {α : Type} (f : Int → α) {k j : Int} (y : α) (h : j ≠ k) : fput f k y j = f j := if_neg h
/-- block b is a map[int]bool that holds f -/
def MB (w : World) (b n : Nat) (f : Int → Bool) : Prop :=
  ∃ D : DataW Unit, w.ownsMap Try.prog 3 (plainElem Try.prog 4) b n D ∧ Go.Maps.IsMap D ∧ ∀ k : Int, D.atKey (.int .i64 k) (.lit (.bool false)) = .lit (.bool (f k))
/-- block b is a map[int]int that holds f, 0 where nothing is -/
def MI (w : World) (b n : Nat) (f : Int → Nat) : Prop :=
  ∃ D : DataW Unit, w.ownsMap Try.prog 3 (plainElem Try.prog 3) b n D ∧ Go.Maps.IsMap D ∧ ∀ k : Int, D.atKey (.int .i64 k) (.lit (.int .i64 0)) = .lit (.int .i64 (f k : Nat)) ∧ Go.Maps.has D (.int .i64 k) = (f k != 0)

theorem ownsMap_same {H : Type} {P : Program} {k : TypeId} {R : Value → Option (DataW H × List MemPlace)} {w w' : World} {b n : Nat} {D : DataW H} (h : w.ownsMap P k R b n D) (hb : w'.heap[b]? = w.heap[b]?) : w'.ownsMap P k R b n D := by
  obtain ⟨es, clock, h1, h2⟩ := h
  exact ⟨es, clock, hb.trans h1, h2⟩
section
variable {w w' : World} {b n : Nat}
theorem MB.new (w : World) : MB (w.alloc (.map #[] 0)) w.heap.size 0 (fun _ => false) :=
  ⟨.map [], World.ownsMap_made _ _ _ _, ⟨[], rfl⟩, fun k => rfl⟩
theorem MB.only {f : Int → Bool} {F : Nat → Prop} (h : MB w b n f) (ho : Only F w w') (hF : ¬ F b) : MB w' b n f := by
  obtain ⟨D, h1, h2, h3⟩ := h
  exact ⟨D, ownsMap_same h1 (ho.block b h1.lt hF), h2, h3⟩
theorem MB.lt {f : Int → Bool} (h : MB w b n f) : b < w.heap.size := by obtain ⟨D, h1, _⟩ := h; exact h1.lt
theorem MB.below {f : Int → Bool} (h : MB w b n f) (hb : Below w.heap.size w w') : MB w' b n f := h.only (Only.of_below hb (fun _ => False)) (fun h => h)
theorem MB.drewN {f : Int → Bool} (h : MB w b n f) (k : Nat) : MB (w.drewN k) b n f := h
/-- taken[k] -/
theorem MB.look {f : Int → Bool} (h : MB w b n f) {k : Int} (h1 : -9223372036854775808 ≤ k) (h2 : k ≤ 9223372036854775807) : (Instr.lookup 35 (.map (some b)) (.int .i64 k) false).run Try.prog w = .ok (.bool (f k)) w := by
  obtain ⟨D, g1, g2, g3⟩ := h
  obtain ⟨v, ps, hrun, hv⟩ := g1.lookup key_int Try.underlying35 (zero_bool w) (plainElem_bool Try.underlying4 false) (key_of h1 h2)
  rw [g3 k] at hv
  rw [hrun]
  have hu : Try.prog.underlying 4 = some .bool := Try.underlying4
  unfold plainElem at hv
  rw [hu] at hv
  cases v <;> simp_all
theorem MI.new (w : World) : MI (w.alloc (.map #[] 0)) w.heap.size 0 (fun _ => 0) :=
  ⟨.map [], World.ownsMap_made _ _ _ _, ⟨[], rfl⟩, fun k => ⟨rfl, rfl⟩⟩
theorem MI.only {f : Int → Nat} {F : Nat → Prop} (h : MI w b n f) (ho : Only F w w') (hF : ¬ F b) : MI w' b n f := by
  obtain ⟨D, h1, h2, h3⟩ := h
  exact ⟨D, ownsMap_same h1 (ho.block b h1.lt hF), h2, h3⟩
theorem MI.lt {f : Int → Nat} (h : MI w b n f) : b < w.heap.size := by obtain ⟨D, h1, _⟩ := h; exact h1.lt
theorem MI.below {f : Int → Nat} (h : MI w b n f) (hb : Below w.heap.size w w') : MI w' b n f := h.only (Only.of_below hb (fun _ => False)) (fun h => h)
theorem MI.drewN {f : Int → Nat} (h : MI w b n f) (k : Nat) : MI (w.drewN k) b n f := h
theorem MI.look {f : Int → Nat} (h : MI w b n f) {k : Int} (h1 : -9223372036854775808 ≤ k) (h2 : k ≤ 9223372036854775807) : (Instr.lookup 37 (.map (some b)) (.int .i64 k) false).run Try.prog w = .ok (.int .i64 (f k : Nat)) w := by
  obtain ⟨D, g1, g2, g3⟩ := h
  obtain ⟨c, hrun, hc, _⟩ := g1.lookup_int key_int Try.underlying37 Try.underlying3 (zero_int w) (key_of h1 h2)
  rw [(g3 k).1] at hc
  injection hc with hc
  injection hc with _ hc
  rw [hrun, hc]
end

section
variable {w : World} {ops : Array Oper} {rest : List Oper} {o : Oper} {a : Act} {Q : Exit → Act → World → Prop}
/-- taken[k] = true -/
theorem put_MB (hg : o.guard = none) (m x v : Operand) (hop : o.op = Op.mapUpdate 35 m x v) (b n : Nat) (f : Int → Bool) (hm : a.eval m = .map (some b)) (h : MB w b n f) (hn : n < maxLen)
    (k : Int) (hk1 : -9223372036854775808 ≤ k) (hk2 : k ≤ 9223372036854775807) (hx : a.eval x = .int .i64 k) (y : Bool) (hv : a.eval v = .bool y)
    (hK : ∀ w', MB w' b (n + 1) (fput f k y) → w.grownBy w' (some b) → wpList Try.prog ops Q rest (a.put o.dst undef) w') : wpList Try.prog ops Q (o :: rest) a w := by
  obtain ⟨D, g1, g2, g3⟩ := h
  refine wpList_mapUpdate_own w hg m x v 35 hop 3 4 key_int Try.underlying35 _ b n D hm g1 hn _ _ (.int .i64 k) hx hv (key_of hk1 hk2) (.lit (.bool y)) [] (plainElem_bool Try.underlying4 y) (fun w' h1 h2 => hK w' ⟨_, h1, g2.put _ _, fun j => ?_⟩ h2)
  by_cases hj : j = k
  · subst hj; rw [Go.Maps.atKey_put_same g2 (isKey_int j), fput_same]
  · rw [Go.Maps.atKey_put_other (fun e => hj (by injection e)), g3 j, fput_other f y hj]
/-- m[k] = z, z at least 1 -/
theorem put_MI (hg : o.guard = none) (m x v : Operand) (hop : o.op = Op.mapUpdate 37 m x v) (b n : Nat) (f : Int → Nat) (hm : a.eval m = .map (some b)) (h : MI w b n f) (hn : n < maxLen)
    (k : Int) (hk1 : -9223372036854775808 ≤ k) (hk2 : k ≤ 9223372036854775807) (hx : a.eval x = .int .i64 k) (y : Nat) (hy : y ≠ 0) (hy2 : y ≤ 9223372036854775807) (hv : a.eval v = .int .i64 (y : Int))
    (hK : ∀ w', MI w' b (n + 1) (fput f k y) → w.grownBy w' (some b) → wpList Try.prog ops Q rest (a.put o.dst undef) w') : wpList Try.prog ops Q (o :: rest) a w := by
  obtain ⟨D, g1, g2, g3⟩ := h
  refine wpList_mapUpdate_own w hg m x v 37 hop 3 3 key_int Try.underlying37 _ b n D hm g1 hn _ _ (.int .i64 k) hx hv (key_of hk1 hk2) (.lit (.int .i64 (y : Int))) [] (plainElem_int Try.underlying3 (WalkArith.wf_i64 ⟨by omega, by omega⟩)) (fun w' h1 h2 => hK w' ⟨_, h1, g2.put _ _, fun j => ?_⟩ h2)
  by_cases hj : j = k
  · subst hj
    exact ⟨by rw [Go.Maps.atKey_put_same g2 (isKey_int j), fput_same], by rw [Go.Maps.has_put_same g2 (isKey_int j), fput_same]; simp [hy]⟩
  · have hne : (Lit.int .i64 j) ≠ (Lit.int .i64 k) := fun e => hj (by injection e)
    exact ⟨by rw [Go.Maps.atKey_put_other hne, (g3 j).1, fput_other f y hj], by rw [Go.Maps.has_put_other hne, (g3 j).2, fput_other f y hj]⟩
end
end Go.Proofs.Ytjpljkjclamjnaa
