/- A map keyed by forward.key (hoardinglaw31.wakes). -/
import Derived.Test.YtfjhomegjceilaaJw3
import Derived.DeepKeys5
import Derived.Maps.Keyed
namespace Go.Proofs.Ytfjhomegjceilaa
open Go.RowKit Go.Maps
set_option linter.unusedVariables false
set_option linter.unusedSimpArgs false
theorem zero_boolW (w : World) : (zeroValue 4).run Try.prog w = .ok (.bool false) w := by kernel_rfl
theorem laidOutW : laidOutB Try.prog = true := by kernel_rfl
theorem key_fk : Keyed Try.prog 76 := Keyed.of_law (deep_law_gate laidOutW (Nat.le_of_ble_eq_true (by kernel_rfl)) (Nat.le_of_ble_eq_true (by kernel_rfl)) (by kernel_rfl) (by kernel_rfl))
def fKey (i : Int) : Value := .agg #[.int .i64 i, .int .i8 0]
set_option maxRecDepth 100000 in
theorem fkey_of {i : Int} (hi : (Lit.int .i64 i).wf = true) : ∃ l, keyOf Try.prog 76 (fKey i) = some l := by
  have h1 : Try.prog.cellsOf 3 = 1 := by kernel_rfl
  have h2 : Try.prog.cellsOf 29 = 1 := by kernel_rfl
  have h4 : Try.prog.cellsOf 76 = 2 := by kernel_rfl
  have h5 : Try.prog.keyType 76 = true := by kernel_rfl
  have h6 : (Lit.int .i8 0).wf = true := by decide
  have h3 : 1 ≤ Try.prog.types.size := Nat.le_of_ble_eq_true (by kernel_rfl)
  obtain ⟨n, hn⟩ : ∃ n, Try.prog.types.size + 1 = n + 1 + 1 := ⟨Try.prog.types.size - 1, by omega⟩
  unfold keyOf fKey
  rw [Try.underlying76]
  simp only
  rw [hn]
  simp [h5, Value.formed, Try.underlying76, h4, Program.keyLits, h1, h2, Try.underlying3, Try.underlying29, hi, h6, Value.cells]
theorem fKey_inj {i i' : Int} (h : fKey i = fKey i') : i = i' := by
  unfold fKey at h
  injection h with h
  have h1 := congrArg (fun a => a.toList) h
  simpa using h1
/-- block b is a map[forward.key]bool that holds f in the forward phase -/
def MK (w : World) (b n : Nat) (f : Int → Bool) : Prop :=
  ∃ D : DataW Unit, w.ownsMap Try.prog 76 (plainElem Try.prog 4) b n D ∧ Go.Maps.IsMap D ∧ ∀ (i : Int) (l : Lit), keyOf Try.prog 76 (fKey i) = some l → D.atKey l (.lit (.bool false)) = .lit (.bool (f i))
section
variable {w w' : World} {b n : Nat} {f : Int → Bool}
theorem MK.new (w : World) : MK (w.alloc (.map #[] 0)) w.heap.size 0 (fun _ => false) := ⟨.map [], World.ownsMap_made _ _ _ _, ⟨[], rfl⟩, fun _ _ _ => rfl⟩
theorem MK.lt (h : MK w b n f) : b < w.heap.size := by obtain ⟨D, h1, _⟩ := h; exact h1.lt
theorem MK.below (h : MK w b n f) (hb : Below w.heap.size w w') : MK w' b n f := by
  obtain ⟨D, h1, h2, h3⟩ := h
  exact ⟨D, ownsMap_same h1 (hb.block b h1.lt), h2, h3⟩
theorem MK.look (h : MK w b n f) {i : Int} (hi : (Lit.int .i64 i).wf = true) : (Instr.lookup 74 (.map (some b)) (.agg #[.int .i64 i, .int .i8 0]) false).run Try.prog w = .ok (.bool (f i)) w := by
  obtain ⟨D, g1, g2, g3⟩ := h
  obtain ⟨l, hl⟩ := fkey_of hi
  obtain ⟨v, ps, hrun, hv⟩ := g1.lookup key_fk Try.underlying74 (zero_boolW w) (plainElem_bool Try.underlying4 false) hl
  rw [g3 i l hl] at hv
  unfold fKey at hrun
  rw [hrun]
  have hu : Try.prog.underlying 4 = some .bool := Try.underlying4
  unfold plainElem at hv
  rw [hu] at hv
  cases v <;> simp_all
end
set_option maxRecDepth 100000 in
theorem wp_put_MK {w : World} {ops : Array Oper} {rest : List Oper} {o : Oper} {a : Act} {Q : Exit → Act → World → Prop} (hg : o.guard = none) (m x v : Operand) (hop : o.op = Op.mapUpdate 74 m x v) (b n : Nat) (f : Int → Bool) (hm : a.eval m = .map (some b)) (h : MK w b n f) (hn : n < maxLen)
    (i : Int) (hi : (Lit.int .i64 i).wf = true) (hx : a.eval x = .agg #[.int .i64 i, .int .i8 0]) (hv : a.eval v = .bool true)
    (hK : ∀ w', MK w' b (n + 1) (fun j => if j = i then true else f j) → w.grownBy w' (some b) → wpList Try.prog ops Q rest (a.put o.dst undef) w') : wpList Try.prog ops Q (o :: rest) a w := by
  obtain ⟨D, g1, g2, g3⟩ := h
  obtain ⟨l, hl⟩ := fkey_of hi
  refine wpList_mapUpdate_own w hg m x v 74 hop 76 4 key_fk Try.underlying74 _ b n D hm g1 hn _ _ l hx hv hl (.lit (.bool true)) [] (plainElem_bool Try.underlying4 true) (fun w' h1 h2 => hK w' ⟨_, h1, g2.put _ _, fun i' l' hl' => ?_⟩ h2)
  by_cases hj : i' = i
  · subst hj
    rw [hl] at hl'
    injection hl' with hl'
    subst hl'
    rw [Go.Maps.atKey_put_same g2 (key_fk.key hl)]; simp
  · have hne : l' ≠ l := fun e => hj (fKey_inj (key_fk.inj hl' (e ▸ hl)))
    rw [Go.Maps.atKey_put_other hne, g3 i' l' hl']
    simp [hj]
end Go.Proofs.Ytfjhomegjceilaa
