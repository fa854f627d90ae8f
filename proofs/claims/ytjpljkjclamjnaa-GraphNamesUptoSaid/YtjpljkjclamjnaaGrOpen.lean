/- Opening slices of int slices: what the datum holds, its weight. -/
import Derived.Test.YtjpljkjclamjnaaRows
import Derived.Test.YtjpljkjclamjnaaGrMem
import Derived.SizedLaws
namespace Go.Proofs.Ytjpljkjclamjnaa
open Go.RowKit Go.ChangeShapes Go.WideShapes Go.ChangeAt
set_option linter.unusedVariables false
set_option linter.unusedSimpArgs false

section
variable {H : Type} {enc : TypeId × Value → H} {P : Program} {w : World} {base : Nat} {held : Bool}
def RI (d : DataW H) (l : List Int) : Prop := (d = .nil ∧ l = []) ∨ ∃ sp, d = .slice (lits .i64 l) sp
def RII (d : DataW H) (ls : List (List Int)) : Prop := (d = .nil ∧ ls = []) ∨ ∃ es sp, d = .slice es sp ∧ es.length = ls.length ∧ ∀ (i : Nat) (l : List Int), ls[i]? = some l → ∃ e, es[i]? = some e ∧ RI e l
theorem ints_of_trod2 {t e : TypeId} {fuel : Nat} {cs : List Value} {x : DataW H × List MemPlace} (ht : P.underlying t = some (.slice e)) (he : P.underlying e = some (.int .i64)) (hc : P.cellsOf e = 1)
    (h : DataW.trod enc P w base (fun _ => true) held fuel t cs = some x) : ∃ A c l, cs = [.slice A l.length c] ∧ Rd w 1 A l.length c (ivI l) ∧ (∀ z ∈ l, -9223372036854775808 ≤ z ∧ z ≤ 9223372036854775807) ∧ RI x.1 l := by
  rcases open_ints ht he hc h with ⟨hcs, hx⟩ | ⟨x, l, c, zs, hcs, _, hl, hm, hz, hx, hcell, hwz⟩
  · exact ⟨_, _, [], hcs, Rd.nil w 1, by simp, .inl ⟨by rw [hx], rfl⟩⟩
  · have hz' : zs.length = c := by simpa using hz
    have hlen : (zs.take l).length = l := by rw [List.length_take]; omega
    refine ⟨_, _, zs.take l, by rw [hlen]; exact hcs, by rw [hlen]; exact rd_ints hl hm hz' hcell, fun z hzm => wf_i64 (hwz z (List.mem_of_mem_take hzm)), .inr ⟨_, by rw [hx]⟩⟩
/-- ints that came in -/
theorem open_is {t q : TypeId} {A : Option Addr} {n c : Nat} {d : DataW H} {ps : List MemPlace} (ht : P.underlying t = some (.slice q)) (hq : P.underlying q = some (.int .i64)) (hc : P.cellsOf q = 1)
    (h : DataW.Trod enc P w base (fun _ => true) held t (.slice A n c) d ps) : ∃ l, Rd w 1 A n c (ivI l) ∧ (∀ z ∈ l, -9223372036854775808 ≤ z ∧ z ≤ 9223372036854775807) := by
  obtain ⟨fuel, hf⟩ := h
  obtain ⟨A', c', l, e1, h1, h2, _⟩ := ints_of_trod2 ht hq hc hf
  simp [Value.cells] at e1
  obtain ⟨rfl, rfl, rfl⟩ := e1
  exact ⟨l, h1, h2⟩
theorem open_ii2 {t e q : TypeId} {A : Option Addr} {n c : Nat} {d : DataW H} {ps : List MemPlace} (ht : P.underlying t = some (.slice e)) (hce : P.cellsOf e = 1) (he : P.underlying e = some (.slice q)) (hq : P.underlying q = some (.int .i64)) (hc : P.cellsOf q = 1)
    (h : DataW.Trod enc P w base (fun _ => true) held t (.slice A n c) d ps) : ∃ ls, II w A n c ls ∧ RII d ls := by
  obtain ⟨fuel, hf⟩ := h
  rcases Deep.open_slice1 ht hce hf with ⟨hcs, hx⟩ | ⟨a, len, cap, m, k, V, D, Pl, hcs, _, hl, hm, hmm, hxx, hx⟩
  · simp [Value.cells] at hcs
    obtain ⟨rfl, rfl, rfl⟩ := hcs
    injection hx with hx _
    exact ⟨[], ⟨rfl, Nat.le_refl _, by simp [maxLen], by simp, by simp⟩, .inl ⟨hx, rfl⟩⟩
  · simp [Value.cells] at hcs
    obtain ⟨rfl, rfl, rfl⟩ := hcs
    injection hxx with hxx _
    simp only [if_true] at hmm
    obtain ⟨L, hL⟩ := Deep.choose_lt (α := List Int) (n := n) (p := fun i l => ∃ Ai ci, w.cell? (a.add i) = some (.slice Ai l.length ci) ∧ Rd w 1 Ai l.length ci (ivI l) ∧ (∀ z ∈ l, -9223372036854775808 ≤ z ∧ z ≤ 9223372036854775807) ∧ RI (D i) l) (fun i hi => by
      obtain ⟨h1, h2⟩ := hx i (by omega)
      obtain ⟨Ai, ci, l, e1, hr, hw, hri⟩ := ints_of_trod2 he hq hc h2
      simp at e1
      exact ⟨l, Ai, ci, by rw [← e1]; exact h1, hr, hw, hri⟩)
    refine ⟨(List.range n).map L, ⟨by simp, hl, hm, fun i x hi => ?_, fun x hx' z hz => ?_⟩, .inr ⟨_, _, hxx, by simp, fun i l hi => ?_⟩⟩
    · rcases Nat.lt_or_ge i n with hj | hj
      · simp [hj] at hi
        subst hi
        obtain ⟨Ai, ci, c1, c2, _⟩ := hL i hj
        exact ⟨a, Ai, ci, rfl, c1, c2⟩
      · rw [List.getElem?_eq_none (by simpa using hj)] at hi; cases hi
    · simp only [List.mem_map, List.mem_range] at hx'
      obtain ⟨i, hi, rfl⟩ := hx'
      obtain ⟨_, _, _, _, hw, _⟩ := hL i hi
      exact hw z hz
    · rcases Nat.lt_or_ge i n with hj | hj
      · simp [hj] at hi
        subst hi
        obtain ⟨_, _, _, _, _, hri⟩ := hL i hj
        exact ⟨D i, by simp [hj], hri⟩
      · rw [List.getElem?_eq_none (by simpa using hj)] at hi; cases hi
theorem weights_all {e : TypeId} : ∀ {es : List (DataW H)} {x : DataW H} {z : Nat}, x ∈ es → z ∈ x.weights P e → z ∈ DataW.weightsAll P e es
  | y :: es, x, z, hx, hz => by
    unfold DataW.weightsAll
    rw [List.mem_append]
    rcases List.mem_cons.1 hx with rfl | hx
    · exact .inl hz
    · exact .inr (weights_all hx hz)
theorem RII.reach {t e q : TypeId} {d : DataW H} {ls : List (List Int)} (h : RII d ls) (ht : P.underlying t = some (.slice e)) (he : P.underlying e = some (.slice q)) {b : Nat} (hb : P.bytesOf q = b) {B : Nat} (hw : ∀ z ∈ d.weights P t, z ≤ B) : ∀ r ∈ ls, r.length * b ≤ B := by
  subst hb
  rcases h with ⟨_, rfl⟩ | ⟨es, sp, rfl, _, h⟩
  · simp
  · intro r hr
    obtain ⟨i, hi⟩ := List.mem_iff_getElem?.1 hr
    obtain ⟨x, hx, hri⟩ := h i r hi
    rcases hri with ⟨_, rfl⟩ | ⟨sp2, rfl⟩
    · simp
    · have hm : (r.length + sp2.length) * P.bytesOf q ∈ (DataW.slice (lits .i64 r) sp2 : DataW H).weights P e := by
        simp [DataW.weights, he, lits]
      have h1 := hw ((r.length + sp2.length) * P.bytesOf q) (by
        simp only [DataW.weights, ht]
        exact List.mem_cons_of_mem _ (List.mem_append_left _ (weights_all (List.mem_of_getElem? hx) hm)))
      exact Nat.le_trans (Nat.mul_le_mul_right _ (by omega)) h1
theorem bulk_one (d : DataW H) : 1 ≤ Rows.uptoBulk d := by
  cases d with
  | lit l => cases l <;> simp [Rows.uptoBulk]
  | nil => simp [Rows.uptoBulk]
  | ptr d => simp [Rows.uptoBulk]
  | slice elems spare => simp [Rows.uptoBulk]
  | agg parts => simp [Rows.uptoBulk]
  | iface t d => simp [Rows.uptoBulk]
  | map entries => simp [Rows.uptoBulk]
  | held h => simp [Rows.uptoBulk]
theorem bulk_len : ∀ l : List (DataW H), l.length ≤ Rows.uptoBulkAll l
  | [] => by simp [Rows.uptoBulkAll]
  | x :: r => by have := bulk_one x; have := bulk_len r; simp only [Rows.uptoBulkAll, List.length_cons]; omega
theorem bulk_all : ∀ (es : List (DataW H)) (ls : List (List Int)), es.length = ls.length → (∀ (i : Nat) (l : List Int), ls[i]? = some l → ∃ e, es[i]? = some e ∧ RI e l) → (ls.map List.length).sum + ls.length ≤ Rows.uptoBulkAll es
  | [], [], _, _ => by simp
  | e :: es, l :: ls, hl, h => by
    have ih := bulk_all es ls (by simpa using hl) (fun i l hi => h (i + 1) l (by simpa using hi))
    obtain ⟨e', he, hr⟩ := h 0 l rfl
    simp at he
    subst he
    have h1 : l.length + 1 ≤ Rows.uptoBulk e := by
      rcases hr with ⟨rfl, rfl⟩ | ⟨sp, rfl⟩
      · simp [Rows.uptoBulk]
      · have := bulk_len (lits (H := H) .i64 l)
        simp only [Rows.uptoBulk]
        simp only [lits, List.length_map] at this ⊢
        omega
    simp only [List.map_cons, List.sum_cons, List.length_cons, Rows.uptoBulkAll]
    omega
  | [], _ :: _, hl, _ => by simp at hl
  | _ :: _, [], hl, _ => by simp at hl
theorem RII.bulk {d : DataW H} {ls : List (List Int)} (h : RII d ls) : (ls.map List.length).sum + ls.length ≤ Rows.uptoBulk d := by
  rcases h with ⟨rfl, rfl⟩ | ⟨es, sp, rfl, hl, h⟩
  · simp
  · have := bulk_all es ls hl h
    simp only [Rows.uptoBulk]; omega
end

section
variable {H : Type} {enc : TypeId × Value → H} {w : World} {base : Nat} {held : Bool}
theorem open_iiz {A : Option Addr} {n c : Nat} {d : DataW H} {ps : List MemPlace} (h : DataW.Trod enc Try.prog w base (fun _ => true) held 22 (.slice A n c) d ps) (hw : ∀ z ∈ d.weights Try.prog 22, z ≤ reachBytes) :
    ∃ ls, II w A n c ls ∧ ∀ r ∈ ls, r.length * 8 ≤ 140737488351232 := by
  obtain ⟨ls, h1, h2⟩ := open_ii2 Try.underlying22 (by kernel_rfl) Try.underlying25 Try.underlying3 (by kernel_rfl) h
  exact ⟨ls, h1, h2.reach Try.underlying22 Try.underlying25 (by kernel_rfl) hw⟩
theorem open_iiu {A : Option Addr} {n c : Nat} {d : DataW H} {ps : List MemPlace} (h : DataW.Trod enc Try.prog w base (fun _ => true) held 22 (.slice A n c) d ps) (hw : Rows.uptoBulk d ≤ 1048576) :
    ∃ ls, II w A n c ls ∧ (ls.map List.length).sum ≤ 1048576 := by
  obtain ⟨ls, h1, h2⟩ := open_ii2 Try.underlying22 (by kernel_rfl) Try.underlying25 Try.underlying3 (by kernel_rfl) h
  exact ⟨ls, h1, by have := h2.bulk; omega⟩
theorem open_isT {A : Option Addr} {n c : Nat} {d : DataW H} {ps : List MemPlace} (h : DataW.Trod enc Try.prog w base (fun _ => true) held 25 (.slice A n c) d ps) :
    ∃ l, Rd w 1 A n c (ivI l) ∧ (∀ z ∈ l, -9223372036854775808 ≤ z ∧ z ≤ 9223372036854775807) := open_is Try.underlying25 Try.underlying3 (by kernel_rfl) h
end
end Go.Proofs.Ytjpljkjclamjnaa
