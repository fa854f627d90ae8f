/- Words for slices of int slices; a map with int keys. -/
import Derived.Test.YtjpljkjclamjnaaOpen
import Derived.Test.YtjpljkjclamjnaaProg
import Derived.Test.YtjpljkjclamjnaaMem
import Derived.Test.YtjpljkjclamjnaaGrPlain4
import Derived.Deep.Slices
import Derived.OwnWalk
namespace Go.Proofs.Ytjpljkjclamjnaa
set_option linter.unusedVariables false
set_option linter.unusedSimpArgs false
open Go.RowKit Go.ChangeShapes Go.WideShapes Go.ChangeAt

theorem info_int : (Try.prog.info? 3).map (fun i => (i.zero, i.size, i.bytes)) = some (some (.int .i64 0), 1, 8) := by kernel_rfl
/-- what a law answers -/
def Yes (w : World) (e : Ending) (w' : World) : Prop := e = .returned (.bool true) ∧ Below w.heap.size w w'

/-- numbers as cells -/
def ivI (l : List Int) : List Value := l.map fun z => .int .i64 z
@[simp] theorem ivI_len (l : List Int) : (ivI l).length = l.length := by simp [ivI]
theorem ivI_get (l : List Int) (j : Nat) (h : j < l.length) : (ivI l)[j]? = some (.int .i64 l[j]) := by simp [ivI, h]
theorem ivI_one (l : List Int) : ∀ u ∈ ivI l, u.oneCell' = true := by intro u hu; simp only [ivI, List.mem_map] at hu; obtain ⟨b, _, rfl⟩ := hu; rfl
theorem ivI_app (a b : List Int) : ivI (a ++ b) = ivI a ++ ivI b := by simp [ivI]
def cI (l : List Nat) : List Int := l.map fun (x : Nat) => (x : Int)
@[simp] theorem cI_len (l : List Nat) : (cI l).length = l.length := by simp [cI]
theorem cI_app (a b : List Nat) : cI (a ++ b) = cI a ++ cI b := by simp [cI]
def cL (L : List (List Nat)) : List (List Int) := L.map cI
@[simp] theorem cL_len (L : List (List Nat)) : (cL L).length = L.length := by simp [cL]
theorem Rd.ilen {w : World} {A : Option Addr} {n c : Nat} {l : List Int} (h : Rd w 1 A n c (ivI l)) : l.length = n := by have := h.len; simpa using this
theorem Rd.icell {w : World} {ad : Addr} {n c : Nat} {l : List Int} (h : Rd w 1 (some ad) n c (ivI l)) {j : Nat} {z : Int} (hj : l[j]? = some z) : w.cell? (ad.add j) = some (.int .i64 z) := h.get (by simp [ivI, hj])

/-- a slice of int slices reads as ls -/
structure II (w : World) (A : Option Addr) (n c : Nat) (ls : List (List Int)) : Prop where
  len : ls.length = n
  cap : n ≤ c
  max : c ≤ maxLen
  row : ∀ (i : Nat) (x : List Int), ls[i]? = some x → ∃ ad Ai ci, A = some ad ∧ w.cell? (ad.add i) = some (.slice Ai x.length ci) ∧ Rd w 1 Ai x.length ci (ivI x)
  wf : ∀ x ∈ ls, ∀ z ∈ x, -9223372036854775808 ≤ z ∧ z ≤ 9223372036854775807
theorem II.below {w w' : World} {A : Option Addr} {n c : Nat} {ls : List (List Int)} (h : II w A n c ls) (hb : Below w.heap.size w w') : II w' A n c ls :=
  ⟨h.len, h.cap, h.max, fun i x hx => by
    obtain ⟨ad, Ai, ci, e, hc, hr⟩ := h.row i x hx
    exact ⟨ad, Ai, ci, e, (hb.cell (World.block_lt_of_cell? w _ hc)).trans hc, hr.below hb⟩, h.wf⟩
theorem II.drewN {w : World} {A : Option Addr} {n c : Nat} {ls : List (List Int)} (h : II w A n c ls) (k : Nat) : II (w.drewN k) A n c ls := h.below ⟨rfl, rfl, rfl, Nat.le_refl _, fun _ _ => rfl⟩

section
variable {H : Type} {enc : TypeId × Value → H} {P : Program} {w : World} {base : Nat} {held : Bool}
theorem rd_ints {x : Addr} {len cap : Nat} {zs : List Int} (hl : len ≤ cap) (hm : cap ≤ maxLen) (hz : zs.length = cap)
    (hcell : ∀ i, i < zs.length → w.cell? (x.add i) = some (.int .i64 (zs.getD i 0))) : Rd w 1 (some x) len cap (ivI (zs.take len)) := by
  refine ⟨by simp; omega, hl, hm, fun j u hu => ⟨x, rfl, ?_⟩⟩
  have hj : j < len := by
    rcases Nat.lt_or_ge j len with h | h
    · exact h
    · rw [List.getElem?_eq_none (by simp; omega)] at hu; cases hu
  rw [hcell j (by omega)]
  rw [ivI_get _ j (by simp; omega)] at hu
  rw [← hu]
  simp [List.getD, List.getElem?_eq_getElem (show j < zs.length by omega)]
theorem ints_of_trod {t e : TypeId} {fuel : Nat} {cs : List Value} {x : DataW H × List MemPlace} (ht : P.underlying t = some (.slice e)) (he : P.underlying e = some (.int .i64)) (hc : P.cellsOf e = 1)
    (h : DataW.trod enc P w base (fun _ => true) held fuel t cs = some x) : ∃ A c l, cs = [.slice A l.length c] ∧ Rd w 1 A l.length c (ivI l) ∧ ∀ z ∈ l, -9223372036854775808 ≤ z ∧ z ≤ 9223372036854775807 := by
  rcases open_ints ht he hc h with ⟨hcs, _⟩ | ⟨x, l, c, zs, hcs, _, hl, hm, hz, _, hcell, hwz⟩
  · exact ⟨_, _, [], hcs, Rd.nil w 1, by simp⟩
  · have hz' : zs.length = c := by simpa using hz
    have hlen : (zs.take l).length = l := by rw [List.length_take]; omega
    refine ⟨_, _, zs.take l, by rw [hlen]; exact hcs, by rw [hlen]; exact rd_ints hl hm hz' hcell, fun z hzm => wf_i64 (hwz z (List.mem_of_mem_take hzm))⟩
theorem open_ii {t e q : TypeId} {A : Option Addr} {n c : Nat} {d : DataW H} {ps : List MemPlace} (ht : P.underlying t = some (.slice e)) (hce : P.cellsOf e = 1) (he : P.underlying e = some (.slice q)) (hq : P.underlying q = some (.int .i64)) (hc : P.cellsOf q = 1)
    (h : DataW.Trod enc P w base (fun _ => true) held t (.slice A n c) d ps) : ∃ ls, II w A n c ls := by
  obtain ⟨fuel, hf⟩ := h
  rcases Deep.open_slice1 ht hce hf with ⟨hcs, _⟩ | ⟨a, len, cap, m, k, V, D, Pl, hcs, _, hl, hm, hmm, _, hx⟩
  · simp [Value.cells] at hcs
    obtain ⟨rfl, rfl, rfl⟩ := hcs
    exact ⟨[], rfl, Nat.le_refl _, by simp [maxLen], by simp, by simp⟩
  · simp [Value.cells] at hcs
    obtain ⟨rfl, rfl, rfl⟩ := hcs
    simp only [if_true] at hmm
    obtain ⟨L, hL⟩ := Deep.choose_lt (α := List Int) (n := n) (p := fun i l => ∃ Ai ci, w.cell? (a.add i) = some (.slice Ai l.length ci) ∧ Rd w 1 Ai l.length ci (ivI l) ∧ ∀ z ∈ l, -9223372036854775808 ≤ z ∧ z ≤ 9223372036854775807) (fun i hi => by
      obtain ⟨h1, h2⟩ := hx i (by omega)
      obtain ⟨Ai, ci, l, e1, hr, hw⟩ := ints_of_trod he hq hc h2
      simp at e1
      exact ⟨l, Ai, ci, by rw [← e1]; exact h1, hr, hw⟩)
    refine ⟨(List.range n).map L, by simp, hl, hm, fun i x hi => ?_, fun x hx' z hz => ?_⟩
    · rcases Nat.lt_or_ge i n with hj | hj
      · simp [hj] at hi
        subst hi
        obtain ⟨Ai, ci, c1, c2, _⟩ := hL i hj
        exact ⟨a, Ai, ci, rfl, c1, c2⟩
      · rw [List.getElem?_eq_none (by simpa using hj)] at hi; cases hi
    · simp only [List.mem_map, List.mem_range] at hx'
      obtain ⟨i, hi, rfl⟩ := hx'
      obtain ⟨_, _, _, _, hw⟩ := hL i hi
      exact hw z hz
end

/-- may leans be -/
def mayI (ls : List (List Int)) : Bool := ls.all fun r => r.all fun x => decide (0 ≤ x) && decide (x < (ls.length : Int))
theorem mayI_cast {ls : List (List Int)} (h : mayI ls = true) : ∃ L, ls = cL L ∧ okG L := by
  have h' : ∀ r ∈ ls, ∀ x ∈ r, 0 ≤ x ∧ x < (ls.length : Int) := by simpa [mayI] using h
  have hr : ∀ r ∈ ls, cI (r.map Int.toNat) = r := by
    intro r hr
    unfold cI
    rw [List.map_map]
    have : ∀ x ∈ r, ((fun (x : Nat) => (x : Int)) ∘ Int.toNat) x = x := fun x hx => by have := h' r hr x hx; simp; omega
    exact (List.map_congr_left this).trans (List.map_id _)
  refine ⟨ls.map fun r => r.map Int.toNat, ?_, fun i x hx => ?_⟩
  · unfold cL
    rw [List.map_map]
    exact ((List.map_congr_left (g := id) fun r hr' => hr r hr').trans (List.map_id _)).symm
  · have hi := lean_lt hx
    simp only [List.length_map] at hi ⊢
    unfold lean' at hx
    rw [List.getD_eq_getElem?_getD, List.getElem?_map, List.getElem?_eq_getElem hi] at hx
    simp only [Option.map_some, Option.getD_some, List.mem_map] at hx
    obtain ⟨z, hz, rfl⟩ := hx
    have := h' _ (List.getElem_mem hi) z hz
    omega
theorem mayI_cL {L : List (List Nat)} (h : okG L) : mayI (cL L) = true := by
  simp only [mayI, cL, List.all_map, List.all_eq_true, Function.comp_def, cI, List.length_map, Bool.and_eq_true, decide_eq_true_eq]
  intro r hr x hx
  obtain ⟨i, hi, rfl⟩ := List.getElem_of_mem hr
  have := h i x (by unfold lean'; rw [List.getD_eq_getElem?_getD, List.getElem?_eq_getElem hi]; exact hx)
  omega
theorem cL_get {L : List (List Nat)} {i : Nat} (h : i < L.length) : (cL L)[i]? = some (cI (lean' L i)) := by
  simp [cL, lean', List.getD_eq_getElem?_getD, h]
theorem cI_get {l : List Nat} {j x : Nat} (h : l[j]? = some x) : (cI l)[j]? = some (x : Int) := by simp [cI, h]
end Go.Proofs.Ytjpljkjclamjnaa
