/- Opening what comes in: a slice of byte slices reads as a list of byte lists. -/
import Derived.Test.YtckofpdhcpabnaaOpen
import Derived.Test.YtckofpdhcpabnaaFrScan
import Derived.Deep.Slices
namespace Go.Proofs.Ytckofpdhcpabnaa
open Go.RowKit Go.ChangeShapes Go.WideShapes Go.ChangeAt

section
variable {H : Type} {enc : TypeId × Value → H} {P : Program} {w : World} {base : Nat} {held : Bool}
theorem bytes_of_trod {t e : TypeId} {fuel : Nat} {cs : List Value} {x : DataW H × List MemPlace} (ht : P.underlying t = some (.slice e)) (he : P.underlying e = some (.int .u8)) (hc : P.cellsOf e = 1)
    (h : DataW.trod enc P w base (fun _ => true) held fuel t cs = some x) : ∃ A n c l, cs = [.slice A n c] ∧ Rd w 1 A n c (bv l) := by
  rcases open_ints ht he hc h with ⟨hcs, _⟩ | ⟨x, l, c, zs, hcs, _, hl, hm, hz, _, hcell, hwz⟩
  · exact ⟨_, _, _, [], hcs, Rd.nil w 1⟩
  · exact ⟨_, _, _, _, hcs, rd_of_ints hl hm (by simpa using hz) hcell hwz⟩

theorem bytes2_of_trod {t e q : TypeId} {fuel : Nat} {cs : List Value} {x : DataW H × List MemPlace} (ht : P.underlying t = some (.slice e)) (hce : P.cellsOf e = 1) (he : P.underlying e = some (.slice q)) (hq : P.underlying q = some (.int .u8)) (hc : P.cellsOf q = 1)
    (hf : DataW.trod enc P w base (fun _ => true) held fuel t cs = some x) : ∃ A n c ls vs, cs = [.slice A n c] ∧ BB w 0 A n c ls vs := by
  rcases Deep.open_slice1 ht hce hf with ⟨hcs, _⟩ | ⟨a, n, c, m, k, V, D, Pl, hcs, _, hl, hm, hmm, _, hx⟩
  · exact ⟨none, 0, 0, [], [], hcs, Rd.nil w 1, rfl, by simp, by simp⟩
  · simp only [if_true] at hmm
    obtain ⟨L, hL⟩ := Deep.choose_lt (α := List UInt8) (n := n) (p := fun i l => ∃ Ai ci, V i = .slice Ai l.length ci ∧ Rd w 1 Ai l.length ci (bv l)) (fun i hi => by
      obtain ⟨_, h2⟩ := hx i (by omega)
      obtain ⟨Ai, ni, ci, l, e1, hr⟩ := bytes_of_trod he hq hc h2
      have hb := hr.blen
      subst hb
      simp at e1
      exact ⟨l, Ai, ci, e1, hr⟩)
    refine ⟨some a, n, c, (List.range n).map L, (List.range n).map V, hcs, ⟨by simp, hl, hm, fun j u hu => ?_⟩, by simp, fun _ _ => Nat.zero_le _, fun i x hi => ?_⟩
    · rcases Nat.lt_or_ge j n with hj | hj
      · simp [hj] at hu
        subst hu
        exact ⟨a, rfl, (hx j (by omega)).1⟩
      · rw [List.getElem?_eq_none (by simpa using hj)] at hu; cases hu
    · rcases Nat.lt_or_ge i n with hj | hj
      · simp [hj] at hi
        subst hi
        obtain ⟨Ai, ci, e1, hr⟩ := hL i hj
        exact ⟨Ai, ci, by simp [hj, e1], hr, fun _ _ => Nat.zero_le _⟩
      · rw [List.getElem?_eq_none (by simpa using hj)] at hi; cases hi

theorem open_bytes2 {t e q : TypeId} {A : Option Addr} {n c : Nat} {d : DataW H} {ps : List MemPlace} (ht : P.underlying t = some (.slice e)) (hce : P.cellsOf e = 1) (he : P.underlying e = some (.slice q)) (hq : P.underlying q = some (.int .u8)) (hc : P.cellsOf q = 1)
    (h : DataW.Trod enc P w base (fun _ => true) held t (.slice A n c) d ps) : ∃ ls vs, BB w 0 A n c ls vs := by
  obtain ⟨fuel, hf⟩ := h
  obtain ⟨A', n', c', ls, vs, e1, hb⟩ := bytes2_of_trod ht hce he hq hc hf
  simp [Value.cells] at e1
  obtain ⟨rfl, rfl, rfl⟩ := e1
  exact ⟨ls, vs, hb⟩
end
end Go.Proofs.Ytckofpdhcpabnaa
