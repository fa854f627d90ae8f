/- Rg: an operation that its guard keeps away. -/
import Derived.Test.YtmljdppdaaoehaaDoorRg
namespace Go.Proofs.YtmljdppdaaoehaaDoor
open Go
section
variable {P : Program} {l : List Oper} {Q : Exit → Act → World → Prop} {S : World → Prop}
/-- number i may be taken first: its guard keeps it away -/
theorem Rg.skip {n f : Nat} {ls : Array Bool} {a : Act} {w : World} (hS : S w) (i : Nat) {oi : Oper} {rest : List Oper} (hi : l.drop i = oi :: rest)
    (hc : (Region.noSelect l.toArray && rgClosed l.toArray n ls && Region.free .any l.toArray ls i && (Region.ready .any l.toArray ls).contains i && decide (i < n)) = true)
    (hQ : ∀ c a w, Q (.panic c) (a.put oi.dst undef) w → Q (.panic c) a w) (hw : Region.wanted oi (yielded l.toArray a.tmps) = false)
    (h : Rg P l.toArray Q S n f (ls.setIfInBounds i true) (a.put oi.dst undef) w) : Rg P l.toArray Q S n (f + 1) ls a w := by
  simp only [Bool.and_eq_true, decide_eq_true_eq] at hc
  obtain ⟨⟨⟨⟨h1, h2⟩, h3⟩, h4⟩, h5⟩ := hc
  obtain ⟨inv, hsk, hsz⟩ := rgClosed_inv h2
  exact Rg.first (drop_at hi) (Region.noSelect_spec h1) hQ hsk hsz h5 f ls a w inv (Region.free_spec (drop_at hi) h3) (by simpa using h4) (.inr ⟨hw, rfl⟩) hS h
/-- two operations may come up -/
theorem Rg.two {n f : Nat} {ls : Array Bool} {a : Act} {w : World} (i j : Nat) {oi oj : Oper} {ri rj : List Oper} (hr : Region.ready .any l.toArray ls = [i, j]) (hoi : l.drop i = oi :: ri) (hoj : l.drop j = oj :: rj)
    (h1 : ∀ K' : Act → World → Prop, Shut (∀ a w, S w → (S w → Rg P l.toArray Q S n f (ls.setIfInBounds i true) a w) → K' a w) → if Region.wanted oi (yielded l.toArray a.tmps) = true then Oper.wp P oi a w K' Q else K' (a.put oi.dst undef) w)
    (h2 : ∀ K' : Act → World → Prop, Shut (∀ a w, S w → (S w → Rg P l.toArray Q S n f (ls.setIfInBounds j true) a w) → K' a w) → if Region.wanted oj (yielded l.toArray a.tmps) = true then Oper.wp P oj a w K' Q else K' (a.put oj.dst undef) w) :
    Rg P l.toArray Q S n (f + 1) ls a w := by
  refine ⟨fun h0 => (by rw [hr] at h0; cases h0), fun k hk => ?_⟩
  rw [hr] at hk
  have hk' : k = i ∨ k = j := by simpa using hk
  rcases hk' with rfl | rfl
  · exact wpOp_step (drop_at hoi) (fun K' hK => h1 K' (fun a w hS hW => hK a w ⟨fun _ => hS, hW hS⟩))
  · exact wpOp_step (drop_at hoj) (fun K' hK => h2 K' (fun a w hS hW => hK a w ⟨fun _ => hS, hW hS⟩))
end
end Go.Proofs.YtmljdppdaaoehaaDoor
