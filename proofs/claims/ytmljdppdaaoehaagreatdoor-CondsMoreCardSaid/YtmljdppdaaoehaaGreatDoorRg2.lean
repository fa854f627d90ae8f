/- Rg: an operation that its guard keeps away. -/
import Derived.Test.YtmljdppdaaoehaaGreatDoorRg
namespace Go.Proofs.YtmljdppdaaoehaaGreatDoor
open Go
section
variable {P : Program} {l : List Oper} {Q : Exit → Act → World → Prop} {S : World → Prop}
/-- number i may be taken first: its guard keeps it away -/
theorem Rg.skip {n f : Nat} {ls : Array Bool} {a : Act} {w : World} (hS : S w) (i : Nat) {oi : Oper} {rest : List Oper} (hi : l.drop i = oi :: rest)
    (hc : (Region.noSelect l.toArray && rgClosed l.toArray n ls && Region.free .any l.toArray ls i && (Region.ready .any l.toArray ls).contains i && decide (i < n)) = true)
    (hQ : ∀ c a w, Q (.panic c) (a.put oi.dst undef) w → Q (.panic c) a w) (hw : Region.wanted oi (yielded l.toArray a.tmps) = false)
    (h : Rg P l.toArray Q S n f (ls.setIfInBounds i true) (a.put oi.dst undef) w) : Rg P l.toArray Q S n (f + 1) ls a w := by
  simp only [Bool.and_eq_true, decide_eq_true_eq] at hc
  obtain ⟨⟨⟨⟨h1, h2⟩, h3⟩, h4⟩, h5⟩ := hc
  obtain ⟨inv, hsk, hsz⟩ := rgClosed_inv h2
  exact Rg.first (drop_at hi) (Region.noSelect_spec h1) hQ hsk hsz h5 f ls a w inv (Region.free_spec (drop_at hi) h3) (by simpa using h4) (.inr ⟨hw, rfl⟩) hS h
end
end Go.Proofs.YtmljdppdaaoehaaGreatDoor
