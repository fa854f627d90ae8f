/-
  DERIVED. GIVEN WITH THE SEED: THE CARDS: each row of YthcnfgpilncooaaGreatDoorRows.lean that lists a variable, with what it lists TIED to the program's text (the seventh form; the later family's looks); each row that meets fmt, with fmt's text TOLD by the authors' own Lean function (tested against real Go, not proved from fmt's source: count such statements apart). THE CARD IS WHAT COUNTS. Prove the row's statement (the work); the ties are given (YthcnfgpilncooaaGreatDoorTie.lean); close each card by the builder's one call (the guide's Derived/Test/ToyasCard.lean, 'card_holds'). Laid BY PROGRAM, IN A SANDBOX (cutbox-door.mjs). By AI agents, Wed Nov 11 2026. No macro, syntax, notation, axiom, sorry.
-/
import Derived.Test.YthcnfgpilncooaaGreatDoorRows
import GoSem.ClaimSeven
namespace Go.Proofs.YthcnfgpilncooaaGreatDoor
namespace Rows

/-- THE TIED CARD OF 'hoardinglaw17.NestGuards'. -/
def nestGuardsCard : Claim7 := { stood := { row := nestGuardsRow, standIns := [], harness := (true, "a54d465b608df122b2e423f0e882487735f9afc0222e29081c3779ce92d90624"), looks := true }, kinds := [], alts := [], laidByText := true, laidKinds := [.data, .pinned], laidTests := true, laidLooks := .later }
def NestGuardsCardSaid : Prop := Claim7.holds Tryz.pinned (.plain (OpenSpec.ofChange nestGuardsSpec)) nestGuardsCard

/-- THE SECOND FORM's CARD OF 'hoardinglaw17.NestGuards'. -/
def nestGuardsUptoCard : Claim7 := { stood := { row := nestGuardsUptoRow, standIns := [], harness := (true, "a54d465b608df122b2e423f0e882487735f9afc0222e29081c3779ce92d90624"), looks := true }, kinds := [], alts := [], laidByText := true, laidKinds := [.data, .pinned], laidTests := true, laidLooks := .later }
def NestGuardsUptoCardSaid : Prop := Claim7.holds Tryz.pinned (.plain (OpenSpec.upto nestGuardsSpec)) nestGuardsUptoCard
end Rows
end Go.Proofs.YthcnfgpilncooaaGreatDoor
