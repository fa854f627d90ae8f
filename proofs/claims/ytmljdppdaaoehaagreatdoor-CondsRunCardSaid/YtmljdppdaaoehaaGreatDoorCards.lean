/-
  DERIVED. GIVEN WITH THE SEED: THE CARDS: each row of YtmljdppdaaoehaaGreatDoorRows.lean that lists a variable, with what it lists TIED to the program's text (the seventh form; the later family's looks); each row that meets fmt, with fmt's text TOLD by the authors' own Lean function (tested against real Go, not proved from fmt's source: count such statements apart). THE CARD IS WHAT COUNTS. Prove the row's statement (the work); the ties are given (YtmljdppdaaoehaaGreatDoorTie.lean); close each card by the builder's one call (the guide's Derived/Test/ToyasCard.lean, 'card_holds'). Laid BY PROGRAM, IN A SANDBOX (cutbox-door.mjs). By AI agents, Wed Nov 11 2026. No macro, syntax, notation, axiom, sorry.
-/
import Derived.Test.YtmljdppdaaoehaaGreatDoorRows
import GoSem.ClaimSeven
namespace Go.Proofs.YtmljdppdaaoehaaGreatDoor
namespace Rows

/-- THE TIED CARD OF 'hoardinglaw15.CondsRun'. -/
def condsRunCard : Claim7 := { stood := { row := condsRunRow, standIns := [], harness := (true, "9c2ae90599816540a85ec787ab822350ced50fc2a1f4ee7acf5d2224ad33f53e"), looks := true }, kinds := [], alts := [], laidByText := true, laidKinds := [.data, .pinned], laidTests := true, laidLooks := .later }
def CondsRunCardSaid : Prop := Claim7.holds Tryz.pinned (.plain (OpenSpec.ofChange condsRunSpec)) condsRunCard

/-- THE TIED CARD OF 'hoardinglaw15.CondsMore'. -/
def condsMoreCard : Claim7 := { stood := { row := condsMoreRow, standIns := [], harness := (true, "9c2ae90599816540a85ec787ab822350ced50fc2a1f4ee7acf5d2224ad33f53e"), looks := true }, kinds := [], alts := [], laidByText := true, laidKinds := [.data, .pinned], laidTests := true, laidLooks := .later }
def CondsMoreCardSaid : Prop := Claim7.holds Tryz.pinned (.plain (OpenSpec.ofChange condsMoreSpec)) condsMoreCard

/-- THE SECOND FORM's CARD OF 'hoardinglaw15.CondsRun'. -/
def condsRunUptoCard : Claim7 := { stood := { row := condsRunUptoRow, standIns := [], harness := (true, "9c2ae90599816540a85ec787ab822350ced50fc2a1f4ee7acf5d2224ad33f53e"), looks := true }, kinds := [], alts := [], laidByText := true, laidKinds := [.data, .pinned], laidTests := true, laidLooks := .later }
def CondsRunUptoCardSaid : Prop := Claim7.holds Tryz.pinned (.plain (OpenSpec.upto condsRunSpec)) condsRunUptoCard

/-- THE SECOND FORM's CARD OF 'hoardinglaw15.CondsMore'. -/
def condsMoreUptoCard : Claim7 := { stood := { row := condsMoreUptoRow, standIns := [], harness := (true, "9c2ae90599816540a85ec787ab822350ced50fc2a1f4ee7acf5d2224ad33f53e"), looks := true }, kinds := [], alts := [], laidByText := true, laidKinds := [.data, .pinned], laidTests := true, laidLooks := .later }
def CondsMoreUptoCardSaid : Prop := Claim7.holds Tryz.pinned (.plain (OpenSpec.upto condsMoreSpec)) condsMoreUptoCard
end Rows
end Go.Proofs.YtmljdppdaaoehaaGreatDoor
