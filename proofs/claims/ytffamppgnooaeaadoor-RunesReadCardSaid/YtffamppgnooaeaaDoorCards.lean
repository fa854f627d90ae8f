/-
  DERIVED. GIVEN WITH THE SEED: THE CARDS: each row of YtffamppgnooaeaaDoorRows.lean that lists a variable, with what it lists TIED to the program's text (the seventh form; the later family's looks); each row that meets fmt, with fmt's text TOLD by the authors' own Lean function (tested against real Go, not proved from fmt's source: count such statements apart). THE CARD IS WHAT COUNTS. Prove the row's statement (the work); the ties are given (YtffamppgnooaeaaDoorTie.lean); close each card by the builder's one call (the guide's Derived/Test/ToyasCard.lean, 'card_holds'). Laid BY PROGRAM, IN A SANDBOX (cutbox-door.mjs). By AI agents, Wed Nov 11 2026. No macro, syntax, notation, axiom, sorry.
-/
import Derived.Test.YtffamppgnooaeaaDoorRows
import GoSem.ClaimSeven
namespace Go.Proofs.YtffamppgnooaeaaDoor
namespace Rows

/-- THE TIED CARD OF 'hoardinglaw01.RunesRead'. -/
def runesReadCard : Claim7 := { stood := { row := runesReadRow, standIns := [], harness := (true, "48c847b44c2bbdcce340af470b8f50772dfca4f537d9c6a679544cb896ecd315"), looks := true }, kinds := [], alts := [], laidByText := true, laidKinds := [.data, .data, .data, .data, .sentinel, .sentinel, .pinned], laidTests := true, laidLooks := .later }
def RunesReadCardSaid : Prop := Claim7.holds Tryd.pinned (.plain (OpenSpec.ofChange runesReadSpec)) runesReadCard

/-- THE TIED CARD OF 'hoardinglaw01.RunesBack'. -/
def runesBackCard : Claim7 := { stood := { row := runesBackRow, standIns := [], harness := (true, "48c847b44c2bbdcce340af470b8f50772dfca4f537d9c6a679544cb896ecd315"), looks := true }, kinds := [], alts := [], laidByText := true, laidKinds := [.data, .data, .data, .data, .sentinel, .sentinel, .pinned], laidTests := true, laidLooks := .later }
def RunesBackCardSaid : Prop := Claim7.holds Tryd.pinned (.plain (OpenSpec.ofChange runesBackSpec)) runesBackCard

/-- THE TIED CARD OF 'hoardinglaw01.RunesApart'. -/
def runesApartCard : Claim7 := { stood := { row := runesApartRow, standIns := [], harness := (true, "48c847b44c2bbdcce340af470b8f50772dfca4f537d9c6a679544cb896ecd315"), looks := true }, kinds := [], alts := [], laidByText := true, laidKinds := [.data, .data, .data, .data, .sentinel, .sentinel, .pinned], laidTests := true, laidLooks := .later }
def RunesApartCardSaid : Prop := Claim7.holds Tryd.pinned (.plain (OpenSpec.ofChange runesApartSpec)) runesApartCard

/-- THE TIED CARD OF 'hoardinglaw01.RunesWalk'. -/
def runesWalkCard : Claim7 := { stood := { row := runesWalkRow, standIns := [], harness := (true, "48c847b44c2bbdcce340af470b8f50772dfca4f537d9c6a679544cb896ecd315"), looks := true }, kinds := [], alts := [], laidByText := true, laidKinds := [.data, .data, .data, .data, .sentinel, .sentinel, .pinned], laidTests := true, laidLooks := .later }
def RunesWalkCardSaid : Prop := Claim7.holds Tryd.pinned (.plain (OpenSpec.ofChange runesWalkSpec)) runesWalkCard

/-- THE SECOND FORM's CARD OF 'hoardinglaw01.RunesRead'. -/
def runesReadUptoCard : Claim7 := { stood := { row := runesReadUptoRow, standIns := [], harness := (true, "48c847b44c2bbdcce340af470b8f50772dfca4f537d9c6a679544cb896ecd315"), looks := true }, kinds := [], alts := [], laidByText := true, laidKinds := [.data, .data, .data, .data, .sentinel, .sentinel, .pinned], laidTests := true, laidLooks := .later }
def RunesReadUptoCardSaid : Prop := Claim7.holds Tryd.pinned (.plain (OpenSpec.upto runesReadSpec)) runesReadUptoCard

/-- THE SECOND FORM's CARD OF 'hoardinglaw01.RunesBack'. -/
def runesBackUptoCard : Claim7 := { stood := { row := runesBackUptoRow, standIns := [], harness := (true, "48c847b44c2bbdcce340af470b8f50772dfca4f537d9c6a679544cb896ecd315"), looks := true }, kinds := [], alts := [], laidByText := true, laidKinds := [.data, .data, .data, .data, .sentinel, .sentinel, .pinned], laidTests := true, laidLooks := .later }
def RunesBackUptoCardSaid : Prop := Claim7.holds Tryd.pinned (.plain (OpenSpec.upto runesBackSpec)) runesBackUptoCard

/-- THE SECOND FORM's CARD OF 'hoardinglaw01.RunesApart'. -/
def runesApartUptoCard : Claim7 := { stood := { row := runesApartUptoRow, standIns := [], harness := (true, "48c847b44c2bbdcce340af470b8f50772dfca4f537d9c6a679544cb896ecd315"), looks := true }, kinds := [], alts := [], laidByText := true, laidKinds := [.data, .data, .data, .data, .sentinel, .sentinel, .pinned], laidTests := true, laidLooks := .later }
def RunesApartUptoCardSaid : Prop := Claim7.holds Tryd.pinned (.plain (OpenSpec.upto runesApartSpec)) runesApartUptoCard

/-- THE SECOND FORM's CARD OF 'hoardinglaw01.RunesWalk'. -/
def runesWalkUptoCard : Claim7 := { stood := { row := runesWalkUptoRow, standIns := [], harness := (true, "48c847b44c2bbdcce340af470b8f50772dfca4f537d9c6a679544cb896ecd315"), looks := true }, kinds := [], alts := [], laidByText := true, laidKinds := [.data, .data, .data, .data, .sentinel, .sentinel, .pinned], laidTests := true, laidLooks := .later }
def RunesWalkUptoCardSaid : Prop := Claim7.holds Tryd.pinned (.plain (OpenSpec.upto runesWalkSpec)) runesWalkUptoCard
end Rows
end Go.Proofs.YtffamppgnooaeaaDoor
