/-
  DERIVED. GIVEN WITH THE SEED: THE CARDS: each row of YtgdfkbalnpfdgaaGreatDoorRows.lean that lists a variable, with what it lists TIED to the program's text (the seventh form; the later family's looks); each row that meets fmt, with fmt's text TOLD by the authors' own Lean function (tested against real Go, not proved from fmt's source: count such statements apart). THE CARD IS WHAT COUNTS. Prove the row's statement (the work); the ties are given (YtgdfkbalnpfdgaaGreatDoorTie.lean); close each card by the builder's one call (the guide's Derived/Test/ToyasCard.lean, 'card_holds'). Laid BY PROGRAM, IN A SANDBOX (cutbox-door.mjs). By AI agents, Wed Nov 11 2026. No macro, syntax, notation, axiom, sorry.
-/
import Derived.Test.YtgdfkbalnpfdgaaGreatDoorRows
import GoSem.ClaimSeven
namespace Go.Proofs.YtgdfkbalnpfdgaaGreatDoor
namespace Rows

/-- THE TIED CARD OF 'hoardinglaw19.DepsOff'. -/
def depsOffCard : Claim7 := { stood := { row := depsOffRow, standIns := [], harness := (true, "a46845d0fe7f899bb832a9d9bd22d44aac07e44a67dc57c2f427fbfd6d9ce9c4"), looks := true }, kinds := [], alts := [], laidByText := true, laidKinds := [.data, .pinned], laidTests := true, laidLooks := .later }
def DepsOffCardSaid : Prop := Claim7.holds Tryz.pinned (.plain (OpenSpec.ofChange depsOffSpec)) depsOffCard

/-- THE TIED CARD OF 'hoardinglaw19.DepsJoin'. -/
def depsJoinCard : Claim7 := { stood := { row := depsJoinRow, standIns := [], harness := (true, "a46845d0fe7f899bb832a9d9bd22d44aac07e44a67dc57c2f427fbfd6d9ce9c4"), looks := true }, kinds := [], alts := [], laidByText := true, laidKinds := [.data, .pinned], laidTests := true, laidLooks := .later }
def DepsJoinCardSaid : Prop := Claim7.holds Tryz.pinned (.plain (OpenSpec.ofChange depsJoinSpec)) depsJoinCard

/-- THE TIED CARD OF 'hoardinglaw19.DepsTurns'. -/
def depsTurnsCard : Claim7 := { stood := { row := depsTurnsRow, standIns := [], harness := (true, "a46845d0fe7f899bb832a9d9bd22d44aac07e44a67dc57c2f427fbfd6d9ce9c4"), looks := true }, kinds := [], alts := [], laidByText := true, laidKinds := [.data, .pinned], laidTests := true, laidLooks := .later }
def DepsTurnsCardSaid : Prop := Claim7.holds Tryz.pinned (.plain (OpenSpec.ofChange depsTurnsSpec)) depsTurnsCard

/-- THE TIED CARD OF 'hoardinglaw19.DepsClosure'. -/
def depsClosureCard : Claim7 := { stood := { row := depsClosureRow, standIns := [], harness := (true, "a46845d0fe7f899bb832a9d9bd22d44aac07e44a67dc57c2f427fbfd6d9ce9c4"), looks := true }, kinds := [], alts := [], laidByText := true, laidKinds := [.data, .pinned], laidTests := true, laidLooks := .later }
def DepsClosureCardSaid : Prop := Claim7.holds Tryz.pinned (.plain (OpenSpec.ofChange depsClosureSpec)) depsClosureCard

/-- THE SECOND FORM's CARD OF 'hoardinglaw19.DepsOff'. -/
def depsOffUptoCard : Claim7 := { stood := { row := depsOffUptoRow, standIns := [], harness := (true, "a46845d0fe7f899bb832a9d9bd22d44aac07e44a67dc57c2f427fbfd6d9ce9c4"), looks := true }, kinds := [], alts := [], laidByText := true, laidKinds := [.data, .pinned], laidTests := true, laidLooks := .later }
def DepsOffUptoCardSaid : Prop := Claim7.holds Tryz.pinned (.plain (OpenSpec.upto depsOffSpec)) depsOffUptoCard

/-- THE SECOND FORM's CARD OF 'hoardinglaw19.DepsJoin'. -/
def depsJoinUptoCard : Claim7 := { stood := { row := depsJoinUptoRow, standIns := [], harness := (true, "a46845d0fe7f899bb832a9d9bd22d44aac07e44a67dc57c2f427fbfd6d9ce9c4"), looks := true }, kinds := [], alts := [], laidByText := true, laidKinds := [.data, .pinned], laidTests := true, laidLooks := .later }
def DepsJoinUptoCardSaid : Prop := Claim7.holds Tryz.pinned (.plain (OpenSpec.upto depsJoinSpec)) depsJoinUptoCard

/-- THE SECOND FORM's CARD OF 'hoardinglaw19.DepsTurns'. -/
def depsTurnsUptoCard : Claim7 := { stood := { row := depsTurnsUptoRow, standIns := [], harness := (true, "a46845d0fe7f899bb832a9d9bd22d44aac07e44a67dc57c2f427fbfd6d9ce9c4"), looks := true }, kinds := [], alts := [], laidByText := true, laidKinds := [.data, .pinned], laidTests := true, laidLooks := .later }
def DepsTurnsUptoCardSaid : Prop := Claim7.holds Tryz.pinned (.plain (OpenSpec.upto depsTurnsSpec)) depsTurnsUptoCard

/-- THE SECOND FORM's CARD OF 'hoardinglaw19.DepsClosure'. -/
def depsClosureUptoCard : Claim7 := { stood := { row := depsClosureUptoRow, standIns := [], harness := (true, "a46845d0fe7f899bb832a9d9bd22d44aac07e44a67dc57c2f427fbfd6d9ce9c4"), looks := true }, kinds := [], alts := [], laidByText := true, laidKinds := [.data, .pinned], laidTests := true, laidLooks := .later }
def DepsClosureUptoCardSaid : Prop := Claim7.holds Tryz.pinned (.plain (OpenSpec.upto depsClosureSpec)) depsClosureUptoCard
end Rows
end Go.Proofs.YtgdfkbalnpfdgaaGreatDoor
