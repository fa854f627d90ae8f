/-
  DERIVED. GIVEN WITH THE SEED: THE CARDS: each row of YtmljdppdaaoehaaDoorRows.lean that lists a variable, with what it lists TIED to the program's text (the seventh form; the later family's looks); each row that meets fmt, with fmt's text TOLD by the authors' own Lean function (tested against real Go, not proved from fmt's source: count such statements apart). THE CARD IS WHAT COUNTS. Prove the row's statement (the work); the ties are given (YtmljdppdaaoehaaDoorTie.lean); close each card by the builder's one call (the guide's Derived/Test/ToyasCard.lean, 'card_holds'). Laid BY PROGRAM, IN A SANDBOX (cutbox-door.mjs). By AI agents, Wed Nov 11 2026. No macro, syntax, notation, axiom, sorry.
-/
import Derived.Test.YtmljdppdaaoehaaDoorRows
import GoSem.ClaimSeven
namespace Go.Proofs.YtmljdppdaaoehaaDoor
namespace Rows

/-- THE TIED CARD OF 'hoardinglaw15.CondsTurned'. -/
def condsTurnedCard : Claim7 := { stood := { row := condsTurnedRow, standIns := [], harness := (true, "e20fa8f7f1003a04eff3e3d85bb2695a9d733300ffbda579c7a12ee5befc4f27"), looks := true }, kinds := [], alts := [], laidByText := true, laidKinds := [.data, .pinned], laidTests := true, laidLooks := .later }
def CondsTurnedCardSaid : Prop := Claim7.holds Tryd.pinned (.plain (OpenSpec.ofChange condsTurnedSpec)) condsTurnedCard

/-- THE TIED CARD OF 'hoardinglaw15.CondsMorgan'. -/
def condsMorganCard : Claim7 := { stood := { row := condsMorganRow, standIns := [], harness := (true, "e20fa8f7f1003a04eff3e3d85bb2695a9d733300ffbda579c7a12ee5befc4f27"), looks := true }, kinds := [], alts := [], laidByText := true, laidKinds := [.data, .pinned], laidTests := true, laidLooks := .later }
def CondsMorganCardSaid : Prop := Claim7.holds Tryd.pinned (.plain (OpenSpec.ofChange condsMorganSpec)) condsMorganCard

/-- THE TIED CARD OF 'hoardinglaw15.CondsCircle'. -/
def condsCircleCard : Claim7 := { stood := { row := condsCircleRow, standIns := [], harness := (true, "e20fa8f7f1003a04eff3e3d85bb2695a9d733300ffbda579c7a12ee5befc4f27"), looks := true }, kinds := [], alts := [], laidByText := true, laidKinds := [.data, .pinned], laidTests := true, laidLooks := .later }
def CondsCircleCardSaid : Prop := Claim7.holds Tryd.pinned (.plain (OpenSpec.ofChange condsCircleSpec)) condsCircleCard

/-- THE SECOND FORM's CARD OF 'hoardinglaw15.CondsTurned'. -/
def condsTurnedUptoCard : Claim7 := { stood := { row := condsTurnedUptoRow, standIns := [], harness := (true, "e20fa8f7f1003a04eff3e3d85bb2695a9d733300ffbda579c7a12ee5befc4f27"), looks := true }, kinds := [], alts := [], laidByText := true, laidKinds := [.data, .pinned], laidTests := true, laidLooks := .later }
def CondsTurnedUptoCardSaid : Prop := Claim7.holds Tryd.pinned (.plain (OpenSpec.upto condsTurnedSpec)) condsTurnedUptoCard

/-- THE SECOND FORM's CARD OF 'hoardinglaw15.CondsMorgan'. -/
def condsMorganUptoCard : Claim7 := { stood := { row := condsMorganUptoRow, standIns := [], harness := (true, "e20fa8f7f1003a04eff3e3d85bb2695a9d733300ffbda579c7a12ee5befc4f27"), looks := true }, kinds := [], alts := [], laidByText := true, laidKinds := [.data, .pinned], laidTests := true, laidLooks := .later }
def CondsMorganUptoCardSaid : Prop := Claim7.holds Tryd.pinned (.plain (OpenSpec.upto condsMorganSpec)) condsMorganUptoCard

/-- THE SECOND FORM's CARD OF 'hoardinglaw15.CondsCircle'. -/
def condsCircleUptoCard : Claim7 := { stood := { row := condsCircleUptoRow, standIns := [], harness := (true, "e20fa8f7f1003a04eff3e3d85bb2695a9d733300ffbda579c7a12ee5befc4f27"), looks := true }, kinds := [], alts := [], laidByText := true, laidKinds := [.data, .pinned], laidTests := true, laidLooks := .later }
def CondsCircleUptoCardSaid : Prop := Claim7.holds Tryd.pinned (.plain (OpenSpec.upto condsCircleSpec)) condsCircleUptoCard
end Rows
end Go.Proofs.YtmljdppdaaoehaaDoor
