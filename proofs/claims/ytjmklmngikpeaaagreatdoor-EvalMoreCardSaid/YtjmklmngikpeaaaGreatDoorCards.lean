/-
  DERIVED. GIVEN WITH THE SEED: THE CARDS: each row of YtjmklmngikpeaaaGreatDoorRows.lean that lists a variable, with what it lists TIED to the program's text (the seventh form; the later family's looks); each row that meets fmt, with fmt's text TOLD by the authors' own Lean function (tested against real Go, not proved from fmt's source: count such statements apart). THE CARD IS WHAT COUNTS. Prove the row's statement (the work); the ties are given (YtjmklmngikpeaaaGreatDoorTie.lean); close each card by the builder's one call (the guide's Derived/Test/ToyasCard.lean, 'card_holds'). Laid BY PROGRAM, IN A SANDBOX (cutbox-door.mjs). By AI agents, Wed Nov 11 2026. No macro, syntax, notation, axiom, sorry.
-/
import Derived.Test.YtjmklmngikpeaaaGreatDoorRows
import GoSem.ClaimSeven
namespace Go.Proofs.YtjmklmngikpeaaaGreatDoor
namespace Rows

/-- THE TIED CARD OF 'hoardinglaw18.EvalMore'. -/
def evalMoreCard : Claim7 := { stood := { row := evalMoreRow, standIns := [], harness := (true, "98afc760e9a44db22882424b5ecc297d43bb8911b8da6d77a7ec3bfcc44b2f83"), looks := true }, kinds := [], alts := [], laidByText := true, laidKinds := [.data, .pinned], laidTests := true, laidLooks := .later }
def EvalMoreCardSaid : Prop := Claim7.holds Tryz.pinned (.plain (OpenSpec.ofChange evalMoreSpec)) evalMoreCard

/-- THE TIED CARD OF 'hoardinglaw18.EvalLongest'. -/
def evalLongestCard : Claim7 := { stood := { row := evalLongestRow, standIns := [], harness := (true, "98afc760e9a44db22882424b5ecc297d43bb8911b8da6d77a7ec3bfcc44b2f83"), looks := true }, kinds := [], alts := [], laidByText := true, laidKinds := [.data, .pinned], laidTests := true, laidLooks := .later }
def EvalLongestCardSaid : Prop := Claim7.holds Tryz.pinned (.plain (OpenSpec.ofChange evalLongestSpec)) evalLongestCard

/-- THE TIED CARD OF 'hoardinglaw18.EvalProps'. -/
def evalPropsCard : Claim7 := { stood := { row := evalPropsRow, standIns := [], harness := (true, "98afc760e9a44db22882424b5ecc297d43bb8911b8da6d77a7ec3bfcc44b2f83"), looks := true }, kinds := [], alts := [], laidByText := true, laidKinds := [.data, .pinned], laidTests := true, laidLooks := .later }
def EvalPropsCardSaid : Prop := Claim7.holds Tryz.pinned (.plain (OpenSpec.ofChange evalPropsSpec)) evalPropsCard

/-- THE SECOND FORM's CARD OF 'hoardinglaw18.EvalMore'. -/
def evalMoreUptoCard : Claim7 := { stood := { row := evalMoreUptoRow, standIns := [], harness := (true, "98afc760e9a44db22882424b5ecc297d43bb8911b8da6d77a7ec3bfcc44b2f83"), looks := true }, kinds := [], alts := [], laidByText := true, laidKinds := [.data, .pinned], laidTests := true, laidLooks := .later }
def EvalMoreUptoCardSaid : Prop := Claim7.holds Tryz.pinned (.plain (OpenSpec.upto evalMoreSpec)) evalMoreUptoCard

/-- THE SECOND FORM's CARD OF 'hoardinglaw18.EvalLongest'. -/
def evalLongestUptoCard : Claim7 := { stood := { row := evalLongestUptoRow, standIns := [], harness := (true, "98afc760e9a44db22882424b5ecc297d43bb8911b8da6d77a7ec3bfcc44b2f83"), looks := true }, kinds := [], alts := [], laidByText := true, laidKinds := [.data, .pinned], laidTests := true, laidLooks := .later }
def EvalLongestUptoCardSaid : Prop := Claim7.holds Tryz.pinned (.plain (OpenSpec.upto evalLongestSpec)) evalLongestUptoCard

/-- THE SECOND FORM's CARD OF 'hoardinglaw18.EvalProps'. -/
def evalPropsUptoCard : Claim7 := { stood := { row := evalPropsUptoRow, standIns := [], harness := (true, "98afc760e9a44db22882424b5ecc297d43bb8911b8da6d77a7ec3bfcc44b2f83"), looks := true }, kinds := [], alts := [], laidByText := true, laidKinds := [.data, .pinned], laidTests := true, laidLooks := .later }
def EvalPropsUptoCardSaid : Prop := Claim7.holds Tryz.pinned (.plain (OpenSpec.upto evalPropsSpec)) evalPropsUptoCard
end Rows
end Go.Proofs.YtjmklmngikpeaaaGreatDoor
