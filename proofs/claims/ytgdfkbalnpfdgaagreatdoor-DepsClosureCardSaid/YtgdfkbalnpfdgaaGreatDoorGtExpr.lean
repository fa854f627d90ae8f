/- hoardingref12.weight, Great; hoardingref17.parts; hoardingref15.exprs: walks. -/
import Derived.Deep.LoopGhost
import Derived.Test.YtgdfkbalnpfdgaaGreatDoorTd
namespace Go.Proofs.YtgdfkbalnpfdgaaGreatDoor
open Go.RowKit
set_option linter.unusedVariables false
set_option linter.unusedSimpArgs false
def eS (l : List Ex) : Nat := (l.map fun y => 1 + y.l.length * 10000).sum
end Go.Proofs.YtgdfkbalnpfdgaaGreatDoor
