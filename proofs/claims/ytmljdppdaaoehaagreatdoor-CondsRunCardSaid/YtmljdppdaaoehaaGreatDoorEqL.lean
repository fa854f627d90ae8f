/- strings.Compare, laid by hand at this program. -/
import Derived.Shelf.Small.Strs
import Derived.KernelRfl
import Derived.Test.YtmljdppdaaoehaaGreatDoorProg
namespace Go.Proofs.YtmljdppdaaoehaaGreatDoor
open Go.Shelf Go.RowKit
set_option linter.unusedVariables false

def renCmp : Go.Shelf.Ren := ⟨fun | 106 => 97 | 213 => 105 | 265 => 108 | n => n, fun | 3 => 3 | 9 => 9 | n => n, fun | n => n⟩
theorem layCmp : Go.Proofs.Lays.n106 Tryz.prog renCmp := {
  mixed := by kernel_rfl
  f106 := Tryz.func97.trans (congrArg some (by kernel_rfl))
  f213 := Tryz.func105.trans (congrArg some (by kernel_rfl))
  f265 := Tryz.func108.trans (congrArg some (by kernel_rfl))
  t3 := Tryz.underlying3
  a3 := Tryz.isAgg3
  z3 := Tryz.sizeOf3
  v3 := Tryz.zeroValue3
  t9 := Tryz.underlying9
  a9 := Tryz.isAgg9
  z9 := Tryz.sizeOf9
  v9 := Tryz.zeroValue9 }
theorem scmp_any (a b : ByteArray) (w : World) :
    Calls Tryz.prog 97 #[.string a, .string b] w fun e w' => e = .returned (.int .i64 (Lib.compareBytes a.data.toList b.data.toList)) ∧ w' = w := Any.strings_Compare layCmp a b w
end Go.Proofs.YtmljdppdaaoehaaGreatDoor
