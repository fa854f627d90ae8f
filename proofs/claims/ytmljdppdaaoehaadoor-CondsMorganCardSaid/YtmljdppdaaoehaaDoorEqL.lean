/- strings.Compare, laid by hand at this program. -/
import Derived.Shelf.Small.Strs
import Derived.KernelRfl
import Derived.Test.YtmljdppdaaoehaaDoorProg
namespace Go.Proofs.YtmljdppdaaoehaaDoor
open Go.Shelf Go.RowKit
set_option linter.unusedVariables false

def renCmp : Go.Shelf.Ren := ⟨fun | 106 => 67 | 213 => 76 | 265 => 79 | n => n, fun | 3 => 3 | 9 => 9 | n => n, fun | n => n⟩
theorem layCmp : Go.Proofs.Lays.n106 Tryd.prog renCmp := {
  mixed := by kernel_rfl
  f106 := Tryd.func67.trans (congrArg some (by kernel_rfl))
  f213 := Tryd.func76.trans (congrArg some (by kernel_rfl))
  f265 := Tryd.func79.trans (congrArg some (by kernel_rfl))
  t3 := Tryd.underlying3
  a3 := Tryd.isAgg3
  z3 := Tryd.sizeOf3
  v3 := Tryd.zeroValue3
  t9 := Tryd.underlying9
  a9 := Tryd.isAgg9
  z9 := Tryd.sizeOf9
  v9 := Tryd.zeroValue9 }
theorem scmp_any (a b : ByteArray) (w : World) :
    Calls Tryd.prog 67 #[.string a, .string b] w fun e w' => e = .returned (.int .i64 (Lib.compareBytes a.data.toList b.data.toList)) ∧ w' = w := Any.strings_Compare layCmp a b w
end Go.Proofs.YtmljdppdaaoehaaDoor
