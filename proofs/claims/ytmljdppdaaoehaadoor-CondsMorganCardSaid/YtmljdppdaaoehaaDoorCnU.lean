/- Contracts of the library (unicode/utf8), laid by hand at this program. -/
import Derived.Shelf.Unicode.ValidAny
import Derived.KernelRfl
import Derived.Test.YtmljdppdaaoehaaDoorProg
namespace Go.Proofs.YtmljdppdaaoehaaDoor
open Go.Shelf Go.RowKit
set_option linter.unusedVariables false

def ren196 : Go.Shelf.Ren := ⟨fun | 196 => 58 | 259 => 68 | n => n, fun | 0 => 0 | 3 => 3 | 4 => 4 | 5 => 5 | 9 => 9 | 12 => 12 | 46 => 112 | 53 => 116 | 119 => 108 | 138 => 110 | 139 => 111 | n => n, fun | 3 => 0 | 4 => 1 | n => n⟩
theorem lay196 : Go.Proofs.Lays.n196 Tryd.prog ren196 := {
  mixed := by kernel_rfl
  f196 := Tryd.func58.trans (congrArg some (by kernel_rfl))
  f259 := Tryd.func68.trans (congrArg some (by kernel_rfl))
  g3 := by kernel_rfl
  g4 := by kernel_rfl
  t0 := Tryd.underlying0
  a0 := Tryd.isAgg0
  z0 := Tryd.sizeOf0
  v0 := Tryd.zeroValue0
  t3 := Tryd.underlying3
  a3 := Tryd.isAgg3
  z3 := Tryd.sizeOf3
  v3 := Tryd.zeroValue3
  t4 := Tryd.underlying4
  a4 := Tryd.isAgg4
  z4 := Tryd.sizeOf4
  v4 := Tryd.zeroValue4
  t5 := Tryd.underlying5
  a5 := Tryd.isAgg5
  z5 := Tryd.sizeOf5
  v5 := Tryd.zeroValue5
  t9 := Tryd.underlying9
  a9 := Tryd.isAgg9
  z9 := Tryd.sizeOf9
  v9 := Tryd.zeroValue9
  t12 := Tryd.underlying12
  a12 := Tryd.isAgg12
  z12 := Tryd.sizeOf12
  v12 := Tryd.zeroValue12
  t46 := Tryd.underlying112
  a46 := Tryd.isAgg112
  z46 := Tryd.sizeOf112
  v46 := Tryd.zeroValue112
  t53 := Tryd.underlying116
  a53 := Tryd.isAgg116
  z53 := Tryd.sizeOf116
  v53 := Tryd.zeroValue116
  t119 := Tryd.underlying108
  a119 := Tryd.isAgg108
  z119 := Tryd.sizeOf108
  t138 := Tryd.underlying110
  a138 := Tryd.isAgg110
  z138 := Tryd.sizeOf110
  v138 := Tryd.zeroValue110
  t139 := Tryd.underlying111
  a139 := Tryd.isAgg111
  z139 := Tryd.sizeOf111
  v139 := Tryd.zeroValue111 }
/-- the library's tables -/
abbrev U8 (w : World) : Prop := Lib.Utf8Tabs 0 1 w
theorem valid_any (s : ByteArray) (w : World) (hs : s.size ≤ 9223372036854775807) (hT : U8 w) :
    Calls Tryd.prog 58 #[.string s] w fun e w' => e = .returned (.bool (Lib.validD s.data.toList)) ∧ Below w.heap.size w w' := Any.utf8_ValidString lay196 s w hs hT
end Go.Proofs.YtmljdppdaaoehaaDoor
