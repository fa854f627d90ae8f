/- Contracts of the library (unicode/utf8), laid by hand at this program. -/
import Derived.Shelf.Unicode.ValidAny
import Derived.KernelRfl
import Derived.Test.YtgdfkbalnpfdgaaGreatDoorProg
namespace Go.Proofs.YtgdfkbalnpfdgaaGreatDoor
open Go.Shelf Go.RowKit
set_option linter.unusedVariables false
def ren196 : Go.Shelf.Ren := ⟨fun | 196 => 153 | 259 => 171 | n => n, fun | 0 => 0 | 3 => 3 | 4 => 4 | 5 => 5 | 9 => 9 | 12 => 12 | 46 => 150 | 53 => 193 | 119 => 244 | 138 => 246 | 139 => 247 | n => n, fun | 3 => 0 | 4 => 1 | n => n⟩
theorem lay196 : Go.Proofs.Lays.n196 Tryz.prog ren196 := {
 mixed := by kernel_rfl
 f196 := Tryz.func153.trans (congrArg some (by kernel_rfl))
 f259 := Tryz.func171.trans (congrArg some (by kernel_rfl))
 g3 := by kernel_rfl
 g4 := by kernel_rfl
 t0 := Tryz.underlying0
 a0 := Tryz.isAgg0
 z0 := Tryz.sizeOf0
 v0 := Tryz.zeroValue0
 t3 := Tryz.underlying3
 a3 := Tryz.isAgg3
 z3 := Tryz.sizeOf3
 v3 := Tryz.zeroValue3
 t4 := Tryz.underlying4
 a4 := Tryz.isAgg4
 z4 := Tryz.sizeOf4
 v4 := Tryz.zeroValue4
 t5 := Tryz.underlying5
 a5 := Tryz.isAgg5
 z5 := Tryz.sizeOf5
 v5 := Tryz.zeroValue5
 t9 := Tryz.underlying9
 a9 := Tryz.isAgg9
 z9 := Tryz.sizeOf9
 v9 := Tryz.zeroValue9
 t12 := Tryz.underlying12
 a12 := Tryz.isAgg12
 z12 := Tryz.sizeOf12
 v12 := Tryz.zeroValue12
 t46 := Tryz.underlying150
 a46 := Tryz.isAgg150
 z46 := Tryz.sizeOf150
 v46 := Tryz.zeroValue150
 t53 := Tryz.underlying193
 a53 := Tryz.isAgg193
 z53 := Tryz.sizeOf193
 v53 := Tryz.zeroValue193
 t119 := Tryz.underlying244
 a119 := Tryz.isAgg244
 z119 := Tryz.sizeOf244
 t138 := Tryz.underlying246
 a138 := Tryz.isAgg246
 z138 := Tryz.sizeOf246
 v138 := Tryz.zeroValue246
 t139 := Tryz.underlying247
 a139 := Tryz.isAgg247
 z139 := Tryz.sizeOf247
 v139 := Tryz.zeroValue247 }
abbrev U8 (w : World) : Prop := Lib.Utf8Tabs 0 1 w
theorem valid_any (s : ByteArray) (w : World) (hs : s.size ≤ 9223372036854775807) (hT : U8 w) :
 Calls Tryz.prog 153 #[.string s] w fun e w' => e = .returned (.bool (Lib.validD s.data.toList)) ∧ Below w.heap.size w w' := Any.utf8_ValidString lay196 s w hs hT
end Go.Proofs.YtgdfkbalnpfdgaaGreatDoor
