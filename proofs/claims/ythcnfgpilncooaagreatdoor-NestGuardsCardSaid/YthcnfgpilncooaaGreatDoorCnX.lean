/- runes.Valid, as the conditions ask for it. -/
import Derived.Test.YthcnfgpilncooaaGreatDoorCnU
import Derived.Test.YthcnfgpilncooaaGreatDoorCn8
import Derived.Test.YthcnfgpilncooaaGreatDoorRows
import Derived.PinnedBridge
import Derived.Lib.LaidU8T
import Derived.Lay
import Derived.LaidOnce
import Derived.KernelRfl
namespace Go.Proofs.YthcnfgpilncooaaGreatDoor
open Go.Shelf Go.RowKit Go.Lib
set_option linter.unusedVariables false
set_option linter.unusedSimpArgs false

theorem U8.below {w w' : World} (h : U8 w) (hb : Below w.heap.size w w') : U8 w' := Utf8Tabs_below h hb
theorem rvalid_any (s : ByteArray) (w : World) (hs : s.size ≤ 9223372036854775807) (hT : U8 w) :
    Calls Tryz.prog 67 #[.string s] w (BoolB (Lib.validD s.data.toList) w) := by
  have HV := Lib.hid (valid_any s w hs hT)
  obtain ⟨v, hv⟩ : ∃ v, Lib.validD s.data.toList = v := ⟨_, rfl⟩
  rw [hv] at HV ⊢
  clear hT hv
  go_enter Tryz.func67, Tryz.ntmps67
  go_wp2_with fail
  refine HV.out.mono ?_
  rintro e w1 ⟨rfl, hb⟩
  have HB := Lib.hid hb
  clear hb
  go_wp2_with fail
  go_ret
  exact ⟨rfl, HB.out⟩
theorem VOk.of_u8 {w : World} (h : U8 w) : VOk w := fun s w' hs hb => rvalid_any s w' (by omega) (h.below hb)
set_option maxRecDepth 100000 in
theorem accept_eq : (Rows.laid_unicode_utf8_acceptRanges : DataW Unit) = Lib.acceptData := by kernel_rfl
set_option maxRecDepth 100000 in
theorem u8_of_laid {w : World} (h : laidMet Tryz.prog Rows.nestGuardsRow.laid w) : U8 w := by
  exact utf8Tabs_of_readsT (U8Types.of196 lay196) ⟨by kernel_rfl, by kernel_rfl, by kernel_rfl, by kernel_rfl, by kernel_rfl, by kernel_rfl, by kernel_rfl⟩
      (Pinned.utf8First_eq ▸ Lib.laidMet.reads h (.tail _ (.head _))) (accept_eq ▸ Lib.laidMet.reads h (.head _))
end Go.Proofs.YthcnfgpilncooaaGreatDoor
