/- The law RunesRead. -/
import Derived.Test.YtffamppgnooaeaaDoorRuRef4
import Derived.Test.YtffamppgnooaeaaDoorRuWakes
import Derived.StillTailTactics
import Derived.Deep.QuietTactic
import Derived.BigQuiet
namespace Go.Proofs.YtffamppgnooaeaaDoor
open Go.RowKit Go.Lib
set_option linter.unusedVariables false
set_option linter.unusedSimpArgs false

set_option maxRecDepth 100000 in
set_option maxHeartbeats 4000000 in
theorem runesRead_walk (w : World) (hv : Vars w) (b : ByteArray) (hb : b.size ≤ 9223372036854775807) (i : Int) (hi1 : -9223372036854775808 ≤ i) (hi2 : i ≤ 9223372036854775807) :
    Calls Tryd.prog 3 #[.string b, .int .i64 i] w (Yes w) := by
  have HV := Lib.hid hv
  clear hv
  by_cases hbig : 2000 < b.size
  · go_enter Tryd.func3, Tryd.ntmps3
    go_wp2_with fail
    refine (wakes_any _ HV.out).mono ?_
    rintro e w1 ⟨rfl, hb⟩
    have HB := Lib.hid hb
    clear hb
    go_wp2_with fail
    go_ret
    exact ⟨rfl, HB.out⟩
  have g1 : b.size ≤ 2000 := by omega
  clear hbig
  have HU1 := Lib.hid (unquote_any b i hi1 hi2 (by omega) w HV.out)
  obtain ⟨u, hu⟩ : ∃ u, unquoteL b.data.toList i = u := ⟨_, rfl⟩
  obtain ⟨u1, u2, u3⟩ := u
  have HU := Lib.hid hu
  clear hu
  go_enter Tryd.func3, Tryd.ntmps3
  go_wp2_with fail
  refine HU1.out.mono ?_
  rintro e w1 ⟨rfl, hb1⟩
  rw [HU.out]
  have HB1 := Lib.hid hb1
  have HV1 := Lib.hid (HV.out.below hb1)
  clear hb1 HU1
  simp only
  go_wp2_with fail
  refine (runquote_any b i hi1 hi2 (by omega) w1).mono ?_
  rintro e w2 ⟨rfl, hb2⟩
  rw [HU.out]
  have HB2 := Lib.hid (HB1.out.trans (hb2.mono HB1.out.size))
  have HV2 := Lib.hid (HV1.out.below hb2)
  clear hb2
  simp only
  go_wp2_with fail
  refine (wakes_any _ HV2.out).mono ?_
  rintro e w3 ⟨rfl, hb3⟩
  have HB3 := Lib.hid (HB2.out.trans (hb3.mono HB2.out.size))
  clear hb3
  go_wp2_with fail
  go_ret
  exact ⟨rfl, HB3.out⟩
end Go.Proofs.YtffamppgnooaeaaDoor
