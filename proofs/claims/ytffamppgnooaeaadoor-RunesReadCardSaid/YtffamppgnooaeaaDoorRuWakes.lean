/- hoardinglaw01.wakes. -/
import Derived.Test.YtffamppgnooaeaaDoorRuUnq
namespace Go.Proofs.YtffamppgnooaeaaDoor
open Go.RowKit Go.Lib
set_option linter.unusedVariables false
set_option linter.unusedSimpArgs false

def Yes (w : World) (e : Ending) (w' : World) : Prop := e = .returned (.bool true) ∧ Below w.heap.size w w'
theorem qw : quoteR [97, 10] = ([34, 97, 92, 110, 34], 0) := by
  unfold quoteR
  rw [if_pos (by rw [validD_cons _ _ (by decide), validD_cons _ _ (by decide)]; rfl)]
  decide
theorem uw : unquoteL [34, 92, 117, 48, 48, 52, 49, 34] 0 = ([65], 8, 0) := by
  unfold unquoteL
  rw [if_neg (by decide), if_neg (by decide)]
  have h1 : unqL [92, 117, 48, 48, 52, 49, 34] [] 1 = ([65], 8, 0) := by
    rw [unqL_step _ _ _ (by decide), if_neg (by decide), if_pos (by decide)]
    have he : escL [92, 117, 48, 48, 52, 49, 34] = ([65], 6) := by decide
    rw [he, if_neg (by decide)]
    rw [unqL_step _ _ _ (by decide), if_pos (by decide)]
    rfl
  show ((unqL [92, 117, 48, 48, 52, 49, 34] [] 1).1, _, _) = _
  rw [h1]
  rfl
set_option maxRecDepth 100000 in
set_option maxHeartbeats 1000000 in
theorem wakes_any (w : World) (hv : Vars w) : Calls Tryd.prog 7 #[] w (Yes w) := by
  have HV := Lib.hid hv
  have HQ := Lib.hid (quote_any ⟨#[97, 10]⟩ w (by decide) hv.u8)
  clear hv
  go_enter Tryd.func7, Tryd.ntmps7
  go_wp2_with fail
  refine HQ.out.mono ?_
  rintro e w1 ⟨rfl, hb1⟩
  have HB1 := Lib.hid hb1
  have HU := Lib.hid (unquote_any ⟨#[34, 92, 117, 48, 48, 52, 49, 34]⟩ 0 (by omega) (by omega) (by decide) w1 (HV.out.below hb1))
  rw [show quoteR (ByteArray.mk #[97, 10]).data.toList = ([34, 97, 92, 110, 34], 0) from qw]
  clear hb1 HQ
  go_wp2_with fail
  refine HU.out.mono ?_
  rintro e w2 ⟨rfl, hb2⟩
  have HB2 := Lib.hid (HB1.out.trans (hb2.mono HB1.out.size))
  rw [show unquoteL (ByteArray.mk #[34, 92, 117, 48, 48, 52, 49, 34]).data.toList 0 = ([65], 8, 0) from uw]
  clear hb2 HU
  go_wp2_with fail
  go_ret
  exact ⟨rfl, HB2.out⟩
end Go.Proofs.YtffamppgnooaeaaDoor
