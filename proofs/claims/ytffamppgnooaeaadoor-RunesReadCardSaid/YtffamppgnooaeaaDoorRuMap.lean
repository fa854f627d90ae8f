/- runes.short: the map of letters. -/
import Derived.Test.YtffamppgnooaeaaDoorRuShelf
import Derived.Test.YtffamppgnooaeaaDoorRuPlain5
import Derived.Maps.Own
import Derived.Maps.RangeWalk
import Derived.Maps.OwnOps
import Derived.WalkKit
import Derived.Below
import Derived.Outline
import Derived.Lib.Hide
namespace Go.Proofs.YtffamppgnooaeaaDoor
open Go.RowKit Go.Maps
set_option linter.unusedVariables false
set_option linter.unusedSimpArgs false

theorem ku8 : Keyed Tryd.prog 5 := int_keyed Tryd.underlying5
/-- an entry of a map's literal -/
theorem wpList_insert_own {H : Type} {P : Program} (w : World) {ops : Array Oper} {rest : List Oper} {o : Oper} {a : Act} {Q : Exit → Act → World → Prop}
    (hg : o.guard = none) (m x v : Operand) (t : TypeId) (hop : o.op = Op.insert t m x v)
    (k e : TypeId) (K : Keyed P k) (ht : P.underlying t = some (.map k e)) (R : Value → Option (DataW H × List MemPlace)) (b n : Nat) (D : DataW H)
    (hm : a.eval m = .map (some b)) (hown : w.ownsMap P k R b n D) (hn : n < maxLen) (key val : Value) (kl : Lit) (hx : a.eval x = key) (hv : a.eval v = val) (hkey : keyOf P k key = some kl)
    (d : DataW H) (ps : List MemPlace) (hval : R val = some (d, ps))
    (hK : ∀ w', w'.ownsMap P k R b (n + 1) (D.put kl d) → w.grownBy w' (some b) → wpList P ops Q rest (a.put o.dst undef) w') :
    wpList P ops Q (o :: rest) a w := by
  refine wpList_plain hg fun K' hK' => ?_
  obtain ⟨w', hrun, r1, r2⟩ := hown.update K ht hn hkey hval
  unfold Oper.wp
  simp [execOp, hop, hm, hx, hv, hrun, Result.andThen]
  exact hK' _ _ (hK w' r1 r2)
def li (c : Nat) : Lit := .int .u8 (c : Int)
def dl (c : Nat) : DataW Unit := .lit (li c)
/-- what short reads as -/
def shortD : DataW Unit := (((((((DataW.map []).put (li 34) (dl 34)).put (li 92) (dl 92)).put (li 8) (dl 98)).put (li 9) (dl 116)).put (li 10) (dl 110)).put (li 12) (dl 102)).put (li 13) (dl 114)
/-- short's map in block b -/
abbrev Sh (b : Nat) (w : World) : Prop := w.ownsMap Tryd.prog 5 (plainElem Tryd.prog 5) b 7 shortD
theorem u8key {c : Int} (h1 : 0 ≤ c) (h2 : c < 256) : keyOf Tryd.prog 5 (.int .u8 c) = some (.int .u8 c) := keyOf_int_mk Tryd.underlying5 (WalkArith.wf_u8 ⟨h1, by omega⟩)
theorem u8elem {c : Int} (h1 : 0 ≤ c) (h2 : c < 256) : plainElem (H := Unit) Tryd.prog 5 (.int .u8 c) = some (.lit (.int .u8 c), []) := plainElem_int Tryd.underlying5 (WalkArith.wf_u8 ⟨h1, by omega⟩)
set_option maxRecDepth 100000 in
set_option maxHeartbeats 1000000 in
theorem short_any (w : World) : Calls Tryd.prog 19 #[] w fun e w' => e = .returned (.map (some w.heap.size)) ∧ Sh w.heap.size w' ∧ Below w.heap.size w w' := by
  have hmm := @run_makeMap Tryd.prog
  go_enter Tryd.func19, Tryd.ntmps19
  go_wp2_with (first
    | (with_reducible refine wpList_insert_own _ rfl (.tmp 1) (.const (.int .u8 34)) (.const (.int .u8 34)) 49 rfl 5 5 ku8 Tryd.underlying49 (plainElem Tryd.prog 5) w.heap.size 0 _ rfl (World.ownsMap_made w Tryd.prog 5 (plainElem (H := Unit) Tryd.prog 5)) (by simp [maxLen]) (.int .u8 34) (.int .u8 34) (li 34) rfl rfl (u8key (by omega) (by omega)) (dl 34) [] (u8elem (by omega) (by omega)) ?_; intro w1 h1 g1; have H1 := Lib.hid h1; have B1 := Lib.hid (Below.grown ((Below.refl _ w).alloc (Nat.le_refl _) (.map #[] 0)) g1 (Below.size ((Below.refl _ w).alloc (Nat.le_refl _) (.map #[] 0))) (fun k e => by injection e with e; omega)); clear h1 g1)
    | (with_reducible refine wpList_insert_own _ rfl (.tmp 1) (.const (.int .u8 92)) (.const (.int .u8 92)) 49 rfl 5 5 ku8 Tryd.underlying49 (plainElem Tryd.prog 5) w.heap.size 1 _ rfl H1.out (by simp [maxLen]) (.int .u8 92) (.int .u8 92) (li 92) rfl rfl (u8key (by omega) (by omega)) (dl 92) [] (u8elem (by omega) (by omega)) ?_; intro w2 h2 g2; have H2 := Lib.hid h2; have B2 := Lib.hid (Below.grown B1.out g2 (Below.size B1.out) (fun k e => by injection e with e; omega)); clear h2 g2)
    | (with_reducible refine wpList_insert_own _ rfl (.tmp 1) (.const (.int .u8 8)) (.const (.int .u8 98)) 49 rfl 5 5 ku8 Tryd.underlying49 (plainElem Tryd.prog 5) w.heap.size 2 _ rfl H2.out (by simp [maxLen]) (.int .u8 8) (.int .u8 98) (li 8) rfl rfl (u8key (by omega) (by omega)) (dl 98) [] (u8elem (by omega) (by omega)) ?_; intro w3 h3 g3; have H3 := Lib.hid h3; have B3 := Lib.hid (Below.grown B2.out g3 (Below.size B2.out) (fun k e => by injection e with e; omega)); clear h3 g3)
    | (with_reducible refine wpList_insert_own _ rfl (.tmp 1) (.const (.int .u8 9)) (.const (.int .u8 116)) 49 rfl 5 5 ku8 Tryd.underlying49 (plainElem Tryd.prog 5) w.heap.size 3 _ rfl H3.out (by simp [maxLen]) (.int .u8 9) (.int .u8 116) (li 9) rfl rfl (u8key (by omega) (by omega)) (dl 116) [] (u8elem (by omega) (by omega)) ?_; intro w4 h4 g4; have H4 := Lib.hid h4; have B4 := Lib.hid (Below.grown B3.out g4 (Below.size B3.out) (fun k e => by injection e with e; omega)); clear h4 g4)
    | (with_reducible refine wpList_insert_own _ rfl (.tmp 1) (.const (.int .u8 10)) (.const (.int .u8 110)) 49 rfl 5 5 ku8 Tryd.underlying49 (plainElem Tryd.prog 5) w.heap.size 4 _ rfl H4.out (by simp [maxLen]) (.int .u8 10) (.int .u8 110) (li 10) rfl rfl (u8key (by omega) (by omega)) (dl 110) [] (u8elem (by omega) (by omega)) ?_; intro w5 h5 g5; have H5 := Lib.hid h5; have B5 := Lib.hid (Below.grown B4.out g5 (Below.size B4.out) (fun k e => by injection e with e; omega)); clear h5 g5)
    | (with_reducible refine wpList_insert_own _ rfl (.tmp 1) (.const (.int .u8 12)) (.const (.int .u8 102)) 49 rfl 5 5 ku8 Tryd.underlying49 (plainElem Tryd.prog 5) w.heap.size 5 _ rfl H5.out (by simp [maxLen]) (.int .u8 12) (.int .u8 102) (li 12) rfl rfl (u8key (by omega) (by omega)) (dl 102) [] (u8elem (by omega) (by omega)) ?_; intro w6 h6 g6; have H6 := Lib.hid h6; have B6 := Lib.hid (Below.grown B5.out g6 (Below.size B5.out) (fun k e => by injection e with e; omega)); clear h6 g6)
    | (with_reducible refine wpList_insert_own _ rfl (.tmp 1) (.const (.int .u8 13)) (.const (.int .u8 114)) 49 rfl 5 5 ku8 Tryd.underlying49 (plainElem Tryd.prog 5) w.heap.size 6 _ rfl H6.out (by simp [maxLen]) (.int .u8 13) (.int .u8 114) (li 13) rfl rfl (u8key (by omega) (by omega)) (dl 114) [] (u8elem (by omega) (by omega)) ?_; intro w7 h7 g7; have H7 := Lib.hid h7; have B7 := Lib.hid (Below.grown B6.out g7 (Below.size B6.out) (fun k e => by injection e with e; omega)); clear h7 g7))
  go_ret
  exact ⟨rfl, H7.out, B7.out⟩
end Go.Proofs.YtffamppgnooaeaaDoor
