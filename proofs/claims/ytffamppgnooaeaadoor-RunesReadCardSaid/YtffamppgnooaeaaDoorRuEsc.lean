/- runes.escape. -/
import Derived.Test.YtffamppgnooaeaaDoorRuFour
import Derived.OneCell
import Derived.RangeFuncBox
namespace Go.Proofs.YtffamppgnooaeaaDoor
open Go.RowKit
set_option linter.unusedVariables false
set_option linter.unusedSimpArgs false

theorem boxBel {W W' : World} {b : Nat} {t : TypeId} {v : Value} (h : Boxed W b t v) (hb : Below W.heap.size W W') : Boxed W' b t v := (hb.block b h.lt).trans h
def halfL (l : List UInt8) (i lo hi : Nat) : Nat × Bool :=
  if l.length ≤ i + 1 ∨ nb l i ≠ 92 ∨ nb l (i + 1) ≠ 117 then (0, false) else match fourL l (i + 2) with | none => (0, false) | some r => (r, decide (lo ≤ r) && decide (r ≤ hi))
def HalfP (l : List UInt8) (i lo hi : Nat) (w : World) (e : Ending) (w' : World) : Prop := e = .returned (.tuple #[.int .i32 ((halfL l i lo hi).1 : Nat), .bool (halfL l i lo hi).2]) ∧ Below w.heap.size w w'
set_option maxRecDepth 100000 in
set_option maxHeartbeats 4000000 in
theorem half_any (b : ByteArray) (p : Nat) (i lo hi : Nat) (hb : b.size ≤ 30000) (hi' : i ≤ 30990) (hlo : lo ≤ 65535) (hhi : hi ≤ 65535) (w : World) (hp : Boxed w p 9 (.string b)) (hv : Vars w) :
    Calls Tryd.prog 23 #[.int .i64 (i : Nat), .int .i32 (lo : Nat), .int .i32 (hi : Nat), .pointer (some ⟨p, 0, none⟩)] w (HalfP b.data.toList i lo hi w) := by
  have c1 := hp.cell
  have HSZ := Lib.hid (Lib.size_eq b)
  have HV := Lib.hid hv
  clear hp hv
  by_cases hlen : b.size ≤ i + 1
  · have HH := Lib.hid (show halfL b.data.toList i lo hi = (0, false) by unfold halfL; rw [if_pos (.inl (by have := HSZ.out; omega))])
    go_enter Tryd.func23, Tryd.ntmps23
    go_wp2_with fail
    go_ret2
    refine ⟨?_, Below.refl _ _⟩
    rw [HH.out]; rfl
  · have hlt0 : i < b.size := by omega
    have hlt1 : i + 1 < b.size := by omega
    obtain ⟨x, hx⟩ : ∃ x, b[i] = x := ⟨_, rfl⟩
    obtain ⟨y, hy⟩ : ∃ y, b[i + 1] = y := ⟨_, rfl⟩
    have HX : Hid (nb b.data.toList i = x.toNat) := Lib.hid (by unfold nb; rw [List.getD_eq_getElem?_getD, Lib.data_getElem? b i hlt0, hx]; rfl)
    have HY : Hid (nb b.data.toList (i + 1) = y.toNat) := Lib.hid (by unfold nb; rw [List.getD_eq_getElem?_getD, Lib.data_getElem? b (i + 1) hlt1, hy]; rfl)
    by_cases hx92 : x.toNat = 92
    · have hxz : ((x.toNat : Int) != 92) = false := by simp [hx92]
      by_cases hy117 : y.toNat = 117
      · have hyz : ((y.toNat : Int) != 117) = false := by simp [hy117]
        have HH := Lib.hid (show halfL b.data.toList i lo hi = (match fourL b.data.toList (i + 2) with | none => (0, false) | some r => (r, decide (lo ≤ r) && decide (r ≤ hi))) by
          unfold halfL; rw [if_neg (by have := HSZ.out; rw [HX.out, HY.out]; omega)])
        have HX9 := Lib.hid hx92
        have HY9 := Lib.hid hy117
        clear hx92 hy117
        go_enter Tryd.func23, Tryd.ntmps23
        go_wp2_with fail
        refine (four_any b (i + 2) hb (by omega) _ HV.out).mono ?_
        rintro e w1 ⟨rfl, hb1⟩
        have HB1 := Lib.hid hb1
        clear hb1
        cases hf : fourL b.data.toList (i + 2) with
        | none =>
          rw [hf] at HH
          simp only [Option.getD_none, Option.isSome_none]
          clear hf
          go_wp2_with fail
          go_ret2
          refine ⟨?_, HB1.out⟩
          rw [HH.out]; rfl
        | some r =>
          rw [hf] at HH
          have hr := fourL_lt hf
          simp only [Option.getD_some, Option.isSome_some]
          clear hf
          by_cases q1 : lo ≤ r
          · by_cases q2 : r ≤ hi
            · go_wp2_with fail
              go_ret2
              refine ⟨?_, HB1.out⟩
              rw [HH.out]; simp [q1, q2]
            · go_wp2_with fail
              go_ret2
              refine ⟨?_, HB1.out⟩
              rw [HH.out]; simp [q1, q2]
          · go_wp2_with fail
            go_ret2
            refine ⟨?_, HB1.out⟩
            rw [HH.out]; simp [q1]
      · have hyz : ((y.toNat : Int) != 117) = true := by simp; omega
        have HH := Lib.hid (show halfL b.data.toList i lo hi = (0, false) by unfold halfL; rw [if_pos (.inr (.inr (by rw [HY.out]; exact hy117)))])
        clear hx92 hy117
        go_enter Tryd.func23, Tryd.ntmps23
        go_wp2_with fail
        go_ret2
        refine ⟨?_, Below.refl _ _⟩
        rw [HH.out]; rfl
    · have hxz : ((x.toNat : Int) != 92) = true := by simp; omega
      have HH := Lib.hid (show halfL b.data.toList i lo hi = (0, false) by unfold halfL; rw [if_pos (.inr (.inl (by rw [HX.out]; exact hx92)))])
      clear hx92
      go_enter Tryd.func23, Tryd.ntmps23
      go_wp2_with fail
      go_ret2
      refine ⟨?_, Below.refl _ _⟩
      rw [HH.out]; rfl
end Go.Proofs.YtffamppgnooaeaaDoor
