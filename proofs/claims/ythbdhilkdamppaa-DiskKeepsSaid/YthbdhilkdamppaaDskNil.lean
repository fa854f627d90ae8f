/- wakes; the law DiskNil. -/
import Derived.Test.YthbdhilkdamppaaDskSimple
import Derived.Test.YthbdhilkdamppaaOpenAct
namespace Go.Proofs.Ythbdhilkdamppaa
open Go.RowKit
set_option linter.unusedVariables false
set_option linter.unusedSimpArgs false

set_option maxHeartbeats 1000000 in
theorem wakes_any (w : World) : Calls Try.prog 7 #[] w (Yes w) := by
  go_enter Try.func7, Try.ntmps7
  go_wp2_with fail
  refine (dnew_any _).mono ?_
  rintro e w1 ⟨rfl, hb1, hk1⟩
  have HB1 := Lib.hid hb1
  have HK1 := Lib.hid hk1
  clear hb1 hk1
  go_wp2_with fail
  have hr : ∀ W : World, Rd (W.alloc (.cells #[.int .u8 1, .int .u8 2, .int .u8 3] 5)) 1 (some ⟨W.heap.size, 0, none⟩) 3 3 (bv [1, 2, 3]) := fun W => Rd.lit W 1 3 #[.int .u8 1, .int .u8 2, .int .u8 3] _ _ rfl (by simp [maxLen])
  have hka := HK1.out.below ((Below.refl _ w1).alloc (Nat.le_refl _) (.cells #[.int .u8 1, .int .u8 2, .int .u8 3] 5))
  refine (dappend_any w.heap.size _ w.heap.size none DS.new _ 3 3 [1, 2, 3] hka (hr _)).mono ?_
  rintro e w2 ⟨rfl, hS⟩
  rw [show (dAppend DS.new [1, 2, 3]).1 = 0 from rfl]
  have hs2 := hS.below hka
  obtain ⟨r2, hk2, -⟩ := hS.dk
  have HB2 := Lib.hid ((HB1.out.alloc HB1.out.size _).trans hs2)
  have HK2 := Lib.hid (show Dk 44 w.heap.size w2 w.heap.size r2 ⟨[1, 2, 3], false, false, 0⟩ from hk2)
  clear hr hka hS hs2 hk2
  go_wp2_with fail
  refine (darm_any w.heap.size _ w.heap.size r2 _ 1 (by decide) HK2.out).mono ?_
  rintro e w3 ⟨rfl, hS⟩
  have hs3 := hS.below HK2.out
  obtain ⟨r3, hk3, -⟩ := hS.dk
  rw [show (dArm ⟨[1, 2, 3], false, false, 0⟩ 1).1 = 0 from rfl]
  have HB3 := Lib.hid (HB2.out.trans hs3)
  have HK3 := Lib.hid (show Dk 44 w.heap.size w3 w.heap.size r3 ⟨[1, 2, 3], false, true, 1⟩ from hk3)
  clear hS hs3 hk3
  go_wp2_with fail
  have hr : ∀ W : World, Rd (W.alloc (.cells #[.int .u8 4, .int .u8 5] 5)) 1 (some ⟨W.heap.size, 0, none⟩) 2 2 (bv [4, 5]) := fun W => Rd.lit W 1 2 #[.int .u8 4, .int .u8 5] _ _ rfl (by simp [maxLen])
  have hka := HK3.out.below ((Below.refl _ w3).alloc (Nat.le_refl _) (.cells #[.int .u8 4, .int .u8 5] 5))
  refine (dappend_any w.heap.size _ w.heap.size r3 _ _ 2 2 [4, 5] hka (hr _)).mono ?_
  rintro e w4 ⟨rfl, hS⟩
  rw [show (dAppend ⟨[1, 2, 3], false, true, 1⟩ [4, 5]).1 = 60 from rfl]
  have hs4 := hS.below hka
  obtain ⟨r4, hk4, -⟩ := hS.dk
  have HB4 := Lib.hid ((HB3.out.alloc HB3.out.size _).trans hs4)
  have HK4 := Lib.hid (show Dk 44 w.heap.size w4 w.heap.size r4 ⟨[1, 2, 3, 4], true, false, 1⟩ from hk4)
  clear hr hka hS hs4 hk4
  go_wp2_with fail
  refine (dup_any w.heap.size _ w.heap.size r4 _ HK4.out).mono ?_
  rintro e w5 ⟨rfl, hS⟩
  have hs5 := hS.below HK4.out
  obtain ⟨r5, hk5, -⟩ := hS.dk
  rw [show (dUp ⟨[1, 2, 3, 4], true, false, 1⟩).1 = 0 from rfl]
  have HB5 := Lib.hid (HB4.out.trans hs5)
  have HK5 := Lib.hid (show Dk 44 w.heap.size w5 w.heap.size r5 ⟨[1, 2, 3, 4], false, false, 1⟩ from hk5)
  clear hS hs5 hk5
  go_wp2_with fail
  refine (dbytes_any w.heap.size _ w.heap.size r5 _ HK5.out).mono ?_
  rintro e w6 ⟨hb6, -, h6⟩
  obtain ⟨A, c, rfl, ho⟩ := h6 rfl
  have ho : Ow w6 w5.heap.size 5 1 A 4 c (bv [1, 2, 3, 4]) := ho
  have hs := run_str (P := Try.prog) w6 23 5 9 Try.underlying23 Try.underlying5 Try.underlying9 (l := [1, 2, 3, 4]) ho.rd
  have HB6 := Lib.hid (HB5.out.trans (hb6.mono HB5.out.size))
  clear hb6 h6 ho
  go_wp2_with fail
  go_ret
  exact ⟨rfl, HB6.out⟩

set_option maxRecDepth 100000 in
set_option maxHeartbeats 2000000 in
theorem diskNil_walk (w : World) (x : AV) (hx : AVFits w x) :
    Calls Try.prog 5 #[.agg x.cs] w (Yes w) := by
  obtain ⟨d, A, c, l, k⟩ := x
  obtain ⟨n, hn⟩ : ∃ n, l.length = n := ⟨_, rfl⟩
  simp only [AV.cs]
  rw [hn]
  clear hn hx
  by_cases hn : 1048576 < n
  · go_enter Try.func5, Try.ntmps5
    go_wp2_with (go_at_call 7; refine (wakes_any _).mono ?_; rintro e w1 ⟨rfl, HB⟩)
    go_ret
    exact ⟨rfl, ((Below.refl _ w).alloc (Nat.le_refl _) _).trans (HB.mono (by simp))⟩
  · go_enter Try.func5, Try.ntmps5
    go_wp2_with fail
    refine (nbytes _).mono ?_
    rintro e w1 ⟨rfl, hb1⟩
    have hk := (Blk.new w #[.int .i64 d, .slice A n c, .int .i64 k] 25).below hb1
    have hb : Below w.heap.size w w1 := ((Below.refl _ w).alloc (Nat.le_refl _) _).trans (hb1.mono (by simp))
    have c1 := hk.cell 1 rfl
    have c2 := hk.cell 2 rfl
    clear hb1
    go_wp2_with (first
      | (go_at_call 10; refine (nappend _ _ _ _).mono ?_; rintro e w2 ⟨rfl, hb2⟩; have hb := hb.trans (hb2.mono hb.size); have hk := hk.below hb2; have c1 := hk.cell 1 rfl; have c2 := hk.cell 2 rfl; clear hb2)
      | (go_at_call 11; refine (nswap _ _ _ _).mono ?_; rintro e w2 ⟨rfl, hb2⟩; have hb := hb.trans (hb2.mono hb.size); have hk := hk.below hb2; have c1 := hk.cell 1 rfl; have c2 := hk.cell 2 rfl; clear hb2)
      | (go_at_call 12; refine (ncut _ _).mono ?_; rintro e w2 ⟨rfl, hb2⟩; have hb := hb.trans (hb2.mono hb.size); have hk := hk.below hb2; have c1 := hk.cell 1 rfl; have c2 := hk.cell 2 rfl; clear hb2)
      | (go_at_call 13; refine (narm _ _).mono ?_; rintro e w2 ⟨rfl, hb2⟩; have hb := hb.trans (hb2.mono hb.size); have hk := hk.below hb2; have c1 := hk.cell 1 rfl; have c2 := hk.cell 2 rfl; clear hb2)
      | (go_at_call 14; refine (ncrash _).mono ?_; rintro e w2 ⟨rfl, hb2⟩; have hb := hb.trans (hb2.mono hb.size); have hk := hk.below hb2; have c1 := hk.cell 1 rfl; have c2 := hk.cell 2 rfl; clear hb2)
      | (go_at_call 15; refine (nup _).mono ?_; rintro e w2 ⟨rfl, hb2⟩; have hb := hb.trans (hb2.mono hb.size); have hk := hk.below hb2; have c1 := hk.cell 1 rfl; have c2 := hk.cell 2 rfl; clear hb2)
      | (go_at_call 9; refine (ndown _).mono ?_; rintro e w2 ⟨rfl, hb2⟩; have hb := hb.trans (hb2.mono hb.size); have hk := hk.below hb2; have c1 := hk.cell 1 rfl; have c2 := hk.cell 2 rfl; clear hb2)
      | (go_at_call 17; refine (nlen _).mono ?_; rintro e w2 ⟨rfl, hb2⟩; have hb := hb.trans (hb2.mono hb.size); have hk := hk.below hb2; have c1 := hk.cell 1 rfl; have c2 := hk.cell 2 rfl; clear hb2)
      | (go_at_call 20; refine (ncopy _).mono ?_; rintro e w2 ⟨rfl, hb2⟩; have hb := hb.trans (hb2.mono hb.size); have hk := hk.below hb2; have c1 := hk.cell 1 rfl; have c2 := hk.cell 2 rfl; clear hb2)
      | (go_at_call 7; refine (wakes_any _).mono ?_; rintro e w2 ⟨rfl, hb2⟩; have hb := hb.trans (hb2.mono hb.size)))
    go_ret
    exact ⟨rfl, hb⟩
end Go.Proofs.Ythbdhilkdamppaa
