import Derived.Test.YtmljdppdaaoehaaGreatDoorRg
import Derived.Test.YtmljdppdaaoehaaGreatDoorQc
import Derived.Test.YtmljdppdaaoehaaGreatDoorQa
import Derived.Test.YtmljdppdaaoehaaGreatDoorCr1
import Derived.Test.YtmljdppdaaoehaaGreatDoorSto
import Derived.Test.YtmljdppdaaoehaaGreatDoorCn14
/- Rg: an operation that its guard keeps away. -/
namespace Go.Proofs.YtmljdppdaaoehaaGreatDoor
open Go
section
variable {P : Program} {l : List Oper} {Q : Exit → Act → World → Prop} {S : World → Prop}
/-- number i may be taken first: its guard keeps it away -/
theorem Rg.skip {n f : Nat} {ls : Array Bool} {a : Act} {w : World} (hS : S w) (i : Nat) {oi : Oper} {rest : List Oper} (hi : l.drop i = oi :: rest)
    (hc : (Region.noSelect l.toArray && rgClosed l.toArray n ls && Region.free .any l.toArray ls i && (Region.ready .any l.toArray ls).contains i && decide (i < n)) = true)
    (hQ : ∀ c a w, Q (.panic c) (a.put oi.dst undef) w → Q (.panic c) a w) (hw : Region.wanted oi (yielded l.toArray a.tmps) = false)
    (h : Rg P l.toArray Q S n f (ls.setIfInBounds i true) (a.put oi.dst undef) w) : Rg P l.toArray Q S n (f + 1) ls a w := by
  simp only [Bool.and_eq_true, decide_eq_true_eq] at hc
  obtain ⟨⟨⟨⟨h1, h2⟩, h3⟩, h4⟩, h5⟩ := hc
  obtain ⟨inv, hsk, hsz⟩ := rgClosed_inv h2
  exact Rg.first (drop_at hi) (Region.noSelect_spec h1) hQ hsk hsz h5 f ls a w inv (Region.free_spec (drop_at hi) h3) (by simpa using h4) (.inr ⟨hw, rfl⟩) hS h
end
end Go.Proofs.YtmljdppdaaoehaaGreatDoor

/- hoardingref03.Equal: the walk. -/
namespace Go.Proofs.YtmljdppdaaoehaaGreatDoor
open Go.RowKit
set_option linter.unusedVariables false
set_option linter.unusedSimpArgs false
set_option maxRecDepth 100000
set_option maxHeartbeats 16000000 in
theorem requal_any (S : Nat → Prop) (x y : Vl) (xs ys : List Value) (w : World) (hx : CkTxt x) (hy : CkTxt y) (htx : Trs.at S w x.tr xs) (hty : Trs.at S w y.tr ys) :
    Calls Tryz.prog 34 #[.agg xs.toArray, .agg ys.toArray] w (BoolB (vEq x y) w) := by
  have HCX := Lib.hid (fun w' (h : Below w.heap.size w w') => rchk_any S x xs w' hx (htx.below h))
  have HCY := Lib.hid (fun w' (h : Below w.heap.size w w') => rchk_any S y ys w' hy (hty.below h))
  have HSX := Lib.hid (fun (h0 : vChk x = 0) w' (h : Below w.heap.size w w') => rso_any 24 S x xs w' (vFine_chk h0 hx.1) (htx.below h))
  have HSY := Lib.hid (fun (h0 : vChk y = 0) w' (h : Below w.heap.size w w') => rso_any 24 S y ys w' (vFine_chk h0 hy.1) (hty.below h))
  have HFX := Lib.hid (fun h0 : vChk x = 0 => vSort_fit 24 x (vGood_chk h0 hx.1))
  have HFY := Lib.hid (fun h0 : vChk y = 0 => vSort_fit 24 y (vGood_chk h0 hy.1))
  have HNO : Hid ((vChk x ≠ 0 ∨ vChk y ≠ 0) → vEq x y = false) := Lib.hid (fun h => by unfold vEq vBoth; rw [if_pos h]; rfl)
  have HYES : Hid (vChk x = 0 → vChk y = 0 → vEq x y = decide (vCmp 24 (vSort 24 x) (vSort 24 y) = 0)) := Lib.hid (fun h1 h2 => by unfold vEq vBoth; rw [if_neg (by rw [h1, h2]; simp)]; simp)
  obtain ⟨r, hr⟩ : ∃ r, r = vEq x y := ⟨_, rfl⟩
  rw [← hr] at HNO HYES ⊢
  obtain ⟨A1, n1, K1, m1, rfl, _, _, hx1, _⟩ := Vl.at_iff.1 htx
  obtain ⟨A2, n2, K2, m2, rfl, _, _, hx2, _⟩ := Vl.at_iff.1 hty
  have HB0 : Hid (Below w.heap.size w ((w.alloc (.cells #[.int .i8 x.kind, .bool x.bool, .int .i64 x.num, .string x.text, .slice A1 x.list.length n1, .slice K1 x.keys.length m1] 37)).alloc (.cells #[.int .i8 y.kind, .bool y.bool, .int .i64 y.num, .string y.text, .slice A2 y.list.length n2, .slice K2 y.keys.length m2] 37))) := Lib.hid (((Below.refl _ w).alloc (Nat.le_refl _) _).alloc (by simp) _)
  have HXA : Hid (Blk ((w.alloc (.cells #[.int .i8 x.kind, .bool x.bool, .int .i64 x.num, .string x.text, .slice A1 x.list.length n1, .slice K1 x.keys.length m1] 37)).alloc (.cells #[.int .i8 y.kind, .bool y.bool, .int .i64 y.num, .string y.text, .slice A2 y.list.length n2, .slice K2 y.keys.length m2] 37)) w.heap.size #[.int .i8 x.kind, .bool x.bool, .int .i64 x.num, .string x.text, .slice A1 x.list.length n1, .slice K1 x.keys.length m1] 37) := Lib.hid ((Blk.new _ _ _).alloc _)
  have HXB : Hid (Blk ((w.alloc (.cells #[.int .i8 x.kind, .bool x.bool, .int .i64 x.num, .string x.text, .slice A1 x.list.length n1, .slice K1 x.keys.length m1] 37)).alloc (.cells #[.int .i8 y.kind, .bool y.bool, .int .i64 y.num, .string y.text, .slice A2 y.list.length n2, .slice K2 y.keys.length m2] 37)) (w.heap.size + 1) #[.int .i8 y.kind, .bool y.bool, .int .i64 y.num, .string y.text, .slice A2 y.list.length n2, .slice K2 y.keys.length m2] 37) := Lib.hid (by
    have := Blk.new (w.alloc (.cells #[.int .i8 x.kind, .bool x.bool, .int .i64 x.num, .string x.text, .slice A1 x.list.length n1, .slice K1 x.keys.length m1] 37)) #[.int .i8 y.kind, .bool y.bool, .int .i64 y.num, .string y.text, .slice A2 y.list.length n2, .slice K2 y.keys.length m2] 37
    rwa [show (w.alloc (.cells #[.int .i8 x.kind, .bool x.bool, .int .i64 x.num, .string x.text, .slice A1 x.list.length n1, .slice K1 x.keys.length m1] 37)).heap.size = w.heap.size + 1 by simp] at this)
  clear htx hty hr hx hy hx1 hx2
  obtain ⟨cx, hcx⟩ : ∃ cx, cx = vChk x := ⟨_, rfl⟩
  obtain ⟨cy, hcy⟩ : ∃ cy, cy = vChk y := ⟨_, rfl⟩
  rw [← hcx] at HCX HSX HFX HNO HYES
  rw [← hcy] at HCY HSY HFY HNO HYES
  clear hcx hcy
  obtain ⟨W, hW⟩ : ∃ W, W = ((w.alloc (.cells #[.int .i8 x.kind, .bool x.bool, .int .i64 x.num, .string x.text, .slice A1 x.list.length n1, .slice K1 x.keys.length m1] 37)).alloc (.cells #[.int .i8 y.kind, .bool y.bool, .int .i64 y.num, .string y.text, .slice A2 y.list.length n2, .slice K2 y.keys.length m2] 37)) := ⟨_, rfl⟩
  have HWE := Lib.hid hW
  rw [← hW] at HB0 HXA HXB
  obtain ⟨x0, x1, x2, x3, x4, x5⟩ := blk6 HXA.out
  obtain ⟨y0, y1, y2, y3, y4, y5⟩ := blk6 HXB.out
  clear hW
  go_enter Tryz.func34, Tryz.ntmps34
  go_wp2_with fail
  rw [← HWE.out]
  clear HWE
  have HBR : Hid (Below W.heap.size W W.drew) := Lib.hid (Below.refl _ W).drew
  by_cases h0 : cx = 0
  case neg =>
    have q0 : ((cx : Int) == 0) = false := by rw [beq_eq_false_iff_ne]; omega
    have HE : Hid (r = false) := Lib.hid (HNO.out (.inl h0))
    clear h0 HCY HSX HSY HFX HFY HNO HYES
    refine Rg.start 16 (fun w' => w'.cell? ⟨w.heap.size, 0, none⟩ = some (.int .i8 x.kind) ∧ w'.cell? ⟨w.heap.size, 1, none⟩ = some (.bool x.bool) ∧ w'.cell? ⟨w.heap.size, 2, none⟩ = some (.int .i64 x.num) ∧ w'.cell? ⟨w.heap.size, 3, none⟩ = some (.string x.text) ∧ w'.cell? ⟨w.heap.size, 4, none⟩ = some (.slice A1 x.list.length n1) ∧ w'.cell? ⟨w.heap.size, 5, none⟩ = some (.slice K1 x.keys.length m1) ∧ w'.cell? ⟨w.heap.size + 1, 0, none⟩ = some (.int .i8 y.kind) ∧ w'.cell? ⟨w.heap.size + 1, 1, none⟩ = some (.bool y.bool) ∧ w'.cell? ⟨w.heap.size + 1, 2, none⟩ = some (.int .i64 y.num) ∧ w'.cell? ⟨w.heap.size + 1, 3, none⟩ = some (.string y.text) ∧ w'.cell? ⟨w.heap.size + 1, 4, none⟩ = some (.slice A2 y.list.length n2) ∧ w'.cell? ⟨w.heap.size + 1, 5, none⟩ = some (.slice K2 y.keys.length m2)) (by kernel_rfl) (by go_keep) (fun hH0 => ?_)
    simp only [List.length_cons, List.length_nil, List.replicate_succ, List.replicate_zero, Nat.zero_add, Nat.reduceAdd]
    refine Rg.take (v := ?_) hH0 0 rfl (by kernel_rfl) (fun _ _ _ h => h) (by rfl) ?_ ?_
    rotate_left
    · (intro w hSw; (try dsimp only at hSw); go_simp <;> with_reducible rfl)
    try simp only [Act.put, sA, sB, sC]
    refine Rg.step 1 (by kernel_rfl) rfl (fun K hK => ?_)
    go_simp; (with_reducible refine (HCX.out W.drew (HB0.out.trans (HBR.out.mono HB0.out.size))).mono ?_); rintro e w3 ⟨rfl, hb3⟩; have HB3 := Lib.hid (HBR.out.trans (hb3.mono HBR.out.size)); clear x0 x1 x2 x3 x4 x5 y0 y1 y2 y3 y4 y5; obtain ⟨x0, x1, x2, x3, x4, x5⟩ := blk6 (HXA.out.below HB3.out); obtain ⟨y0, y1, y2, y3, y4, y5⟩ := blk6 (HXB.out.below HB3.out); clear hb3; go_simp
    refine hK.out _ _ ?_ (fun hH1 => ?_)
    · ((try dsimp only) <;> go_keep)
    clear hK K hH0
    try simp only [Act.put, List.setIfInBounds_toArray, List.set_cons_zero, List.set_cons_succ]
    refine Rg.take (v := ?_) hH1 2 rfl (by kernel_rfl) (fun _ _ _ h => h) (by rfl) ?_ ?_
    rotate_left
    · (intro w hSw; (try dsimp only at hSw); go_simp <;> with_reducible rfl)
    try simp only [Act.put, sA, sB, sC]
    refine Rg.take (v := ?_) hH1 3 rfl (by kernel_rfl) (fun _ _ _ h => h) (by rfl) ?_ ?_
    rotate_left
    · (intro w hSw; (try dsimp only at hSw); go_simp <;> with_reducible rfl)
    try simp only [Act.put, sA, sB, sC]
    refine Rg.skip hH1 4 rfl (by kernel_rfl) (fun _ _ _ h => h) (by rfl) ?_
    try simp only [Act.put, List.setIfInBounds_toArray, List.set_cons_zero, List.set_cons_succ]
    refine Rg.skip hH1 5 rfl (by kernel_rfl) (fun _ _ _ h => h) (by rfl) ?_
    try simp only [Act.put, List.setIfInBounds_toArray, List.set_cons_zero, List.set_cons_succ]
    refine Rg.skip hH1 6 rfl (by kernel_rfl) (fun _ _ _ h => h) (by rfl) ?_
    try simp only [Act.put, List.setIfInBounds_toArray, List.set_cons_zero, List.set_cons_succ]
    refine Rg.take (v := ?_) hH1 7 rfl (by kernel_rfl) (fun _ _ _ h => h) (by rfl) ?_ ?_
    rotate_left
    · (intro w hSw; (try dsimp only at hSw); go_simp <;> with_reducible rfl)
    try simp only [Act.put, sA, sB, sC]
    refine Rg.take (v := ?_) hH1 8 rfl (by kernel_rfl) (fun _ _ _ h => h) (by rfl) ?_ ?_
    rotate_left
    · (intro w hSw; (try dsimp only at hSw); go_simp <;> with_reducible rfl)
    try simp only [Act.put, sA, sB, sC]
    refine Rg.skip hH1 9 rfl (by kernel_rfl) (fun _ _ _ h => h) (by rfl) ?_
    try simp only [Act.put, List.setIfInBounds_toArray, List.set_cons_zero, List.set_cons_succ]
    refine Rg.skip hH1 10 rfl (by kernel_rfl) (fun _ _ _ h => h) (by rfl) ?_
    try simp only [Act.put, List.setIfInBounds_toArray, List.set_cons_zero, List.set_cons_succ]
    refine Rg.skip hH1 11 rfl (by kernel_rfl) (fun _ _ _ h => h) (by rfl) ?_
    try simp only [Act.put, List.setIfInBounds_toArray, List.set_cons_zero, List.set_cons_succ]
    refine Rg.skip hH1 12 rfl (by kernel_rfl) (fun _ _ _ h => h) (by rfl) ?_
    try simp only [Act.put, List.setIfInBounds_toArray, List.set_cons_zero, List.set_cons_succ]
    refine Rg.skip hH1 13 rfl (by kernel_rfl) (fun _ _ _ h => h) (by rfl) ?_
    try simp only [Act.put, List.setIfInBounds_toArray, List.set_cons_zero, List.set_cons_succ]
    refine Rg.skip hH1 14 rfl (by kernel_rfl) (fun _ _ _ h => h) (by rfl) ?_
    try simp only [Act.put, List.setIfInBounds_toArray, List.set_cons_zero, List.set_cons_succ]
    refine Rg.take (v := ?_) hH1 15 rfl (by kernel_rfl) (fun _ _ _ h => h) (by rfl) ?_ ?_
    rotate_left
    · (intro w hSw; (try dsimp only at hSw); go_simp <;> with_reducible rfl)
    try simp only [Act.put, sA, sB, sC]
    refine Rg.last (by kernel_rfl) (by kernel_rfl) rfl (fun K hK => ?_)
    go_simp
    refine hK.out _ _ ?_
    clear hK K hH1
    go_wp2_with fail
    go_ret
    exact ⟨by rw [HE.out]; rfl, HB0.out.trans (HB3.out.mono HB0.out.size)⟩
  subst h0
  by_cases h0 : cy = 0
  case neg =>
    have q0 : ((cy : Int) == 0) = false := by rw [beq_eq_false_iff_ne]; omega
    have HE : Hid (r = false) := Lib.hid (HNO.out (.inr h0))
    clear h0 HSX HSY HFX HFY HNO HYES
    refine Rg.start 16 (fun w' => w'.cell? ⟨w.heap.size, 0, none⟩ = some (.int .i8 x.kind) ∧ w'.cell? ⟨w.heap.size, 1, none⟩ = some (.bool x.bool) ∧ w'.cell? ⟨w.heap.size, 2, none⟩ = some (.int .i64 x.num) ∧ w'.cell? ⟨w.heap.size, 3, none⟩ = some (.string x.text) ∧ w'.cell? ⟨w.heap.size, 4, none⟩ = some (.slice A1 x.list.length n1) ∧ w'.cell? ⟨w.heap.size, 5, none⟩ = some (.slice K1 x.keys.length m1) ∧ w'.cell? ⟨w.heap.size + 1, 0, none⟩ = some (.int .i8 y.kind) ∧ w'.cell? ⟨w.heap.size + 1, 1, none⟩ = some (.bool y.bool) ∧ w'.cell? ⟨w.heap.size + 1, 2, none⟩ = some (.int .i64 y.num) ∧ w'.cell? ⟨w.heap.size + 1, 3, none⟩ = some (.string y.text) ∧ w'.cell? ⟨w.heap.size + 1, 4, none⟩ = some (.slice A2 y.list.length n2) ∧ w'.cell? ⟨w.heap.size + 1, 5, none⟩ = some (.slice K2 y.keys.length m2)) (by kernel_rfl) (by go_keep) (fun hH0 => ?_)
    simp only [List.length_cons, List.length_nil, List.replicate_succ, List.replicate_zero, Nat.zero_add, Nat.reduceAdd]
    refine Rg.take (v := ?_) hH0 0 rfl (by kernel_rfl) (fun _ _ _ h => h) (by rfl) ?_ ?_
    rotate_left
    · (intro w hSw; (try dsimp only at hSw); go_simp <;> with_reducible rfl)
    try simp only [Act.put, sA, sB, sC]
    refine Rg.step 1 (by kernel_rfl) rfl (fun K hK => ?_)
    go_simp; (with_reducible refine (HCX.out W.drew (HB0.out.trans (HBR.out.mono HB0.out.size))).mono ?_); rintro e w3 ⟨rfl, hb3⟩; have HB3 := Lib.hid (HBR.out.trans (hb3.mono HBR.out.size)); clear x0 x1 x2 x3 x4 x5 y0 y1 y2 y3 y4 y5; obtain ⟨x0, x1, x2, x3, x4, x5⟩ := blk6 (HXA.out.below HB3.out); obtain ⟨y0, y1, y2, y3, y4, y5⟩ := blk6 (HXB.out.below HB3.out); clear hb3; go_simp
    refine hK.out _ _ ?_ (fun hH1 => ?_)
    · ((try dsimp only) <;> go_keep)
    clear hK K hH0
    try simp only [Act.put, List.setIfInBounds_toArray, List.set_cons_zero, List.set_cons_succ]
    refine Rg.take (v := ?_) hH1 2 rfl (by kernel_rfl) (fun _ _ _ h => h) (by rfl) ?_ ?_
    rotate_left
    · (intro w hSw; (try dsimp only at hSw); go_simp <;> with_reducible rfl)
    try simp only [Act.put, sA, sB, sC]
    refine Rg.take (v := ?_) hH1 3 rfl (by kernel_rfl) (fun _ _ _ h => h) (by rfl) ?_ ?_
    rotate_left
    · (intro w hSw; (try dsimp only at hSw); go_simp <;> with_reducible rfl)
    try simp only [Act.put, sA, sB, sC]
    refine Rg.take (v := ?_) hH1 4 rfl (by kernel_rfl) (fun _ _ _ h => h) (by rfl) ?_ ?_
    rotate_left
    · (intro w hSw; (try dsimp only at hSw); go_simp <;> with_reducible rfl)
    try simp only [Act.put, sA, sB, sC]
    refine Rg.step 5 (by kernel_rfl) rfl (fun K hK => ?_)
    go_simp; (with_reducible refine (HCY.out w3 (HB0.out.trans (HB3.out.mono HB0.out.size))).mono ?_); rintro e w4 ⟨rfl, hb4⟩; have HB4 := Lib.hid (HB3.out.trans (hb4.mono HB3.out.size)); clear x0 x1 x2 x3 x4 x5 y0 y1 y2 y3 y4 y5; obtain ⟨x0, x1, x2, x3, x4, x5⟩ := blk6 (HXA.out.below HB4.out); obtain ⟨y0, y1, y2, y3, y4, y5⟩ := blk6 (HXB.out.below HB4.out); clear hb4; go_simp
    refine hK.out _ _ ?_ (fun hH2 => ?_)
    · ((try dsimp only) <;> go_keep)
    clear hK K hH1
    try simp only [Act.put, List.setIfInBounds_toArray, List.set_cons_zero, List.set_cons_succ]
    refine Rg.take (v := ?_) hH2 6 rfl (by kernel_rfl) (fun _ _ _ h => h) (by rfl) ?_ ?_
    rotate_left
    · (intro w hSw; (try dsimp only at hSw); go_simp <;> with_reducible rfl)
    try simp only [Act.put, sA, sB, sC]
    refine Rg.take (v := ?_) hH2 7 rfl (by kernel_rfl) (fun _ _ _ h => h) (by rfl) ?_ ?_
    rotate_left
    · (intro w hSw; (try dsimp only at hSw); go_simp <;> with_reducible rfl)
    try simp only [Act.put, sA, sB, sC]
    refine Rg.take (v := ?_) hH2 8 rfl (by kernel_rfl) (fun _ _ _ h => h) (by rfl) ?_ ?_
    rotate_left
    · (intro w hSw; (try dsimp only at hSw); go_simp <;> with_reducible rfl)
    try simp only [Act.put, sA, sB, sC]
    refine Rg.skip hH2 9 rfl (by kernel_rfl) (fun _ _ _ h => h) (by rfl) ?_
    try simp only [Act.put, List.setIfInBounds_toArray, List.set_cons_zero, List.set_cons_succ]
    refine Rg.skip hH2 10 rfl (by kernel_rfl) (fun _ _ _ h => h) (by rfl) ?_
    try simp only [Act.put, List.setIfInBounds_toArray, List.set_cons_zero, List.set_cons_succ]
    refine Rg.skip hH2 11 rfl (by kernel_rfl) (fun _ _ _ h => h) (by rfl) ?_
    try simp only [Act.put, List.setIfInBounds_toArray, List.set_cons_zero, List.set_cons_succ]
    refine Rg.skip hH2 12 rfl (by kernel_rfl) (fun _ _ _ h => h) (by rfl) ?_
    try simp only [Act.put, List.setIfInBounds_toArray, List.set_cons_zero, List.set_cons_succ]
    refine Rg.skip hH2 13 rfl (by kernel_rfl) (fun _ _ _ h => h) (by rfl) ?_
    try simp only [Act.put, List.setIfInBounds_toArray, List.set_cons_zero, List.set_cons_succ]
    refine Rg.skip hH2 14 rfl (by kernel_rfl) (fun _ _ _ h => h) (by rfl) ?_
    try simp only [Act.put, List.setIfInBounds_toArray, List.set_cons_zero, List.set_cons_succ]
    refine Rg.take (v := ?_) hH2 15 rfl (by kernel_rfl) (fun _ _ _ h => h) (by rfl) ?_ ?_
    rotate_left
    · (intro w hSw; (try dsimp only at hSw); go_simp <;> with_reducible rfl)
    try simp only [Act.put, sA, sB, sC]
    refine Rg.last (by kernel_rfl) (by kernel_rfl) rfl (fun K hK => ?_)
    go_simp
    refine hK.out _ _ ?_
    clear hK K hH2
    go_wp2_with fail
    go_ret
    exact ⟨by rw [HE.out]; rfl, HB0.out.trans (HB4.out.mono HB0.out.size)⟩
  subst h0
  have HE := Lib.hid (HYES.out rfl rfl)
  have HFX2 := Lib.hid (HFX.out rfl)
  have HFY2 := Lib.hid (HFY.out rfl)
  have HSX2 := Lib.hid (HSX.out rfl)
  have HSY2 := Lib.hid (HSY.out rfl)
  obtain ⟨sx, hsx⟩ : ∃ sx, sx = vSort 24 x := ⟨_, rfl⟩
  obtain ⟨sy, hsy⟩ : ∃ sy, sy = vSort 24 y := ⟨_, rfl⟩
  rw [← hsx] at HE HFX2 HSX2
  rw [← hsy] at HE HFY2 HSY2
  clear hsx hsy HSX HSY HFX HFY HNO HYES
  have HCM : Hid (∀ (ca cb : List Value) (w' : World), Trs.at (fun _ => True) w' sx.tr ca → Trs.at (fun _ => True) w' sy.tr cb → Calls Tryz.prog 59 #[.agg ca.toArray, .agg cb.toArray] w' fun e w'' => e = .returned (.int .i64 (vCmp 24 sx sy)) ∧ Below w'.heap.size w' w'') := Lib.hid (fun ca cb w' h1 h2 => rc_any 24 (fun _ => True) sx sy ca cb w' HFX2.out HFY2.out h1 h2)
  obtain ⟨z, hz⟩ : ∃ z, z = vCmp 24 sx sy := ⟨_, rfl⟩
  have HZ := Lib.hid hz
  rw [← hz] at HE HCM
  clear hz
  refine Rg.start 16 (fun w' => w'.cell? ⟨w.heap.size, 0, none⟩ = some (.int .i8 x.kind) ∧ w'.cell? ⟨w.heap.size, 1, none⟩ = some (.bool x.bool) ∧ w'.cell? ⟨w.heap.size, 2, none⟩ = some (.int .i64 x.num) ∧ w'.cell? ⟨w.heap.size, 3, none⟩ = some (.string x.text) ∧ w'.cell? ⟨w.heap.size, 4, none⟩ = some (.slice A1 x.list.length n1) ∧ w'.cell? ⟨w.heap.size, 5, none⟩ = some (.slice K1 x.keys.length m1) ∧ w'.cell? ⟨w.heap.size + 1, 0, none⟩ = some (.int .i8 y.kind) ∧ w'.cell? ⟨w.heap.size + 1, 1, none⟩ = some (.bool y.bool) ∧ w'.cell? ⟨w.heap.size + 1, 2, none⟩ = some (.int .i64 y.num) ∧ w'.cell? ⟨w.heap.size + 1, 3, none⟩ = some (.string y.text) ∧ w'.cell? ⟨w.heap.size + 1, 4, none⟩ = some (.slice A2 y.list.length n2) ∧ w'.cell? ⟨w.heap.size + 1, 5, none⟩ = some (.slice K2 y.keys.length m2)) (by kernel_rfl) (by go_keep) (fun hH0 => ?_)
  simp only [List.length_cons, List.length_nil, List.replicate_succ, List.replicate_zero, Nat.zero_add, Nat.reduceAdd]
  refine Rg.take (v := ?_) hH0 0 rfl (by kernel_rfl) (fun _ _ _ h => h) (by rfl) ?_ ?_
  rotate_left
  · (intro w hSw; (try dsimp only at hSw); go_simp <;> with_reducible rfl)
  try simp only [Act.put, sA, sB, sC]
  refine Rg.step 1 (by kernel_rfl) rfl (fun K hK => ?_)
  go_simp; (with_reducible refine (HCX.out W.drew (HB0.out.trans (HBR.out.mono HB0.out.size))).mono ?_); rintro e w3 ⟨rfl, hb3⟩; have HB3 := Lib.hid (HBR.out.trans (hb3.mono HBR.out.size)); clear x0 x1 x2 x3 x4 x5 y0 y1 y2 y3 y4 y5; obtain ⟨x0, x1, x2, x3, x4, x5⟩ := blk6 (HXA.out.below HB3.out); obtain ⟨y0, y1, y2, y3, y4, y5⟩ := blk6 (HXB.out.below HB3.out); clear hb3; go_simp
  refine hK.out _ _ ?_ (fun hH1 => ?_)
  · ((try dsimp only) <;> go_keep)
  clear hK K hH0
  try simp only [Act.put, List.setIfInBounds_toArray, List.set_cons_zero, List.set_cons_succ]
  refine Rg.take (v := ?_) hH1 2 rfl (by kernel_rfl) (fun _ _ _ h => h) (by rfl) ?_ ?_
  rotate_left
  · (intro w hSw; (try dsimp only at hSw); go_simp <;> with_reducible rfl)
  try simp only [Act.put, sA, sB, sC]
  refine Rg.take (v := ?_) hH1 3 rfl (by kernel_rfl) (fun _ _ _ h => h) (by rfl) ?_ ?_
  rotate_left
  · (intro w hSw; (try dsimp only at hSw); go_simp <;> with_reducible rfl)
  try simp only [Act.put, sA, sB, sC]
  refine Rg.take (v := ?_) hH1 4 rfl (by kernel_rfl) (fun _ _ _ h => h) (by rfl) ?_ ?_
  rotate_left
  · (intro w hSw; (try dsimp only at hSw); go_simp <;> with_reducible rfl)
  try simp only [Act.put, sA, sB, sC]
  refine Rg.step 5 (by kernel_rfl) rfl (fun K hK => ?_)
  go_simp; (with_reducible refine (HCY.out w3 (HB0.out.trans (HB3.out.mono HB0.out.size))).mono ?_); rintro e w4 ⟨rfl, hb4⟩; have HB4 := Lib.hid (HB3.out.trans (hb4.mono HB3.out.size)); clear x0 x1 x2 x3 x4 x5 y0 y1 y2 y3 y4 y5; obtain ⟨x0, x1, x2, x3, x4, x5⟩ := blk6 (HXA.out.below HB4.out); obtain ⟨y0, y1, y2, y3, y4, y5⟩ := blk6 (HXB.out.below HB4.out); clear hb4; go_simp
  refine hK.out _ _ ?_ (fun hH2 => ?_)
  · ((try dsimp only) <;> go_keep)
  clear hK K hH1
  try simp only [Act.put, List.setIfInBounds_toArray, List.set_cons_zero, List.set_cons_succ]
  refine Rg.take (v := ?_) hH2 6 rfl (by kernel_rfl) (fun _ _ _ h => h) (by rfl) ?_ ?_
  rotate_left
  · (intro w hSw; (try dsimp only at hSw); go_simp <;> with_reducible rfl)
  try simp only [Act.put, sA, sB, sC]
  refine Rg.take (v := ?_) hH2 7 rfl (by kernel_rfl) (fun _ _ _ h => h) (by rfl) ?_ ?_
  rotate_left
  · (intro w hSw; (try dsimp only at hSw); go_simp <;> with_reducible rfl)
  try simp only [Act.put, sA, sB, sC]
  refine Rg.take (v := ?_) hH2 8 rfl (by kernel_rfl) (fun _ _ _ h => h) (by rfl) ?_ ?_
  rotate_left
  · (intro w hSw; (try dsimp only at hSw); go_simp <;> with_reducible rfl)
  try simp only [Act.put, sA, sB, sC]
  refine Rg.take (v := ?_) hH2 9 rfl (by kernel_rfl) (fun _ _ _ h => h) (by rfl) ?_ ?_
  rotate_left
  · (intro w hSw; (try dsimp only at hSw); go_simp <;> with_reducible rfl)
  try simp only [Act.put, sA, sB, sC]
  refine Rg.take (v := ?_) hH2 11 rfl (by kernel_rfl) (fun _ _ _ h => h) (by rfl) ?_ ?_
  rotate_left
  · (intro w hSw; (try dsimp only at hSw); go_simp <;> with_reducible rfl)
  try simp only [Act.put, sA, sB, sC]
  refine Rg.step 10 (by kernel_rfl) rfl (fun K hK => ?_)
  go_simp; (with_reducible refine (HSX2.out w4 (HB0.out.trans (HB4.out.mono HB0.out.size))).mono ?_); rintro e w5 ⟨hb5, A5, n5, B5, m5, rfl, ht5⟩; have HB5 := Lib.hid (HB4.out.trans (hb5.mono HB4.out.size)); have HT5 := Lib.hid ht5; clear ht5; clear x0 x1 x2 x3 x4 x5 y0 y1 y2 y3 y4 y5; obtain ⟨x0, x1, x2, x3, x4, x5⟩ := blk6 (HXA.out.below HB5.out); obtain ⟨y0, y1, y2, y3, y4, y5⟩ := blk6 (HXB.out.below HB5.out); clear hb5; go_simp
  refine hK.out _ _ ?_ (fun hH3 => ?_)
  · ((try dsimp only) <;> go_keep)
  clear hK K hH2
  try simp only [Act.put, List.setIfInBounds_toArray, List.set_cons_zero, List.set_cons_succ]
  refine Rg.step 12 (by kernel_rfl) rfl (fun K hK => ?_)
  go_simp; (with_reducible refine (HSY2.out w5 (HB0.out.trans (HB5.out.mono HB0.out.size))).mono ?_); rintro e w6 ⟨hb6, A6, n6, B6, m6, rfl, ht6⟩; have HB6 := Lib.hid (HB5.out.trans (hb6.mono HB5.out.size)); have HT6 := Lib.hid ht6; have HT56 := Lib.hid ((HT5.out.mono (fun _ _ => trivial) : Trs.at (fun _ => True) w5 _ _).below hb6); clear ht6; clear x0 x1 x2 x3 x4 x5 y0 y1 y2 y3 y4 y5; obtain ⟨x0, x1, x2, x3, x4, x5⟩ := blk6 (HXA.out.below HB6.out); obtain ⟨y0, y1, y2, y3, y4, y5⟩ := blk6 (HXB.out.below HB6.out); clear hb6; go_simp
  refine hK.out _ _ ?_ (fun hH4 => ?_)
  · ((try dsimp only) <;> go_keep)
  clear hK K hH3
  try simp only [Act.put, List.setIfInBounds_toArray, List.set_cons_zero, List.set_cons_succ]
  refine Rg.step 13 (by kernel_rfl) rfl (fun K hK => ?_)
  go_simp; (with_reducible refine (HCM.out _ _ w6 HT56.out (HT6.out.mono (fun _ _ => trivial))).mono ?_); rintro e w7 ⟨rfl, hb7⟩; have HB7 := Lib.hid (HB6.out.trans (hb7.mono HB6.out.size)); clear x0 x1 x2 x3 x4 x5 y0 y1 y2 y3 y4 y5; obtain ⟨x0, x1, x2, x3, x4, x5⟩ := blk6 (HXA.out.below HB7.out); obtain ⟨y0, y1, y2, y3, y4, y5⟩ := blk6 (HXB.out.below HB7.out); clear hb7; go_simp
  refine hK.out _ _ ?_ (fun hH5 => ?_)
  · ((try dsimp only) <;> go_keep)
  clear hK K hH4
  try simp only [Act.put, List.setIfInBounds_toArray, List.set_cons_zero, List.set_cons_succ]
  refine Rg.take (v := ?_) hH5 14 rfl (by kernel_rfl) (fun _ _ _ h => h) (by rfl) ?_ ?_
  rotate_left
  · (intro w hSw; (try dsimp only at hSw); go_simp <;> with_reducible rfl)
  try simp only [Act.put, sA, sB, sC]
  refine Rg.take (v := ?_) hH5 15 rfl (by kernel_rfl) (fun _ _ _ h => h) (by rfl) ?_ ?_
  rotate_left
  · (intro w hSw; (try dsimp only at hSw); go_simp <;> with_reducible rfl)
  try simp only [Act.put, sA, sB, sC]
  refine Rg.last (by kernel_rfl) (by kernel_rfl) rfl (fun K hK => ?_)
  go_simp
  refine hK.out _ _ ?_
  clear hK K hH5
  go_wp2_with fail
  go_ret
  exact ⟨by rw [HE.out]; rfl, HB0.out.trans (HB7.out.mono HB0.out.size)⟩
end Go.Proofs.YtmljdppdaaoehaaGreatDoor

/- hoardingref15's plainShape, shape: walks. -/
namespace Go.Proofs.YtmljdppdaaoehaaGreatDoor
open Go.RowKit
set_option linter.unusedVariables false
set_option linter.unusedSimpArgs false
set_option maxRecDepth 100000
theorem xPlain_0 {e : Ex} (h : e.kind = 0) : xPlain e = (rBare e true false false && Lib.validD e.text.data.toList) := by
  have hb : bEq ByteArray.empty ByteArray.empty = true := bEq_iff.2 rfl
  unfold xPlain; rw [if_pos h]; unfold xOnly rBare; simp [hb]
theorem xPlain_1 {e : Ex} (h : e.kind = 1) : xPlain e = (rBare e false true false && decide (-9007199254740992 ≤ e.num ∧ e.num ≤ 9007199254740992)) := by
  unfold xPlain; rw [if_neg (by omega), if_pos h]; unfold xOnly rBare; simp
theorem xPlain_3 {e : Ex} (h : e.kind = 3) : xPlain e = rBare e false false true := by
  have hb : bEq ByteArray.empty ByteArray.empty = true := bEq_iff.2 rfl
  unfold xPlain; rw [if_neg (by omega), if_neg (by omega), if_pos h]; unfold xOnly rBare; simp [hb]
theorem xPlain_no {e : Ex} (h0 : e.kind ≠ 0) (h1 : e.kind ≠ 1) (h3 : e.kind ≠ 3) : xPlain e = false := by
  unfold xPlain; rw [if_neg h0, if_neg h1, if_neg h3]
set_option maxHeartbeats 8000000 in
theorem rpls_any (e : Ex) (A : Option Addr) (c : Nat) (hc : e.l.length ≤ c) (hm : c ≤ maxLen) (ht : e.text.size ≤ 30000) (w : World) : Calls Tryz.prog 30 #[.agg #[.int .i8 e.kind, .string e.text, .int .i64 e.num, .string e.name, .string e.attr, .slice A e.l.length c]] w (BoolB (xPlain e) w) := by
  have HB : Hid (Below w.heap.size w (w.alloc (.cells #[.int .i8 e.kind, .string e.text, .int .i64 e.num, .string e.name, .string e.attr, .slice A e.l.length c] 27))) := Lib.hid ((Below.refl _ w).alloc (Nat.le_refl _) _)
  have HX : Hid (Blk (w.alloc (.cells #[.int .i8 e.kind, .string e.text, .int .i64 e.num, .string e.name, .string e.attr, .slice A e.l.length c] 27)) w.heap.size #[.int .i8 e.kind, .string e.text, .int .i64 e.num, .string e.name, .string e.attr, .slice A e.l.length c] 27) := Lib.hid (Blk.new _ _ _)
  have HBR := Lib.hid (fun t n m => rbare_any e A c t n m hc hm (w.alloc (.cells #[.int .i8 e.kind, .string e.text, .int .i64 e.num, .string e.name, .string e.attr, .slice A e.l.length c] 27)))
  have H0 := Lib.hid (@xPlain_0 e)
  have H1 := Lib.hid (@xPlain_1 e)
  have H3 := Lib.hid (@xPlain_3 e)
  have HN := Lib.hid (@xPlain_no e)
  obtain ⟨r, hr⟩ : ∃ r, r = xPlain e := ⟨_, rfl⟩
  rw [← hr] at H0 H1 H3 HN ⊢
  clear hr
  by_cases h0 : e.kind = 0
  · have e0 : (e.kind == 0) = true := by simpa using h0
    have HE := Lib.hid (H0.out h0)
    have HC := Lib.hid (HBR.out true false false)
    have HV := Lib.hid (fun w' => rval_any e.text ht w')
    obtain ⟨b, hb⟩ : ∃ b, b = rBare e true false false := ⟨_, rfl⟩
    obtain ⟨b2, hb2⟩ : ∃ b2, b2 = Lib.validD e.text.data.toList := ⟨_, rfl⟩
    rw [← hb] at HE HC
    rw [← hb2] at HE HV
    clear h0 hb hb2 H0 H1 H3 HN HBR
    go_enter Tryz.func30, Tryz.ntmps30
    go_wp2_with fail
    refine HC.out.mono ?_; rintro e' w2 ⟨rfl, hb2⟩; have HB2 := Lib.hid (HB.out.trans (hb2.mono HB.out.size)); have HX2 := Lib.hid (HX.out.below hb2); clear hb2 HC; obtain ⟨x0, x1, x2, x3, x4, x5⟩ := blk6 HX2.out
    cases b with
    | false =>
      go_wp2_with fail
      go_ret
      exact ⟨by rw [HE.out]; rfl, HB2.out⟩
    | true =>
      go_wp2_with fail
      refine (HV.out w2).mono ?_
      rintro e' w3 ⟨rfl, rfl⟩
      cases b2 <;>
        (go_wp2_with fail
         go_ret
         exact ⟨by rw [HE.out]; rfl, HB2.out⟩)
  by_cases h1 : e.kind = 1
  · have e0 : (e.kind == 0) = false := by simpa using h0
    have e1 : (e.kind == 1) = true := by simpa using h1
    have HE := Lib.hid (H1.out h1)
    have HC := Lib.hid (HBR.out false true false)
    obtain ⟨b, hb⟩ : ∃ b, b = rBare e false true false := ⟨_, rfl⟩
    rw [← hb] at HE HC
    clear h0 h1 hb H0 H1 H3 HN HBR
    go_enter Tryz.func30, Tryz.ntmps30
    go_wp2_with fail
    refine HC.out.mono ?_; rintro e' w2 ⟨rfl, hb2⟩; have HB2 := Lib.hid (HB.out.trans (hb2.mono HB.out.size)); have HX2 := Lib.hid (HX.out.below hb2); clear hb2 HC; obtain ⟨x0, x1, x2, x3, x4, x5⟩ := blk6 HX2.out
    cases b with
    | false =>
      go_wp2_with fail
      go_ret
      exact ⟨by rw [HE.out]; rfl, HB2.out⟩
    | true =>
      by_cases g1 : -9007199254740992 ≤ e.num
      · by_cases g2 : e.num ≤ 9007199254740992
        · have HE2 : Hid (r = true) := Lib.hid (by rw [HE.out, decide_eq_true ⟨g1, g2⟩]; rfl)
          go_wp2_with fail
          go_ret
          exact ⟨by rw [HE2.out]; first | rfl | (refine congrArg (fun b => Ending.returned (Value.bool b)) ?_; first | exact decide_eq_true g2 | exact decide_eq_false (by omega)), HB2.out⟩
        · have HE2 : Hid (r = false) := Lib.hid (by rw [HE.out, decide_eq_false (fun h => g2 h.2)]; rfl)
          go_wp2_with fail
          go_ret
          exact ⟨by rw [HE2.out]; first | rfl | (refine congrArg (fun b => Ending.returned (Value.bool b)) ?_; first | exact decide_eq_true g2 | exact decide_eq_false (by omega)), HB2.out⟩
      · have HE2 : Hid (r = false) := Lib.hid (by rw [HE.out, decide_eq_false (fun h => g1 h.1)]; rfl)
        go_wp2_with fail
        go_ret
        exact ⟨by rw [HE2.out]; rfl, HB2.out⟩
  by_cases h3 : e.kind = 3
  · have e0 : (e.kind == 0) = false := by simpa using h0
    have e1 : (e.kind == 1) = false := by simpa using h1
    have e3 : (e.kind == 3) = true := by simpa using h3
    have HE := Lib.hid (H3.out h3)
    have HC := Lib.hid (HBR.out false false true)
    obtain ⟨b, hb⟩ : ∃ b, b = rBare e false false true := ⟨_, rfl⟩
    rw [← hb] at HE HC
    clear h0 h1 h3 hb H0 H1 H3 HN HBR
    go_enter Tryz.func30, Tryz.ntmps30
    go_wp2_with fail
    refine HC.out.mono ?_
    rintro e' w2 ⟨rfl, hb2⟩
    have HB2 := Lib.hid (HB.out.trans (hb2.mono HB.out.size))
    clear hb2 HC
    go_wp2_with fail
    go_ret
    exact ⟨by rw [HE.out]; rfl, HB2.out⟩
  · have e0 : (e.kind == 0) = false := by simpa using h0
    have e1 : (e.kind == 1) = false := by simpa using h1
    have e3 : (e.kind == 3) = false := by simpa using h3
    have HE := Lib.hid (HN.out h0 h1 h3)
    clear h0 h1 h3 H0 H1 H3 HN HBR
    go_enter Tryz.func30, Tryz.ntmps30
    go_wp2_with fail
    go_ret
    exact ⟨by rw [HE.out]; rfl, HB.out⟩
/-! ### shape -/
/-- texts that are not too long, k deep -/
def cTx : Nat → Cd → Prop
  | 0, _ => True
  | k + 1, c => c.a.text.size ≤ 30000 ∧ c.b.text.size ≤ 30000 ∧ ∀ p ∈ c.l, cTx k p
def RsC (k : Nat) : Prop := ∀ (S : Nat → Prop) (c : Cd) (cs : List Value) (w : World), cTx k c → Trs.at S w c.tr cs → Calls Tryz.prog 50 #[.agg cs.toArray, .int .i64 (k : Nat)] w (BoolB (cShape k c) w)
theorem ex_lens {S : Nat → Prop} {w : World} {e : Ex} {A : Option Addr} {c : Nat} (h : Trs.at S w e.tr [.int .i8 e.kind, .string e.text, .int .i64 e.num, .string e.name, .string e.attr, .slice A e.l.length c]) : e.l.length ≤ c ∧ c ≤ maxLen := by
  obtain ⟨A', c', h1, _, _, _, _, _, hl⟩ := Ex.at_iff.1 h
  simp only [List.cons.injEq, Value.slice.injEq, true_and, and_true] at h1
  obtain ⟨rfl, rfl⟩ := h1
  exact ⟨hl.cap, hl.max⟩
theorem rs_zero : RsC 0 := by
  intro S c cs w ht htr
  obtain ⟨xs, ys, L, lc, rfl, hns, _, hxa, hxb, hl⟩ := Cd.at_iff.1 htr
  obtain ⟨A1, n1, rfl, _⟩ := ex_cells hxa
  obtain ⟨B1, n2, rfl, _⟩ := ex_cells hxb
  have HB : Hid (Below w.heap.size w (w.alloc (.cells #[.string c.name, .int .i8 c.kind, .int .i8 c.a.kind, .string c.a.text, .int .i64 c.a.num, .string c.a.name, .string c.a.attr, .slice A1 c.a.l.length n1, .int .i8 c.b.kind, .string c.b.text, .int .i64 c.b.num, .string c.b.name, .string c.b.attr, .slice B1 c.b.l.length n2, .slice L c.l.length lc] 46))) := Lib.hid ((Below.refl _ w).alloc (Nat.le_refl _) _)
  clear ht htr hxa hxb hl
  go_enter Tryz.func50, Tryz.ntmps50
  go_wp2_with fail
  go_ret
  exact ⟨rfl, HB.out⟩
theorem parts_drop {k j : Nat} {l : List Cd} {p : Cd} (h : l[j]? = some p) : partsOk k (l.drop j) = (((decide (p.kind = 4) || bEq p.name ByteArray.empty) && cShape k p) && partsOk k (l.drop (j + 1))) := by rw [drop_cons h]; rfl
set_option maxHeartbeats 16000000 in
theorem rs_step (k : Nat) (hk : k ≤ 100) (IH : RsC k) : RsC (k + 1) := by
  intro S c cs w ht htr
  obtain ⟨ht1, ht2, ht3⟩ := ht
  obtain ⟨xs, ys, L, lc, rfl, hns, _, hxa, hxb, hl⟩ := Cd.at_iff.1 htr
  obtain ⟨A1, n1, rfl, _⟩ := ex_cells hxa
  obtain ⟨B1, n2, rfl, _⟩ := ex_cells hxb
  obtain ⟨ha1, ha2⟩ := ex_lens hxa
  obtain ⟨hb1, hb2⟩ := ex_lens hxb
  have hcap := hl.cap
  have hbyt := hl.bytes
  have HL := Lib.hid hl
  have HIH := Lib.hid IH
  have HT3 := Lib.hid ht3
  have HB : Hid (Below w.heap.size w (w.alloc (.cells #[.string c.name, .int .i8 c.kind, .int .i8 c.a.kind, .string c.a.text, .int .i64 c.a.num, .string c.a.name, .string c.a.attr, .slice A1 c.a.l.length n1, .int .i8 c.b.kind, .string c.b.text, .int .i64 c.b.num, .string c.b.name, .string c.b.attr, .slice B1 c.b.l.length n2, .slice L c.l.length lc] 46))) := Lib.hid ((Below.refl _ w).alloc (Nat.le_refl _) _)
  have HX : Hid (Blk (w.alloc (.cells #[.string c.name, .int .i8 c.kind, .int .i8 c.a.kind, .string c.a.text, .int .i64 c.a.num, .string c.a.name, .string c.a.attr, .slice A1 c.a.l.length n1, .int .i8 c.b.kind, .string c.b.text, .int .i64 c.b.num, .string c.b.name, .string c.b.attr, .slice B1 c.b.l.length n2, .slice L c.l.length lc] 46)) w.heap.size #[.string c.name, .int .i8 c.kind, .int .i8 c.a.kind, .string c.a.text, .int .i64 c.a.num, .string c.a.name, .string c.a.attr, .slice A1 c.a.l.length n1, .int .i8 c.b.kind, .string c.b.text, .int .i64 c.b.num, .string c.b.name, .string c.b.attr, .slice B1 c.b.l.length n2, .slice L c.l.length lc] 46) := Lib.hid (Blk.new _ _ _)
  have HPA := Lib.hid (fun w' => rpls_any c.a A1 n1 ha1 ha2 ht1 w')
  have HPB := Lib.hid (fun w' => rpls_any c.b B1 n2 hb1 hb2 ht2 w')
  have HZA := Lib.hid (fun w' => rzero_any c.a A1 n1 ha1 ha2 w')
  have HZB := Lib.hid (fun w' => rzero_any c.b B1 n2 hb1 hb2 w')
  have HS := Lib.hid (cShape_eq k c)
  have hkw : IntKind.i64.wrap (((k + 1 : Nat) : Int) - 1) = (k : Int) := by rw [IntKind.wrap_i64]; omega
  have hnm := bEq_nil c.name
  obtain ⟨r, hr⟩ : ∃ r, r = cShape (k + 1) c := ⟨_, rfl⟩
  rw [← hr] at HS ⊢
  obtain ⟨za, hza⟩ : ∃ za, za = xNothing c.a := ⟨_, rfl⟩
  obtain ⟨zb, hzb⟩ : ∃ zb, zb = xNothing c.b := ⟨_, rfl⟩
  obtain ⟨pa, hpa⟩ : ∃ pa, pa = xPlain c.a := ⟨_, rfl⟩
  obtain ⟨pb, hpb⟩ : ∃ pb, pb = xPlain c.b := ⟨_, rfl⟩
  rw [← hza] at HZA HS
  rw [← hzb] at HZB HS
  rw [← hpa] at HPA HS
  rw [← hpb] at HPB HS
  have HNM := Lib.hid hnm
  clear htr hxa hxb hl hr hza hzb hpa hpb ht1 ht2 ht3 ha1 ha2 hb1 hb2 IH hnm
  by_cases h0 : c.kind = 0
  · have e0 : (c.kind == 0) = true := by simpa using h0
    have e0' : (c.kind != 0) = false := by simpa using h0
    have HE0 : Hid (r = (decide (c.l.length = 0) && (pa && pb))) := Lib.hid (by rw [HS.out, if_pos h0])
    clear h0 HS HZA HZB HNM
    by_cases hl0 : c.l.length = 0
    case neg =>
      have g0 : ((c.l.length : Int) == 0) = false := by rw [beq_eq_false_iff_ne]; omega
      have HE : Hid (r = false) := Lib.hid (by rw [HE0.out, decide_eq_false hl0]; rfl)
      clear hl0 HE0
      go_enter Tryz.func50, Tryz.ntmps50
      go_wp2_with fail
      go_ret
      exact ⟨by rw [HE.out]; rfl, HB.out⟩
    have g0 : ((c.l.length : Int) == 0) = true := by rw [beq_iff_eq]; omega
    have HE1 : Hid (r = (pa && pb)) := Lib.hid (by rw [HE0.out, decide_eq_true hl0]; rfl)
    have HPW := Lib.hid (HPA.out (w.alloc (.cells #[.string c.name, .int .i8 c.kind, .int .i8 c.a.kind, .string c.a.text, .int .i64 c.a.num, .string c.a.name, .string c.a.attr, .slice A1 c.a.l.length n1, .int .i8 c.b.kind, .string c.b.text, .int .i64 c.b.num, .string c.b.name, .string c.b.attr, .slice B1 c.b.l.length n2, .slice L c.l.length lc] 46)))
    clear hl0 HE0 hkw HIH
    go_enter Tryz.func50, Tryz.ntmps50
    go_wp2_with fail
    refine HPW.out.mono ?_
    rintro e w2 ⟨rfl, hbb⟩
    have HB2 := Lib.hid (HB.out.trans (hbb.mono HB.out.size))
    have HX2 := Lib.hid (HX.out.below hbb)
    clear hbb HPW
    cases pa with
    | false =>
      have HE : Hid (r = false) := Lib.hid (by rw [HE1.out]; rfl)
      go_wp2_with fail; go_ret; exact ⟨by rw [HE.out]; rfl, HB2.out⟩
    | true =>
      obtain ⟨x0, x1, x2, x3, x4, x5, x6, x7, x8, x9, x10, x11, x12, x13, x14⟩ := blk15 HX2.out
      have HPW := Lib.hid (HPB.out w2)
      go_wp2_with fail
      refine HPW.out.mono ?_
      rintro e w3 ⟨rfl, hbb⟩
      have HB3 := Lib.hid (HB2.out.trans (hbb.mono HB2.out.size))
      clear hbb
      go_wp2_with fail
      go_ret
      exact ⟨by rw [HE1.out]; rfl, HB3.out⟩
  have e0 : (c.kind == 0) = false := by simpa using h0
  have e0' : (c.kind != 0) = true := by simpa using h0
  have HS1 := HS.out
  rw [if_neg h0] at HS1
  have HS2 := Lib.hid HS1
  have HZW := Lib.hid (HZA.out (w.alloc (.cells #[.string c.name, .int .i8 c.kind, .int .i8 c.a.kind, .string c.a.text, .int .i64 c.a.num, .string c.a.name, .string c.a.attr, .slice A1 c.a.l.length n1, .int .i8 c.b.kind, .string c.b.text, .int .i64 c.b.num, .string c.b.name, .string c.b.attr, .slice B1 c.b.l.length n2, .slice L c.l.length lc] 46)))
  clear h0 HS HS1 HPA HPB HZA
  have HF : Hid ((za && zb) = false → r = false) := Lib.hid (fun h => by
    rw [HS2.out, h]
    split <;> simp)
  go_enter Tryz.func50, Tryz.ntmps50
  go_wp2_with fail
  refine HZW.out.mono ?_
  rintro e w2 ⟨rfl, hbb⟩
  have HB2 := Lib.hid (HB.out.trans (hbb.mono HB.out.size))
  have HX2 := Lib.hid (HX.out.below hbb)
  clear hbb HZW HB HX
  cases za with
  | false =>
    have HE : Hid (r = false) := Lib.hid (HF.out rfl)
    go_wp2_with fail; go_ret; exact ⟨by rw [HE.out]; rfl, HB2.out⟩
  | true =>
  obtain ⟨x0, x1, x2, x3, x4, x5, x6, x7, x8, x9, x10, x11, x12, x13, x14⟩ := blk15 HX2.out
  have HZW := Lib.hid (HZB.out w2)
  go_wp2_with fail
  refine HZW.out.mono ?_
  rintro e w3 ⟨rfl, hbb⟩
  have HB3 := Lib.hid (HB2.out.trans (hbb.mono HB2.out.size))
  have HX3 := Lib.hid (HX2.out.below hbb)
  clear hbb HZW HB2 HX2 HZB x0 x1 x2 x3 x4 x5 x6 x7 x8 x9 x10 x11 x12 x13 x14
  have HB2 := HB3
  clear HB3
  cases zb with
  | false =>
    have HE : Hid (r = false) := Lib.hid (HF.out rfl)
    go_wp2_with fail; go_ret; exact ⟨by rw [HE.out]; rfl, HB2.out⟩
  | true =>
  obtain ⟨x0, x1, x2, x3, x4, x5, x6, x7, x8, x9, x10, x11, x12, x13, x14⟩ := blk15 HX3.out
  clear HF
  by_cases h4 : c.kind = 4
  · have e1 : (c.kind == 1) = false := by rw [beq_eq_false_iff_ne]; omega
    have e2 : (c.kind == 2) = false := by rw [beq_eq_false_iff_ne]; omega
    have e3 : (c.kind == 3) = false := by rw [beq_eq_false_iff_ne]; omega
    have e4 : (c.kind == 4) = true := by simpa using h4
    have HE0 : Hid (r = (decide (c.l.length = 0) && !decide (c.name.toList = []))) := Lib.hid (by rw [HS2.out, if_pos h4, HNM.out]; rfl)
    clear h4 HS2 HNM
    by_cases hl0 : c.l.length = 0
    case neg =>
      have g0 : ((c.l.length : Int) == 0) = false := by rw [beq_eq_false_iff_ne]; omega
      have HE : Hid (r = false) := Lib.hid (by rw [HE0.out, decide_eq_false hl0]; rfl)
      clear hl0 HE0
      go_wp2_with fail; go_ret; exact ⟨by rw [HE.out]; rfl, HB2.out⟩
    have g0 : ((c.l.length : Int) == 0) = true := by rw [beq_iff_eq]; omega
    by_cases hn : c.name.toList = []
    · have g1 : (c.name.toList == []) = true := by simpa using hn
      have HE : Hid (r = false) := Lib.hid (by rw [HE0.out, decide_eq_true hn]; simp)
      clear hl0 HE0 hn
      go_wp2_with fail; go_ret; exact ⟨by rw [HE.out]; rfl, HB2.out⟩
    · have g1 : (c.name.toList == []) = false := by simpa using hn
      have HE : Hid (r = true) := Lib.hid (by rw [HE0.out, decide_eq_false hn, decide_eq_true hl0]; rfl)
      clear hl0 HE0 hn
      go_wp2_with fail; go_ret; exact ⟨by rw [HE.out]; rfl, HB2.out⟩
  have e4 : (c.kind == 4) = false := by simpa using h4
  have HS3 : Hid (r = (mayOf c && partsOk k c.l)) := Lib.hid (by rw [HS2.out, if_neg h4]; simp)
  clear HS2 HNM
  by_cases hmay : mayOf c = true
  case neg =>
    have HE : Hid (r = false) := Lib.hid (by rw [HS3.out, (Bool.not_eq_true _).mp hmay]; rfl)
    unfold mayOf at hmay
    clear HS3
    by_cases h1 : c.kind = 1
    · have e1 : (c.kind == 1) = true := by simpa using h1
      rw [if_pos (.inl h1)] at hmay
      simp only [decide_eq_true_eq] at hmay
      clear h1 h4 e4
      by_cases q1 : c.l.length < 1
      · have q2 : (c.l.length : Int) < 1 := by omega
        clear hmay q1
        go_wp2_with fail; go_ret; exact ⟨by rw [HE.out]; rfl, HB2.out⟩
      · have q2 : ¬ (c.l.length : Int) < 1 := by omega
        have q3 : (4 : Int) < (c.l.length : Int) := by omega
        clear hmay q1
        go_wp2_with fail; go_ret; exact ⟨by rw [HE.out]; rfl, HB2.out⟩
    have e1 : (c.kind == 1) = false := by simpa using h1
    by_cases h2 : c.kind = 2
    · have e2 : (c.kind == 2) = true := by simpa using h2
      rw [if_pos (.inr h2)] at hmay
      simp only [decide_eq_true_eq] at hmay
      clear h1 h2 h4 e4
      by_cases q1 : c.l.length < 1
      · have q2 : (c.l.length : Int) < 1 := by omega
        clear hmay q1
        go_wp2_with fail; go_ret; exact ⟨by rw [HE.out]; rfl, HB2.out⟩
      · have q2 : ¬ (c.l.length : Int) < 1 := by omega
        have q3 : (4 : Int) < (c.l.length : Int) := by omega
        clear hmay q1
        go_wp2_with fail; go_ret; exact ⟨by rw [HE.out]; rfl, HB2.out⟩
    have e2 : (c.kind == 2) = false := by simpa using h2
    rw [if_neg (by omega)] at hmay
    by_cases h3 : c.kind = 3
    · have e3 : (c.kind == 3) = true := by simpa using h3
      rw [if_pos h3, decide_eq_true_eq] at hmay
      have q3 : ((c.l.length : Int) != 1) = true := by rw [bne_iff_ne]; omega
      clear hmay h1 h2 h3 h4
      go_wp2_with fail; go_ret; exact ⟨by rw [HE.out]; rfl, HB2.out⟩
    · have e3 : (c.kind == 3) = false := by simpa using h3
      clear hmay h1 h2 h3 h4
      go_wp2_with fail; go_ret; exact ⟨by rw [HE.out]; rfl, HB2.out⟩
  have HS4 : Hid (r = partsOk k (c.l.drop 0)) := Lib.hid (by rw [HS3.out, hmay]; rfl)
  unfold mayOf at hmay
  clear HS3
  by_cases h1 : c.kind = 1
  · have e1 : (c.kind == 1) = true := by simpa using h1
    rw [if_pos (.inl h1), decide_eq_true_eq] at hmay
    have q2 : ¬ (c.l.length : Int) < 1 := by omega
    have q3 : ¬ (4 : Int) < (c.l.length : Int) := by omega
    clear hmay h1 h4 e4
    go_wp2_with fail
    clear x0 x1 x2 x3 x4 x5 x6 x7 x8 x9 x10 x11 x12 x13 x14
    go_loopg [5] c.l.length (fun g i wr => ∃ j : Nat, j + g = c.l.length ∧ i = .int .i64 (j : Nat) ∧ Hid (r = partsOk k (c.l.drop j)) ∧ Hid (Below w.heap.size w wr) ∧ Hid (Blk wr w.heap.size #[.string c.name, .int .i8 c.kind, .int .i8 c.a.kind, .string c.a.text, .int .i64 c.a.num, .string c.a.name, .string c.a.attr, .slice A1 c.a.l.length n1, .int .i8 c.b.kind, .string c.b.text, .int .i64 c.b.num, .string c.b.name, .string c.b.attr, .slice B1 c.b.l.length n2, .slice L c.l.length lc] 46))
    case atStart => exact ⟨0, by omega, rfl, HS4, HB2, HX3⟩
    case round =>
      clear HB2 HX3
      obtain ⟨j, hj, rfl, HSJ, HB2, HX3⟩ := hrel
      rename World => wo
      obtain ⟨x0, x1, x2, x3, x4, x5, x6, x7, x8, x9, x10, x11, x12, x13, x14⟩ := blk15 HX3.out
      cases gk with
      | zero =>
        have hjj : ¬ ((j : Int) < (c.l.length : Int)) := by omega
        have HE : Hid (r = true) := Lib.hid (by rw [HSJ.out, List.drop_of_length_le (by omega)]; rfl)
        go_wp2_with fail; go_ret; exact ⟨by rw [HE.out]; rfl, HB2.out⟩
      | succ g =>
        have hjj : (j : Int) < (c.l.length : Int) := by omega
        have hj0 : (0 : Int) ≤ (j : Int) ∧ (j : Int) < (c.l.length : Int) := by omega
        obtain ⟨p, hp⟩ := get_lt (l := c.l) (i := j) (by omega)
        obtain ⟨ad, pcs, rfl, hpt, hpc⟩ := (HL.out.below HB2.out).elem Cd.trlen hp
        have HC := Lib.hid (HIH.out S p pcs wo (HT3.out p (List.mem_of_getElem? hp)) hpt)
        have HPD := Lib.hid (parts_drop (k := k) hp)
        have HPN := Lib.hid (bEq_nil p.name)
        obtain ⟨b, hb⟩ : ∃ b, b = cShape k p := ⟨_, rfl⟩
        rw [← hb] at HC HPD
        obtain ⟨ps, qs, L2, lc2, rfl, _, _, hpa, hpb, _⟩ := Cd.at_iff.1 hpt
        obtain ⟨A3, n3, rfl, _⟩ := ex_cells hpa
        obtain ⟨B3, n4, rfl, _⟩ := ex_cells hpb
        obtain ⟨y0, y1, y2, y3, y4, y5, y6, y7, y8, y9, y10, y11, y12, y13, y14⟩ := cel15 hpc
        clear hp hpt hpc hpa hpb hb
        by_cases hbad : p.kind ≠ 4 ∧ p.name.toList ≠ []
        · have d0 : (p.kind != 4) = true := by simpa using hbad.1
          have d1 : (p.name.toList == []) = false := by simpa using hbad.2
          have HE : Hid (r = false) := Lib.hid (by rw [HSJ.out, HPD.out, HPN.out, decide_eq_false hbad.1, decide_eq_false hbad.2]; rfl)
          clear hbad HC
          go_wp2_with fail; go_ret; exact ⟨by rw [HE.out]; rfl, HB2.out⟩
        · have HPO : Hid ((decide (p.kind = 4) || bEq p.name ByteArray.empty) = true) := Lib.hid (by
            rw [HPN.out]
            by_cases h : p.kind = 4
            · rw [decide_eq_true h]; rfl
            · rw [decide_eq_true (show p.name.toList = [] from Decidable.byContradiction fun h2 => hbad ⟨h, h2⟩)]; simp)
          have hdd : ((p.kind != 4) = false) ∨ ((p.kind != 4) = true ∧ (p.name.toList == []) = true) := by
            by_cases h : p.kind = 4
            · exact .inl (by simpa using h)
            · exact .inr ⟨by simpa using h, by simpa using (show p.name.toList = [] from Decidable.byContradiction fun h2 => hbad ⟨h, h2⟩)⟩
          have HN : Hid (r = (b && partsOk k (c.l.drop (j + 1)))) := Lib.hid (by rw [HSJ.out, HPD.out, HPO.out]; simp)
          clear hbad HSJ HPD HPN HPO
          rcases hdd with d0 | ⟨d0, d1⟩
          all_goals
            go_wp2_with fail
            refine HC.out.mono ?_
            rintro e w4 ⟨rfl, hb4⟩
            have HB4 := Lib.hid (HB2.out.trans (hb4.mono HB2.out.size))
            have HX4 := Lib.hid (HX3.out.below hb4)
            clear hb4 HC
            cases b with
            | false =>
              have HE : Hid (r = false) := Lib.hid (by rw [HN.out]; rfl)
              go_wp2_with fail
              go_ret
              exact ⟨by rw [HE.out]; rfl, HB4.out⟩
            | true =>
              have HE : Hid (r = partsOk k (c.l.drop (j + 1))) := Lib.hid (by rw [HN.out]; rfl)
              go_wp2_with fail
              go_roundg g
              case measure => omega
              case rel => exact ⟨j + 1, by omega, by go_num, HE, HB4, HX4⟩
  have e1 : (c.kind == 1) = false := by simpa using h1
  by_cases h2 : c.kind = 2
  · have e2 : (c.kind == 2) = true := by simpa using h2
    rw [if_pos (.inr h2), decide_eq_true_eq] at hmay
    have q2 : ¬ (c.l.length : Int) < 1 := by omega
    have q3 : ¬ (4 : Int) < (c.l.length : Int) := by omega
    clear hmay h1 h2 h4 e4
    go_wp2_with fail
    clear x0 x1 x2 x3 x4 x5 x6 x7 x8 x9 x10 x11 x12 x13 x14
    go_loopg [5] c.l.length (fun g i wr => ∃ j : Nat, j + g = c.l.length ∧ i = .int .i64 (j : Nat) ∧ Hid (r = partsOk k (c.l.drop j)) ∧ Hid (Below w.heap.size w wr) ∧ Hid (Blk wr w.heap.size #[.string c.name, .int .i8 c.kind, .int .i8 c.a.kind, .string c.a.text, .int .i64 c.a.num, .string c.a.name, .string c.a.attr, .slice A1 c.a.l.length n1, .int .i8 c.b.kind, .string c.b.text, .int .i64 c.b.num, .string c.b.name, .string c.b.attr, .slice B1 c.b.l.length n2, .slice L c.l.length lc] 46))
    case atStart => exact ⟨0, by omega, rfl, HS4, HB2, HX3⟩
    case round =>
      clear HB2 HX3
      obtain ⟨j, hj, rfl, HSJ, HB2, HX3⟩ := hrel
      rename World => wo
      obtain ⟨x0, x1, x2, x3, x4, x5, x6, x7, x8, x9, x10, x11, x12, x13, x14⟩ := blk15 HX3.out
      cases gk with
      | zero =>
        have hjj : ¬ ((j : Int) < (c.l.length : Int)) := by omega
        have HE : Hid (r = true) := Lib.hid (by rw [HSJ.out, List.drop_of_length_le (by omega)]; rfl)
        go_wp2_with fail; go_ret; exact ⟨by rw [HE.out]; rfl, HB2.out⟩
      | succ g =>
        have hjj : (j : Int) < (c.l.length : Int) := by omega
        have hj0 : (0 : Int) ≤ (j : Int) ∧ (j : Int) < (c.l.length : Int) := by omega
        obtain ⟨p, hp⟩ := get_lt (l := c.l) (i := j) (by omega)
        obtain ⟨ad, pcs, rfl, hpt, hpc⟩ := (HL.out.below HB2.out).elem Cd.trlen hp
        have HC := Lib.hid (HIH.out S p pcs wo (HT3.out p (List.mem_of_getElem? hp)) hpt)
        have HPD := Lib.hid (parts_drop (k := k) hp)
        have HPN := Lib.hid (bEq_nil p.name)
        obtain ⟨b, hb⟩ : ∃ b, b = cShape k p := ⟨_, rfl⟩
        rw [← hb] at HC HPD
        obtain ⟨ps, qs, L2, lc2, rfl, _, _, hpa, hpb, _⟩ := Cd.at_iff.1 hpt
        obtain ⟨A3, n3, rfl, _⟩ := ex_cells hpa
        obtain ⟨B3, n4, rfl, _⟩ := ex_cells hpb
        obtain ⟨y0, y1, y2, y3, y4, y5, y6, y7, y8, y9, y10, y11, y12, y13, y14⟩ := cel15 hpc
        clear hp hpt hpc hpa hpb hb
        by_cases hbad : p.kind ≠ 4 ∧ p.name.toList ≠ []
        · have d0 : (p.kind != 4) = true := by simpa using hbad.1
          have d1 : (p.name.toList == []) = false := by simpa using hbad.2
          have HE : Hid (r = false) := Lib.hid (by rw [HSJ.out, HPD.out, HPN.out, decide_eq_false hbad.1, decide_eq_false hbad.2]; rfl)
          clear hbad HC
          go_wp2_with fail; go_ret; exact ⟨by rw [HE.out]; rfl, HB2.out⟩
        · have HPO : Hid ((decide (p.kind = 4) || bEq p.name ByteArray.empty) = true) := Lib.hid (by
            rw [HPN.out]
            by_cases h : p.kind = 4
            · rw [decide_eq_true h]; rfl
            · rw [decide_eq_true (show p.name.toList = [] from Decidable.byContradiction fun h2 => hbad ⟨h, h2⟩)]; simp)
          have hdd : ((p.kind != 4) = false) ∨ ((p.kind != 4) = true ∧ (p.name.toList == []) = true) := by
            by_cases h : p.kind = 4
            · exact .inl (by simpa using h)
            · exact .inr ⟨by simpa using h, by simpa using (show p.name.toList = [] from Decidable.byContradiction fun h2 => hbad ⟨h, h2⟩)⟩
          have HN : Hid (r = (b && partsOk k (c.l.drop (j + 1)))) := Lib.hid (by rw [HSJ.out, HPD.out, HPO.out]; simp)
          clear hbad HSJ HPD HPN HPO
          rcases hdd with d0 | ⟨d0, d1⟩
          all_goals
            go_wp2_with fail
            refine HC.out.mono ?_
            rintro e w4 ⟨rfl, hb4⟩
            have HB4 := Lib.hid (HB2.out.trans (hb4.mono HB2.out.size))
            have HX4 := Lib.hid (HX3.out.below hb4)
            clear hb4 HC
            cases b with
            | false =>
              have HE : Hid (r = false) := Lib.hid (by rw [HN.out]; rfl)
              go_wp2_with fail
              go_ret
              exact ⟨by rw [HE.out]; rfl, HB4.out⟩
            | true =>
              have HE : Hid (r = partsOk k (c.l.drop (j + 1))) := Lib.hid (by rw [HN.out]; rfl)
              go_wp2_with fail
              go_roundg g
              case measure => omega
              case rel => exact ⟨j + 1, by omega, by go_num, HE, HB4, HX4⟩
  have e2 : (c.kind == 2) = false := by simpa using h2
  rw [if_neg (by omega)] at hmay
  by_cases h3 : c.kind = 3
  · have e3 : (c.kind == 3) = true := by simpa using h3
    rw [if_pos h3, decide_eq_true_eq] at hmay
    have q3 : ((c.l.length : Int) != 1) = false := by rw [bne_eq_false_iff_eq]; omega
    clear hmay h1 h2 h3 h4 e4
    go_wp2_with fail
    clear x0 x1 x2 x3 x4 x5 x6 x7 x8 x9 x10 x11 x12 x13 x14
    go_loopg [5] c.l.length (fun g i wr => ∃ j : Nat, j + g = c.l.length ∧ i = .int .i64 (j : Nat) ∧ Hid (r = partsOk k (c.l.drop j)) ∧ Hid (Below w.heap.size w wr) ∧ Hid (Blk wr w.heap.size #[.string c.name, .int .i8 c.kind, .int .i8 c.a.kind, .string c.a.text, .int .i64 c.a.num, .string c.a.name, .string c.a.attr, .slice A1 c.a.l.length n1, .int .i8 c.b.kind, .string c.b.text, .int .i64 c.b.num, .string c.b.name, .string c.b.attr, .slice B1 c.b.l.length n2, .slice L c.l.length lc] 46))
    case atStart => exact ⟨0, by omega, rfl, HS4, HB2, HX3⟩
    case round =>
      clear HB2 HX3
      obtain ⟨j, hj, rfl, HSJ, HB2, HX3⟩ := hrel
      rename World => wo
      obtain ⟨x0, x1, x2, x3, x4, x5, x6, x7, x8, x9, x10, x11, x12, x13, x14⟩ := blk15 HX3.out
      cases gk with
      | zero =>
        have hjj : ¬ ((j : Int) < (c.l.length : Int)) := by omega
        have HE : Hid (r = true) := Lib.hid (by rw [HSJ.out, List.drop_of_length_le (by omega)]; rfl)
        go_wp2_with fail; go_ret; exact ⟨by rw [HE.out]; rfl, HB2.out⟩
      | succ g =>
        have hjj : (j : Int) < (c.l.length : Int) := by omega
        have hj0 : (0 : Int) ≤ (j : Int) ∧ (j : Int) < (c.l.length : Int) := by omega
        obtain ⟨p, hp⟩ := get_lt (l := c.l) (i := j) (by omega)
        obtain ⟨ad, pcs, rfl, hpt, hpc⟩ := (HL.out.below HB2.out).elem Cd.trlen hp
        have HC := Lib.hid (HIH.out S p pcs wo (HT3.out p (List.mem_of_getElem? hp)) hpt)
        have HPD := Lib.hid (parts_drop (k := k) hp)
        have HPN := Lib.hid (bEq_nil p.name)
        obtain ⟨b, hb⟩ : ∃ b, b = cShape k p := ⟨_, rfl⟩
        rw [← hb] at HC HPD
        obtain ⟨ps, qs, L2, lc2, rfl, _, _, hpa, hpb, _⟩ := Cd.at_iff.1 hpt
        obtain ⟨A3, n3, rfl, _⟩ := ex_cells hpa
        obtain ⟨B3, n4, rfl, _⟩ := ex_cells hpb
        obtain ⟨y0, y1, y2, y3, y4, y5, y6, y7, y8, y9, y10, y11, y12, y13, y14⟩ := cel15 hpc
        clear hp hpt hpc hpa hpb hb
        by_cases hbad : p.kind ≠ 4 ∧ p.name.toList ≠ []
        · have d0 : (p.kind != 4) = true := by simpa using hbad.1
          have d1 : (p.name.toList == []) = false := by simpa using hbad.2
          have HE : Hid (r = false) := Lib.hid (by rw [HSJ.out, HPD.out, HPN.out, decide_eq_false hbad.1, decide_eq_false hbad.2]; rfl)
          clear hbad HC
          go_wp2_with fail; go_ret; exact ⟨by rw [HE.out]; rfl, HB2.out⟩
        · have HPO : Hid ((decide (p.kind = 4) || bEq p.name ByteArray.empty) = true) := Lib.hid (by
            rw [HPN.out]
            by_cases h : p.kind = 4
            · rw [decide_eq_true h]; rfl
            · rw [decide_eq_true (show p.name.toList = [] from Decidable.byContradiction fun h2 => hbad ⟨h, h2⟩)]; simp)
          have hdd : ((p.kind != 4) = false) ∨ ((p.kind != 4) = true ∧ (p.name.toList == []) = true) := by
            by_cases h : p.kind = 4
            · exact .inl (by simpa using h)
            · exact .inr ⟨by simpa using h, by simpa using (show p.name.toList = [] from Decidable.byContradiction fun h2 => hbad ⟨h, h2⟩)⟩
          have HN : Hid (r = (b && partsOk k (c.l.drop (j + 1)))) := Lib.hid (by rw [HSJ.out, HPD.out, HPO.out]; simp)
          clear hbad HSJ HPD HPN HPO
          rcases hdd with d0 | ⟨d0, d1⟩
          all_goals
            go_wp2_with fail
            refine HC.out.mono ?_
            rintro e w4 ⟨rfl, hb4⟩
            have HB4 := Lib.hid (HB2.out.trans (hb4.mono HB2.out.size))
            have HX4 := Lib.hid (HX3.out.below hb4)
            clear hb4 HC
            cases b with
            | false =>
              have HE : Hid (r = false) := Lib.hid (by rw [HN.out]; rfl)
              go_wp2_with fail
              go_ret
              exact ⟨by rw [HE.out]; rfl, HB4.out⟩
            | true =>
              have HE : Hid (r = partsOk k (c.l.drop (j + 1))) := Lib.hid (by rw [HN.out]; rfl)
              go_wp2_with fail
              go_roundg g
              case measure => omega
              case rel => exact ⟨j + 1, by omega, by go_num, HE, HB4, HX4⟩
  · rw [if_neg h3] at hmay; cases hmay
theorem rs_any (k : Nat) (hk : k ≤ 101) : RsC k := by
  induction k with
  | zero => exact rs_zero
  | succ k ih => exact rs_step k (by omega) (ih (by omega))
end Go.Proofs.YtmljdppdaaoehaaGreatDoor

/- hoardingref15's find: the walk (for CondsRun). -/
namespace Go.Proofs.YtmljdppdaaoehaaGreatDoor
open Go.RowKit
set_option linter.unusedVariables false
set_option linter.unusedSimpArgs false
def FdOut (S : Nat → Prop) (o : Option Gv) (w : World) (e : Ending) (w' : World) : Prop := Below w.heap.size w w' ∧ match o with
  | some p => ∃ (GL GK : Option Addr) (lc kc : Nat), e = .returned (.tuple #[.agg #[.string p.name, .bool p.unknown, .int .i8 p.v.kind, .bool p.v.bool, .int .i64 p.v.num, .string p.v.text, .slice GL p.v.list.length lc, .slice GK p.v.keys.length kc], .bool true]) ∧ Trs.at S w' p.tr (#[.string p.name, .bool p.unknown, .int .i8 p.v.kind, .bool p.v.bool, .int .i64 p.v.num, .string p.v.text, .slice GL p.v.list.length lc, .slice GK p.v.keys.length kc] : Array Value).toList
  | none => e = .returned (.tuple #[.agg zeroCells, .bool false])
theorem find_at {ps : List Gv} {s : ByteArray} {j : Nat} {p : Gv} (hp : ps[j]? = some p) (hn : p.name = s) (hb : ∀ (k : Nat) (d : Gv), k < j → ps[k]? = some d → d.name ≠ s) : ps.find? (fun p => bEq p.name s) = some p := by
  obtain ⟨hj, rfl⟩ := List.getElem?_eq_some_iff.1 hp
  refine List.find?_eq_some_iff_getElem.2 ⟨bEq_iff.2 hn, j, hj, rfl, fun k hk => ?_⟩
  rw [bEq_ne (hb k _ hk (List.getElem?_eq_getElem (by omega)))]
  rfl
theorem find_no {ps : List Gv} {s : ByteArray} (hb : ∀ (k : Nat) (d : Gv), ps[k]? = some d → d.name ≠ s) : ps.find? (fun p => bEq p.name s) = none :=
  List.find?_eq_none.2 (fun d hd => by
    obtain ⟨k, hk, rfl⟩ := List.getElem_of_mem hd
    rw [bEq_ne (hb k _ (List.getElem?_eq_getElem hk))]
    simp)
set_option maxRecDepth 100000 in
set_option maxHeartbeats 8000000 in
theorem rfind_any (S : Nat → Prop) (A : Option Addr) (c : Nat) (ps : List Gv) (s : ByteArray) (w : World) (hls : Ls S w 8 104 Gv.tr A c ps) :
    Calls Tryz.prog 33 #[.slice A ps.length c, .string s] w (FdOut S (ps.find? fun p => bEq p.name s) w) := by
  have hcap := hls.cap
  have hbyt := hls.bytes
  have HL := Lib.hid hls.bound
  have HG : Hid (Blk (w.alloc (.cells #[.string ⟨#[]⟩, .bool false, .int .i8 0, .bool false, .int .i64 0, .string ⟨#[]⟩, .slice none 0 0, .slice none 0 0] 39)) w.heap.size #[.string ⟨#[]⟩, .bool false, .int .i8 0, .bool false, .int .i64 0, .string ⟨#[]⟩, .slice none 0 0, .slice none 0 0] 39) := Lib.hid (Blk.new _ _ _)
  have HB : Hid (Below w.heap.size w (w.alloc (.cells #[.string ⟨#[]⟩, .bool false, .int .i8 0, .bool false, .int .i64 0, .string ⟨#[]⟩, .slice none 0 0, .slice none 0 0] 39))) := Lib.hid ((Below.refl _ w).alloc (Nat.le_refl _) _)
  clear hls
  go_enter Tryz.func33, Tryz.ntmps33
  go_wp2_with fail
  obtain ⟨W, hW⟩ : ∃ W, W = w.alloc (.cells #[.string ⟨#[]⟩, .bool false, .int .i8 0, .bool false, .int .i64 0, .string ⟨#[]⟩, .slice none 0 0, .slice none 0 0] 39) := ⟨_, rfl⟩
  rw [← hW] at HG HB ⊢
  clear hW
  go_loopg [6] ps.length (fun g i wr => ∃ j : Nat, j + g = ps.length ∧ i = .int .i64 (j : Nat) ∧ wr = W ∧ Hid (∀ (k : Nat) (d : Gv), k < j → ps[k]? = some d → d.name ≠ s))
  case atStart => exact ⟨0, by omega, rfl, rfl, Lib.hid (fun k d h => by omega)⟩
  case round =>
    obtain ⟨j, hj, rfl, rfl, HN⟩ := hrel
    cases gk with
    | zero =>
      have hjj : ¬ ((j : Int) < (ps.length : Int)) := by omega
      have HE : Hid ((ps.find? fun p => bEq p.name s) = none) := Lib.hid (find_no (fun k d hd => HN.out k d (by have := (List.getElem?_eq_some_iff.1 hd).1; omega) hd))
      go_wp2_with ((with_reducible refine is_store ?_); refine wpList_store_blk rfl 39 _ _ rfl w.heap.size #[.string ⟨#[]⟩, .bool false, .int .i8 0, .bool false, .int .i64 0, .string ⟨#[]⟩, .slice none 0 0, .slice none 0 0] #[.string ⟨#[]⟩, .bool false, .int .i8 0, .bool false, .int .i64 0, .string ⟨#[]⟩, .slice none 0 0, .slice none 0 0] 39 rfl rfl HG.out rfl (by kernel_rfl) (by simp [Value.oneCell']) ?_; intro w5 hk5 ho5; have HK5 := Lib.hid hk5; have HO5 := Lib.hid ho5; clear hk5 ho5)
      obtain ⟨r0, r1, r2, r3, r4, r5, r6, r7⟩ := blk8 HK5.out
      refine bodyPost_ret (v := .tuple #[.agg zeroCells, .bool false]) (by simp [zeroCells, results, Tryz.results33, go_sem, r0, r1, r2, r3, r4, r5, r6, r7]) rfl ?_
      rw [HE.out]
      exact ⟨HO5.out.belowB HB.out (fun k hk => by omega), rfl⟩
    | succ g =>
      have hjj : (j : Int) < (ps.length : Int) := by omega
      have hj0 : (0 : Int) ≤ (j : Int) ∧ (j : Int) < (ps.length : Int) := by omega
      obtain ⟨p, hp⟩ := get_lt (l := ps) (i := j) (by omega)
      obtain ⟨ad, cs, rfl, hpt, hpc⟩ := (HL.out.below HB.out).elem Gv.trlen hp
      have HPT := Lib.hid hpt
      obtain ⟨vs, rfl, hns, hxv⟩ := Gv.at_iff.1 hpt
      obtain ⟨GL, lc, GK, kc, rfl, -⟩ := Vl.at_iff.1 hxv
      obtain ⟨e0, e1, e2, e3, e4, e5, e6, e7⟩ := cel8 hpc
      have HPP := Lib.hid hp
      clear hpt hxv hpc hp
      by_cases he : p.name = s
      · have hE : (p.name.toList == s.toList) = true := by rw [he]; simp
        have HE : Hid ((ps.find? fun p => bEq p.name s) = some p) := Lib.hid (find_at HPP.out he HN.out)
        clear he
        go_wp2_with ((with_reducible refine is_store ?_); refine wpList_store_blk rfl 39 _ _ rfl w.heap.size #[.string p.name, .bool p.unknown, .int .i8 p.v.kind, .bool p.v.bool, .int .i64 p.v.num, .string p.v.text, .slice GL p.v.list.length lc, .slice GK p.v.keys.length kc] #[.string ⟨#[]⟩, .bool false, .int .i8 0, .bool false, .int .i64 0, .string ⟨#[]⟩, .slice none 0 0, .slice none 0 0] 39 rfl rfl HG.out rfl (by kernel_rfl) (by simp [Value.oneCell']) ?_; intro w5 hk5 ho5; have HK5 := Lib.hid hk5; have HO5 := Lib.hid ho5; clear hk5 ho5)
        obtain ⟨r0, r1, r2, r3, r4, r5, r6, r7⟩ := blk8 HK5.out
        refine bodyPost_ret (v := .tuple #[.agg #[.string p.name, .bool p.unknown, .int .i8 p.v.kind, .bool p.v.bool, .int .i64 p.v.num, .string p.v.text, .slice GL p.v.list.length lc, .slice GK p.v.keys.length kc], .bool true]) (by simp [results, Tryz.results33, go_sem, r0, r1, r2, r3, r4, r5, r6, r7]) rfl ?_
        rw [HE.out]
        exact ⟨HO5.out.belowB HB.out (fun k hk => by omega), GL, GK, lc, kc, rfl, (HPT.out.only HO5.out (fun k hk e => by have := hk.2; omega)).mono (fun k hk => hk.1)⟩
      · have hE := str_ne he
        have HE := Lib.hid he
        clear he
        go_wp2_with fail
        go_roundg g
        case measure => omega
        case rel => exact ⟨j + 1, by omega, by go_num, rfl, Lib.hid (fun k x hk hx => by
          rcases Nat.lt_succ_iff_lt_or_eq.1 hk with hk | rfl
          · exact HN.out k x hk hx
          · rw [HPP.out] at hx; injection hx with hx; subst hx; exact HE.out)⟩
set_option maxRecDepth 100000 in
theorem rtext_any (s : ByteArray) (w : World) : Calls Tryz.prog 31 #[.string s] w (ValOut #[.int .i8 3, .bool false, .int .i64 0, .string s, .slice none 0 0, .slice none 0 0] w) := by
  go_enter Tryz.func31, Tryz.ntmps31
  go_wp2_with fail
  exact bodyPost_ret (v := .agg #[.int .i8 3, .bool false, .int .i64 0, .string s, .slice none 0 0, .slice none 0 0]) (by simp [results, Tryz.results31, go_sem]) rfl ⟨rfl, (Below.refl _ w).alloc (Nat.le_refl _) _⟩
set_option maxRecDepth 100000 in
theorem rnum_any (n : Int) (w : World) : Calls Tryz.prog 32 #[.int .i64 n] w (ValOut #[.int .i8 2, .bool false, .int .i64 n, .string ByteArray.empty, .slice none 0 0, .slice none 0 0] w) := by
  go_enter Tryz.func32, Tryz.ntmps32
  go_wp2_with fail
  exact bodyPost_ret (v := .agg #[.int .i8 2, .bool false, .int .i64 n, .string ByteArray.empty, .slice none 0 0, .slice none 0 0]) (by simp [results, Tryz.results32, go_sem]; try rfl) rfl ⟨rfl, (Below.refl _ w).alloc (Nat.le_refl _) _⟩
end Go.Proofs.YtmljdppdaaoehaaGreatDoor

/- hoardingref15.Plain: the walk. -/
namespace Go.Proofs.YtmljdppdaaoehaaGreatDoor
open Go.RowKit
set_option linter.unusedVariables false
set_option linter.unusedSimpArgs false
set_option maxRecDepth 100000
theorem plainG_ref {e : Ex} {ps : List Gv} (hp : xPlain e = true) (h0 : e.kind ≠ 0) (h1 : e.kind ≠ 1) : plainG e ps = (ps.find? fun p => bEq p.name e.name).map fun p => ⟨ByteArray.empty, p.unknown, p.v⟩ := by
  unfold plainG
  rw [if_neg (by rw [hp]; simp), if_neg h0, if_neg h1]
  cases hf : fiG ps e.name with
  | none =>
    have : ps.find? (fun p => bEq p.name e.name) = none := by
      rw [List.find?_eq_none]
      intro x hx
      have := List.findIdx?_eq_none_iff.1 hf x hx
      simpa using this
    rw [this]; rfl
  | some k =>
    obtain ⟨hk, h2, h3⟩ := List.findIdx?_eq_some_iff_getElem.1 hf
    have : ps.find? (fun p => bEq p.name e.name) = some ps[k] := by
      rw [List.find?_eq_some_iff_getElem]
      exact ⟨h2, k, hk, rfl, fun j hj => by simpa using h3 j hj⟩
    rw [this]; simp [List.getElem?_eq_getElem hk]
set_option maxHeartbeats 8000000 in
theorem rplain_any (S : Nat → Prop) (e : Ex) (XA : Option Addr) (xc : Nat) (A : Option Addr) (c : Nat) (ps : List Gv) (w : World) (ht : e.text.size ≤ 30000) (hx : Trs.at S w e.tr [.int .i8 e.kind, .string e.text, .int .i64 e.num, .string e.name, .string e.attr, .slice XA e.l.length xc]) (hls : Ls S w 8 104 Gv.tr A c ps) :
    Calls Tryz.prog 11 #[.agg #[.int .i8 e.kind, .string e.text, .int .i64 e.num, .string e.name, .string e.attr, .slice XA e.l.length xc], .slice A ps.length c] w (PlainOut S (plainG e ps) w) := by
  obtain ⟨hwk, hwn, hts⟩ : (Lit.int .i8 e.kind).wf = true ∧ (Lit.int .i64 e.num).wf = true ∧ e.text.size ≤ 140737488351232 := by
    obtain ⟨_, _, _, h1, h2, h3, _⟩ := Ex.at_iff.1 hx
    exact ⟨h1, h2, h3⟩
  obtain ⟨hl1, hl2⟩ := ex_lens hx
  have hcap := hls.cap
  have hbyt := hls.bytes
  have hb0 : Below w.heap.size w ((w.alloc (.cells #[.int .i8 e.kind, .string e.text, .int .i64 e.num, .string e.name, .string e.attr, .slice XA e.l.length xc] 27)).alloc (.cells #[.string ⟨#[]⟩, .bool false, .int .i8 0, .bool false, .int .i64 0, .string ⟨#[]⟩, .slice none 0 0, .slice none 0 0] 39)) := ((Below.refl _ w).alloc (Nat.le_refl _) _).alloc (by simp) _
  have hxe : Blk ((w.alloc (.cells #[.int .i8 e.kind, .string e.text, .int .i64 e.num, .string e.name, .string e.attr, .slice XA e.l.length xc] 27)).alloc (.cells #[.string ⟨#[]⟩, .bool false, .int .i8 0, .bool false, .int .i64 0, .string ⟨#[]⟩, .slice none 0 0, .slice none 0 0] 39)) w.heap.size #[.int .i8 e.kind, .string e.text, .int .i64 e.num, .string e.name, .string e.attr, .slice XA e.l.length xc] 27 := (Blk.new w #[.int .i8 e.kind, .string e.text, .int .i64 e.num, .string e.name, .string e.attr, .slice XA e.l.length xc] 27).alloc _
  have hxg : Blk ((w.alloc (.cells #[.int .i8 e.kind, .string e.text, .int .i64 e.num, .string e.name, .string e.attr, .slice XA e.l.length xc] 27)).alloc (.cells #[.string ⟨#[]⟩, .bool false, .int .i8 0, .bool false, .int .i64 0, .string ⟨#[]⟩, .slice none 0 0, .slice none 0 0] 39)) (w.heap.size + 1) #[.string ⟨#[]⟩, .bool false, .int .i8 0, .bool false, .int .i64 0, .string ⟨#[]⟩, .slice none 0 0, .slice none 0 0] 39 := by
    have := Blk.new (w.alloc (.cells #[.int .i8 e.kind, .string e.text, .int .i64 e.num, .string e.name, .string e.attr, .slice XA e.l.length xc] 27)) #[.string ⟨#[]⟩, .bool false, .int .i8 0, .bool false, .int .i64 0, .string ⟨#[]⟩, .slice none 0 0, .slice none 0 0] 39
    rwa [show (w.alloc (.cells #[.int .i8 e.kind, .string e.text, .int .i64 e.num, .string e.name, .string e.attr, .slice XA e.l.length xc] 27)).heap.size = w.heap.size + 1 by simp] at this
  have HP : Hid (Calls Tryz.prog 30 #[.agg #[.int .i8 e.kind, .string e.text, .int .i64 e.num, .string e.name, .string e.attr, .slice XA e.l.length xc]] ((w.alloc (.cells #[.int .i8 e.kind, .string e.text, .int .i64 e.num, .string e.name, .string e.attr, .slice XA e.l.length xc] 27)).alloc (.cells #[.string ⟨#[]⟩, .bool false, .int .i8 0, .bool false, .int .i64 0, .string ⟨#[]⟩, .slice none 0 0, .slice none 0 0] 39)) fun e' w' => e' = .returned (.bool (xPlain e)) ∧ Below w.heap.size w w' ∧ Blk w' w.heap.size #[.int .i8 e.kind, .string e.text, .int .i64 e.num, .string e.name, .string e.attr, .slice XA e.l.length xc] 27 ∧ Blk w' (w.heap.size + 1) #[.string ⟨#[]⟩, .bool false, .int .i8 0, .bool false, .int .i64 0, .string ⟨#[]⟩, .slice none 0 0, .slice none 0 0] 39) :=
    Lib.hid ((rpls_any e XA xc hl1 hl2 ht _).mono (by
      rintro e' w' ⟨rfl, h2⟩
      exact ⟨rfl, hb0.trans (h2.mono hb0.size), hxe.below h2, hxg.below h2⟩))
  have HLS := Lib.hid hls.bound
  have HPR := Lib.hid (@plainG_ref e ps)
  have HPN : Hid (xPlain e = false → plainG e ps = none) := Lib.hid (fun h => by unfold plainG; rw [if_pos h])
  have HP0 : Hid (xPlain e = true → e.kind = 0 → plainG e ps = some ⟨ByteArray.empty, false, txtV e.text⟩) := Lib.hid (fun h h0 => by unfold plainG; rw [if_neg (by rw [h]; simp), if_pos h0])
  have HP1 : Hid (xPlain e = true → e.kind = 1 → plainG e ps = some ⟨ByteArray.empty, false, numV e.num⟩) := Lib.hid (fun h h0 => by unfold plainG; rw [if_neg (by rw [h]; simp), if_neg (by omega), if_pos h0])
  obtain ⟨pv, hpv⟩ : ∃ pv, pv = xPlain e := ⟨_, rfl⟩
  rw [← hpv] at HP HPR HPN HP0 HP1
  obtain ⟨o, ho⟩ : ∃ o, o = plainG e ps := ⟨_, rfl⟩
  rw [← ho] at HPR HPN HP0 HP1 ⊢
  clear hx hls hb0 hxe hxg hpv hl1 hl2 ho
  go_enter Tryz.func11, Tryz.ntmps11
  go_wp2_with fail
  refine HP.out.mono ?_
  rintro e' w3 ⟨rfl, hb3, hxe, hxg⟩
  have HB3 := Lib.hid hb3
  have HXE := Lib.hid hxe
  have HXG := Lib.hid hxg
  have hw3 := hb3.size
  clear hb3 hxe hxg HP
  cases pv with
  | false =>
    have HE := Lib.hid (HPN.out rfl)
    go_wp2_with ((with_reducible refine is_store ?_); refine wpList_store_blk rfl 39 _ _ rfl (w.heap.size + 1) #[.string ⟨#[]⟩, .bool false, .int .i8 0, .bool false, .int .i64 0, .string ⟨#[]⟩, .slice none 0 0, .slice none 0 0] #[.string ⟨#[]⟩, .bool false, .int .i8 0, .bool false, .int .i64 0, .string ⟨#[]⟩, .slice none 0 0, .slice none 0 0] 39 rfl rfl HXG.out rfl (by kernel_rfl) (by simp [Value.oneCell']) ?_; intro w5 hk5 ho5; have HK5 := Lib.hid hk5; have HO5 := Lib.hid ho5; clear hk5 ho5)
    obtain ⟨r0, r1, r2, r3, r4, r5, r6, r7⟩ := blk8 HK5.out
    refine bodyPost_ret (v := .tuple #[.agg zeroCells, .int .i64 150]) (by simp [zeroCells, results, Tryz.results11, go_sem, r0, r1, r2, r3, r4, r5, r6, r7]) rfl ?_
    rw [HE.out]
    exact ⟨HO5.out.belowB HB3.out (fun k hk => by omega), rfl⟩
  | true =>
    obtain ⟨e0, e1, e2, e3, e4, e5⟩ := blk6 HXE.out
    by_cases h0 : e.kind = 0
    · have k0 : (e.kind == 0) = true := by rw [h0]; rfl
      have HE := Lib.hid (HP0.out rfl h0)
      have HT := Lib.hid (rtext_any e.text w3)
      clear h0 HP0 HP1 HPN HPR
      go_wp2_with fail
      refine HT.out.mono ?_
      rintro e' w4 ⟨rfl, hb4⟩
      have HB4 := Lib.hid (HB3.out.trans (hb4.mono hw3))
      have HXG4 := Lib.hid (HXG.out.below hb4)
      clear hb4 e0 e1 e2 e3 e4 e5
      go_wp2_with ((with_reducible refine is_store ?_); refine wpList_store_blk rfl 39 _ _ rfl (w.heap.size + 1) #[.string ⟨#[]⟩, .bool false, .int .i8 3, .bool false, .int .i64 0, .string e.text, .slice none 0 0, .slice none 0 0] #[.string ⟨#[]⟩, .bool false, .int .i8 0, .bool false, .int .i64 0, .string ⟨#[]⟩, .slice none 0 0, .slice none 0 0] 39 rfl rfl HXG4.out rfl (by kernel_rfl) (by simp [Value.oneCell']) ?_; intro w5 hk5 ho5; have HK5 := Lib.hid hk5; have HO5 := Lib.hid ho5; clear hk5 ho5)
      obtain ⟨r0, r1, r2, r3, r4, r5, r6, r7⟩ := blk8 HK5.out
      refine bodyPost_ret (v := .tuple #[.agg #[.string ⟨#[]⟩, .bool false, .int .i8 3, .bool false, .int .i64 0, .string e.text, .slice none 0 0, .slice none 0 0], .int .i64 0]) (by simp [results, Tryz.results11, go_sem, r0, r1, r2, r3, r4, r5, r6, r7]) rfl ?_
      rw [HE.out]
      exact ⟨HO5.out.belowB HB4.out (fun k hk => by omega), _, rfl, at_txt hts⟩
    have k0 : (e.kind == 0) = false := by simpa using h0
    by_cases h1 : e.kind = 1
    · have k1 : (e.kind == 1) = true := by rw [h1]; rfl
      have HE := Lib.hid (HP1.out rfl h1)
      have HT := Lib.hid (rnum_any e.num w3)
      clear h0 h1 HP0 HP1 HPN HPR
      go_wp2_with fail
      refine HT.out.mono ?_
      rintro e' w4 ⟨rfl, hb4⟩
      have HB4 := Lib.hid (HB3.out.trans (hb4.mono hw3))
      have HXG4 := Lib.hid (HXG.out.below hb4)
      clear hb4 e0 e1 e2 e3 e4 e5
      go_wp2_with ((with_reducible refine is_store ?_); refine wpList_store_blk rfl 39 _ _ rfl (w.heap.size + 1) #[.string ⟨#[]⟩, .bool false, .int .i8 2, .bool false, .int .i64 e.num, .string ByteArray.empty, .slice none 0 0, .slice none 0 0] #[.string ⟨#[]⟩, .bool false, .int .i8 0, .bool false, .int .i64 0, .string ⟨#[]⟩, .slice none 0 0, .slice none 0 0] 39 rfl rfl HXG4.out rfl (by kernel_rfl) (by simp [Value.oneCell']) ?_; intro w5 hk5 ho5; have HK5 := Lib.hid hk5; have HO5 := Lib.hid ho5; clear hk5 ho5)
      obtain ⟨r0, r1, r2, r3, r4, r5, r6, r7⟩ := blk8 HK5.out
      refine bodyPost_ret (v := .tuple #[.agg #[.string ⟨#[]⟩, .bool false, .int .i8 2, .bool false, .int .i64 e.num, .string ByteArray.empty, .slice none 0 0, .slice none 0 0], .int .i64 0]) (by simp [results, Tryz.results11, go_sem, r0, r1, r2, r3, r4, r5, r6, r7]) rfl ?_
      rw [HE.out]
      exact ⟨HO5.out.belowB HB4.out (fun k hk => by omega), _, rfl, at_num hwn⟩
    have k1 : (e.kind == 1) = false := by simpa using h1
    have HE := Lib.hid (HPR.out rfl h0 h1)
    have HF := Lib.hid (rfind_any _ A c ps e.name w3 (HLS.out.below HB3.out))
    obtain ⟨q, hq⟩ : ∃ q, q = ps.find? (fun p => bEq p.name e.name) := ⟨_, rfl⟩
    rw [← hq] at HE HF
    clear h0 h1 hq HP0 HP1 HPN HPR
    go_wp2_with fail
    refine HF.out.mono ?_
    cases q with
    | none =>
      rintro e' w4 ⟨hb4, rfl⟩
      have HB4 := Lib.hid (HB3.out.trans (hb4.mono hw3))
      have HXG4 := Lib.hid (HXG.out.below hb4)
      have hz : zeroCells = #[.string ⟨#[]⟩, .bool false, .int .i8 0, .bool false, .int .i64 0, .string ⟨#[]⟩, .slice none 0 0, .slice none 0 0] := rfl
      rw [hz]
      clear hb4 e0 e1 e2 e3 e4 e5 hz HXG
      have HXG := Lib.hid (HXG4.out.alloc (.cells #[.string ⟨#[]⟩, .bool false, .int .i8 0, .bool false, .int .i64 0, .string ⟨#[]⟩, .slice none 0 0, .slice none 0 0] 39))
      have HB5 := Lib.hid (HB4.out.alloc HB4.out.size (.cells #[.string ⟨#[]⟩, .bool false, .int .i8 0, .bool false, .int .i64 0, .string ⟨#[]⟩, .slice none 0 0, .slice none 0 0] 39))
      go_wp2_with ((with_reducible refine is_store ?_); refine wpList_store_blk rfl 39 _ _ rfl (w.heap.size + 1) #[.string ⟨#[]⟩, .bool false, .int .i8 0, .bool false, .int .i64 0, .string ⟨#[]⟩, .slice none 0 0, .slice none 0 0] #[.string ⟨#[]⟩, .bool false, .int .i8 0, .bool false, .int .i64 0, .string ⟨#[]⟩, .slice none 0 0, .slice none 0 0] 39 rfl rfl HXG.out rfl (by kernel_rfl) (by simp [Value.oneCell']) ?_; intro w5 hk5 ho5; have HK5 := Lib.hid hk5; have HO5 := Lib.hid ho5; clear hk5 ho5)
      obtain ⟨r0, r1, r2, r3, r4, r5, r6, r7⟩ := blk8 HK5.out
      refine bodyPost_ret (v := .tuple #[.agg zeroCells, .int .i64 150]) (by simp [zeroCells, results, Tryz.results11, go_sem, r0, r1, r2, r3, r4, r5, r6, r7]) rfl ?_
      rw [HE.out]
      exact ⟨HO5.out.belowB HB5.out (fun k hk => by omega), rfl⟩
    | some p =>
      rintro e' w4 ⟨hb4, GL, GK, lc, kc, rfl, hpt⟩
      have HB4 := Lib.hid (HB3.out.trans (hb4.mono hw3))
      have HXG4 := Lib.hid (HXG.out.below hb4)
      have hgp : Blk (w4.alloc (.cells #[.string p.name, .bool p.unknown, .int .i8 p.v.kind, .bool p.v.bool, .int .i64 p.v.num, .string p.v.text, .slice GL p.v.list.length lc, .slice GK p.v.keys.length kc] 39)) w4.heap.size #[.string p.name, .bool p.unknown, .int .i8 p.v.kind, .bool p.v.bool, .int .i64 p.v.num, .string p.v.text, .slice GL p.v.list.length lc, .slice GK p.v.keys.length kc] 39 := Blk.new _ _ _
      have HGP := Lib.hid hgp
      have HPT := Lib.hid (hpt.alloc (.cells #[.string p.name, .bool p.unknown, .int .i8 p.v.kind, .bool p.v.bool, .int .i64 p.v.num, .string p.v.text, .slice GL p.v.list.length lc, .slice GK p.v.keys.length kc] 39))
      have hw4 := hb4.size
      clear hb4 e0 e1 e2 e3 e4 e5 HXG hgp hpt
      have HXG := Lib.hid (HXG4.out.alloc (.cells #[.string p.name, .bool p.unknown, .int .i8 p.v.kind, .bool p.v.bool, .int .i64 p.v.num, .string p.v.text, .slice GL p.v.list.length lc, .slice GK p.v.keys.length kc] 39))
      have HB5 := Lib.hid (HB4.out.alloc HB4.out.size (.cells #[.string p.name, .bool p.unknown, .int .i8 p.v.kind, .bool p.v.bool, .int .i64 p.v.num, .string p.v.text, .slice GL p.v.list.length lc, .slice GK p.v.keys.length kc] 39))
      obtain ⟨d0, d1, d2, d3, d4, d5, d6, d7⟩ := blk8 HGP.out
      go_wp2_with ((with_reducible refine is_store ?_); refine wpList_store_blk rfl 39 _ _ rfl (w.heap.size + 1) #[.string ⟨#[]⟩, .bool p.unknown, .int .i8 p.v.kind, .bool p.v.bool, .int .i64 p.v.num, .string p.v.text, .slice GL p.v.list.length lc, .slice GK p.v.keys.length kc] #[.string ⟨#[]⟩, .bool false, .int .i8 0, .bool false, .int .i64 0, .string ⟨#[]⟩, .slice none 0 0, .slice none 0 0] 39 rfl rfl HXG.out rfl (by kernel_rfl) (by simp [Value.oneCell']) ?_; intro w5 hk5 ho5; have HK5 := Lib.hid hk5; have HO5 := Lib.hid ho5; clear hk5 ho5)
      obtain ⟨r0, r1, r2, r3, r4, r5, r6, r7⟩ := blk8 HK5.out
      refine bodyPost_ret (v := .tuple #[.agg #[.string ⟨#[]⟩, .bool p.unknown, .int .i8 p.v.kind, .bool p.v.bool, .int .i64 p.v.num, .string p.v.text, .slice GL p.v.list.length lc, .slice GK p.v.keys.length kc], .int .i64 0]) (by simp [results, Tryz.results11, go_sem, r0, r1, r2, r3, r4, r5, r6, r7]) rfl ?_
      rw [HE.out]
      obtain ⟨vs, hvs, hpn, hvt⟩ := Gv.at_iff.1 HPT.out
      simp only [List.cons.injEq, true_and] at hvs
      subst hvs
      exact ⟨HO5.out.belowB HB5.out (fun k hk => by omega), _, rfl, Gv.at_iff.2 ⟨_, rfl, by show ByteArray.empty.size ≤ _; decide, ((hvt.only HO5.out (fun k hk => by have := hk.2; omega)).mono (fun k hk => hk.1))⟩⟩
end Go.Proofs.YtmljdppdaaoehaaGreatDoor

/- hoardingref15's at, params, next: walks (for CondsRun). -/
namespace Go.Proofs.YtmljdppdaaoehaaGreatDoor
open Go.RowKit
set_option linter.unusedVariables false
set_option linter.unusedSimpArgs false

def plI (l : List Cd) (s : ByteArray) : Int := match plAt l s with | some i => (i : Int) | none => -1
theorem plAt_of {l : List Cd} {s : ByteArray} {j : Nat} {c : Cd} (hc : l[j]? = some c) (hn : c.name = s) (hb : ∀ (k : Nat) (d : Cd), k < j → l[k]? = some d → d.name ≠ s) : plAt l s = some j := by
  unfold plAt
  obtain ⟨hj, rfl⟩ := List.getElem?_eq_some_iff.1 hc
  refine List.findIdx?_eq_some_iff_getElem.2 ⟨hj, bEq_iff.2 hn, fun k hk => ?_⟩
  rw [bEq_ne (hb k _ hk (List.getElem?_eq_getElem (by omega)))]
  simp
theorem plAt_no {l : List Cd} {s : ByteArray} (hb : ∀ (k : Nat) (d : Cd), l[k]? = some d → d.name ≠ s) : plAt l s = none := by
  unfold plAt
  refine List.findIdx?_eq_none_iff.2 (fun d hd => ?_)
  obtain ⟨k, hk, rfl⟩ := List.getElem_of_mem hd
  exact bEq_ne (hb k _ (List.getElem?_eq_getElem hk))
set_option maxRecDepth 100000 in
set_option maxHeartbeats 4000000 in
theorem rat_any (S : Nat → Prop) (A : Option Addr) (c : Nat) (l : List Cd) (s : ByteArray) (w : World) (hls : Ls S w 15 224 Cd.tr A c l) :
    Calls Tryz.prog 48 #[.slice A l.length c, .string s] w fun e w' => e = .returned (.int .i64 (plI l s)) ∧ w' = w := by
  have hcap := hls.cap
  have hbyt := hls.bytes
  have HL := Lib.hid hls
  clear hls
  go_enter Tryz.func48, Tryz.ntmps48
  go_wp2_with fail
  go_loopg [5] l.length (fun g i wr => ∃ j : Nat, j + g = l.length ∧ i = .int .i64 (j : Nat) ∧ wr = w ∧ Hid (∀ (k : Nat) (d : Cd), k < j → l[k]? = some d → d.name ≠ s))
  case atStart => exact ⟨0, by omega, rfl, rfl, Lib.hid (fun k d h => by omega)⟩
  case round =>
    obtain ⟨j, hj, rfl, rfl, HB⟩ := hrel
    cases gk with
    | zero =>
      have hjj : ¬ ((j : Int) < (l.length : Int)) := by omega
      have HE : Hid (plI l s = -1) := Lib.hid (by
        unfold plI
        rw [plAt_no (fun k d hd => HB.out k d (by have := (List.getElem?_eq_some_iff.1 hd).1; omega) hd)])
      go_wp2_with fail
      go_ret
      exact ⟨by rw [HE.out]; rfl, rfl⟩
    | succ g =>
      have hjj : (j : Int) < (l.length : Int) := by omega
      have hj0 : (0 : Int) ≤ (j : Int) ∧ (j : Int) < (l.length : Int) := by omega
      obtain ⟨d, hd⟩ := get_lt (l := l) (i := j) (by omega)
      obtain ⟨ad, cs, rfl, hdt, hdc⟩ := HL.out.elem Cd.trlen hd
      obtain ⟨_, _, d0, _, _, _, _⟩ := cd_cel hdt hdc
      have HD := Lib.hid hd
      clear hdt hdc hd
      by_cases he : d.name = s
      · have hE : (d.name.toList == s.toList) = true := by rw [he]; simp
        have HE : Hid (plI l s = (j : Int)) := Lib.hid (by unfold plI; rw [plAt_of HD.out he HB.out])
        clear he
        go_wp2_with fail
        go_ret
        exact ⟨by rw [HE.out]; rfl, rfl⟩
      · have hE := str_ne he
        have HE := Lib.hid he
        clear he
        go_wp2_with fail
        go_roundg g
        case measure => omega
        case rel => exact ⟨j + 1, by omega, by go_num, rfl, Lib.hid (fun k x hk hx => by
          rcases Nat.lt_succ_iff_lt_or_eq.1 hk with hk | rfl
          · exact HB.out k x hk hx
          · rw [HD.out] at hx; injection hx with hx; subst hx; exact HE.out)⟩

/-! ### next -/
theorem info_int' : (Tryz.prog.info? 3).map (fun i => (i.zero, i.size, i.bytes)) = some (some (.int .i64 0), 1, 8) := by kernel_rfl
def natV (l : List Nat) : List Value := l.map fun i => .int .i64 (i : Nat)
def NatsOut (l : List Nat) (w : World) (e : Ending) (w' : World) : Prop := ∃ A c, e = .returned (.slice A l.length c) ∧ Ow w' w.heap.size 3 1 A l.length c (natV l) ∧ Below w.heap.size w w'
theorem fm_take {f : ByteArray → Option Nat} {N : List ByteArray} {j : Nat} {y : ByteArray} (hy : N[j]? = some y) : (N.take (j + 1)).filterMap f = (N.take j).filterMap f ++ (f y).toList := by
  rw [List.take_add_one, hy, List.filterMap_append]
  cases h : f y <;> simp [h]
set_option maxRecDepth 100000 in
set_option maxHeartbeats 8000000 in
theorem rnext_any (S : Nat → Prop) (A : Option Addr) (ac : Nat) (l : List Cd) (i : Nat) (hi : i < l.length) (w : World) (hls : Ls S w 15 224 Cd.tr A ac l) (hok : CsOk l) :
    Calls Tryz.prog 75 #[.slice A l.length ac, .int .i64 (i : Nat)] w (NatsOut (nextOf l i) w) := by
  have hcap := hls.cap
  have hbyt := hls.bytes
  have HLS := Lib.hid hls
  obtain ⟨c, hc⟩ := get_lt (l := l) (i := i) hi
  obtain ⟨hd, hlen, _⟩ := hok c (List.mem_of_getElem? hc)
  have HNX : Hid (nextOf l i = if c.kind = 4 then [] else (names c).filterMap (plAt l)) := Lib.hid (by unfold nextOf; rw [hc])
  obtain ⟨ad, cs, rfl, hct, hcc⟩ := hls.elem Cd.trlen hc
  have hbw : Below w.heap.size w (w.alloc (.cells cs.toArray 46)) := (Below.refl _ w).alloc (Nat.le_refl _) _
  have HNM := Lib.hid (rnames_any S c cs _ hd (hct.below hbw) (by omega))
  have HBW := Lib.hid hbw
  obtain ⟨xs1, ys1, L, lc, rfl, hns, _, hxa, hxb, _⟩ := Cd.at_iff.1 hct
  obtain ⟨A1, n1, rfl, _⟩ := ex_cells hxa
  obtain ⟨B1, n2, rfl, _⟩ := ex_cells hxb
  obtain ⟨c0, c1, c2, c3, c4, c5, c6, c7, c8, c9, c10, c11, c12, c13, c14⟩ := cel15 hcc
  have hii : (0 : Int) ≤ (i : Int) ∧ (i : Int) < (l.length : Int) := by omega
  have hnl : (names c).length ≤ 1000000 := by
    have := foldT_len (cNm 20 c) []
    unfold names
    simp only [List.length_nil, Nat.zero_add] at this
    omega
  clear hls hct hcc hxa hxb hc hd hok hbw
  by_cases h4 : c.kind = 4
  · have HE : Hid (nextOf l i = []) := Lib.hid (by rw [HNX.out, if_pos h4])
    clear HNX HNM
    rw [h4] at HBW
    go_enter Tryz.func75, Tryz.ntmps75
    go_wp2_with fail
    go_ret
    exact ⟨none, 0, by rw [HE.out]; rfl, by rw [HE.out]; exact Ow.nil _ _ _ _, HBW.out⟩
  · have hk4 : (c.kind == 4) = false := beq_eq_false_iff_ne.2 h4
    obtain ⟨N, hN⟩ : ∃ N, N = names c := ⟨_, rfl⟩
    have HE : Hid (nextOf l i = N.filterMap (plAt l)) := Lib.hid (by rw [HNX.out, if_neg h4, hN])
    rw [← hN] at HNM hnl
    clear HNX hN
    go_enter Tryz.func75, Tryz.ntmps75
    go_wp2_with fail
    refine HNM.out.mono ?_
    rintro e w3 ⟨NA, nc, rfl, ho, hb, _⟩
    have HNR := Lib.hid ho.rd
    have hncap := ho.cap
    have hnm := ho.max
    unfold maxLen at hnm
    have HB3 : Hid (Below w.heap.size w w3) := Lib.hid (HBW.out.trans (hb.mono HBW.out.size))
    clear ho hb HNM HBW c0 c1 c2 c3 c4 c5 c6 c7 c8 c9 c10 c11 c12 c13 c14
    go_wp2_with fail
    go_loopg [5, 8] N.length (fun g v x wr => ∃ (j m : Nat) (R : List Nat) (B : Option Addr) (bc : Nat), j + g = N.length ∧ x = .int .i64 (j : Nat) ∧ v = .slice B m bc ∧ Hid (m = R.length) ∧ Hid (R = (N.take j).filterMap (plAt l)) ∧ Hid (R.length ≤ j) ∧ Hid (Ow wr w3.heap.size 3 1 B R.length bc (natV R)) ∧ Hid (Below w3.heap.size w3 wr))
    case atStart => exact ⟨0, 0, [], none, 0, by omega, rfl, rfl, Lib.hid rfl, Lib.hid (by simp), Lib.hid (by simp), Lib.hid (Ow.nil _ _ _ _), Lib.hid (Below.refl _ _)⟩
    case round =>
      obtain ⟨j, m, R, B, bc, hj, rfl, rfl, HM, HRJ, HRL, HO, HB⟩ := hrel
      rename World => wo
      cases gk with
      | zero =>
        have hjj : ¬ ((j : Int) < (N.length : Int)) := by omega
        go_wp2_with fail
        go_ret
        have hR : R = nextOf l i := by rw [HRJ.out, HE.out, List.take_of_length_le (by omega)]
        have hm := HM.out
        have ho := HO.out
        subst hR
        subst hm
        exact ⟨B, bc, rfl, ho.le HB3.out.size, HB3.out.trans (HB.out.mono HB3.out.size)⟩
      | succ g =>
        have hjj : (j : Int) < (N.length : Int) := by omega
        have hj0 : (0 : Int) ≤ (j : Int) ∧ (j : Int) < (N.length : Int) := by omega
        have hRl := HRL.out
        obtain ⟨y, hy⟩ := get_lt (l := N) (i := j) (by omega)
        obtain ⟨nd, rfl, hcy⟩ := (HNR.out.below HB.out).at_ j (.string y) (by simp [hy])
        have HST := Lib.hid (fm_take (f := plAt l) hy)
        have HAT := Lib.hid (rat_any S (some ad) ac l y wo ((HLS.out.below HB3.out).below HB.out))
        have hm := HM.out
        rw [hm]
        clear hy hm HM
        cases hp : plAt l y with
        | none =>
          have hpi : plI l y = -1 := by unfold plI; rw [hp]
          rw [hpi] at HAT
          rw [hp] at HST
          clear hpi hp
          go_wp2_with fail
          refine HAT.out.mono ?_
          rintro e w4 ⟨rfl, rfl⟩
          go_wp2_with fail
          go_roundg g
          case measure => omega
          case rel => exact ⟨j + 1, R.length, R, B, bc, by omega, by go_num, rfl, Lib.hid rfl, Lib.hid (by rw [HST.out, HRJ.out]; simp), Lib.hid (by omega), HO, HB⟩
        | some k =>
          have hpi : plI l y = (k : Int) := by unfold plI; rw [hp]
          have hk0 : (0 : Int) ≤ (k : Int) := by omega
          rw [hpi] at HAT
          rw [hp] at HST
          clear hpi hp
          go_wp2_with fail
          refine HAT.out.mono ?_
          rintro e w4 ⟨rfl, rfl⟩
          have HRN : Hid (Rd (w4.alloc (.cells #[.int .i64 (k : Nat)] 3)) 1 (some ⟨w4.heap.size, 0, none⟩) 1 1 [.int .i64 (k : Nat)]) := Lib.hid (Rd.lit w4 1 1 #[.int .i64 (k : Nat)] 3 (0, 0) rfl (by simp [maxLen]))
          go_wp2_with (at_builtin; refine wpList_row info_int' Tryz.underlying98 rfl (by omega) rfl (.tmp 33) (.tmp 35) rfl w3.heap.size B bc R.length (natV R) rfl (HO.out.alloc _) (some ⟨w4.heap.size, 0, none⟩) 1 1 [.int .i64 (k : Nat)] rfl HRN.out (by simp [Value.oneCell']) (by omega) (by omega) (by have := HB.out.size; simp; omega) ?_; intro A' c' w6 ho hg hat; have HO6 := Lib.hid ho; have HG6 := Lib.hid hg; clear ho hg hat)
          go_roundg g
          case measure => omega
          case rel => exact ⟨j + 1, R.length + 1, R ++ [k], A', c', by omega, by go_num, rfl, Lib.hid (by simp), Lib.hid (by rw [HST.out, HRJ.out]; simp), Lib.hid (by simp; omega), Lib.hid (by rw [List.length_append]; unfold natV; rw [List.map_append]; exact HO6.out), Lib.hid ((HB.out.alloc HB.out.size _).grown HG6.out (HB.out.alloc HB.out.size _).size (fun g hg => by have := (HO.out.lt hg).1; omega))⟩
end Go.Proofs.YtmljdppdaaoehaaGreatDoor
