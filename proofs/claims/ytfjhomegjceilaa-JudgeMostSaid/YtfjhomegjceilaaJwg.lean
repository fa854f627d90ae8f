/- hoardinglaw31.wakes: the walk. -/
import Derived.Test.YtfjhomegjceilaaJwd3
import Derived.Test.YtfjhomegjceilaaJwd2
namespace Go.Proofs.Ytfjhomegjceilaa
open Go.RowKit Go.Maps
set_option linter.unusedVariables false
set_option linter.unusedSimpArgs false
set_option maxRecDepth 100000 in
theorem stepsJ_any (w : World) (qc qt : Nat) : Calls Try.prog 8 #[.agg #[.int .i8 0, .int .i64 2, .slice none 0 0, .slice none 0 0, .slice none 0 0, .slice none 0 0, .string ⟨#[]⟩, .slice none 0 0, .int .i64 0, .int .i8 0, .slice none 0 0, .slice none 0 0, .string ⟨#[]⟩, .slice none 0 0, .slice (some ⟨qc, 0, none⟩) 2 2, .slice (some ⟨qt, 0, none⟩) 2 2, .int .i8 0, .int .i8 0]] w fun e w' => e = .returned (.int .i64 24) ∧ Below w.heap.size w w' := by
  obtain ⟨W, hW⟩ : ∃ W, W = w.alloc (.cells #[.int .i8 0, .int .i64 2, .slice none 0 0, .slice none 0 0, .slice none 0 0, .slice none 0 0, .string ⟨#[]⟩, .slice none 0 0, .int .i64 0, .int .i8 0, .slice none 0 0, .slice none 0 0, .string ⟨#[]⟩, .slice none 0 0, .slice (some ⟨qc, 0, none⟩) 2 2, .slice (some ⟨qt, 0, none⟩) 2 2, .int .i8 0, .int .i8 0] 44) := ⟨_, rfl⟩
  have hb : Below w.heap.size w W := by rw [hW]; exact (Below.refl _ w).alloc (Nat.le_refl _) _
  have hk : Blk W w.heap.size #[.int .i8 0, .int .i64 2, .slice none 0 0, .slice none 0 0, .slice none 0 0, .slice none 0 0, .string ⟨#[]⟩, .slice none 0 0, .int .i64 0, .int .i8 0, .slice none 0 0, .slice none 0 0, .string ⟨#[]⟩, .slice none 0 0, .slice (some ⟨qc, 0, none⟩) 2 2, .slice (some ⟨qt, 0, none⟩) 2 2, .int .i8 0, .int .i8 0] 44 := by rw [hW]; exact Blk.new w _ _
  have k14 := hk.cell 14 rfl
  have HW := Lib.hid hW
  have HB := Lib.hid hb
  clear hW hb hk
  go_enter Try.func8, Try.ntmps8
  go_upto_region 1 with fail
  rw [← HW.out]
  go_wp2_with fail
  go_ret
  exact ⟨rfl, HB.out⟩
theorem wpList_load_rowG {P : Program} {ops : Array Oper} {rest : List Oper} {o : Oper} {a : Act} {w : World} {Q : Exit → Act → World → Prop} (hw : Region.wanted o (yielded ops a.tmps) = true) (ty : TypeId) (x : Operand) (ho : o.op = .load ty x)
    (g : Nat) (hx : a.eval x = .pointer (some ⟨g, 0, none⟩)) (t : TypeId) (cs : Array Value) (fr : Nat × Nat) (d : TypeDesc) (hg : w.heap[g]? = some (.cells cs t fr))
    (hu : P.underlying ty = some d) (hd : (match d with | .struct _ | .array _ _ => true | _ => false) = true) (hi : (P.info? ty).map (·.size) = some cs.size)
    (h : wpList P ops Q rest (a.put o.dst (.agg cs)) w) : wpList P ops Q (o :: rest) a w :=
  wpList_step fun K hK => by
    rw [if_pos hw]
    exact wp_load_row ty x ho g hx t cs fr d hg hu hd hi (hK _ _ h)
theorem htr_new (w : World) (cs : Array Value) (t : TypeId) : Htr (w.alloc (.cells cs t)) w.heap.size cs.toList :=
  ⟨fun i v hv => (Blk.new w cs t).cell i (by simpa using hv), by simp⟩
theorem most2_ls (w : World) : Ls (fun _ => True) (w.alloc (.cells #[.int .i64 1, .bool false, .bool false, .int .i64 2, .bool false, .bool false] 26)) 3 16 Tc.tr (some ⟨w.heap.size, 0, none⟩) 2 [⟨1, false, false⟩, ⟨2, false, false⟩] :=
  ⟨by omega, by simp, by simp, by simp [maxLen], fun _ _ _ => trivial, _, Rd.lit w 3 2 #[.int .i64 1, .bool false, .bool false, .int .i64 2, .bool false, .bool false] _ _ rfl (by simp [maxLen]), by
    have e1 : (Lit.int .i64 1).wf = true := by decide
    have e2 : (Lit.int .i64 2).wf = true := by decide
    simp only [List.flatMap_cons, List.flatMap_nil, Tc.tr, List.cons_append, List.nil_append, Trs.at, Tr.at, okLeaf]
    exact ⟨_, _, rfl, ⟨rfl, e1⟩, _, _, rfl, ⟨rfl, trivial⟩, _, _, rfl, ⟨rfl, trivial⟩, _, _, rfl, ⟨rfl, e2⟩, _, _, rfl, ⟨rfl, trivial⟩, _, _, rfl, ⟨rfl, trivial⟩, rfl⟩⟩
set_option maxRecDepth 100000 in
set_option maxHeartbeats 16000000 in
theorem wakes_any (w : World) : Calls Try.prog 5 #[] w fun e w' => e = .returned (.bool true) ∧ Below w.heap.size w w' := by
  have hZ : (((w.alloc (.cells #[.string ⟨#[65]⟩] 9)).alloc (.cells #[.string ⟨#[65]⟩, .int .i8 1, .string ⟨#[68, 105, 115, 107]⟩, .slice none 0 0, .bool false, .int .i64 0, .bool false, .slice none 0 0, .string ⟨#[66]⟩, .int .i8 1, .string ⟨#[68, 105, 115, 107]⟩, .slice none 0 0, .bool false, .int .i64 0, .bool false, .slice (some ⟨w.heap.size, 0, none⟩) 1 1] 33)).alloc (.cells #[.int .i8 0, .int .i64 0, .slice none 0 0, .slice none 0 0, .slice none 0 0, .slice none 0 0, .string ⟨#[]⟩, .slice none 0 0, .int .i64 0, .int .i8 0, .slice none 0 0, .slice none 0 0, .string ⟨#[]⟩, .slice none 0 0, .slice none 0 0, .slice none 0 0, .int .i8 0, .int .i8 0] 44)).heap[w.heap.size + 1 + 1]? = some (.cells #[.int .i8 0, .int .i64 0, .slice none 0 0, .slice none 0 0, .slice none 0 0, .slice none 0 0, .string ⟨#[]⟩, .slice none 0 0, .int .i64 0, .int .i8 0, .slice none 0 0, .slice none 0 0, .string ⟨#[]⟩, .slice none 0 0, .slice none 0 0, .slice none 0 0, .int .i8 0, .int .i8 0] 44 (0, 0)) := by
    have := World.alloc_heap_new ((w.alloc (.cells #[.string ⟨#[65]⟩] 9)).alloc (.cells #[.string ⟨#[65]⟩, .int .i8 1, .string ⟨#[68, 105, 115, 107]⟩, .slice none 0 0, .bool false, .int .i64 0, .bool false, .slice none 0 0, .string ⟨#[66]⟩, .int .i8 1, .string ⟨#[68, 105, 115, 107]⟩, .slice none 0 0, .bool false, .int .i64 0, .bool false, .slice (some ⟨w.heap.size, 0, none⟩) 1 1] 33)) (.cells #[.int .i8 0, .int .i64 0, .slice none 0 0, .slice none 0 0, .slice none 0 0, .slice none 0 0, .string ⟨#[]⟩, .slice none 0 0, .int .i64 0, .int .i8 0, .slice none 0 0, .slice none 0 0, .string ⟨#[]⟩, .slice none 0 0, .slice none 0 0, .slice none 0 0, .int .i8 0, .int .i8 0] 44)
    rw [World.size_alloc, World.size_alloc] at this
    exact this
  obtain ⟨W2, hW⟩ : ∃ W', W' = (((w.alloc (.cells #[.string ⟨#[65]⟩] 9)).alloc (.cells #[.string ⟨#[65]⟩, .int .i8 1, .string ⟨#[68, 105, 115, 107]⟩, .slice none 0 0, .bool false, .int .i64 0, .bool false, .slice none 0 0, .string ⟨#[66]⟩, .int .i8 1, .string ⟨#[68, 105, 115, 107]⟩, .slice none 0 0, .bool false, .int .i64 0, .bool false, .slice (some ⟨w.heap.size, 0, none⟩) 1 1] 33)).alloc (.cells #[.int .i8 0, .int .i64 0, .slice none 0 0, .slice none 0 0, .slice none 0 0, .slice none 0 0, .string ⟨#[]⟩, .slice none 0 0, .int .i64 0, .int .i8 0, .slice none 0 0, .slice none 0 0, .string ⟨#[]⟩, .slice none 0 0, .slice none 0 0, .slice none 0 0, .int .i8 0, .int .i8 0] 44)).setRow (w.heap.size + 1 + 1) #[.int .i8 0, .int .i64 2, .slice none 0 0, .slice none 0 0, .slice none 0 0, .slice none 0 0, .string ⟨#[]⟩, .slice none 0 0, .int .i64 0, .int .i8 0, .slice none 0 0, .slice none 0 0, .string ⟨#[]⟩, .slice none 0 0, .slice (some ⟨w.heap.size + 1, 0, none⟩) 2 2, .slice none 0 0, .int .i8 0, .int .i8 0] := ⟨_, rfl⟩
  have hb : Below w.heap.size w W2 := by rw [hW]; exact below_setRow ((((Below.refl _ w).alloc (Nat.le_refl _) _).alloc (by simp) _).alloc (by simp; omega) _) (by omega) _
  have hn : Blk W2 w.heap.size #[.string ⟨#[65]⟩] 9 := by
    rw [hW]
    exact (setRow_other _ _ _ _ (by omega)).trans (((Blk.new w _ _).alloc _).alloc _)
  have hc : Blk W2 (w.heap.size + 1) #[.string ⟨#[65]⟩, .int .i8 1, .string ⟨#[68, 105, 115, 107]⟩, .slice none 0 0, .bool false, .int .i64 0, .bool false, .slice none 0 0, .string ⟨#[66]⟩, .int .i8 1, .string ⟨#[68, 105, 115, 107]⟩, .slice none 0 0, .bool false, .int .i64 0, .bool false, .slice (some ⟨w.heap.size, 0, none⟩) 1 1] 33 := by
    have := Blk.new (w.alloc (.cells #[.string ⟨#[65]⟩] 9)) #[.string ⟨#[65]⟩, .int .i8 1, .string ⟨#[68, 105, 115, 107]⟩, .slice none 0 0, .bool false, .int .i64 0, .bool false, .slice none 0 0, .string ⟨#[66]⟩, .int .i8 1, .string ⟨#[68, 105, 115, 107]⟩, .slice none 0 0, .bool false, .int .i64 0, .bool false, .slice (some ⟨w.heap.size, 0, none⟩) 1 1] 33
    rw [World.size_alloc] at this
    rw [hW]
    exact (setRow_other _ _ _ _ (by omega)).trans (this.alloc _)
  have hk : Blk W2 (w.heap.size + 1 + 1) #[.int .i8 0, .int .i64 2, .slice none 0 0, .slice none 0 0, .slice none 0 0, .slice none 0 0, .string ⟨#[]⟩, .slice none 0 0, .int .i64 0, .int .i8 0, .slice none 0 0, .slice none 0 0, .string ⟨#[]⟩, .slice none 0 0, .slice (some ⟨w.heap.size + 1, 0, none⟩) 2 2, .slice none 0 0, .int .i8 0, .int .i8 0] 44 := by rw [hW]; exact setRow_heap _ _ _ _ _ _ hZ
  have hs : W2.heap.size = w.heap.size + 1 + 1 + 1 := by rw [hW, setRow_size]; simp
  have HZ := Lib.hid hZ
  have x15 := hk.cell 15 rfl
  have z15 := hk.frozen 15
  have HW := Lib.hid hW
  have HB := Lib.hid hb
  have HN := Lib.hid hn
  have HC := Lib.hid hc
  have HK := Lib.hid hk
  have HS := Lib.hid hs
  have hbT : Below W2.heap.size W2 (W2.alloc (.cells #[.int .i64 0, .int .i8 0, .int .i64 1, .int .i8 0, .string ⟨#[]⟩, .string ⟨#[]⟩, .slice none 0 0, .int .i8 1, .string ⟨#[]⟩, .int .i64 1, .int .i8 0, .int .i64 2, .int .i8 0, .string ⟨#[]⟩, .string ⟨#[]⟩, .slice none 0 0, .int .i8 0, .string ⟨#[]⟩] 48)) := (Below.refl _ _).alloc (Nat.le_refl _) _
  have y15 := (hk.below hbT).cell 15 rfl
  have u15 := (hk.below hbT).frozen 15
  clear hW hb hn hc hk hs hbT hZ
  go_enter Try.func5, Try.ntmps5
  go_upto_region 2 with (refine wpList_store_row rfl 44 (.tmp 1) (.tmp 6) rfl (w.heap.size + 1 + 1) #[.int .i8 0, .int .i64 2, .slice none 0 0, .slice none 0 0, .slice none 0 0, .slice none 0 0, .string ⟨#[]⟩, .slice none 0 0, .int .i64 0, .int .i8 0, .slice none 0 0, .slice none 0 0, .string ⟨#[]⟩, .slice none 0 0, .slice (some ⟨w.heap.size + 1, 0, none⟩) 2 2, .slice none 0 0, .int .i8 0, .int .i8 0] rfl rfl 44 _ HZ.out sz_work rfl (by simp [Value.oneCell']) ?_)
  rw [← HW.out]
  go_upto_region 3 with fail
  obtain ⟨W3, hw⟩ : ∃ W', W' = (W2.alloc (.cells #[.int .i64 0, .int .i8 0, .int .i64 1, .int .i8 0, .string ⟨#[]⟩, .string ⟨#[]⟩, .slice none 0 0, .int .i8 1, .string ⟨#[]⟩, .int .i64 1, .int .i8 0, .int .i64 2, .int .i8 0, .string ⟨#[]⟩, .string ⟨#[]⟩, .slice none 0 0, .int .i8 0, .string ⟨#[]⟩] 48)).setCell ⟨w.heap.size + 1 + 1, 15, none⟩ (.slice (some ⟨W2.heap.size, 0, none⟩) 2 2) := ⟨_, rfl⟩
  have hbT : Below W2.heap.size W2 (W2.alloc (.cells #[.int .i64 0, .int .i8 0, .int .i64 1, .int .i8 0, .string ⟨#[]⟩, .string ⟨#[]⟩, .slice none 0 0, .int .i8 1, .string ⟨#[]⟩, .int .i64 1, .int .i8 0, .int .i64 2, .int .i8 0, .string ⟨#[]⟩, .string ⟨#[]⟩, .slice none 0 0, .int .i8 0, .string ⟨#[]⟩] 48)) := (Below.refl _ _).alloc (Nat.le_refl _) _
  have hb3 : Below w.heap.size w W3 := by rw [hw]; exact (HB.out.trans (hbT.mono HB.out.size)).setCell (p := ⟨w.heap.size + 1 + 1, 15, none⟩) (by show w.heap.size ≤ w.heap.size + 1 + 1; omega) _
  have hk3 : Blk W3 (w.heap.size + 1 + 1) #[.int .i8 0, .int .i64 2, .slice none 0 0, .slice none 0 0, .slice none 0 0, .slice none 0 0, .string ⟨#[]⟩, .slice none 0 0, .int .i64 0, .int .i8 0, .slice none 0 0, .slice none 0 0, .string ⟨#[]⟩, .slice none 0 0, .slice (some ⟨w.heap.size + 1, 0, none⟩) 2 2, .slice (some ⟨W2.heap.size, 0, none⟩) 2 2, .int .i8 0, .int .i8 0] 44 := by rw [hw]; exact ((HK.out.below hbT).set 15 (.slice (some ⟨W2.heap.size, 0, none⟩) 2 2)).eq rfl
  have hc3 : Blk W3 (w.heap.size + 1) #[.string ⟨#[65]⟩, .int .i8 1, .string ⟨#[68, 105, 115, 107]⟩, .slice none 0 0, .bool false, .int .i64 0, .bool false, .slice none 0 0, .string ⟨#[66]⟩, .int .i8 1, .string ⟨#[68, 105, 115, 107]⟩, .slice none 0 0, .bool false, .int .i64 0, .bool false, .slice (some ⟨w.heap.size, 0, none⟩) 1 1] 33 := by rw [hw]; exact (HC.out.below hbT).setOther _ _ (by show w.heap.size + 1 ≠ w.heap.size + 1 + 1; omega)
  have hn3 : Blk W3 w.heap.size #[.string ⟨#[65]⟩] 9 := by rw [hw]; exact (HN.out.below hbT).setOther _ _ (by show w.heap.size ≠ w.heap.size + 1 + 1; omega)
  have ht3 : Blk W3 W2.heap.size #[.int .i64 0, .int .i8 0, .int .i64 1, .int .i8 0, .string ⟨#[]⟩, .string ⟨#[]⟩, .slice none 0 0, .int .i8 1, .string ⟨#[]⟩, .int .i64 1, .int .i8 0, .int .i64 2, .int .i8 0, .string ⟨#[]⟩, .string ⟨#[]⟩, .slice none 0 0, .int .i8 0, .string ⟨#[]⟩] 48 := by rw [hw]; exact (Blk.new W2 _ _).setOther _ _ (by have := HS.out; show W2.heap.size ≠ w.heap.size + 1 + 1; omega)
  have H3 := Lib.hid hk3
  have B3 := Lib.hid hb3
  have C3 : Hid (Hc W3 (w.heap.size + 1) w.heap.size) := Lib.hid ⟨fun i v hv => hc3.cell i (by rw [← hv]; simp [chA, chB]), hn3.cell 0 rfl⟩
  have T3 : Hid (Ht W3 W2.heap.size) := Lib.hid ⟨fun i v hv => ht3.cell i (by rw [← hv]; simp [tkA, tkB])⟩
  rw [← hw]
  clear hw hbT hb3 hk3 hc3 hn3 ht3 x15 z15 y15 u15
  go_wp2_with (refine wpList_load_row rfl 44 (.tmp 1) rfl (w.heap.size + 1 + 1) rfl _ _ (0, 0) _ H3.out Try.underlying44 rfl sz_work ?_)
  have hbA : Below W3.heap.size W3 (W3.alloc (.cells #[.int .i64 1, .bool false, .bool false, .int .i64 1, .bool true, .bool true, .int .i64 2, .bool false, .bool false] 26)) := (Below.refl _ _).alloc (Nat.le_refl _) _
  refine (order3_any _ (w.heap.size + 1) w.heap.size 2 W2.heap.size W3.heap.size (by omega) (by simp [maxLen]) (C3.out.below hbA) (T3.out.below hbA) (htr_new _ _ _)).mono ?_
  rintro e w4 ⟨rfl, hb4⟩
  have hb34 := hbA.trans (hb4.mono hbA.size)
  have H4 := Lib.hid (H3.out.below hb34)
  have B4 := Lib.hid (B3.out.trans (hb34.mono B3.out.size))
  have C4 := Lib.hid (C3.out.below hb34)
  have T4 := Lib.hid (T3.out.below hb34)
  clear hbA hb4 hb34
  go_wp2_with (refine wpList_load_rowG (by rfl) 44 (.tmp 1) rfl (w.heap.size + 1 + 1) rfl _ _ (0, 0) _ H4.out Try.underlying44 rfl sz_work ?_)
  have hbA : Below w4.heap.size w4 (w4.alloc (.cells #[.int .i64 1, .bool false, .bool false, .int .i64 2, .bool false, .bool false] 26)) := (Below.refl _ _).alloc (Nat.le_refl _) _
  refine (order2_any _ (w.heap.size + 1) w.heap.size 2 W2.heap.size w4.heap.size (by omega) (by simp [maxLen]) (C4.out.below hbA) (T4.out.below hbA) (htr_new _ _ _)).mono ?_
  rintro e w5 ⟨rfl, hb5⟩
  have hb45 := hbA.trans (hb5.mono hbA.size)
  have H5 := Lib.hid (H4.out.below hb45)
  have B5 := Lib.hid (B4.out.trans (hb45.mono B4.out.size))
  clear hbA hb5 hb45
  go_wp2_with fail
  have hbA : Below w5.heap.size w5 (w5.alloc (.cells #[.int .i64 1, .bool false, .bool false, .int .i64 2, .bool false, .bool false] 26)) := (Below.refl _ _).alloc (Nat.le_refl _) _
  refine (most_any _ _ 2 [⟨1, false, false⟩, ⟨2, false, false⟩] _ (most2_ls w5) (by simp)).mono ?_
  rintro e w6 ⟨rfl, hb6⟩
  have hb56 := hbA.trans (hb6.mono hbA.size)
  have H6 := Lib.hid (H5.out.below hb56)
  have B6 := Lib.hid (B5.out.trans (hb56.mono B5.out.size))
  rw [show (mF [⟨1, false, false⟩, ⟨2, false, false⟩]).m = 2 from by decide]
  clear hbA hb6 hb56
  go_wp2_with (refine wpList_load_rowG (by rfl) 44 (.tmp 1) rfl (w.heap.size + 1 + 1) rfl _ _ (0, 0) _ H6.out Try.underlying44 rfl sz_work ?_)
  refine (stepsJ_any w6 (w.heap.size + 1) W2.heap.size).mono ?_
  rintro e w7 ⟨rfl, hb7⟩
  have B7 := Lib.hid (B6.out.trans (hb7.mono B6.out.size))
  clear hb7
  go_wp2_with fail
  go_ret
  exact ⟨rfl, B7.out⟩
end Go.Proofs.Ytfjhomegjceilaa
