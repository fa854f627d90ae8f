/- hoardinglaw31.wakes: court.before, court.forward of the work. -/
import Derived.Test.YtfjhomegjceilaaJw9
namespace Go.Proofs.Ytfjhomegjceilaa
open Go.RowKit Go.Maps
set_option linter.unusedVariables false
set_option linter.unusedSimpArgs false
/-- the court in memory -/
structure Ct (w : World) (qk q0 qm qc ql c qt g g' o n : Nat) (f : Int → Value) : Prop where
  ct : Blk w qk #[.pointer (some ⟨q0, 0, none⟩), .map (some qm), .slice (some ⟨g, 0, none⟩) 2 2, .slice (some ⟨o, 0, none⟩) 2 2, .slice none 0 0] 62
  wk : Blk w q0 #[.int .i8 0, .int .i64 2, .slice none 0 0, .slice none 0 0, .slice none 0 0, .slice none 0 0, .string ⟨#[]⟩, .slice none 0 0, .int .i64 0, .int .i8 0, .slice none 0 0, .slice none 0 0, .string ⟨#[]⟩, .slice none 0 0, .slice (some ⟨qc, 0, none⟩) 2 c, .slice (some ⟨qt, 0, none⟩) 2 2, .int .i8 0, .int .i8 0] 44
  ml : ML w qm n f
  hc : Hc w qc ql
  ht : Ht w qt
  g0 : w.cell? ⟨g, 0, none⟩ = some (.slice none 0 0)
  g1 : w.cell? ⟨g, 1, none⟩ = some (.slice (some ⟨g', 0, none⟩) 1 1)
  gi : w.cell? ⟨g', 0, none⟩ = some (.int .i64 0)
theorem Ct.below {w w' : World} {qk q0 qm qc ql c qt g g' o n : Nat} {f : Int → Value} (h : Ct w qk q0 qm qc ql c qt g g' o n f) (hb : Below w.heap.size w w') : Ct w' qk q0 qm qc ql c qt g g' o n f :=
  ⟨h.ct.below hb, h.wk.below hb, h.ml.below hb, h.hc.below hb, h.ht.below hb, (hb.cell (World.block_lt_of_cell? w _ h.g0)).trans h.g0, (hb.cell (World.block_lt_of_cell? w _ h.g1)).trans h.g1, (hb.cell (World.block_lt_of_cell? w _ h.gi)).trans h.gi⟩
set_option maxRecDepth 100000 in
set_option maxHeartbeats 16000000 in
theorem beforeT_any (w : World) (qk q0 qm qc ql c qt g g' o n : Nat) (f : Int → Value) (h : Ct w qk q0 qm qc ql c qt g g' o n f) (hf : f 1 = .agg #[.int .i64 0, .int .i64 1, .int .i64 1, .int .i64 1, .bool true]) : Calls Try.prog 30 #[.pointer (some ⟨qk, 0, none⟩), .int .i64 0, .int .i8 0, .int .i64 2, .bool true] w fun e w' => e = .returned (.bool true) ∧ Below w.heap.size w w' := by
  have k0 := h.ct.cell 0 rfl
  have H := Lib.hid h
  have HF := Lib.hid hf
  clear h hf
  go_enter Try.func30, Try.ntmps30
  go_wp2_with (refine wpList_load_row rfl 44 (.tmp 19) rfl q0 rfl _ _ (0, 0) _ H.out.wk Try.underlying44 rfl sz_work ?_)
  refine (task_any w qc c qt H.out.ht).mono ?_
  rintro e w2 ⟨rfl, hb2⟩
  have H2 := Lib.hid (H.out.below hb2)
  have HB2 := Lib.hid hb2
  clear hb2 k0
  go_upto_region 2 with fail
  obtain ⟨W3, hw⟩ : ∃ W', W' = w2.alloc (.cells #[.int .i64 0, .int .i8 0, .int .i64 1, .int .i8 0, .string ⟨#[]⟩, .string ⟨#[]⟩, .slice none 0 0, .int .i8 1, .string ⟨#[]⟩] 48) := ⟨_, rfl⟩
  have hb3 : Below w2.heap.size w2 W3 := by rw [hw]; exact (Below.refl _ _).alloc (Nat.le_refl _) _
  have hn3 : Blk W3 w2.heap.size #[.int .i64 0, .int .i8 0, .int .i64 1, .int .i8 0, .string ⟨#[]⟩, .string ⟨#[]⟩, .slice none 0 0, .int .i8 1, .string ⟨#[]⟩] 48 := by rw [hw]; exact Blk.new w2 _ _
  rw [← hw]
  have h3 := H2.out.below hb3
  have k1 := h3.ct.cell 1 rfl
  have n2 := hn3.cell 2 rfl
  have hlk0 := fun W' (hb : Below W3.heap.size W3 W') => (h3.ml.below hb).look (k := 1) (by omega) (by omega)
  rw [HF.out] at hlk0
  have hlk : (Instr.lookup 56 (.map (some qm)) (.int .i64 1) false).run Try.prog W3.drew = .ok (.agg #[.int .i64 0, .int .i64 1, .int .i64 1, .int .i64 1, .bool true]) W3.drew := hlk0 _ ⟨rfl, rfl, rfl, Nat.le_refl _, fun _ _ => rfl⟩
  have hbA : Below W3.heap.size W3 (W3.alloc (.cells #[.int .i64 0, .int .i64 0, .int .i64 0, .int .i64 0, .bool false] 67)) := (Below.refl _ _).alloc (Nat.le_refl _) _
  have hlk2 : (Instr.lookup 56 (.map (some qm)) (.int .i64 1) false).run Try.prog (W3.alloc (.cells #[.int .i64 0, .int .i64 0, .int .i64 0, .int .i64 0, .bool false] 67)).drew = .ok (.agg #[.int .i64 0, .int .i64 1, .int .i64 1, .int .i64 1, .bool true]) (W3.alloc (.cells #[.int .i64 0, .int .i64 0, .int .i64 0, .int .i64 0, .bool false] 67)).drew := hlk0 _ (hbA.trans ⟨rfl, rfl, rfl, Nat.le_refl _, fun _ _ => rfl⟩)
  have k1A := (h3.below hbA).ct.cell 1 rfl
  have n2A := (hn3.below hbA).cell 2 rfl
  have HB3 : Hid (Below w.heap.size w W3) := Lib.hid (HB2.out.trans (hb3.mono HB2.out.size))
  clear hw hb3 hn3 h3 hlk0 hbA
  go_region
  all_goals
    go_wp2_with fail
    go_ret
    exact ⟨rfl, HB3.out.trans (((Below.refl _ _).alloc HB3.out.size _).trans ⟨rfl, rfl, rfl, Nat.le_refl _, fun _ _ => rfl⟩)⟩
set_option maxRecDepth 100000 in
set_option maxHeartbeats 16000000 in
theorem beforeF_any (w : World) (qk q0 qm qc ql c qt g g' o n : Nat) (f : Int → Value) (h : Ct w qk q0 qm qc ql c qt g g' o n f) (hf : f 1 = .agg #[.int .i64 0, .int .i64 0, .int .i64 1, .int .i64 0, .bool false]) : Calls Try.prog 30 #[.pointer (some ⟨qk, 0, none⟩), .int .i64 0, .int .i8 0, .int .i64 1, .bool true] w fun e w' => e = .returned (.bool false) ∧ Below w.heap.size w w' := by
  have k0 := h.ct.cell 0 rfl
  have H := Lib.hid h
  have HF := Lib.hid hf
  clear h hf
  go_enter Try.func30, Try.ntmps30
  go_wp2_with (refine wpList_load_row rfl 44 (.tmp 19) rfl q0 rfl _ _ (0, 0) _ H.out.wk Try.underlying44 rfl sz_work ?_)
  refine (task_any w qc c qt H.out.ht).mono ?_
  rintro e w2 ⟨rfl, hb2⟩
  have H2 := Lib.hid (H.out.below hb2)
  have HB2 := Lib.hid hb2
  clear hb2 k0
  go_upto_region 2 with fail
  obtain ⟨W3, hw⟩ : ∃ W', W' = w2.alloc (.cells #[.int .i64 0, .int .i8 0, .int .i64 1, .int .i8 0, .string ⟨#[]⟩, .string ⟨#[]⟩, .slice none 0 0, .int .i8 1, .string ⟨#[]⟩] 48) := ⟨_, rfl⟩
  have hb3 : Below w2.heap.size w2 W3 := by rw [hw]; exact (Below.refl _ _).alloc (Nat.le_refl _) _
  have hn3 : Blk W3 w2.heap.size #[.int .i64 0, .int .i8 0, .int .i64 1, .int .i8 0, .string ⟨#[]⟩, .string ⟨#[]⟩, .slice none 0 0, .int .i8 1, .string ⟨#[]⟩] 48 := by rw [hw]; exact Blk.new w2 _ _
  rw [← hw]
  have h3 := H2.out.below hb3
  have k1 := h3.ct.cell 1 rfl
  have n2 := hn3.cell 2 rfl
  have hlk0 := fun W' (hb : Below W3.heap.size W3 W') => (h3.ml.below hb).look (k := 1) (by omega) (by omega)
  rw [HF.out] at hlk0
  have hlk : (Instr.lookup 56 (.map (some qm)) (.int .i64 1) false).run Try.prog W3.drew = .ok (.agg #[.int .i64 0, .int .i64 0, .int .i64 1, .int .i64 0, .bool false]) W3.drew := hlk0 _ ⟨rfl, rfl, rfl, Nat.le_refl _, fun _ _ => rfl⟩
  have hbA : Below W3.heap.size W3 (W3.alloc (.cells #[.int .i64 0, .int .i64 0, .int .i64 0, .int .i64 0, .bool false] 67)) := (Below.refl _ _).alloc (Nat.le_refl _) _
  have hlk2 : (Instr.lookup 56 (.map (some qm)) (.int .i64 1) false).run Try.prog (W3.alloc (.cells #[.int .i64 0, .int .i64 0, .int .i64 0, .int .i64 0, .bool false] 67)).drew = .ok (.agg #[.int .i64 0, .int .i64 0, .int .i64 1, .int .i64 0, .bool false]) (W3.alloc (.cells #[.int .i64 0, .int .i64 0, .int .i64 0, .int .i64 0, .bool false] 67)).drew := hlk0 _ (hbA.trans ⟨rfl, rfl, rfl, Nat.le_refl _, fun _ _ => rfl⟩)
  have k1A := (h3.below hbA).ct.cell 1 rfl
  have n2A := (hn3.below hbA).cell 2 rfl
  have HB3 : Hid (Below w.heap.size w W3) := Lib.hid (HB2.out.trans (hb3.mono HB2.out.size))
  clear hw hb3 hn3 h3 hlk0 hbA
  go_region
  all_goals
    go_wp2_with fail
    go_ret
    exact ⟨rfl, HB3.out.trans (((Below.refl _ _).alloc HB3.out.size _).trans ⟨rfl, rfl, rfl, Nat.le_refl _, fun _ _ => rfl⟩)⟩
set_option maxRecDepth 100000 in
theorem calls_contains (s v : Value) (w : World) {R : World → Prop} (i : Int) (h : Calls Try.prog 47 #[s, v] w fun e w' => e = .returned (.int .i64 i) ∧ R w') :
    Calls Try.prog 27 #[s, v] w fun e w' => e = .returned (.bool (decide (0 ≤ i))) ∧ R w' := by
  have H := Lib.hid h
  clear h
  go_enter Try.func27, Try.ntmps27
  go_wp2_with fail
  refine H.out.mono ?_
  rintro e w2 ⟨rfl, hr⟩
  have HR := Lib.hid hr
  clear hr H
  go_wp2_with fail
  go_ret
  exact ⟨rfl, HR.out⟩
set_option maxRecDepth 100000 in
theorem idxi0_any (v : Value) (w : World) : Calls Try.prog 47 #[.slice none 0 0, v] w fun e w' => e = .returned (.int .i64 (-1)) ∧ w' = w := by
  go_enter Try.func47, Try.ntmps47
  go_wp2_with fail
  refine wp_loop_rounds 1 ?_
  rw [rounds_succ]
  go_wp2_with fail
  go_ret
  exact ⟨rfl, rfl⟩
set_option maxRecDepth 100000 in
set_option maxHeartbeats 16000000 in
theorem fwd0_any (w : World) (at_ : Int) (qk q0 qm qc ql c qt g g' o n : Nat) (f : Int → Value) (h : Ct w qk q0 qm qc ql c qt g g' o n f) :
    Calls Try.prog 14 #[.pointer (some ⟨qk, 0, none⟩), .int .i64 0, .int .i64 at_] w fun e w' => e = .returned (.bool true) ∧ Below w.heap.size w w' := by
  obtain ⟨W, hW⟩ : ∃ W', W' = (w.alloc (.cells #[.pointer (some ⟨qk, 0, none⟩)] 54)).alloc (.cells #[.int .i64 at_] 3) := ⟨_, rfl⟩
  have hb : Below w.heap.size w W := by rw [hW]; exact ((Below.refl _ w).alloc (Nat.le_refl _) _).alloc (by simp) _
  have hk : Blk W w.heap.size #[.pointer (some ⟨qk, 0, none⟩)] 54 := by rw [hW]; exact (Blk.new w _ _).alloc _
  have h' := h.below hb
  have c0 := hk.cell 0 rfl
  have k2 := h'.ct.cell 2 rfl
  have g0 := h'.g0
  have HW := Lib.hid hW
  have HB := Lib.hid hb
  clear h h' hW hb hk
  go_enter Try.func14, Try.ntmps14
  go_upto_region 1 with fail
  rw [← HW.out]
  go_wp2_with fail
  refine (calls_contains _ _ W (R := fun w' => w' = W) (-1) (idxi0_any _ W)).mono ?_
  rintro e w2 ⟨rfl, hw2⟩
  obtain rfl := hw2.symm
  go_wp2_with fail
  go_ret
  exact ⟨rfl, HB.out⟩
set_option maxRecDepth 100000 in
set_option maxHeartbeats 16000000 in
theorem fwdcT_any (w : World) (qf qa qk q0 qm qc ql c qt g g' o n : Nat) (f : Int → Value) (h : Ct w qk q0 qm qc ql c qt g g' o n f) (hf : f 1 = .agg #[.int .i64 0, .int .i64 1, .int .i64 1, .int .i64 1, .bool true]) (hqf : w.cell? ⟨qf, 0, none⟩ = some (.pointer (some ⟨qk, 0, none⟩))) (hqa : w.cell? ⟨qa, 0, none⟩ = some (.int .i64 2)) :
    Calls Try.prog 28 #[.int .i64 0, .pointer (some ⟨qf, 0, none⟩), .pointer (some ⟨qa, 0, none⟩)] w fun e w' => e = .returned (.bool false) ∧ Below w.heap.size w w' := by
  have k0 := h.ct.cell 0 rfl
  have k14 := h.wk.cell 14 rfl
  have HB := Lib.hid (beforeT_any w qk q0 qm qc ql c qt g g' o n f h hf)
  have HW := Lib.hid (wanted_any qc 0 w (h.hc.cell 1 _ rfl))
  clear h hf
  go_enter Try.func28, Try.ntmps28
  go_wp2_with fail
  refine HW.out.mono ?_
  rintro e w9 ⟨rfl, hw9⟩
  obtain rfl := hw9.symm
  go_wp2_with fail
  refine HB.out.mono ?_
  rintro e w2 ⟨rfl, hb2⟩
  have HB2 := Lib.hid hb2
  clear hb2 k0 k14 hqf hqa HB HW
  go_wp2_with fail
  go_ret
  exact ⟨rfl, HB2.out⟩
set_option maxRecDepth 100000 in
set_option maxHeartbeats 16000000 in
theorem fwdiT_any (w : World) (qf qa qk q0 qm qc ql c qt g g' o n : Nat) (f : Int → Value) (h : Ct w qk q0 qm qc ql c qt g g' o n f) (hf : f 1 = .agg #[.int .i64 0, .int .i64 1, .int .i64 1, .int .i64 1, .bool true]) (hqf : w.cell? ⟨qf, 0, none⟩ = some (.pointer (some ⟨qk, 0, none⟩))) (hqa : w.cell? ⟨qa, 0, none⟩ = some (.int .i64 2)) :
    Calls Try.prog 47 #[.slice (some ⟨g', 0, none⟩) 1 1, .func (.func 28) #[] #[.pointer (some ⟨qf, 0, none⟩), .pointer (some ⟨qa, 0, none⟩)]] w fun e w' => e = .returned (.int .i64 (-1)) ∧ Below w.heap.size w w' := by
  have gi := h.gi
  have HB := Lib.hid (fwdcT_any w qf qa qk q0 qm qc ql c qt g g' o n f h hf hqf hqa)
  clear h hf hqf hqa
  go_enter Try.func47, Try.ntmps47
  go_wp2_with fail
  refine wp_loop_rounds 2 ?_
  rw [rounds_succ]
  go_wp2_with fail
  refine HB.out.mono ?_
  rintro e w2 ⟨rfl, hb2⟩
  have HB2 := Lib.hid hb2
  clear hb2 gi HB
  go_wp2_with fail
  rw [rounds_succ]
  go_wp2_with fail
  go_ret
  exact ⟨rfl, HB2.out⟩
set_option maxRecDepth 100000 in
set_option maxHeartbeats 16000000 in
theorem fwd1T_any (w : World) (qk q0 qm qc ql c qt g g' o n : Nat) (f : Int → Value) (h : Ct w qk q0 qm qc ql c qt g g' o n f) (hf : f 1 = .agg #[.int .i64 0, .int .i64 1, .int .i64 1, .int .i64 1, .bool true]) :
    Calls Try.prog 14 #[.pointer (some ⟨qk, 0, none⟩), .int .i64 1, .int .i64 2] w fun e w' => e = .returned (.bool true) ∧ Below w.heap.size w w' := by
  obtain ⟨W, hW⟩ : ∃ W', W' = (w.alloc (.cells #[.pointer (some ⟨qk, 0, none⟩)] 54)).alloc (.cells #[.int .i64 2] 3) := ⟨_, rfl⟩
  have hb : Below w.heap.size w W := by rw [hW]; exact ((Below.refl _ w).alloc (Nat.le_refl _) _).alloc (by simp) _
  have hk : Blk W w.heap.size #[.pointer (some ⟨qk, 0, none⟩)] 54 := by rw [hW]; exact (Blk.new w _ _).alloc _
  have hi : Blk W (w.heap.size + 1) #[.int .i64 2] 3 := by
    rw [hW]
    have := Blk.new (w.alloc (.cells #[.pointer (some ⟨qk, 0, none⟩)] 54)) #[.int .i64 2] 3
    rwa [World.size_alloc] at this
  have h' := h.below hb
  have c0 := hk.cell 0 rfl
  have HI := Lib.hid (fwdiT_any W w.heap.size (w.heap.size + 1) qk q0 qm qc ql c qt g g' o n f h' hf c0 (hi.cell 0 rfl))
  have k2 := h'.ct.cell 2 rfl
  have g1 := h'.g1
  have HW := Lib.hid hW
  have HB := Lib.hid hb
  clear h h' hf hW hb hk hi
  go_enter Try.func14, Try.ntmps14
  go_upto_region 1 with fail
  rw [← HW.out]
  go_wp2_with fail
  refine (calls_contains _ _ W (R := fun w' => Below W.heap.size W w') (-1) HI.out).mono ?_
  rintro e w2 ⟨rfl, hb2⟩
  have HB2 := Lib.hid (HB.out.trans (hb2.mono HB.out.size))
  clear hb2 c0 k2 g1 HI
  go_wp2_with fail
  go_ret
  exact ⟨rfl, HB2.out⟩
set_option maxRecDepth 100000 in
set_option maxHeartbeats 16000000 in
theorem fwdcF_any (w : World) (qf qa qk q0 qm qc ql c qt g g' o n : Nat) (f : Int → Value) (h : Ct w qk q0 qm qc ql c qt g g' o n f) (hf : f 1 = .agg #[.int .i64 0, .int .i64 0, .int .i64 1, .int .i64 0, .bool false]) (hqf : w.cell? ⟨qf, 0, none⟩ = some (.pointer (some ⟨qk, 0, none⟩))) (hqa : w.cell? ⟨qa, 0, none⟩ = some (.int .i64 1)) :
    Calls Try.prog 28 #[.int .i64 0, .pointer (some ⟨qf, 0, none⟩), .pointer (some ⟨qa, 0, none⟩)] w fun e w' => e = .returned (.bool true) ∧ Below w.heap.size w w' := by
  have k0 := h.ct.cell 0 rfl
  have k14 := h.wk.cell 14 rfl
  have HB := Lib.hid (beforeF_any w qk q0 qm qc ql c qt g g' o n f h hf)
  have HW := Lib.hid (wanted_any qc 0 w (h.hc.cell 1 _ rfl))
  clear h hf
  go_enter Try.func28, Try.ntmps28
  go_wp2_with fail
  refine HW.out.mono ?_
  rintro e w9 ⟨rfl, hw9⟩
  obtain rfl := hw9.symm
  go_wp2_with fail
  refine HB.out.mono ?_
  rintro e w2 ⟨rfl, hb2⟩
  have HB2 := Lib.hid hb2
  clear hb2 k0 k14 hqf hqa HB HW
  go_wp2_with fail
  go_ret
  exact ⟨rfl, HB2.out⟩
set_option maxRecDepth 100000 in
set_option maxHeartbeats 16000000 in
theorem fwdiF_any (w : World) (qf qa qk q0 qm qc ql c qt g g' o n : Nat) (f : Int → Value) (h : Ct w qk q0 qm qc ql c qt g g' o n f) (hf : f 1 = .agg #[.int .i64 0, .int .i64 0, .int .i64 1, .int .i64 0, .bool false]) (hqf : w.cell? ⟨qf, 0, none⟩ = some (.pointer (some ⟨qk, 0, none⟩))) (hqa : w.cell? ⟨qa, 0, none⟩ = some (.int .i64 1)) :
    Calls Try.prog 47 #[.slice (some ⟨g', 0, none⟩) 1 1, .func (.func 28) #[] #[.pointer (some ⟨qf, 0, none⟩), .pointer (some ⟨qa, 0, none⟩)]] w fun e w' => e = .returned (.int .i64 0) ∧ Below w.heap.size w w' := by
  have gi := h.gi
  have HB := Lib.hid (fwdcF_any w qf qa qk q0 qm qc ql c qt g g' o n f h hf hqf hqa)
  clear h hf hqf hqa
  go_enter Try.func47, Try.ntmps47
  go_wp2_with fail
  refine wp_loop_rounds 2 ?_
  rw [rounds_succ]
  go_wp2_with fail
  refine HB.out.mono ?_
  rintro e w2 ⟨rfl, hb2⟩
  have HB2 := Lib.hid hb2
  clear hb2 gi HB
  go_wp2_with fail
  go_ret
  exact ⟨rfl, HB2.out⟩
set_option maxRecDepth 100000 in
set_option maxHeartbeats 16000000 in
theorem fwd1F_any (w : World) (qk q0 qm qc ql c qt g g' o n : Nat) (f : Int → Value) (h : Ct w qk q0 qm qc ql c qt g g' o n f) (hf : f 1 = .agg #[.int .i64 0, .int .i64 0, .int .i64 1, .int .i64 0, .bool false]) :
    Calls Try.prog 14 #[.pointer (some ⟨qk, 0, none⟩), .int .i64 1, .int .i64 1] w fun e w' => e = .returned (.bool false) ∧ Below w.heap.size w w' := by
  obtain ⟨W, hW⟩ : ∃ W', W' = (w.alloc (.cells #[.pointer (some ⟨qk, 0, none⟩)] 54)).alloc (.cells #[.int .i64 1] 3) := ⟨_, rfl⟩
  have hb : Below w.heap.size w W := by rw [hW]; exact ((Below.refl _ w).alloc (Nat.le_refl _) _).alloc (by simp) _
  have hk : Blk W w.heap.size #[.pointer (some ⟨qk, 0, none⟩)] 54 := by rw [hW]; exact (Blk.new w _ _).alloc _
  have hi : Blk W (w.heap.size + 1) #[.int .i64 1] 3 := by
    rw [hW]
    have := Blk.new (w.alloc (.cells #[.pointer (some ⟨qk, 0, none⟩)] 54)) #[.int .i64 1] 3
    rwa [World.size_alloc] at this
  have h' := h.below hb
  have c0 := hk.cell 0 rfl
  have HI := Lib.hid (fwdiF_any W w.heap.size (w.heap.size + 1) qk q0 qm qc ql c qt g g' o n f h' hf c0 (hi.cell 0 rfl))
  have k2 := h'.ct.cell 2 rfl
  have g1 := h'.g1
  have HW := Lib.hid hW
  have HB := Lib.hid hb
  clear h h' hf hW hb hk hi
  go_enter Try.func14, Try.ntmps14
  go_upto_region 1 with fail
  rw [← HW.out]
  go_wp2_with fail
  refine (calls_contains _ _ W (R := fun w' => Below W.heap.size W w') 0 HI.out).mono ?_
  rintro e w2 ⟨rfl, hb2⟩
  have HB2 := Lib.hid (HB.out.trans (hb2.mono HB.out.size))
  clear hb2 c0 k2 g1 HI
  go_wp2_with fail
  go_ret
  exact ⟨rfl, HB2.out⟩
end Go.Proofs.Ytfjhomegjceilaa
