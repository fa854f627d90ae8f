/- hoardinglaw31.wakes: a map of lives; forward.Task, court.before, court.forward of the work. -/
import Derived.Test.YtfjhomegjceilaaJw8
import Derived.BigQuiet
import Derived.StillTail
import Derived.Laws.CopyOwn
import Derived.StillTailTactics
namespace Go.Proofs.Ytfjhomegjceilaa
open Go.RowKit Go.Maps
set_option linter.unusedVariables false
set_option linter.unusedSimpArgs false
/-- an element as it stands -/
def Rv (v : Value) : Option (DataW Value × List MemPlace) := some (.held v, [])
def life0 : Value := .agg #[.int .i64 0, .int .i64 0, .int .i64 0, .int .i64 0, .bool false]
theorem zero_life (w : World) : (zeroValue 67).run Try.prog w = .ok life0 w := by kernel_rfl
/-- block b is a map[int]judge.life that holds f -/
def ML (w : World) (b n : Nat) (f : Int → Value) : Prop :=
  ∃ D : DataW Value, w.ownsMap Try.prog 3 Rv b n D ∧ Go.Maps.IsMap D ∧ ∀ k : Int, D.atKey (.int .i64 k) (.held life0) = .held (f k)
section
variable {w w' : World} {b n : Nat} {f : Int → Value}
theorem ML.new (w : World) : ML (w.alloc (.map #[] 0)) w.heap.size 0 (fun _ => life0) := ⟨.map [], World.ownsMap_made _ _ _ _, ⟨[], rfl⟩, fun k => rfl⟩
theorem ML.lt (h : ML w b n f) : b < w.heap.size := by obtain ⟨D, h1, _⟩ := h; exact h1.lt
theorem ML.grown {row : Option Nat} (h : ML w b n f) (hg : w.grownBy w' row) (hr : row ≠ some b) : ML w' b n f := by
  obtain ⟨D, h1, h2, h3⟩ := h
  exact ⟨D, ownsMap_same h1 (hg.block b h1.lt (fun e => hr e.symm)), h2, h3⟩
theorem ML.below (h : ML w b n f) (hb : Below w.heap.size w w') : ML w' b n f := h.grown (row := none) (grown_none_of_below hb) (fun e => by cases e)
set_option maxRecDepth 100000 in
theorem ML.look (h : ML w b n f) {k : Int} (h1 : -9223372036854775808 ≤ k) (h2 : k ≤ 9223372036854775807) : (Instr.lookup 56 (.map (some b)) (.int .i64 k) false).run Try.prog w = .ok (f k) w := by
  obtain ⟨D, g1, g2, g3⟩ := h
  obtain ⟨v, ps, hrun, hv⟩ := g1.lookup key_intM Try.underlying56 (zero_life w) (zd := .held life0) (zp := []) rfl (key_ofM h1 h2)
  rw [g3 k] at hv
  unfold Rv at hv
  injection hv with hv
  injection hv with hv _
  injection hv with hv
  rw [hrun, hv]
end
theorem putIn_ML {F : Fence} {nF : Nat} {w : World} {ops : Array Oper} {rest : List Oper} {o : Oper} {a : Act} {Q : Exit → Act → World → Prop} (hg : o.guard = none) (m x v : Operand) (hop : o.op = Op.mapUpdate 56 m x v) (b n : Nat) (f : Int → Value) (hm : a.eval m = .map (some b)) (h : ML w b n f) (hn : n < maxLen)
    (k : Int) (hk1 : -9223372036854775808 ≤ k) (hk2 : k ≤ 9223372036854775807) (hx : a.eval x = .int .i64 k) (y : Value) (hv : a.eval v = y)
    (hK : ∀ w', ML w' b (n + 1) (fun j => if j = k then y else f j) → w.grownBy w' (some b) → wpListIn F nF Try.prog ops Q rest (a.put o.dst undef) w') : wpListIn F nF Try.prog ops Q (o :: rest) a w := by
  obtain ⟨D, g1, g2, g3⟩ := h
  refine wpListIn_mapUpdate_own w hg m x v 56 hop 3 67 key_intM Try.underlying56 _ b n D hm g1 hn _ _ (.int .i64 k) hx hv (key_ofM hk1 hk2) (.held y) [] rfl (fun w' h1 h2 => hK w' ⟨_, h1, g2.put _ _, fun j => ?_⟩ h2)
  by_cases hj : j = k
  · subst hj
    rw [Go.Maps.atKey_put_same g2 (isKey_intM j)]; simp
  · rw [Go.Maps.atKey_put_other (fun e => hj (by injection e)), g3 j]; simp [hj]
theorem sz_task : (Try.prog.info? 48).map (·.size) = some 9 := by kernel_rfl
theorem one_TA : (#[.int .i64 0, .int .i8 0, .int .i64 1, .int .i8 0, .string ⟨#[]⟩, .string ⟨#[]⟩, .slice none 0 0, .int .i8 1, .string ⟨#[]⟩] : Array Value).all (·.oneCell') = true := by kernel_rfl
set_option maxRecDepth 100000 in
theorem wanted_any (q i : Nat) (w : World) (h : w.cell? ⟨q, i + 1, none⟩ = some (.int .i8 1)) : Calls Try.prog 29 #[.pointer (some ⟨q, i, none⟩)] w fun e w' => e = .returned (.bool true) ∧ w' = w := by
  go_enter Try.func29, Try.ntmps29
  go_wp2_with fail
  go_ret
  exact ⟨rfl, rfl⟩
set_option maxRecDepth 100000 in
set_option maxHeartbeats 4000000 in
theorem taskIs_any (q ba bb : Nat) (w : World) (h0 : w.cell? ⟨q, 0, none⟩ = some (.int .i64 0)) (h1 : w.cell? ⟨q, 1, none⟩ = some (.int .i8 0)) (hba : w.cell? ⟨ba, 0, none⟩ = some (.int .i64 0)) (hbb : w.cell? ⟨bb, 0, none⟩ = some (.int .i8 0)) :
    Calls Try.prog 49 #[.pointer (some ⟨q, 0, none⟩), .pointer (some ⟨ba, 0, none⟩), .pointer (some ⟨bb, 0, none⟩)] w fun e w' => e = .returned (.bool true) ∧ Below w.heap.size w w' := by
  go_enter Try.func49, Try.ntmps49
  go_wp2_with fail
  go_quiet (fail)
  go_wp2_with fail
  go_ret
  exact ⟨rfl, rfl, rfl, rfl, Nat.le_refl _, fun _ _ => rfl⟩
set_option maxRecDepth 100000 in
set_option maxHeartbeats 4000000 in
theorem first_any (qt ba bb : Nat) (w : World) (ht : Ht w qt) (hba : w.cell? ⟨ba, 0, none⟩ = some (.int .i64 0)) (hbb : w.cell? ⟨bb, 0, none⟩ = some (.int .i8 0)) :
    Calls Try.prog 48 #[.slice (some ⟨qt, 0, none⟩) 2 2, .func (.func 49) #[] #[.pointer (some ⟨ba, 0, none⟩), .pointer (some ⟨bb, 0, none⟩)]] w fun e w' => e = .returned (.tuple #[.agg #[.int .i64 0, .int .i8 0, .int .i64 1, .int .i8 0, .string ⟨#[]⟩, .string ⟨#[]⟩, .slice none 0 0, .int .i8 1, .string ⟨#[]⟩], .bool true]) ∧ Below w.heap.size w w' := by
  obtain ⟨W, hW⟩ : ∃ W', W' = w.alloc (.cells #[.int .i64 0, .int .i8 0, .int .i64 0, .int .i8 0, .string ⟨#[]⟩, .string ⟨#[]⟩, .slice none 0 0, .int .i8 0, .string ⟨#[]⟩] 48) := ⟨_, rfl⟩
  have hb : Below w.heap.size w W := by rw [hW]; exact (Below.refl _ w).alloc (Nat.le_refl _) _
  have hn : Blk W w.heap.size #[.int .i64 0, .int .i8 0, .int .i64 0, .int .i8 0, .string ⟨#[]⟩, .string ⟨#[]⟩, .slice none 0 0, .int .i8 0, .string ⟨#[]⟩] 48 := by rw [hW]; exact Blk.new w _ _
  have HW := Lib.hid hW
  have HB := Lib.hid hb
  have HN := Lib.hid hn
  have HT := Lib.hid (ht.below hb)
  have HA := Lib.hid ((hb.cell (World.block_lt_of_cell? w _ hba)).trans hba)
  have HBB := Lib.hid ((hb.cell (World.block_lt_of_cell? w _ hbb)).trans hbb)
  clear hW hb hn ht hba hbb
  go_enter Try.func48, Try.ntmps48
  go_upto_region 1 with fail
  rw [← HW.out]
  go_wp2_with fail
  refine wp_loop_rounds 2 ?_
  rw [rounds_succ]
  go_wp2_with fail
  refine (taskIs_any qt ba bb W (HT.out.cell 0 _ rfl) (HT.out.cell 1 _ rfl) HA.out HBB.out).mono ?_
  rintro e w2 ⟨rfl, hb2⟩
  have ht2 := HT.out.below hb2
  have hn2 := HN.out.below hb2
  have HB2 := Lib.hid (HB.out.trans (hb2.mono HB.out.size))
  have t0 := ht2.cell 0 _ rfl
  have t1 := ht2.cell 1 _ rfl
  have t2 := ht2.cell 2 _ rfl
  have t3 := ht2.cell 3 _ rfl
  have t4 := ht2.cell 4 _ rfl
  have t5 := ht2.cell 5 _ rfl
  have t6 := ht2.cell 6 _ rfl
  have t7 := ht2.cell 7 _ rfl
  have t8 := ht2.cell 8 _ rfl
  have HN2 := Lib.hid hn2
  clear hn2 ht2 hb2
  have hg2 : w2.heap[w.heap.size]? = some (.cells #[.int .i64 0, .int .i8 0, .int .i64 0, .int .i8 0, .string ⟨#[]⟩, .string ⟨#[]⟩, .slice none 0 0, .int .i8 0, .string ⟨#[]⟩] 48 (0, 0)) := HN2.out
  have HG2 := Lib.hid hg2
  clear hg2
  go_wp2_with (refine wpList_store_row rfl 48 (.tmp 4) (.tmp 20) rfl w.heap.size #[.int .i64 0, .int .i8 0, .int .i64 1, .int .i8 0, .string ⟨#[]⟩, .string ⟨#[]⟩, .slice none 0 0, .int .i8 1, .string ⟨#[]⟩] rfl rfl 48 _ HG2.out sz_task rfl one_TA ?_)
  have hr := setRow_heap w2 w.heap.size _ #[.int .i64 0, .int .i8 0, .int .i64 1, .int .i8 0, .string ⟨#[]⟩, .string ⟨#[]⟩, .slice none 0 0, .int .i8 1, .string ⟨#[]⟩] _ _ HG2.out
  have hbz := below_setRow (g := w.heap.size) HB2.out (Nat.le_refl _) #[.int .i64 0, .int .i8 0, .int .i64 1, .int .i8 0, .string ⟨#[]⟩, .string ⟨#[]⟩, .slice none 0 0, .int .i8 1, .string ⟨#[]⟩]
  generalize w2.setRow w.heap.size #[.int .i64 0, .int .i8 0, .int .i64 1, .int .i8 0, .string ⟨#[]⟩, .string ⟨#[]⟩, .slice none 0 0, .int .i8 1, .string ⟨#[]⟩] = V at hr hbz ⊢
  have hv : Blk V w.heap.size #[.int .i64 0, .int .i8 0, .int .i64 1, .int .i8 0, .string ⟨#[]⟩, .string ⟨#[]⟩, .slice none 0 0, .int .i8 1, .string ⟨#[]⟩] 48 := hr
  have r0 := hv.cell 0 rfl
  have r1 := hv.cell 1 rfl
  have r2 := hv.cell 2 rfl
  have r3 := hv.cell 3 rfl
  have r4 := hv.cell 4 rfl
  have r5 := hv.cell 5 rfl
  have r6 := hv.cell 6 rfl
  have r7 := hv.cell 7 rfl
  have r8 := hv.cell 8 rfl
  refine bodyPost_ret (v := .tuple #[.agg #[.int .i64 0, .int .i8 0, .int .i64 1, .int .i8 0, .string ⟨#[]⟩, .string ⟨#[]⟩, .slice none 0 0, .int .i8 1, .string ⟨#[]⟩], .bool true]) (by simp [results, Try.results48, go_sem, r0, r1, r2, r3, r4, r5, r6, r7, r8]) rfl ?_
  exact ⟨rfl, hbz⟩
set_option maxRecDepth 100000 in
set_option maxHeartbeats 4000000 in
theorem task_any (w : World) (qc c qt : Nat) (ht : Ht w qt) : Calls Try.prog 31 #[.agg #[.int .i8 0, .int .i64 2, .slice none 0 0, .slice none 0 0, .slice none 0 0, .slice none 0 0, .string ⟨#[]⟩, .slice none 0 0, .int .i64 0, .int .i8 0, .slice none 0 0, .slice none 0 0, .string ⟨#[]⟩, .slice none 0 0, .slice (some ⟨qc, 0, none⟩) 2 c, .slice (some ⟨qt, 0, none⟩) 2 2, .int .i8 0, .int .i8 0], .int .i64 0, .int .i8 0] w fun e w' => e = .returned (.tuple #[.agg #[.int .i64 0, .int .i8 0, .int .i64 1, .int .i8 0, .string ⟨#[]⟩, .string ⟨#[]⟩, .slice none 0 0, .int .i8 1, .string ⟨#[]⟩], .bool true]) ∧ Below w.heap.size w w' := by
  obtain ⟨W, hW⟩ : ∃ W', W' = (((w.alloc (.cells #[.int .i8 0, .int .i64 2, .slice none 0 0, .slice none 0 0, .slice none 0 0, .slice none 0 0, .string ⟨#[]⟩, .slice none 0 0, .int .i64 0, .int .i8 0, .slice none 0 0, .slice none 0 0, .string ⟨#[]⟩, .slice none 0 0, .slice (some ⟨qc, 0, none⟩) 2 c, .slice (some ⟨qt, 0, none⟩) 2 2, .int .i8 0, .int .i8 0] 44)).alloc (.cells #[.int .i64 0] 3)).alloc (.cells #[.int .i8 0] 29)).alloc (.cells #[.int .i64 0, .int .i8 0, .int .i64 0, .int .i8 0, .string ⟨#[]⟩, .string ⟨#[]⟩, .slice none 0 0, .int .i8 0, .string ⟨#[]⟩] 48) := ⟨_, rfl⟩
  have hb : Below w.heap.size w W := by rw [hW]; exact (((((Below.refl _ w).alloc (Nat.le_refl _) _).alloc (by simp) _).alloc (by simp; omega) _).alloc (by simp; omega) _)
  have hk : Blk W w.heap.size #[.int .i8 0, .int .i64 2, .slice none 0 0, .slice none 0 0, .slice none 0 0, .slice none 0 0, .string ⟨#[]⟩, .slice none 0 0, .int .i64 0, .int .i8 0, .slice none 0 0, .slice none 0 0, .string ⟨#[]⟩, .slice none 0 0, .slice (some ⟨qc, 0, none⟩) 2 c, .slice (some ⟨qt, 0, none⟩) 2 2, .int .i8 0, .int .i8 0] 44 := by rw [hW]; exact (((Blk.new w _ _).alloc _).alloc _).alloc _
  have hi : Blk W (w.heap.size + 1) #[.int .i64 0] 3 := by
    rw [hW]
    have := Blk.new (w.alloc (.cells #[.int .i8 0, .int .i64 2, .slice none 0 0, .slice none 0 0, .slice none 0 0, .slice none 0 0, .string ⟨#[]⟩, .slice none 0 0, .int .i64 0, .int .i8 0, .slice none 0 0, .slice none 0 0, .string ⟨#[]⟩, .slice none 0 0, .slice (some ⟨qc, 0, none⟩) 2 c, .slice (some ⟨qt, 0, none⟩) 2 2, .int .i8 0, .int .i8 0] 44)) #[.int .i64 0] 3
    rw [World.size_alloc] at this
    exact (this.alloc _).alloc _
  have hj : Blk W (w.heap.size + 1 + 1) #[.int .i8 0] 29 := by
    rw [hW]
    have := Blk.new ((w.alloc (.cells #[.int .i8 0, .int .i64 2, .slice none 0 0, .slice none 0 0, .slice none 0 0, .slice none 0 0, .string ⟨#[]⟩, .slice none 0 0, .int .i64 0, .int .i8 0, .slice none 0 0, .slice none 0 0, .string ⟨#[]⟩, .slice none 0 0, .slice (some ⟨qc, 0, none⟩) 2 c, .slice (some ⟨qt, 0, none⟩) 2 2, .int .i8 0, .int .i8 0] 44)).alloc (.cells #[.int .i64 0] 3)) #[.int .i8 0] 29
    rw [World.size_alloc, World.size_alloc] at this
    exact this.alloc _
  have hn : Blk W (w.heap.size + 1 + 1 + 1) #[.int .i64 0, .int .i8 0, .int .i64 0, .int .i8 0, .string ⟨#[]⟩, .string ⟨#[]⟩, .slice none 0 0, .int .i8 0, .string ⟨#[]⟩] 48 := by
    rw [hW]
    have := Blk.new (((w.alloc (.cells #[.int .i8 0, .int .i64 2, .slice none 0 0, .slice none 0 0, .slice none 0 0, .slice none 0 0, .string ⟨#[]⟩, .slice none 0 0, .int .i64 0, .int .i8 0, .slice none 0 0, .slice none 0 0, .string ⟨#[]⟩, .slice none 0 0, .slice (some ⟨qc, 0, none⟩) 2 c, .slice (some ⟨qt, 0, none⟩) 2 2, .int .i8 0, .int .i8 0] 44)).alloc (.cells #[.int .i64 0] 3)).alloc (.cells #[.int .i8 0] 29)) #[.int .i64 0, .int .i8 0, .int .i64 0, .int .i8 0, .string ⟨#[]⟩, .string ⟨#[]⟩, .slice none 0 0, .int .i8 0, .string ⟨#[]⟩] 48
    rw [World.size_alloc, World.size_alloc, World.size_alloc] at this
    exact this
  have HW := Lib.hid hW
  have HB := Lib.hid hb
  have HN := Lib.hid hn
  have HF := Lib.hid (first_any qt (w.heap.size + 1) (w.heap.size + 1 + 1) W (ht.below hb) (hi.cell 0 rfl) (hj.cell 0 rfl))
  have k15 := hk.cell 15 rfl
  clear hW hb hn hk hi hj ht
  go_enter Try.func31, Try.ntmps31
  go_upto_region 1 with fail
  rw [← HW.out]
  go_wp2_with fail
  refine HF.out.mono ?_
  rintro e w2 ⟨rfl, hb2⟩
  have HB2 := Lib.hid (HB.out.trans (hb2.mono HB.out.size))
  have hg2 : w2.heap[w.heap.size + 1 + 1 + 1]? = some (.cells #[.int .i64 0, .int .i8 0, .int .i64 0, .int .i8 0, .string ⟨#[]⟩, .string ⟨#[]⟩, .slice none 0 0, .int .i8 0, .string ⟨#[]⟩] 48 (0, 0)) := HN.out.below hb2
  have HG2 := Lib.hid hg2
  clear hg2 hb2 k15
  go_wp2_with (refine wpList_store_row rfl 48 (.tmp 6) (.tmp 12) rfl (w.heap.size + 1 + 1 + 1) #[.int .i64 0, .int .i8 0, .int .i64 1, .int .i8 0, .string ⟨#[]⟩, .string ⟨#[]⟩, .slice none 0 0, .int .i8 1, .string ⟨#[]⟩] rfl rfl 48 _ HG2.out sz_task rfl one_TA ?_)
  have hr := setRow_heap w2 (w.heap.size + 1 + 1 + 1) _ #[.int .i64 0, .int .i8 0, .int .i64 1, .int .i8 0, .string ⟨#[]⟩, .string ⟨#[]⟩, .slice none 0 0, .int .i8 1, .string ⟨#[]⟩] _ _ HG2.out
  have hbz := below_setRow (g := (w.heap.size + 1 + 1 + 1)) HB2.out (by omega) #[.int .i64 0, .int .i8 0, .int .i64 1, .int .i8 0, .string ⟨#[]⟩, .string ⟨#[]⟩, .slice none 0 0, .int .i8 1, .string ⟨#[]⟩]
  generalize w2.setRow (w.heap.size + 1 + 1 + 1) #[.int .i64 0, .int .i8 0, .int .i64 1, .int .i8 0, .string ⟨#[]⟩, .string ⟨#[]⟩, .slice none 0 0, .int .i8 1, .string ⟨#[]⟩] = V at hr hbz ⊢
  have hv : Blk V (w.heap.size + 1 + 1 + 1) #[.int .i64 0, .int .i8 0, .int .i64 1, .int .i8 0, .string ⟨#[]⟩, .string ⟨#[]⟩, .slice none 0 0, .int .i8 1, .string ⟨#[]⟩] 48 := hr
  have r0 := hv.cell 0 rfl
  have r1 := hv.cell 1 rfl
  have r2 := hv.cell 2 rfl
  have r3 := hv.cell 3 rfl
  have r4 := hv.cell 4 rfl
  have r5 := hv.cell 5 rfl
  have r6 := hv.cell 6 rfl
  have r7 := hv.cell 7 rfl
  have r8 := hv.cell 8 rfl
  refine bodyPost_ret (v := .tuple #[.agg #[.int .i64 0, .int .i8 0, .int .i64 1, .int .i8 0, .string ⟨#[]⟩, .string ⟨#[]⟩, .slice none 0 0, .int .i8 1, .string ⟨#[]⟩], .bool true]) (by simp [results, Try.results31, go_sem, r0, r1, r2, r3, r4, r5, r6, r7, r8]) rfl ?_
  exact ⟨rfl, hbz⟩
end Go.Proofs.Ytfjhomegjceilaa
