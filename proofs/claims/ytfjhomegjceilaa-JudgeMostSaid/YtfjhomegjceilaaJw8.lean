/- hoardinglaw31.wakes: cleanup.Goes of the work: nothing goes. -/
import Derived.Test.YtfjhomegjceilaaJw7
namespace Go.Proofs.Ytfjhomegjceilaa
open Go.RowKit Go.Maps
set_option linter.unusedVariables false
set_option linter.unusedSimpArgs false
theorem going_any (p : Addr) (w : World) : Calls Try.prog 25 #[.pointer (some p)] w fun e w' => e = .returned (.func (.func 46) #[] #[.pointer (some ⟨w.heap.size, 0, none⟩)]) ∧ w' = w.alloc (.cells #[.pointer (some p)] 55) := by
  go_enter Try.func25, Try.ntmps25
  go_wp2_with fail
  go_ret
  exact ⟨rfl, rfl⟩
set_option maxRecDepth 100000 in
set_option maxHeartbeats 16000000 in
theorem going1_any (v : Value) (qb q0 : Nat) (w : World) (qc ql c qt : Nat) (h2 : 2 ≤ c) (hm : c ≤ maxLen) (h : Hc w qc ql) (ht : Ht w qt) (hb : Boxed w qb 55 (.pointer (some ⟨q0, 0, none⟩))) (hk : Blk w q0 #[.int .i8 0, .int .i64 2, .slice none 0 0, .slice none 0 0, .slice none 0 0, .slice none 0 0, .string ⟨#[]⟩, .slice none 0 0, .int .i64 0, .int .i8 0, .slice none 0 0, .slice none 0 0, .string ⟨#[]⟩, .slice none 0 0, .slice (some ⟨qc, 0, none⟩) 2 c, .slice (some ⟨qt, 0, none⟩) 2 2, .int .i8 0, .int .i8 0] 44) :
    Calls Try.prog 46 #[v, .pointer (some ⟨qb, 0, none⟩)] w fun e w' => e = .returned (.tuple #[]) ∧ Below w.heap.size w w' := by
  have b0 := hb.cell
  have HK := Lib.hid hk
  have HB := Lib.hid hb
  have HC := Lib.hid h
  have HMAY := Lib.hid (may_any w qc ql c qt h2 hm h ht)
  clear hb hk h ht h2 hm
  go_enter Try.func46, Try.ntmps46
  go_wp2_with (refine wpList_load_row rfl 44 (.tmp 8) rfl q0 rfl _ _ (0, 0) _ HK.out Try.underlying44 rfl sz_work ?_)
  refine HMAY.out.mono ?_
  rintro e w1 ⟨rfl, hb1⟩
  have hk1 := HK.out.below hb1
  have hc1 := HC.out.below hb1
  have HB1 := Lib.hid hb1
  clear b0
  have b0 : w1.cell? ⟨qb, 0, none⟩ = some (.pointer (some ⟨q0, 0, none⟩)) := Boxed.cell (t := 55) ((hb1.block _ HB.out.lt).trans HB.out)
  have k14 := hk1.cell 14 rfl
  have f0 := hc1.cell 0 _ rfl
  have f1 := hc1.cell 1 _ rfl
  have f2 := hc1.cell 2 _ rfl
  have f3 := hc1.cell 3 _ rfl
  have f4 := hc1.cell 4 _ rfl
  have f5 := hc1.cell 5 _ rfl
  have f6 := hc1.cell 6 _ rfl
  have f7 := hc1.cell 7 _ rfl
  have HC1 := Lib.hid hc1
  clear hk1 hc1 hb1
  go_wp2_with fail
  refine wp_loop_rounds 3 ?_
  rw [rounds_succ]
  go_wp2_with fail
  obtain ⟨W2, hw⟩ : ∃ W', W' = w1.alloc (.cells #[.string ⟨#[65]⟩, .int .i8 1, .string ⟨#[68, 105, 115, 107]⟩, .slice none 0 0, .bool false, .int .i64 0, .bool false, .slice none 0 0] 33) := ⟨_, rfl⟩
  have hb2 : Below w1.heap.size w1 W2 := by rw [hw]; exact (Below.refl _ _).alloc (Nat.le_refl _) _
  rw [← hw]
  have hc2 := HC1.out.below hb2
  have HB2 := Lib.hid (HB1.out.trans (hb2.mono HB1.out.size))
  clear hw f0 f1 f2 f3 f4 f5 f6 f7 b0 k14 hb2
  have f8 := hc2.cell 8 _ rfl
  have f9 := hc2.cell 9 _ rfl
  have f10 := hc2.cell 10 _ rfl
  have f11 := hc2.cell 11 _ rfl
  have f12 := hc2.cell 12 _ rfl
  have f13 := hc2.cell 13 _ rfl
  have f14 := hc2.cell 14 _ rfl
  have f15 := hc2.cell 15 _ rfl
  clear hc2
  rw [rounds_succ]
  go_wp2_with fail
  obtain ⟨W3, hw⟩ : ∃ W', W' = W2.alloc (.cells #[.string ⟨#[66]⟩, .int .i8 1, .string ⟨#[68, 105, 115, 107]⟩, .slice none 0 0, .bool false, .int .i64 0, .bool false, .slice (some ⟨ql, 0, none⟩) 1 1] 33) := ⟨_, rfl⟩
  have hb3 : Below W2.heap.size W2 W3 := by rw [hw]; exact (Below.refl _ _).alloc (Nat.le_refl _) _
  rw [← hw]
  have HB3 := Lib.hid (HB2.out.trans (hb3.mono HB2.out.size))
  clear hw f8 f9 f10 f11 f12 f13 f14 f15 hb3
  rw [rounds_succ]
  go_wp2_with fail
  go_end0
  exact ⟨rfl, HB3.out⟩
theorem going_iter (qb q0 : Nat) (w : World) (qc ql c qt : Nat) (h2 : 2 ≤ c) (hm : c ≤ maxLen) (h : Hc w qc ql) (ht : Ht w qt) (hb : Boxed w qb 55 (.pointer (some ⟨q0, 0, none⟩))) (hk : Blk w q0 #[.int .i8 0, .int .i64 2, .slice none 0 0, .slice none 0 0, .slice none 0 0, .slice none 0 0, .string ⟨#[]⟩, .slice none 0 0, .int .i64 0, .int .i8 0, .slice none 0 0, .slice none 0 0, .string ⟨#[]⟩, .slice none 0 0, .slice (some ⟨qc, 0, none⟩) 2 c, .slice (some ⟨qt, 0, none⟩) 2 2, .int .i8 0, .int .i8 0] 44) :
    Iter (α := Empty) Try.prog 46 #[.pointer (some ⟨qb, 0, none⟩)] (fun x => x.elim) (fun _ => False) (fun _ _ _ => True) (fun xs => xs = []) (fun _ => False) w := by
  intro m lp J Jx W hW hJ hJx hY h0
  have hb' : Boxed W qb 55 (.pointer (some ⟨q0, 0, none⟩)) := (hW.block _ hb.lt).trans hb
  refine (callsIn_wide.2 (going1_any (.func (.yield lp) #[] #[]) qb q0 W qc ql c qt h2 hm (h.below hW) (ht.below hW) hb' (hk.below hW))).mono ?_
  rintro e w2 ⟨rfl, hb2⟩
  exact ⟨⟨_, rfl⟩, .inl ⟨[], rfl, hJ _ _ _ h0 hb2⟩⟩
set_option maxRecDepth 100000 in
set_option maxHeartbeats 16000000 in
theorem goes_any (w : World) (qc ql c qt : Nat) (h2 : 2 ≤ c) (hm : c ≤ maxLen) (h : Hc w qc ql) (ht : Ht w qt) : Calls Try.prog 12 #[.agg #[.int .i8 0, .int .i64 2, .slice none 0 0, .slice none 0 0, .slice none 0 0, .slice none 0 0, .string ⟨#[]⟩, .slice none 0 0, .int .i64 0, .int .i8 0, .slice none 0 0, .slice none 0 0, .string ⟨#[]⟩, .slice none 0 0, .slice (some ⟨qc, 0, none⟩) 2 c, .slice (some ⟨qt, 0, none⟩) 2 2, .int .i8 0, .int .i8 0]] w fun e w' => e = .returned (.slice none 0 0) ∧ Below w.heap.size w w' := by
  have HC := Lib.hid h
  have HT := Lib.hid ht
  have H2 := Lib.hid h2
  have HM := Lib.hid hm
  clear h ht h2 hm
  refine (callsIn_wide (n := 3)).1 ?_
  refine callsIn_of_wp_marks Try.func12 rfl trivial ?_
  simp only [Try.ntmps12, List.size_toArray, List.length_cons, List.length_nil, Nat.reduceAdd, Nat.reduceSub, Array.replicate_succ, Array.replicate_zero, List.push_toArray, List.append_toArray, List.nil_append, List.cons_append]
  refine wpIn_wide.2 ?_
  go_wp2_with fail
  refine (going_any _ _).mono ?_
  rintro e w5 ⟨rfl, hw5⟩
  obtain ⟨Wa, hWa⟩ : ∃ Wa, Wa = (w.alloc (.cells #[.int .i8 0, .int .i64 2, .slice none 0 0, .slice none 0 0, .slice none 0 0, .slice none 0 0, .string ⟨#[]⟩, .slice none 0 0, .int .i64 0, .int .i8 0, .slice none 0 0, .slice none 0 0, .string ⟨#[]⟩, .slice none 0 0, .slice (some ⟨qc, 0, none⟩) 2 c, .slice (some ⟨qt, 0, none⟩) 2 2, .int .i8 0, .int .i8 0] 44)).alloc (.cells #[.slice none 0 0] 59) := ⟨_, rfl⟩
  have ha1 : Blk Wa w.heap.size #[.int .i8 0, .int .i64 2, .slice none 0 0, .slice none 0 0, .slice none 0 0, .slice none 0 0, .string ⟨#[]⟩, .slice none 0 0, .int .i64 0, .int .i8 0, .slice none 0 0, .slice none 0 0, .string ⟨#[]⟩, .slice none 0 0, .slice (some ⟨qc, 0, none⟩) 2 c, .slice (some ⟨qt, 0, none⟩) 2 2, .int .i8 0, .int .i8 0] 44 := by rw [hWa]; exact (Blk.new w _ _).alloc _
  have ha3 : Boxed Wa (w.heap.size + 1) 59 (.slice none 0 0) := by
    rw [hWa]
    have := Boxed.new (w.alloc (.cells #[.int .i8 0, .int .i64 2, .slice none 0 0, .slice none 0 0, .slice none 0 0, .slice none 0 0, .string ⟨#[]⟩, .slice none 0 0, .int .i64 0, .int .i8 0, .slice none 0 0, .slice none 0 0, .string ⟨#[]⟩, .slice none 0 0, .slice (some ⟨qc, 0, none⟩) 2 c, .slice (some ⟨qt, 0, none⟩) 2 2, .int .i8 0, .int .i8 0] 44)) 59 (.slice none 0 0)
    rwa [World.size_alloc] at this
  have ha4 : Below w.heap.size w Wa := by rw [hWa]; exact ((Below.refl _ _).alloc (Nat.le_refl _) _).alloc (by simp) _
  have ha5 : Wa.heap.size = w.heap.size + 1 + 1 := by rw [hWa]; simp
  rw [← hWa] at hw5
  have hb5 : Below Wa.heap.size Wa w5 := by rw [hw5]; exact (Below.refl _ _).alloc (Nat.le_refl _) _
  have hx5 : Boxed w5 (w.heap.size + 1 + 1) 55 (.pointer (some ⟨w.heap.size, 0, none⟩)) := by
    have := Boxed.new Wa 55 (.pointer (some ⟨w.heap.size, 0, none⟩))
    rw [ha5] at this
    rw [hw5]; exact this
  have hs5 : w5.heap.size = w.heap.size + 1 + 1 + 1 := by rw [hw5, World.size_alloc, ha5]
  have hr5 : Boxed w5 (w.heap.size + 1) 59 (.slice none 0 0) := (hb5.block _ ha3.lt).trans ha3
  have hB5 : Below w.heap.size w w5 := ha4.trans (hb5.mono ha4.size)
  have hk5 := ha1.below hb5
  have HX5 := Lib.hid hx5
  have HS5 := Lib.hid hs5
  have HR5 := Lib.hid hr5
  have HB5 := Lib.hid hB5
  have HK5 := Lib.hid hk5
  clear hWa ha1 ha3 ha4 ha5 hw5 hb5 hx5 hs5 hr5 hB5 hk5
  simp only [World.size_alloc] at *
  go_wp2_with fail
  refine wpIn_wide.1 (wpIn_range (n := 3) (α := Empty) (gf := 46) (lb := #[.pointer (some ⟨w.heap.size + 1 + 1, 0, none⟩)]) rfl (enters_of Try.func46 (by kernel_rfl) rfl)
    (going_iter (w.heap.size + 1 + 1) w.heap.size w5 qc ql c qt H2.out HM.out (HC.out.below HB5.out) (HT.out.below HB5.out) HX5.out HK5.out) (fun _ h => h.elim) (Below.refl _ _) (fun x => x.elim) (fun s => s.2.elim)
    (fun xs W => Boxed W (w.heap.size + 1) 59 (.slice none 0 0) ∧ Below w.heap.size w W) (fun _ _ _ => False) ?hI (fun _ _ _ _ _ hs _ _ => hs) ⟨HR5.out, HB5.out⟩ (fun x => x.elim) (fun _ x => x.elim) (fun _ _ x => x.elim) ?done (fun _ _ _ _ _ _ h _ => h.elim))
  case hI =>
    intro xs W W' row h hg hr
    exact ⟨h.1.kept hg (fun e => by have := (hr _ e.symm).1; have := HS5.out; omega), h.2.grown hg h.2.size (fun k e => by have := (hr k e).1; have := HS5.out; omega)⟩
  case done =>
    rintro D xs W hD - ⟨hbx, hbel⟩ hK
    have hc0 := hbx.cell
    have hf0 := hbx.frozen
    have HBX := Lib.hid hbx
    have HBEL := Lib.hid hbel
    have HKK := Lib.hid hK
    have HDD := Lib.hid hD
    clear hbx hbel hK hD
    go_wp2_with fail
    have hbx := HBX.out
    have hbel := HBEL.out
    have hD := HDD.out
    have hDw : D ≠ w.heap.size + 1 := by have := HS5.out; omega
    have r1 : (W.setCell ⟨w.heap.size + 1, 0, none⟩ (.slice none 0 0)).heap[D]? = some (.deferred (some [])) := (Below.heap_setCell W ⟨w.heap.size + 1, 0, none⟩ _ D hDw).trans HKK.out
    have hz := (hbx.set (.slice none 0 0)).kept (grownBy_putObj' _ D (.deferred none)) (fun e => hDw (by injection e with e; exact e.symm))
    have hbz : Below w.heap.size w ((W.setCell ⟨w.heap.size + 1, 0, none⟩ (.slice none 0 0)).putObj D (.deferred none)) := (hbel.setCell (p := ⟨w.heap.size + 1, 0, none⟩) (Nat.le_succ _) _).grown (grownBy_putObj' _ _ _) (by have := hbel.size; simp; omega) (fun k e => by have := HS5.out; cases e; omega)
    refine ⟨by simp, .inl ⟨_, _, rfl, run_takeDeferred r1, ?_⟩⟩
    have q1 := hz.cell
    generalize ((W.setCell ⟨w.heap.size + 1, 0, none⟩ (.slice none 0 0)).putObj D (.deferred none)) = W4 at q1 hbz ⊢
    refine ⟨.slice none 0 0, ?_, rfl, hbz⟩
    clear hbz hz r1 hc0 hf0
    simp [results, Try.results12, go_sem, q1]
end Go.Proofs.Ytfjhomegjceilaa
