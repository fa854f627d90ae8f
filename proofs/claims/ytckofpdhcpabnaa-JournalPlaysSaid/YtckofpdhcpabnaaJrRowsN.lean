/- journal.Rows of no disk. -/
import Derived.Test.YtckofpdhcpabnaaJrOpen2
namespace Go.Proofs.Ytckofpdhcpabnaa
open Go.RowKit
set_option linter.unusedVariables false
set_option linter.unusedSimpArgs false

def noEnc (x : Empty) : Array Value := x.elim
set_option maxRecDepth 100000 in
set_option maxHeartbeats 1000000 in
theorem jall_iter_nil (Bn : Nat) (w : World) (hbox : Boxed w Bn 22 (.slice none 0 0)) :
    Iter Try.prog 53 #[.pointer (some ⟨Bn, 0, none⟩)] noEnc (fun _ => False) (fun _ _ _ => False) (fun xs => xs = []) (fun _ => False) w := by
  intro m lp J Jx W hW hJ hJx hY h0
  have hb := boxBel hbox hW
  have hcell := hb.cell
  have hl0 : loads [] = [] := loads_nil
  have HS := Lib.hid (scan_any none 0 0 [] W (Rd.nil W 1) (by omega))
  have H0 := Lib.hid h0
  have HJ := Lib.hid hJ
  clear hb h0 hY hJ hJx
  refine callsIn_of_wp Try.func53 rfl trivial ?_
  simp only [Try.ntmps53, List.size_toArray, List.length_cons, List.length_nil, Nat.reduceAdd, Nat.reduceSub, Array.replicate_succ, Array.replicate_zero, List.push_toArray, List.append_toArray, List.nil_append, List.cons_append]
  gi_wp2_with fail
  refine ⟨trivial, (fun h => by cases h), (callsIn_wide.2 HS.out).mono ?_⟩
  rintro e w1 ⟨A, c, vs, rfl, hbb, hbel⟩
  rw [hl0]
  have HJ1 := Lib.hid (HJ.out _ _ _ H0.out hbel)
  clear hbb hbel hl0
  gi_wp2_with fail
  gi_loopw [14] (fun q wr => q = .int .i64 0 ∧ wr = w1) (fun _ _ => 0)
  case atStart => exact ⟨rfl, rfl⟩
  case round =>
    obtain ⟨rfl, rfl⟩ := hrel
    gi_wp2
    go_end0
    exact ⟨⟨_, rfl⟩, .inl ⟨[], rfl, HJ1.out⟩⟩
set_option maxRecDepth 100000 in
set_option maxHeartbeats 2000000 in
theorem jrows_nil (w : World) : Calls Try.prog 14 #[.pointer none] w (fun e w' => e = .returned (.tuple #[.slice none 0 0, .int .i64 1]) ∧ Below w.heap.size w w') := by
  refine (callsIn_wide (n := 3)).1 ?_
  refine callsIn_of_wp_marks Try.func14 rfl trivial ?_
  simp only [Try.ntmps14, List.size_toArray, List.length_cons, List.length_nil, Nat.reduceAdd, Nat.reduceSub, Array.replicate_succ, Array.replicate_zero, List.push_toArray, List.append_toArray, List.nil_append, List.cons_append]
  gi_wp2_with fail
  refine ⟨trivial, (callsIn_wide.2 (nbytes _)).mono ?_⟩
  rintro e w1 ⟨rfl, hb⟩
  have HB := Lib.hid hb
  have hx := boxBel (Boxed.new w 23 (.slice none 0 0)) hb
  have HX := Lib.hid hx
  have HB2 : Hid (Below w.heap.size w w1) := Lib.hid (((Below.refl _ w).alloc (Nat.le_refl _) _).trans (hb.mono (by rw [World.size_alloc]; omega)))
  clear hb hx
  gi_wp2_with fail
  refine ⟨trivial, (callsIn_wide.2 (jall_any _ _ _ _)).mono ?_⟩
  rintro e w2 ⟨rfl, rfl⟩
  gi_wp2_with fail
  have hb5 := Boxed.new w1 22 (.slice none 0 0)
  have hx5 := HX.out.alloc (.cells #[.slice none 0 0] 22)
  have hs5 := World.size_alloc w1 (.cells #[.slice none 0 0] 22)
  have hB5 : Below w.heap.size w (w1.alloc (.cells #[.slice none 0 0] 22)) := HB2.out.alloc HB2.out.size _
  obtain ⟨W0, hW0⟩ : ∃ W0, w1.alloc (.cells #[.slice none 0 0] 22) = W0 := ⟨_, rfl⟩
  rw [hW0] at hb5 hx5 hs5 hB5 ⊢
  clear hW0
  refine wpIn_range (α := Empty) (gf := 53) (lb := #[.pointer (some ⟨w1.heap.size, 0, none⟩)]) rfl (enters_of Try.func53 (by kernel_rfl) rfl)
    (jall_iter_nil w1.heap.size W0 hb5) (fun _ h => h.elim) (Below.refl _ _) (fun x => x.elim) (fun s => s.2.elim)
    (fun xs W => Boxed W w.heap.size 23 (.slice none 0 0) ∧ Below w.heap.size w W) (fun _ _ _ => False) ?hI (fun _ _ _ _ _ hs _ _ => hs) ⟨hx5, hB5⟩ (fun x => x.elim) (fun _ x => x.elim) (fun _ _ x => x.elim) ?done (fun _ _ _ _ _ _ h _ => h.elim)
  case hI =>
    intro xs W W' row h hg hr
    exact ⟨boxed_kept h.1 hg (fun r e => (hr r e).2), h.2.grown hg h.2.size (fun k e => by have := (hr k e).1; have := HB2.out.size; omega)⟩
  case done =>
    rintro D xs W hD - ⟨hbx, hbel⟩ hK
    have hc0 := hbx.cell
    have hf0 := hbx.frozen
    gi_wp2
    have hDw : D ≠ w.heap.size := by have := HB2.out.size; omega
    have r1 : (W.setCell ⟨w.heap.size, 0, none⟩ (.slice none 0 0)).heap[D]? = some (.deferred (some [])) := (Below.heap_setCell W ⟨w.heap.size, 0, none⟩ _ D hDw).trans hK
    have hz := (hbx.set (.slice none 0 0)).kept (grownBy_putObj' _ D (.deferred none)) (fun e => hDw (by injection e with e; exact e.symm))
    have hbz : Below w.heap.size w ((W.setCell ⟨w.heap.size, 0, none⟩ (.slice none 0 0)).putObj D (.deferred none)) := (hbel.setCell (p := ⟨w.heap.size, 0, none⟩) (Nat.le_refl _) _).grown (grownBy_putObj' _ _ _) (by have := hbel.size; simp; omega) (fun k e => by have := HB2.out.size; cases e; omega)
    refine ⟨by simp, .inl ⟨_, _, rfl, run_takeDeferred r1, ?_⟩⟩
    have q1 := hz.cell
    generalize ((W.setCell ⟨w.heap.size, 0, none⟩ (.slice none 0 0)).putObj D (.deferred none)) = W4 at q1 hbz ⊢
    refine ⟨.tuple #[.slice none 0 0, .int .i64 1], ?_, rfl, hbz⟩
    clear hbz hz r1 hc0 hf0
    simp [results, Try.results14, go_sem, q1]
end Go.Proofs.Ytckofpdhcpabnaa
