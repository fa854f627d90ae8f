/- hoardinglaw31.wakes: forward.leans and forward.May of the work; a map keyed by forward.key. -/
import Derived.Test.YtfjhomegjceilaaJwK
import Derived.Test.YtfjhomegjceilaaJw5
namespace Go.Proofs.Ytfjhomegjceilaa
open Go.RowKit Go.Maps
set_option linter.unusedVariables false
set_option linter.unusedSimpArgs false

theorem sz_work : (Try.prog.info? 44).map (·.size) = some 18 := by kernel_rfl
/-- the tasks -/
def tkA : List Value := [.int .i64 0, .int .i8 0, .int .i64 1, .int .i8 0, .string ⟨#[]⟩, .string ⟨#[]⟩, .slice none 0 0, .int .i8 1, .string ⟨#[]⟩]
def tkB : List Value := [.int .i64 1, .int .i8 0, .int .i64 2, .int .i8 0, .string ⟨#[]⟩, .string ⟨#[]⟩, .slice none 0 0, .int .i8 0, .string ⟨#[]⟩]
/-- block qt begins with the two tasks -/
structure Ht (w : World) (qt : Nat) : Prop where
  cell : ∀ (i : Nat) (v : Value), (tkA ++ tkB)[i]? = some v → w.cell? ⟨qt, i, none⟩ = some v
theorem Ht.lt {w : World} {qt : Nat} (h : Ht w qt) : qt < w.heap.size := World.block_lt_of_cell? w _ (h.cell 0 _ rfl)
theorem Ht.below {w w' : World} {qt : Nat} (h : Ht w qt) (hb : Below w.heap.size w w') : Ht w' qt :=
  ⟨fun i v hv => (World.cell?_of_block (a := ⟨qt, i, none⟩) (hb.block _ h.lt)).trans (h.cell i v hv)⟩
set_option maxRecDepth 100000 in
set_option maxHeartbeats 16000000 in
theorem fleans_any (w : World) (qc ql c qt : Nat) (h2 : 2 ≤ c) (hm : c ≤ maxLen) (h : Hc w qc ql) : Calls Try.prog 20 #[.agg #[.int .i8 0, .int .i64 2, .slice none 0 0, .slice none 0 0, .slice none 0 0, .slice none 0 0, .string ⟨#[]⟩, .slice none 0 0, .int .i64 0, .int .i8 0, .slice none 0 0, .slice none 0 0, .string ⟨#[]⟩, .slice none 0 0, .slice (some ⟨qc, 0, none⟩) 2 c, .slice (some ⟨qt, 0, none⟩) 2 2, .int .i8 0, .int .i8 0]] w fun e w' => ∃ q q', e = .returned (.slice (some ⟨q, 0, none⟩) 2 2) ∧ w'.cell? ⟨q, 0, none⟩ = some (.slice none 0 0) ∧ w'.cell? ⟨q, 1, none⟩ = some (.slice (some ⟨q', 0, none⟩) 1 1) ∧ w'.cell? ⟨q', 0, none⟩ = some (.int .i64 0) ∧ Below w.heap.size w w' := by
  obtain ⟨W, hW⟩ : ∃ W, W = w.alloc (.cells #[.int .i8 0, .int .i64 2, .slice none 0 0, .slice none 0 0, .slice none 0 0, .slice none 0 0, .string ⟨#[]⟩, .slice none 0 0, .int .i64 0, .int .i8 0, .slice none 0 0, .slice none 0 0, .string ⟨#[]⟩, .slice none 0 0, .slice (some ⟨qc, 0, none⟩) 2 c, .slice (some ⟨qt, 0, none⟩) 2 2, .int .i8 0, .int .i8 0] 44) := ⟨_, rfl⟩
  have hb : Below w.heap.size w W := by rw [hW]; exact (Below.refl _ w).alloc (Nat.le_refl _) _
  have hk : Blk W w.heap.size #[.int .i8 0, .int .i64 2, .slice none 0 0, .slice none 0 0, .slice none 0 0, .slice none 0 0, .string ⟨#[]⟩, .slice none 0 0, .int .i64 0, .int .i8 0, .slice none 0 0, .slice none 0 0, .string ⟨#[]⟩, .slice none 0 0, .slice (some ⟨qc, 0, none⟩) 2 c, .slice (some ⟨qt, 0, none⟩) 2 2, .int .i8 0, .int .i8 0] 44 := by rw [hW]; exact Blk.new w _ _
  have hs : W.heap.size = w.heap.size + 1 := by rw [hW, World.size_alloc]
  have k14 := hk.cell 14 rfl
  have HW := Lib.hid hW
  have HB := Lib.hid hb
  have HK := Lib.hid hk
  have HS := Lib.hid hs
  have HC := Lib.hid (h.below hb)
  have HL : Hid (ql ≠ w.heap.size) := Lib.hid (by have := h.ltl; omega)
  clear hW hb hk hs h
  go_enter Try.func20, Try.ntmps20
  go_upto_region 1 with fail
  rw [← HW.out]
  go_wp2_with fail
  refine (clonec_any W qc ql c HC.out h2 hm).mono ?_
  rintro e w2 ⟨q, c', rfl, hc2, hb2, h22, hm2, hq⟩
  have hk2 := HK.out.below hb2
  have y14 := hk2.frozen 14
  have HK2 := Lib.hid hk2
  have HC2 := Lib.hid hc2
  have HQ := Lib.hid hq
  have HB2 := Lib.hid (HB.out.trans (hb2.mono HB.out.size))
  clear k14 hb2 hk2 hc2 hq
  have k14 := HK2.out.cell 14 rfl
  go_upto_region 2 with fail
  obtain ⟨W3, hW3⟩ : ∃ W3, W3 = w2.setCell ⟨w.heap.size, 14, none⟩ (.slice (some ⟨q, 0, none⟩) 2 c') := ⟨_, rfl⟩
  have hk3 : Blk W3 w.heap.size #[.int .i8 0, .int .i64 2, .slice none 0 0, .slice none 0 0, .slice none 0 0, .slice none 0 0, .string ⟨#[]⟩, .slice none 0 0, .int .i64 0, .int .i8 0, .slice none 0 0, .slice none 0 0, .string ⟨#[]⟩, .slice none 0 0, .slice (some ⟨q, 0, none⟩) 2 c', .slice (some ⟨qt, 0, none⟩) 2 2, .int .i8 0, .int .i8 0] 44 := by rw [hW3]; exact (HK2.out.set 14 (.slice (some ⟨q, 0, none⟩) 2 c')).eq rfl
  have hb3 : Below w.heap.size w W3 := by rw [hW3]; exact HB2.out.setCell (p := ⟨w.heap.size, 14, none⟩) (Nat.le_refl _) _
  have hc3 : Hc W3 q ql := by
    rw [hW3]
    exact HC2.out.keep (fun k hk he => Below.heap_setCell _ _ _ _ (by
      have h1 := HQ.out
      have h2 := HS.out
      have h3 := HC.out.ltl
      have h4 := HB.out.size
      rcases he with rfl | rfl
      · show k ≠ w.heap.size; omega
      · show k ≠ w.heap.size; exact HL.out))
  rw [← hW3]
  have HB3 := Lib.hid hb3
  have HC3 := Lib.hid hc3
  clear hW3 hb3 k14 y14
  have k14 := hk3.cell 14 rfl
  have HK3 := Lib.hid hk3
  have f1 := hc3.cell 1 _ rfl
  have f9 := hc3.cell 9 _ rfl
  clear hk3 hc3
  go_wp2_with fail
  refine wp_loop_rounds 3 ?_
  rw [rounds_succ]
  go_wp2_with fail
  rw [rounds_succ]
  go_wp2_with fail
  rw [rounds_succ]
  go_wp2_with (refine wpList_load_row rfl 44 (.tmp 1) rfl w.heap.size rfl _ _ (0, 0) _ HK3.out Try.underlying44 rfl sz_work ?_)
  refine (leansF_any W3 q ql c' qt h22 HC3.out).mono ?_
  rintro e w5 ⟨g, g', rfl, r1, r2, r3, hb5⟩
  have HB5 := Lib.hid (HB3.out.trans (hb5.mono HB3.out.size))
  have R1 := Lib.hid r1
  have R2 := Lib.hid r2
  have R3 := Lib.hid r3
  clear hb5 r1 r2 r3 k14 f1 f9
  go_wp2_with fail
  go_ret
  exact ⟨g, g', rfl, R1.out, R2.out, R3.out, HB5.out⟩
end Go.Proofs.Ytfjhomegjceilaa
