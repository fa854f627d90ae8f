/- hoardinglaw31.wakes: forward.May of the work. -/
import Derived.Test.YtfjhomegjceilaaJw6
namespace Go.Proofs.Ytfjhomegjceilaa
open Go.RowKit Go.Maps
set_option linter.unusedVariables false
set_option linter.unusedSimpArgs false
set_option maxRecDepth 100000 in
set_option maxHeartbeats 16000000 in
theorem may_any (w : World) (qc ql c qt : Nat) (h2 : 2 ≤ c) (hm : c ≤ maxLen) (h : Hc w qc ql) (ht : Ht w qt) : Calls Try.prog 9 #[.agg #[.int .i8 0, .int .i64 2, .slice none 0 0, .slice none 0 0, .slice none 0 0, .slice none 0 0, .string ⟨#[]⟩, .slice none 0 0, .int .i64 0, .int .i8 0, .slice none 0 0, .slice none 0 0, .string ⟨#[]⟩, .slice none 0 0, .slice (some ⟨qc, 0, none⟩) 2 c, .slice (some ⟨qt, 0, none⟩) 2 2, .int .i8 0, .int .i8 0]] w fun e w' => e = .returned (.bool true) ∧ Below w.heap.size w w' := by
  obtain ⟨W, hW⟩ : ∃ W, W = w.alloc (.cells #[.int .i8 0, .int .i64 2, .slice none 0 0, .slice none 0 0, .slice none 0 0, .slice none 0 0, .string ⟨#[]⟩, .slice none 0 0, .int .i64 0, .int .i8 0, .slice none 0 0, .slice none 0 0, .string ⟨#[]⟩, .slice none 0 0, .slice (some ⟨qc, 0, none⟩) 2 c, .slice (some ⟨qt, 0, none⟩) 2 2, .int .i8 0, .int .i8 0] 44) := ⟨_, rfl⟩
  have hb : Below w.heap.size w W := by rw [hW]; exact (Below.refl _ w).alloc (Nat.le_refl _) _
  have hk : Blk W w.heap.size #[.int .i8 0, .int .i64 2, .slice none 0 0, .slice none 0 0, .slice none 0 0, .slice none 0 0, .string ⟨#[]⟩, .slice none 0 0, .int .i64 0, .int .i8 0, .slice none 0 0, .slice none 0 0, .string ⟨#[]⟩, .slice none 0 0, .slice (some ⟨qc, 0, none⟩) 2 c, .slice (some ⟨qt, 0, none⟩) 2 2, .int .i8 0, .int .i8 0] 44 := by rw [hW]; exact Blk.new w _ _
  have HW := Lib.hid hW
  have HB := Lib.hid hb
  have HK := Lib.hid hk
  have HC := Lib.hid h
  have HT := Lib.hid ht
  have H2 := Lib.hid h2
  have HM := Lib.hid hm
  have k1 := hk.cell 1 rfl
  have k2 := hk.cell 2 rfl
  have k3 := hk.cell 3 rfl
  have k4 := hk.cell 4 rfl
  have k5 := hk.cell 5 rfl
  have k6 := hk.cell 6 rfl
  have k7 := hk.cell 7 rfl
  have k8 := hk.cell 8 rfl
  have k9 := hk.cell 9 rfl
  have k16 := hk.cell 16 rfl
  clear hW hb hk h ht h2 hm
  go_enter Try.func9, Try.ntmps9
  go_upto_region 1 with fail
  rw [← HW.out]
  go_wp2_with fail
  refine (within_any 2 1 4 (by omega) (by omega) _).mono ?_
  rintro e w9 ⟨rfl, hw9⟩
  obtain rfl := hw9.symm
  go_wp2_with fail
  refine (within8_any 0 0 3 (by omega) (by omega) _).mono ?_
  rintro e w9 ⟨rfl, hw9⟩
  obtain rfl := hw9.symm
  go_wp2_with fail
  refine (check0_any _).mono ?_
  rintro e w1 ⟨rfl, hb1⟩
  have HK1 := Lib.hid (HK.out.below hb1)
  have HB1 := Lib.hid (HB.out.trans (hb1.mono HB.out.size))
  clear hb1 k1 k2 k3 k4 k5 k6 k7 k8 k9 k16
  have hmm := @run_makeMap Try.prog
  go_upto_region 4 with fail
  obtain ⟨W2, hW2⟩ : ∃ W2, W2 = w1.alloc (.map #[] 0) := ⟨_, rfl⟩
  have hb2 : Below w1.heap.size w1 W2 := by rw [hW2]; exact (Below.refl _ _).alloc (Nat.le_refl _) _
  have hm2 : MK W2 w1.heap.size 0 (fun _ => false) := by rw [hW2]; exact MK.new w1
  rw [← hW2]
  have HK2 := Lib.hid (HK1.out.below hb2)
  have HB2 := Lib.hid (HB1.out.trans (hb2.mono HB1.out.size))
  have HM2 := Lib.hid hm2
  have HS2 : Hid (w.heap.size ≤ w1.heap.size) := Lib.hid HB1.out.size
  have HN2 : Hid (w.heap.size < w1.heap.size) := Lib.hid HK1.out.lt
  clear hW2 hb2 hm2 hmm
  have k15 := HK2.out.cell 15 rfl
  have ht := HT.out.below HB2.out
  have t0 := ht.cell 0 _ rfl
  have t1 := ht.cell 1 _ rfl
  have t2 := ht.cell 2 _ rfl
  have t3 := ht.cell 3 _ rfl
  have t4 := ht.cell 4 _ rfl
  have t5 := ht.cell 5 _ rfl
  have t6 := ht.cell 6 _ rfl
  have t7 := ht.cell 7 _ rfl
  have t8 := ht.cell 8 _ rfl
  clear ht
  go_wp2_with fail
  refine wp_loop_rounds 3 ?_
  rw [rounds_succ]
  go_upto_region 8 with fail
  obtain ⟨W3, hw⟩ : ∃ W', W' = (W2.alloc (.cells #[.int .i64 0, .int .i8 0, .int .i64 1, .int .i8 0, .string ⟨#[]⟩, .string ⟨#[]⟩, .slice none 0 0, .int .i8 1, .string ⟨#[]⟩] 48)).alloc (.cells #[.int .i64 0, .int .i8 0] 76) := ⟨_, rfl⟩
  have hb : Below W2.heap.size W2 W3 := by rw [hw]; exact ((Below.refl _ _).alloc (Nat.le_refl _) _).alloc (by simp) _
  have hn : Blk W3 W2.heap.size #[.int .i64 0, .int .i8 0, .int .i64 1, .int .i8 0, .string ⟨#[]⟩, .string ⟨#[]⟩, .slice none 0 0, .int .i8 1, .string ⟨#[]⟩] 48 := by rw [hw]; exact (Blk.new _ _ _).alloc _
  have hn2 : Blk W3 (W2.heap.size + 1) #[.int .i64 0, .int .i8 0] 76 := by
    rw [hw]
    have := Blk.new (W2.alloc (.cells #[.int .i64 0, .int .i8 0, .int .i64 1, .int .i8 0, .string ⟨#[]⟩, .string ⟨#[]⟩, .slice none 0 0, .int .i8 1, .string ⟨#[]⟩] 48)) #[.int .i64 0, .int .i8 0] 76
    rwa [World.size_alloc] at this
  rw [← hw]
  have HK3 := Lib.hid (HK2.out.below hb)
  have HB3 := Lib.hid (HB2.out.trans (hb.mono HB2.out.size))
  have HM3 := Lib.hid (HM2.out.below hb)
  clear hw hb t0 t1 t2 t3 t4 t5 t6 t7 t8 k15
  have n0 := hn.cell 0 rfl
  have n1 := hn.cell 1 rfl
  have n2 := hn.cell 2 rfl
  have n7 := hn.cell 7 rfl
  have m0 := hn2.cell 0 rfl
  have m1 := hn2.cell 1 rfl
  have k14 := HK3.out.cell 14 rfl
  have hlk : (Instr.lookup 74 (.map (some w1.heap.size)) (.agg #[.int .i64 0, .int .i8 0]) false).run Try.prog W3 = .ok (.bool false) W3 := HM3.out.look (by decide)
  clear hn hn2
  go_wp2_with fail
  refine (within_any 0 0 1 (by omega) (by omega) _).mono ?_
  rintro e w9 ⟨rfl, hw9⟩
  obtain rfl := hw9.symm
  go_wp2_with fail
  refine (within8_any 1 0 2 (by omega) (by omega) _).mono ?_
  rintro e w9 ⟨rfl, hw9⟩
  obtain rfl := hw9.symm
  go_wp2_with fail
  refine (within8_any 0 0 2 (by omega) (by omega) _).mono ?_
  rintro e w9 ⟨rfl, hw9⟩
  obtain rfl := hw9.symm
  go_wp2_with (refine wp_put_MK rfl _ _ _ rfl w1.heap.size 0 _ rfl HM3.out (by unfold maxLen; omega) 0 (by decide) rfl rfl ?_; intro W4 hm6 hg6; have HM4 := Lib.hid hm6; have HG := Lib.hid hg6; clear hm6 hg6)
  have HK4 := Lib.hid (HK3.out.grown HG.out (fun e => by have := HN2.out; injection e with e; omega))
  have HB4 := Lib.hid (HB3.out.grown HG.out HB3.out.size (fun k e => by have := HS2.out; injection e with e; omega))
  clear HG n0 n1 n2 n7 m0 m1 k14 hlk
  have ht := HT.out.below HB4.out
  have t0 := ht.cell 9 _ rfl
  have t1 := ht.cell 10 _ rfl
  have t2 := ht.cell 11 _ rfl
  have t3 := ht.cell 12 _ rfl
  have t4 := ht.cell 13 _ rfl
  have t5 := ht.cell 14 _ rfl
  have t6 := ht.cell 15 _ rfl
  have t7 := ht.cell 16 _ rfl
  have t8 := ht.cell 17 _ rfl
  clear ht
  have k15 := HK4.out.cell 15 rfl
  rw [rounds_succ]
  go_upto_region 8 with fail
  obtain ⟨W5, hw⟩ : ∃ W', W' = (W4.alloc (.cells #[.int .i64 1, .int .i8 0, .int .i64 2, .int .i8 0, .string ⟨#[]⟩, .string ⟨#[]⟩, .slice none 0 0, .int .i8 0, .string ⟨#[]⟩] 48)).alloc (.cells #[.int .i64 1, .int .i8 0] 76) := ⟨_, rfl⟩
  have hb : Below W4.heap.size W4 W5 := by rw [hw]; exact ((Below.refl _ _).alloc (Nat.le_refl _) _).alloc (by simp) _
  have hn : Blk W5 W4.heap.size #[.int .i64 1, .int .i8 0, .int .i64 2, .int .i8 0, .string ⟨#[]⟩, .string ⟨#[]⟩, .slice none 0 0, .int .i8 0, .string ⟨#[]⟩] 48 := by rw [hw]; exact (Blk.new _ _ _).alloc _
  have hn2 : Blk W5 (W4.heap.size + 1) #[.int .i64 1, .int .i8 0] 76 := by
    rw [hw]
    have := Blk.new (W4.alloc (.cells #[.int .i64 1, .int .i8 0, .int .i64 2, .int .i8 0, .string ⟨#[]⟩, .string ⟨#[]⟩, .slice none 0 0, .int .i8 0, .string ⟨#[]⟩] 48)) #[.int .i64 1, .int .i8 0] 76
    rwa [World.size_alloc] at this
  rw [← hw]
  have HK5 := Lib.hid (HK4.out.below hb)
  have HB5 := Lib.hid (HB4.out.trans (hb.mono HB4.out.size))
  have HM5 := Lib.hid (HM4.out.below hb)
  clear hw hb t0 t1 t2 t3 t4 t5 t6 t7 t8 k15
  have n0 := hn.cell 0 rfl
  have n1 := hn.cell 1 rfl
  have n2 := hn.cell 2 rfl
  have n7 := hn.cell 7 rfl
  have m0 := hn2.cell 0 rfl
  have m1 := hn2.cell 1 rfl
  have k14 := HK5.out.cell 14 rfl
  have hlk : (Instr.lookup 74 (.map (some w1.heap.size)) (.agg #[.int .i64 1, .int .i8 0]) false).run Try.prog W5 = .ok (.bool false) W5 := HM5.out.look (by decide)
  clear hn hn2
  go_wp2_with fail
  refine (within_any 1 0 1 (by omega) (by omega) _).mono ?_
  rintro e w9 ⟨rfl, hw9⟩
  obtain rfl := hw9.symm
  go_wp2_with fail
  refine (within8_any 0 0 2 (by omega) (by omega) _).mono ?_
  rintro e w9 ⟨rfl, hw9⟩
  obtain rfl := hw9.symm
  go_wp2_with fail
  refine (within8_any 0 0 2 (by omega) (by omega) _).mono ?_
  rintro e w9 ⟨rfl, hw9⟩
  obtain rfl := hw9.symm
  go_wp2_with (refine wp_put_MK rfl _ _ _ rfl w1.heap.size 1 _ rfl HM5.out (by unfold maxLen; omega) 1 (by decide) rfl rfl ?_; intro W6 hm6 hg6; have HM6 := Lib.hid hm6; have HG := Lib.hid hg6; clear hm6 hg6)
  have HK6 := Lib.hid (HK5.out.grown HG.out (fun e => by have := HN2.out; injection e with e; omega))
  have HB6 := Lib.hid (HB5.out.grown HG.out HB5.out.size (fun k e => by have := HS2.out; injection e with e; omega))
  clear HG n0 n1 n2 n7 m0 m1 k14 hlk
  rw [rounds_succ]
  go_wp2_with (refine wpList_load_row rfl 44 (.tmp 1) rfl w.heap.size rfl _ _ (0, 0) _ HK6.out Try.underlying44 rfl sz_work ?_)
  refine (fleans_any _ qc ql c qt H2.out HM.out (HC.out.below HB6.out)).mono ?_
  rintro e w8 ⟨g, g', rfl, r1, r2, r3, hb8⟩
  have HB8 := Lib.hid (HB6.out.trans (hb8.mono HB6.out.size))
  clear hb8
  go_wp2_with fail
  refine wp_loop_rounds 3 ?_
  rw [rounds_succ]
  go_wp2_with fail
  rw [rounds_succ]
  go_wp2_with fail
  rw [rounds_succ]
  go_wp2_with fail
  go_ret
  exact ⟨rfl, HB8.out⟩
end Go.Proofs.Ytfjhomegjceilaa
