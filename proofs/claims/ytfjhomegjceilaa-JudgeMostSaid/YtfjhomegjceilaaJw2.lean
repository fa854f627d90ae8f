/- hoardinglaw31.wakes, piece by piece: Clone of nil, Sort, state.Check of nothing, state.Own of nothing. -/
import Derived.Test.YtfjhomegjceilaaJw1
import Derived.Lib.SliceRun
import Derived.Handy
namespace Go.Proofs.Ytfjhomegjceilaa
open Go.RowKit
set_option linter.unusedVariables false
set_option linter.unusedSimpArgs false

theorem clone0_any (w : World) : Calls Try.prog 40 #[.slice none 0 0] w fun e w' => e = .returned (.slice none 0 0) ∧ w' = w := by
  have hq := fun W => Lib.run_eql_slice_nil (P := Try.prog) W 31 9 none 0 0 0 0 Try.underlying31
  go_enter Try.func40, Try.ntmps40
  go_wp2_with fail
  go_ret
  exact ⟨rfl, rfl⟩
set_option maxRecDepth 100000 in
set_option maxHeartbeats 4000000 in
theorem len64_any (n : Nat) (hn : n ≤ 1) (w : World) : Calls Try.prog 66 #[.int .u64 (n : Nat)] w fun e w' => ∃ i, e = .returned (.int .i64 i) ∧ w' = w := by
  have h2 : n = 0 ∨ n = 1 := by omega
  rcases h2 with rfl | rfl
  all_goals
    go_enter Try.func66, Try.ntmps66
    go_wp2_with fail
    go_ret
    exact ⟨_, rfl, rfl⟩
set_option maxRecDepth 100000 in
set_option maxHeartbeats 4000000 in
theorem len_any (n : Nat) (hn : n ≤ 1) (w : World) : Calls Try.prog 45 #[.int .u64 (n : Nat)] w fun e w' => ∃ i, e = .returned (.int .i64 i) ∧ w' = w := by
  have wr0 : IntKind.u64.wrap (n : Int) = (n : Int) := IntWalk.u64_in _ (by omega)
  go_enter Try.func45, Try.ntmps45
  go_wp2_with fail
  refine (len64_any n hn w).mono ?_
  rintro e w2 ⟨i, rfl, hw2⟩
  obtain rfl := hw2.symm
  go_wp2_with fail
  go_ret
  exact ⟨_, rfl, rfl⟩
set_option maxRecDepth 100000 in
set_option maxHeartbeats 4000000 in
theorem sorti_any (A : Option Addr) (n c : Nat) (hn : n ≤ 1) (w : World) : Calls Try.prog 23 #[.slice A n c] w fun e w' => e = .returned (.tuple #[]) ∧ w' = w := by
  have wr0 : IntKind.u64.wrap (n : Int) = (n : Int) := IntWalk.u64_in _ (by omega)
  go_enter Try.func23, Try.ntmps23
  go_wp2_with fail
  refine (len_any n hn w).mono ?_
  rintro e w2 ⟨i, rfl, hw2⟩
  obtain rfl := hw2.symm
  go_wp2_with fail
  refine (pdq0i_any A n c hn i _).mono ?_
  rintro e w3 ⟨rfl, hw3⟩
  obtain rfl := hw3.symm
  go_wp2_with fail
  go_end0
  exact ⟨rfl, rfl⟩
set_option maxRecDepth 100000 in
set_option maxHeartbeats 4000000 in
theorem sorts_any (A : Option Addr) (n c : Nat) (hn : n ≤ 1) (w : World) : Calls Try.prog 37 #[.slice A n c] w fun e w' => e = .returned (.tuple #[]) ∧ w' = w := by
  have wr0 : IntKind.u64.wrap (n : Int) = (n : Int) := IntWalk.u64_in _ (by omega)
  go_enter Try.func37, Try.ntmps37
  go_wp2_with fail
  refine (len_any n hn w).mono ?_
  rintro e w2 ⟨i, rfl, hw2⟩
  obtain rfl := hw2.symm
  go_wp2_with fail
  refine (pdq0_any A n c hn i _).mono ?_
  rintro e w3 ⟨rfl, hw3⟩
  obtain rfl := hw3.symm
  go_wp2_with fail
  go_end0
  exact ⟨rfl, rfl⟩
set_option maxRecDepth 100000 in
set_option maxHeartbeats 4000000 in
theorem idx0_any (v : Value) (w : World) : Calls Try.prog 42 #[.slice none 0 0, v] w fun e w' => e = .returned (.int .i64 (-1)) ∧ w' = w := by
  go_enter Try.func42, Try.ntmps42
  go_wp2_with fail
  refine wp_loop_rounds 1 ?_
  rw [rounds_succ]
  go_wp2_with fail
  go_ret
  exact ⟨rfl, rfl⟩
set_option maxRecDepth 100000 in
set_option maxHeartbeats 4000000 in
theorem own0_any (s : ByteArray) (w : World) : Calls Try.prog 22 #[.agg #[.slice none 0 0, .slice none 0 0, .slice none 0 0, .slice none 0 0, .string ⟨#[]⟩, .slice none 0 0, .int .i64 0, .int .i8 0], .string s] w fun e w' => e = .returned (.tuple #[.agg #[.string ⟨#[]⟩, .string ⟨#[]⟩, .string ⟨#[]⟩, .slice none 0 0, .bool false, .slice none 0 0], .bool false]) ∧ Below w.heap.size w w' := by
  go_enter Try.func22, Try.ntmps22
  go_wp2_with fail
  refine (idx0_any _ _).mono ?_
  rintro e w3 ⟨rfl, hw3⟩
  subst hw3
  go_wp2_with fail
  refine bodyPost_ret (v := .tuple #[.agg #[.string ⟨#[]⟩, .string ⟨#[]⟩, .string ⟨#[]⟩, .slice none 0 0, .bool false, .slice none 0 0], .bool false]) (by simp [results, Try.results22, go_sem]; try rfl) rfl ?_
  refine ⟨rfl, ?_⟩
  go_grown
set_option maxRecDepth 100000 in
set_option maxHeartbeats 4000000 in
theorem check0_any (w : World) : Calls Try.prog 19 #[.agg #[.slice none 0 0, .slice none 0 0, .slice none 0 0, .slice none 0 0, .string ⟨#[]⟩, .slice none 0 0, .int .i64 0, .int .i8 0]] w fun e w' => e = .returned (.int .i64 0) ∧ Below w.heap.size w w' := by
  obtain ⟨w1, hw1⟩ : ∃ w1, w1 = w.alloc (.cells #[.slice none 0 0, .slice none 0 0, .slice none 0 0, .slice none 0 0, .string ⟨#[]⟩, .slice none 0 0, .int .i64 0, .int .i8 0] 37) := ⟨_, rfl⟩
  have hb1 : Below w.heap.size w w1 := by rw [hw1]; exact (Below.refl _ w).alloc (Nat.le_refl _) _
  have hk1 : Blk w1 w.heap.size #[.slice none 0 0, .slice none 0 0, .slice none 0 0, .slice none 0 0, .string ⟨#[]⟩, .slice none 0 0, .int .i64 0, .int .i8 0] 37 := by rw [hw1]; exact Blk.new w _ _
  have HW1 := Lib.hid hw1
  have HS1 : Hid (w1.heap.size = w.heap.size + 1) := Lib.hid (by rw [hw1, World.size_alloc])
  have HB1 := Lib.hid hb1
  have HK1 := Lib.hid hk1
  clear hw1 hb1 hk1
  go_enter Try.func19, Try.ntmps19
  go_upto_region 1 with fail
  rw [← HW1.out]
  have c0 := HK1.out.cell 0 rfl
  have c1 := HK1.out.cell 1 rfl
  have c2 := HK1.out.cell 2 rfl
  have c3 := HK1.out.cell 3 rfl
  have c4 := HK1.out.cell 4 rfl
  have c5 := HK1.out.cell 5 rfl
  have c6 := HK1.out.cell 6 rfl
  have c7 := HK1.out.cell 7 rfl
  go_wp2_with fail
  refine (live0_any w1).mono ?_
  rintro e w2 ⟨rfl, hb2⟩
  have hk2 := HK1.out.below hb2
  clear c0 c1 c2 c3 c4 c5 c6 c7
  have c0 := hk2.cell 0 rfl
  have c6 := hk2.cell 6 rfl
  have c7 := hk2.cell 7 rfl
  have HB2 := Lib.hid (HB1.out.trans (hb2.mono HB1.out.size))
  clear hk2 hb2
  go_wp2_with fail
  refine (sorts_any none 0 0 (by omega) _).mono ?_
  rintro e w3 ⟨rfl, hw3⟩
  obtain rfl := hw3.symm
  go_wp2_with fail
  refine (clone0_any _).mono ?_
  rintro e w3 ⟨rfl, hw3⟩
  obtain rfl := hw3.symm
  go_wp2_with fail
  refine (compact1_any none 0 0 (by omega) _).mono ?_
  rintro e w3 ⟨rfl, hw3⟩
  obtain rfl := hw3.symm
  go_wp2_with fail
  refine wp_loop_rounds 1 ?_
  rw [rounds_succ]
  go_wp2_with fail
  go_ret
  exact ⟨rfl, HB2.out⟩
end Go.Proofs.Ytfjhomegjceilaa
