/- hoardinglaw31.wakes, piece by piece: within, Steps, Live of no rows. -/
import Derived.Test.YtfjhomegjceilaaJm1
import Derived.Deep.CutRange
import Derived.BigRegion
namespace Go.Proofs.Ytfjhomegjceilaa
open Go.RowKit
set_option linter.unusedVariables false
set_option linter.unusedSimpArgs false

/-- a state that has nothing -/
theorem within_any (n a b : Int) (h1 : a ≤ n) (h2 : n ≤ b) (w : World) : Calls Try.prog 17 #[.int .i64 n, .int .i64 a, .int .i64 b] w fun e w' => e = .returned (.bool true) ∧ w' = w := by
  have d1 : decide (a ≤ n) = true := decide_eq_true h1
  have d2 : decide (n ≤ b) = true := decide_eq_true h2
  clear h1 h2
  go_enter Try.func17, Try.ntmps17
  go_wp2_with fail
  go_ret
  exact ⟨rfl, rfl⟩
theorem within8_any (n a b : Int) (h1 : a ≤ n) (h2 : n ≤ b) (w : World) : Calls Try.prog 18 #[.int .i8 n, .int .i8 a, .int .i8 b] w fun e w' => e = .returned (.bool true) ∧ w' = w := by
  have d1 : decide (a ≤ n) = true := decide_eq_true h1
  have d2 : decide (n ≤ b) = true := decide_eq_true h2
  clear h1 h2
  go_enter Try.func18, Try.ntmps18
  go_wp2_with fail
  go_ret
  exact ⟨rfl, rfl⟩
set_option maxRecDepth 100000 in
set_option maxHeartbeats 4000000 in
theorem live0_any (w : World) : Calls Try.prog 36 #[.agg #[.slice none 0 0, .slice none 0 0, .slice none 0 0, .slice none 0 0, .string ⟨#[]⟩, .slice none 0 0, .int .i64 0, .int .i8 0]] w fun e w' => e = .returned (.slice none 0 0) ∧ Below w.heap.size w w' := by
  obtain ⟨w1, hw1⟩ : ∃ w1, w1 = w.alloc (.cells #[.slice none 0 0, .slice none 0 0, .slice none 0 0, .slice none 0 0, .string ⟨#[]⟩, .slice none 0 0, .int .i64 0, .int .i8 0] 37) := ⟨_, rfl⟩
  have hb1 : Below w.heap.size w w1 := by rw [hw1]; exact (Below.refl _ w).alloc (Nat.le_refl _) _
  have hk1 : Blk w1 w.heap.size #[.slice none 0 0, .slice none 0 0, .slice none 0 0, .slice none 0 0, .string ⟨#[]⟩, .slice none 0 0, .int .i64 0, .int .i8 0] 37 := by rw [hw1]; exact Blk.new w _ _
  have c0 := hk1.cell 0 rfl
  have c1 := hk1.cell 1 rfl
  have c2 := hk1.cell 2 rfl
  have HB1 := Lib.hid hb1
  have HW1 := Lib.hid hw1
  clear hb1 hk1 hw1
  have x0 : ∀ w', (Instr.index 123 (.agg #[.slice none 0 0, .slice none 0 0, .slice none 0 0]) (.int .i64 0)).run Try.prog w' = .ok (.slice none 0 0) w' := fun w' => by kernel_rfl
  have x1 : ∀ w', (Instr.index 123 (.agg #[.slice none 0 0, .slice none 0 0, .slice none 0 0]) (.int .i64 1)).run Try.prog w' = .ok (.slice none 0 0) w' := fun w' => by kernel_rfl
  have x2 : ∀ w', (Instr.index 123 (.agg #[.slice none 0 0, .slice none 0 0, .slice none 0 0]) (.int .i64 2)).run Try.prog w' = .ok (.slice none 0 0) w' := fun w' => by kernel_rfl
  go_enter Try.func36, Try.ntmps36
  go_upto_region 1 with fail
  rw [← HW1.out]
  go_wp2_with fail
  go_loopg [2, 14] 3 (fun g v i wr => ∃ j : Nat, j + g = 3 ∧ i = .int .i64 (j : Nat) ∧ v = .slice none 0 0 ∧ wr = w1)
  case atStart => exact ⟨0, by omega, rfl, rfl, rfl⟩
  case round =>
    obtain ⟨j, hj, rfl, rfl, hw⟩ := hrel
    obtain rfl := hw.symm
    cases gk with
    | zero =>
      have hjj : ¬ ((j : Int) < 3) := by omega
      go_wp2_with fail
      go_ret
      exact ⟨rfl, HB1.out⟩
    | succ g =>
      have hj3 : j = 0 ∨ j = 1 ∨ j = 2 := by omega
      rcases hj3 with rfl | rfl | rfl
      all_goals
        go_wp2_with fail
        go_loopg [2, 19] 0 (fun g v i wr => g = 0 ∧ i = .int .i64 0 ∧ v = .slice none 0 0 ∧ wr = w1)
        case atStart => exact ⟨rfl, rfl, rfl, rfl⟩
        case round =>
          obtain ⟨hg, rfl, rfl, hw⟩ := hrel
          obtain rfl := hw.symm
          subst hg
          go_wp2_with fail
          go_roundg g
          case measure => omega
          case rel => first | exact ⟨1, by omega, by go_num, rfl, rfl⟩ | exact ⟨2, by omega, by go_num, rfl, rfl⟩ | exact ⟨3, by omega, by go_num, rfl, rfl⟩
set_option maxRecDepth 100000 in
set_option maxHeartbeats 4000000 in
theorem ins0_any (A : Option Addr) (n c : Nat) (hn : n ≤ 1) (w : World) : Calls Try.prog 68 #[.slice A n c, .int .i64 0, .int .i64 (n : Int)] w fun e w' => e = .returned (.tuple #[]) ∧ w' = w := by
  have hnn : ¬ ((1 : Int) < (n : Int)) := by omega
  go_enter Try.func68, Try.ntmps68
  go_wp2_with fail
  go_loopg [6] 0 (fun g i wr => g = 0 ∧ i = .int .i64 1 ∧ wr = w)
  case atStart => exact ⟨rfl, rfl, rfl⟩
  case round =>
    obtain ⟨hg, rfl, hw⟩ := hrel
    obtain rfl := hw.symm
    go_wp2_with fail
    go_end0
    exact ⟨rfl, rfl⟩
set_option maxRecDepth 100000 in
set_option maxHeartbeats 4000000 in
theorem ins0i_any (A : Option Addr) (n c : Nat) (hn : n ≤ 1) (w : World) : Calls Try.prog 56 #[.slice A n c, .int .i64 0, .int .i64 (n : Int)] w fun e w' => e = .returned (.tuple #[]) ∧ w' = w := by
  have hnn : ¬ ((1 : Int) < (n : Int)) := by omega
  go_enter Try.func56, Try.ntmps56
  go_wp2_with fail
  go_loopg [6] 0 (fun g i wr => g = 0 ∧ i = .int .i64 1 ∧ wr = w)
  case atStart => exact ⟨rfl, rfl, rfl⟩
  case round =>
    obtain ⟨hg, rfl, hw⟩ := hrel
    obtain rfl := hw.symm
    go_wp2_with fail
    go_end0
    exact ⟨rfl, rfl⟩
set_option maxRecDepth 100000 in
set_option maxHeartbeats 4000000 in
theorem pdq0_any (A : Option Addr) (n c : Nat) (hn : n ≤ 1) (lim : Int) (w : World) : Calls Try.prog 55 #[.slice A n c, .int .i64 0, .int .i64 (n : Int), .int .i64 lim] w fun e w' => e = .returned (.tuple #[]) ∧ w' = w := by
  have hnn : (n : Int) ≤ 12 := by omega
  have wr0 : IntKind.i64.wrap (n : Int) = (n : Int) := IntWalk.i64_in _ (by omega)
  have HI := Lib.hid (ins0_any A n c hn w)
  go_enter Try.func55, Try.ntmps55
  go_wp2_with fail
  go_loopg [1, 2] 0 (fun g a b wr => g = 0 ∧ a = .int .i64 0 ∧ b = .int .i64 (n : Int) ∧ wr = w)
  case atStart => exact ⟨rfl, rfl, rfl, rfl⟩
  case round =>
    obtain ⟨hg, rfl, rfl, hw⟩ := hrel
    obtain rfl := hw.symm
    go_wp2_with fail
    refine HI.out.mono ?_
    rintro e w2 ⟨rfl, hw2⟩
    obtain rfl := hw2.symm
    go_wp2_with fail
    first
      | exact ⟨rfl, rfl⟩
      | (go_ret; exact ⟨rfl, rfl⟩)
      | (refine bodyPost_ret (v := .tuple #[]) (by simp [results, go_sem]) rfl ?_; exact ⟨rfl, rfl⟩)
set_option maxRecDepth 100000 in
set_option maxHeartbeats 4000000 in
theorem pdq0i_any (A : Option Addr) (n c : Nat) (hn : n ≤ 1) (lim : Int) (w : World) : Calls Try.prog 44 #[.slice A n c, .int .i64 0, .int .i64 (n : Int), .int .i64 lim] w fun e w' => e = .returned (.tuple #[]) ∧ w' = w := by
  have hnn : (n : Int) ≤ 12 := by omega
  have wr0 : IntKind.i64.wrap (n : Int) = (n : Int) := IntWalk.i64_in _ (by omega)
  have HI := Lib.hid (ins0i_any A n c hn w)
  go_enter Try.func44, Try.ntmps44
  go_wp2_with fail
  go_loopg [1, 2] 0 (fun g a b wr => g = 0 ∧ a = .int .i64 0 ∧ b = .int .i64 (n : Int) ∧ wr = w)
  case atStart => exact ⟨rfl, rfl, rfl, rfl⟩
  case round =>
    obtain ⟨hg, rfl, rfl, hw⟩ := hrel
    obtain rfl := hw.symm
    go_wp2_with fail
    refine HI.out.mono ?_
    rintro e w2 ⟨rfl, hw2⟩
    obtain rfl := hw2.symm
    go_wp2_with fail
    first
      | exact ⟨rfl, rfl⟩
      | (go_ret; exact ⟨rfl, rfl⟩)
      | (refine bodyPost_ret (v := .tuple #[]) (by simp [results, go_sem]) rfl ?_; exact ⟨rfl, rfl⟩)
set_option maxRecDepth 100000 in
theorem compact1_any (A : Option Addr) (n c : Nat) (hn : n ≤ 1) (w : World) : Calls Try.prog 39 #[.slice A n c] w fun e w' => e = .returned (.slice A n c) ∧ w' = w := by
  have hnn : (n : Int) < 2 := by omega
  go_enter Try.func39, Try.ntmps39
  go_wp2_with fail
  go_ret
  exact ⟨rfl, rfl⟩
set_option maxRecDepth 100000 in
theorem compact1i_any (A : Option Addr) (n c : Nat) (hn : n ≤ 1) (w : World) : Calls Try.prog 24 #[.slice A n c] w fun e w' => e = .returned (.slice A n c) ∧ w' = w := by
  have hnn : (n : Int) < 2 := by omega
  go_enter Try.func24, Try.ntmps24
  go_wp2_with fail
  go_ret
  exact ⟨rfl, rfl⟩
end Go.Proofs.Ytfjhomegjceilaa
