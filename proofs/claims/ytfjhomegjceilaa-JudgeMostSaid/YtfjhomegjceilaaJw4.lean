/- hoardinglaw31.wakes: change.Leans of the work. -/
import Derived.Test.YtfjhomegjceilaaJw3
namespace Go.Proofs.Ytfjhomegjceilaa
open Go.RowKit
set_option linter.unusedVariables false
set_option linter.unusedSimpArgs false
def bEnc (ql : Nat) : Bool → Array Value
  | true => #[.int .i64 1, .agg #[.string ⟨#[66]⟩, .int .i8 1, .string ⟨#[68, 105, 115, 107]⟩, .slice none 0 0, .bool false, .int .i64 0, .bool false, .slice (some ⟨ql, 0, none⟩) 1 1]]
  | false => #[.int .i64 0, .agg #[.string ⟨#[65]⟩, .int .i8 1, .string ⟨#[68, 105, 115, 107]⟩, .slice none 0 0, .bool false, .int .i64 0, .bool false, .slice none 0 0]]
set_option maxRecDepth 100000 in
set_option maxHeartbeats 8000000 in
theorem back_iter (w : World) (q3 qc ql c : Nat) (h2 : 2 ≤ c) (h : Hc w qc ql) (hb : Boxed w q3 34 (.slice (some ⟨qc, 0, none⟩) 2 c)) :
    Iter Try.prog 41 #[.pointer (some ⟨q3, 0, none⟩)] (bEnc ql) (fun k => k = q3 ∨ k = qc ∨ k = ql) (fun pre _ _ => pre.length ≤ 1) (fun xs => xs = [true, false]) (fun _ => True) w := by
  intro m lp J Jx W hW hJ hJx hY h0
  have hbW : Boxed W q3 34 (.slice (some ⟨qc, 0, none⟩) 2 c) := (hW.block _ hb.lt).trans hb
  have hcW := h.below hW
  have cb := hbW.cell
  have e8 := hcW.cell 8 _ rfl
  have e9 := hcW.cell 9 _ rfl
  have e10 := hcW.cell 10 _ rfl
  have e11 := hcW.cell 11 _ rfl
  have e12 := hcW.cell 12 _ rfl
  have e13 := hcW.cell 13 _ rfl
  have e14 := hcW.cell 14 _ rfl
  have e15 := hcW.cell 15 _ rfl
  have HBW := Lib.hid hbW
  have HCW := Lib.hid hcW
  have HY := Lib.hid hY
  have HJ := Lib.hid hJ
  have H0 := Lib.hid h0
  obtain ⟨fn, tmps, assign, body, hy, hR⟩ := HY.out [] true W H0.out (by simp)
  have HR := Lib.hid hR
  dsimp only [bEnc] at hy
  clear hbW hcW hY hJ h0 hW hJx hb h hR
  refine callsIn_of_wp Try.func41 rfl trivial ?_
  simp only [Try.ntmps41, List.size_toArray, List.length_cons, List.length_nil, Nat.reduceAdd, Nat.reduceSub, Array.replicate_succ, Array.replicate_zero, List.push_toArray, List.append_toArray, List.nil_append, List.cons_append]
  gi_wp2_with fail
  refine wpIn_loop_rounds 3 ?_
  rw [roundsIn_succ]
  gi_wp2_with fail
  refine ⟨(fun h => by cases h), HR.out.mono ?_⟩
  rintro e w3 (⟨rfl, hj3, hk3⟩ | ⟨rfl, hjx3⟩)
  · have hb3 : Boxed w3 q3 34 (.slice (some ⟨qc, 0, none⟩) 2 c) := (hk3.block q3 (.inl rfl)).trans HBW.out
    have hc3 : Hc w3 qc ql := HCW.out.keep (fun k _ hk => hk3.block k (by rcases hk with rfl | rfl <;> simp))
    clear cb e8 e9 e10 e11 e12 e13 e14 e15 hy hk3 HR
    have cb := hb3.cell
    have e0 := hc3.cell 0 _ rfl
    have e1 := hc3.cell 1 _ rfl
    have e2 := hc3.cell 2 _ rfl
    have e3 := hc3.cell 3 _ rfl
    have e4 := hc3.cell 4 _ rfl
    have e5 := hc3.cell 5 _ rfl
    have e6 := hc3.cell 6 _ rfl
    have e7 := hc3.cell 7 _ rfl
    obtain ⟨fn2, tmps2, assign2, body2, hy2, hR2⟩ := HY.out [true] false w3 hj3 (by simp)
    have HR2 := Lib.hid hR2
    dsimp only [bEnc] at hy2
    have HB3 := Lib.hid hb3
    clear hR2 hj3 hb3 hc3
    gi_wp2_with fail
    rw [roundsIn_succ]
    gi_wp2_with fail
    refine ⟨(fun h => by cases h), HR2.out.mono ?_⟩
    rintro e w4 (⟨rfl, hj4, hk4⟩ | ⟨rfl, hjx4⟩)
    · have hb4 : Boxed w4 q3 34 (.slice (some ⟨qc, 0, none⟩) 2 c) := (hk4.block q3 (.inl rfl)).trans HB3.out
      have HJ4 := Lib.hid hj4
      clear cb e0 e1 e2 e3 e4 e5 e6 e7 hy2 hk4 HR2 hj4
      gi_wp2_with fail
      rw [roundsIn_succ]
      gi_wp2_with fail
      go_end0
      exact ⟨⟨_, rfl⟩, .inl ⟨_, rfl, HJ4.out⟩⟩
    · gi_wp2
      refine bodyPost_ret (results_none rfl _ _ _) rfl ?_
      exact ⟨⟨_, rfl⟩, .inr ⟨_, trivial, hjx4⟩⟩
  · gi_wp2
    refine bodyPost_ret (results_none rfl _ _ _) rfl ?_
    exact ⟨⟨_, rfl⟩, .inr ⟨_, trivial, hjx3⟩⟩
end Go.Proofs.Ytfjhomegjceilaa
