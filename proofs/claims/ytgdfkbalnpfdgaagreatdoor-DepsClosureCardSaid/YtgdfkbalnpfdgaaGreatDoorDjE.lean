/- Deps: the walker's expr. -/
import Derived.Test.YtgdfkbalnpfdgaaGreatDoorDjR
namespace Go.Proofs.YtgdfkbalnpfdgaaGreatDoor
open Go.RowKit Go.Maps
set_option linter.unusedVariables false
set_option linter.unusedSimpArgs false
theorem eqIn_fn (w : World) (d : Nat) (f : Fn) (p c : Array Value) : (Op.equalIn (d + 1) 131 (.func f p c) .nilFunc).run Tryz.prog w = .ok false w := by
 simp [Op.equalIn, run_underlying Tryz.underlying131]
theorem eqIn_nf (w : World) (d : Nat) : (Op.equalIn (d + 1) 131 .nilFunc .nilFunc).run Tryz.prog w = .ok true w := by
 simp [Op.equalIn, run_underlying Tryz.underlying131]
theorem neq_fn (w : World) (f : Fn) (p c : Array Value) : (binOp .neq 131 (.func f p c) .nilFunc).run Tryz.prog w = .ok (.bool true) w := by
 simp only [binOp]
 simp [Op.equal, Op.maxDepth, eqIn_fn w 9999]
theorem neq_nf (w : World) : (binOp .neq 131 .nilFunc .nilFunc).run Tryz.prog w = .ok (.bool false) w := by
 simp only [binOp]
 simp [Op.equal, Op.maxDepth, eqIn_nf w 9999]
theorem act_ref {Γ : Env} {sc : Nat} {x : Ex} (h : x.kind = 3) : act Γ sc x = refA Γ sc x := by unfold act; rw [if_pos h]
theorem act_att {Γ : Env} {sc : Nat} {x : Ex} (h : x.kind = 4) : act Γ sc x = attA Γ sc x := by unfold act; rw [if_neg (by omega), if_pos h]
theorem act_if {Γ : Env} {sc : Nat} {x : Ex} (h : x.kind = 6) : act Γ sc x = ifA Γ sc x := by unfold act; rw [if_neg (by omega), if_neg (by omega), if_pos h]
theorem act_else {Γ : Env} {sc : Nat} {x : Ex} (h3 : x.kind ≠ 3) (h4 : x.kind ≠ 4) (h6 : x.kind ≠ 6) : act Γ sc x = .task (.exs sc x.l) := by unfold act; rw [if_neg h3, if_neg h4, if_neg h6]
theorem Wk.ofA {Γ : Env} {s s' : Wst} {sc : Nat} {x : Ex} (h0 : s.e = 0) (h : RunA Γ s (act Γ sc x) s') : Wk Γ s (.ex sc x) s' := by
 cases ha : act Γ sc x with
 | stay => rw [ha] at h; obtain rfl : s' = s := h; exact .stay h0 ha
 | bad => rw [ha] at h; obtain rfl : s' = s.fail 160 := h; exact .bad h0 ha
 | hit k => rw [ha] at h; obtain rfl : s' = s.hit k := h; exact .hit h0 ha
 | task t => rw [ha] at h; exact .go h0 ha h
set_option maxRecDepth 100000 in
set_option maxHeartbeats 8000000 in
theorem expr_step (Γ : Env) (W : Wh) (u : Nat) (x : Ex) (hΓ : Γ.ok) (hI1 : ∀ u', u' < u → ∀ y, ExC Γ W u' y) (hI2 : ∀ y ∈ x.l, ExC Γ W u y) : ExC Γ W u x := by
 intro s sc a cs w hu hsc hx hF hD hC hT hab
 obtain ⟨c0, c1, c2, c3, c4, c5⟩ := blk6 hD.wk
 by_cases he : s.e = 0
 ·have hb1 : ∀ cs' t, Below w.heap.size w (w.alloc (.cells cs' t)) := fun cs' t => (Below.refl _ w).alloc (Nat.le_refl _) _
  have HB := Lib.hid hb1
  have hent := enter_any Γ W s hΓ (fun u' hu' y => hI1 u' (by omega) y)
  have HRF : Hid (∀ w1, Below w.heap.size w w1 → x.kind = 3 → Calls Tryz.prog 61 #[.pointer (some ⟨W.wb, 0, none⟩), .int .i64 (sc : Int), .pointer (some a)] w1 (StepO Γ W s (.ex sc x) w)) := Lib.hid (fun w1 hb hk => (ref_any Γ W s sc x a cs w1 hΓ hent hsc hx (hF.below hb) (hD.below hb) (hC.below hb) (hT.below hb) hab).mono (fun e w2 h => by
   obtain ⟨h1, s', h2, h3, h4⟩ := h
   exact ⟨h1, s', Wk.ofA he (by rw [act_ref hk]; exact h2), h3, (Only.of_below hb W.F).F h4⟩))
  have HAT : Hid (∀ w1, Below w.heap.size w w1 → x.kind = 4 → Calls Tryz.prog 62 #[.pointer (some ⟨W.wb, 0, none⟩), .int .i64 (sc : Int), .pointer (some a)] w1 (StepO Γ W s (.ex sc x) w)) := Lib.hid (fun w1 hb hk => (att_any Γ W s sc x a cs w1 hΓ hent hsc hx (hF.below hb) (hD.below hb) (hC.below hb) (hT.below hb) hab).mono (fun e w2 h => by
   obtain ⟨h1, s', h2, h3, h4⟩ := h
   exact ⟨h1, s', Wk.ofA he (by rw [act_att hk]; exact h2), h3, (Only.of_below hb W.F).F h4⟩))
  have HCH : Hid (∀ w1, Below w.heap.size w w1 → x.kind = 6 → Calls Tryz.prog 63 #[.pointer (some ⟨W.wb, 0, none⟩), .int .i64 (sc : Int), .pointer (some a)] w1 (StepO Γ W s (.ex sc x) w)) := Lib.hid (fun w1 hb hk => (choose_any Γ W u s sc x a cs w1 hΓ hI2 hu hsc hx (hF.below hb) (hD.below hb) (hC.below hb) (hT.below hb) hab).mono (fun e w2 h => by
   obtain ⟨h1, s', h2, h3, h4⟩ := h
   exact ⟨h1, s', Wk.ofA he (by rw [act_if hk]; exact h2), h3, (Only.of_below hb W.F).F h4⟩))
  have HPA : Hid (∀ w1, Below w.heap.size w w1 → x.kind ≠ 3 → x.kind ≠ 4 → x.kind ≠ 6 → Calls Tryz.prog 64 #[.pointer (some ⟨W.wb, 0, none⟩), .int .i64 (sc : Int), .pointer (some a)] w1 (StepO Γ W s (.ex sc x) w)) := Lib.hid (fun w1 hb h3 h4 h6 => (wparts_any Γ W u s sc x a cs w1 hI2 hu hsc hx (hF.below hb) (hD.below hb) (hC.below hb) (hT.below hb) hab).mono (fun e w2 h => by
   obtain ⟨h1, s', h2, hd, ho⟩ := h
   exact ⟨h1, s', .go he (act_else h3 h4 h6) h2, hd, (Only.of_below hb W.F).F ho⟩))
  rw [he] at c5
  obtain ⟨XA, xc, rfl, hsz1, hsz2, hsz3, hsz4, hsz5, hxl⟩ := Ex.at_iff.1 hT
  obtain ⟨W1, hW1⟩ : ∃ W1, W1 = w.alloc (.cells #[.nilFunc, .nilFunc, .nilFunc, .func (.func 61) #[.pointer (some ⟨W.wb, 0, none⟩)] #[], .func (.func 62) #[.pointer (some ⟨W.wb, 0, none⟩)] #[], .nilFunc, .func (.func 63) #[.pointer (some ⟨W.wb, 0, none⟩)] #[], .nilFunc, .func (.func 64) #[.pointer (some ⟨W.wb, 0, none⟩)] #[]] 147) := ⟨_, rfl⟩
  have hbW : Below w.heap.size w W1 := by rw [hW1]; exact hb1 _ _
  have HW1 := Lib.hid hW1
  have HBW := Lib.hid hbW
  have hfn := Blk.new w #[.nilFunc, .nilFunc, .nilFunc, .func (.func 61) #[.pointer (some ⟨W.wb, 0, none⟩)] #[], .func (.func 62) #[.pointer (some ⟨W.wb, 0, none⟩)] #[], .nilFunc, .func (.func 63) #[.pointer (some ⟨W.wb, 0, none⟩)] #[], .nilFunc, .func (.func 64) #[.pointer (some ⟨W.wb, 0, none⟩)] #[]] 147
  rw [← hW1] at hfn
  have HFN := Lib.hid hfn
  obtain ⟨x0, x1, x2, x3, x4, x5⟩ := cel6 hC
  have HC := Lib.hid hC
  have hk8 := wf_i8 hsz1
  clear hI1 hI2 hx hF hD hC hT hxl hsz1 hsz2 hsz3 hsz4 hsz5 hΓ hent hb1 hbW hW1 hfn
  have hqf := fun W => neq_fn W
  have hqn := fun W => neq_nf W
  obtain ⟨y0, y1, y2, y3, y4, y5⟩ := cel6 (HC.out.below HBW.out)
  by_cases k3 : x.kind = 3
  ·rw [k3] at x0 y0
   have HK := Lib.hid (HRF.out W1 HBW.out k3)
   clear k3
   have d3 := HFN.out.cell 3 rfl
   go_enter Tryz.func50, Tryz.ntmps50
   go_upto_region 3 with fail
   rw [← HW1.out]
   go_wp2_with fail
   refine HK.out.mono ?_
   intro e w2 h2
   have H2 := Lib.hid h2
   obtain ⟨rfl, -⟩ := h2
   go_wp2_with fail
   go_end0
   exact H2.out
  by_cases k4 : x.kind = 4
  ·rw [k4] at x0 y0
   have HK := Lib.hid (HAT.out W1 HBW.out k4)
   clear k4 k3
   have d3 := HFN.out.cell 4 rfl
   go_enter Tryz.func50, Tryz.ntmps50
   go_upto_region 3 with fail
   rw [← HW1.out]
   go_wp2_with fail
   refine HK.out.mono ?_
   intro e w2 h2
   have H2 := Lib.hid h2
   obtain ⟨rfl, -⟩ := h2
   go_wp2_with fail
   go_end0
   exact H2.out
  by_cases k6 : x.kind = 6
  ·rw [k6] at x0 y0
   have HK := Lib.hid (HCH.out W1 HBW.out k6)
   clear k6 k3 k4
   have d3 := HFN.out.cell 6 rfl
   go_enter Tryz.func50, Tryz.ntmps50
   go_upto_region 3 with fail
   rw [← HW1.out]
   go_wp2_with fail
   refine HK.out.mono ?_
   intro e w2 h2
   have H2 := Lib.hid h2
   obtain ⟨rfl, -⟩ := h2
   go_wp2_with fail
   go_end0
   exact H2.out
  have HK := Lib.hid (HPA.out W1 HBW.out k3 k4 k6)
  by_cases hlo : x.kind < 0
  ·have g0 : decide (0 ≤ x.kind) = false := decide_eq_false (by omega)
   have g1 : ¬ (0 ≤ x.kind) := by omega
   clear k3 k4 k6 hlo
   go_enter Tryz.func50, Tryz.ntmps50
   go_upto_region 3 with fail
   rw [← HW1.out]
   go_wp2_with fail
   refine HK.out.mono ?_
   intro e w2 h2
   have H2 := Lib.hid h2
   obtain ⟨rfl, -⟩ := h2
   go_wp2_with fail
   go_end0
   exact H2.out
  by_cases hhi : 9 ≤ x.kind
  ·have g0 : decide (0 ≤ x.kind) = true := decide_eq_true (by omega)
   have gw : IntKind.i64.wrap x.kind = x.kind := by rw [IntKind.wrap_i64]; omega
   have g1 : decide (x.kind < 9) = false := decide_eq_false (by omega)
   clear k3 k4 k6 hlo hhi
   go_enter Tryz.func50, Tryz.ntmps50
   go_upto_region 3 with fail
   rw [← HW1.out]
   go_wp2_with fail
   refine HK.out.mono ?_
   intro e w2 h2
   have H2 := Lib.hid h2
   obtain ⟨rfl, -⟩ := h2
   go_wp2_with fail
   go_end0
   exact H2.out
  have hcase : x.kind = 0 ∨ x.kind = 1 ∨ x.kind = 2 ∨ x.kind = 5 ∨ x.kind = 7 ∨ x.kind = 8 := by omega
  clear k3 k4 k6 hlo hhi
  rcases hcase with k0 | k0 | k0 | k0 | k0 | k0
  ·rw [k0] at x0 y0
   clear k0
   have d3 := HFN.out.cell 0 rfl
   go_enter Tryz.func50, Tryz.ntmps50
   go_upto_region 3 with fail
   rw [← HW1.out]
   go_wp2_with fail
   refine HK.out.mono ?_
   intro e w2 h2
   have H2 := Lib.hid h2
   obtain ⟨rfl, -⟩ := h2
   go_wp2_with fail
   go_end0
   exact H2.out
  ·rw [k0] at x0 y0
   clear k0
   have d3 := HFN.out.cell 1 rfl
   go_enter Tryz.func50, Tryz.ntmps50
   go_upto_region 3 with fail
   rw [← HW1.out]
   go_wp2_with fail
   refine HK.out.mono ?_
   intro e w2 h2
   have H2 := Lib.hid h2
   obtain ⟨rfl, -⟩ := h2
   go_wp2_with fail
   go_end0
   exact H2.out
  ·rw [k0] at x0 y0
   clear k0
   have d3 := HFN.out.cell 2 rfl
   go_enter Tryz.func50, Tryz.ntmps50
   go_upto_region 3 with fail
   rw [← HW1.out]
   go_wp2_with fail
   refine HK.out.mono ?_
   intro e w2 h2
   have H2 := Lib.hid h2
   obtain ⟨rfl, -⟩ := h2
   go_wp2_with fail
   go_end0
   exact H2.out
  ·rw [k0] at x0 y0
   clear k0
   have d3 := HFN.out.cell 5 rfl
   go_enter Tryz.func50, Tryz.ntmps50
   go_upto_region 3 with fail
   rw [← HW1.out]
   go_wp2_with fail
   refine HK.out.mono ?_
   intro e w2 h2
   have H2 := Lib.hid h2
   obtain ⟨rfl, -⟩ := h2
   go_wp2_with fail
   go_end0
   exact H2.out
  ·rw [k0] at x0 y0
   clear k0
   have d3 := HFN.out.cell 7 rfl
   go_enter Tryz.func50, Tryz.ntmps50
   go_upto_region 3 with fail
   rw [← HW1.out]
   go_wp2_with fail
   refine HK.out.mono ?_
   intro e w2 h2
   have H2 := Lib.hid h2
   obtain ⟨rfl, -⟩ := h2
   go_wp2_with fail
   go_end0
   exact H2.out
  ·rw [k0] at x0 y0
   clear k0
   have d3 := HFN.out.cell 8 rfl
   go_enter Tryz.func50, Tryz.ntmps50
   go_upto_region 3 with fail
   rw [← HW1.out]
   go_wp2_with fail
   refine HK.out.mono ?_
   intro e w2 h2
   have H2 := Lib.hid h2
   obtain ⟨rfl, -⟩ := h2
   go_wp2_with fail
   go_end0
   exact H2.out
 ·have hne : ((s.e : Int) != 0) = true := by simpa using he
  have HD := Lib.hid hD
  have HE := Lib.hid he
  clear he hI1 hI2 hx hF hD hC hT hΓ
  go_enter Tryz.func50, Tryz.ntmps50
  go_wp2_with fail
  go_end0
  exact ⟨rfl, s, .err HE.out, HD.out, Only.refl _ _⟩
end Go.Proofs.YtgdfkbalnpfdgaaGreatDoor
