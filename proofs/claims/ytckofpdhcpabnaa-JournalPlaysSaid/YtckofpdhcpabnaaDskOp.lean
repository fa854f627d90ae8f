/- disk.deed, Append, Swap, Cut. -/
import Derived.Test.YtckofpdhcpabnaaDsk
import Derived.Deep.QuietTactic
import Derived.BigQuiet
namespace Go.Proofs.Ytckofpdhcpabnaa
open Go.RowKit
set_option linter.unusedVariables false

theorem deed_down (B : Nat) (q : Nat) (r : Option Nat) (s : DS) (w : World) (h : Dk 52 B w q r s) (hd : s.down = true) (v1 v2 v3 : Value) :
    Calls Try.prog 40 #[.pointer (some ⟨q, 0, none⟩), v1, v2, v3] w fun e w' => e = .returned (.int .i64 60) ∧ w = w' := by
  have hst := state_any B q r s w h
  rw [show dstate s = 60 from by unfold dstate; rw [if_pos hd]] at hst
  clear hd h
  go_enter Try.func40, Try.ntmps40
  go_wp2_with fail
  refine hst.mono ?_
  rintro e w' ⟨rfl, rfl⟩
  go_wp2_with fail
  go_ret
  exact ⟨rfl, rfl⟩
theorem deed_may (B : Nat) (q : Nat) (r : Option Nat) (s : DS) (w : World) (h : Dk 52 B w q r s) (hd : s.down = false) (fm : Nat) (cm : Array Value) (v2 v3 : Value) (em : Int) (hem : em ≠ 0)
    (hcm : ∀ args w, (callFunc fm args).run Try.prog w = .ok (.enter fm args) w)
    (hm : Calls Try.prog fm cm w fun e w' => e = .returned (.int .i64 em) ∧ ∃ j, w' = w.drewN j) :
    Calls Try.prog 40 #[.pointer (some ⟨q, 0, none⟩), .func (.func fm) #[] cm, v2, v3] w fun e w' => e = .returned (.int .i64 em) ∧ ∃ j, w' = w.drewN j := by
  have hst := state_any B q r s w h
  rw [show dstate s = 0 from by unfold dstate; rw [hd]; rfl] at hst
  have hb : (em != 0) = true := by simp [hem]
  have HST := Lib.hid hst
  have HM := Lib.hid hm
  clear hd h hem hst hm
  go_enter Try.func40, Try.ntmps40
  go_wp2_with fail
  refine HST.out.mono ?_
  rintro e w' ⟨rfl, rfl⟩
  go_wp2_with fail
  refine HM.out.mono ?_
  rintro e w1 ⟨rfl, j, rfl⟩
  go_wp2_with fail
  go_ret
  exact ⟨rfl, j, rfl⟩

theorem DStep.of_drewN {t : TypeId} {B q : Nat} {r : Option Nat} {s : DS} {W W' : World} {j : Nat} (h : DStep t B q r s (W.drewN j) W') : DStep t B q r s W W' :=
  ⟨h.dk, ⟨h.only.os, h.only.tape, h.only.output, h.only.size, h.only.block⟩⟩
theorem DStep.fin {t : TypeId} {B q : Nat} {r : Option Nat} {s : DS} {W W' : World} (h : DStep t B q r s W W') (ht : t ≠ 5) : DStep t B q r { s with armed := false, down := true } W ((W'.setCell ⟨q, 2, none⟩ (.bool false)).setCell ⟨q, 1, none⟩ (.bool true)) := by
  obtain ⟨⟨r', ⟨⟨A, c, hb, how, hr⟩, hq, hl, hk⟩, hrr⟩, hon⟩ := h
  have hne := how.ne_blk hb ht
  refine ⟨⟨r', ⟨⟨A, c, ?_, ?_, hr⟩, hq, hl, hk⟩, hrr⟩, (hon.setCell _ _ (fun _ => .inl rfl)).setCell _ _ (fun _ => .inl rfl)⟩
  · exact ((hb.set 2 (.bool false)).set 1 (.bool true)).eq (by simp)
  · exact (how.setOther _ _ hne).setOther _ _ hne

theorem deed_do (B : Nat) (q : Nat) (r : Option Nat) (s s' : DS) (w : World) (h : Dk 52 B w q r s) (hd : s.down = false) (ha : s.armed = false) (fm : Nat) (cm : Array Value) (fw : Nat) (cw : Array Value) (v3 : Value)
    (hcm : ∀ args w, (callFunc fm args).run Try.prog w = .ok (.enter fm args) w) (hcw : ∀ args w, (callFunc fw args).run Try.prog w = .ok (.enter fw args) w)
    (hm : Calls Try.prog fm cm w fun e w' => e = .returned (.int .i64 0) ∧ ∃ j, w' = w.drewN j)
    (hw : ∀ j, Calls Try.prog fw cw (w.drewN j) fun e w' => e = .returned (.tuple #[]) ∧ DStep 52 B q r s' (w.drewN j) w') :
    Calls Try.prog 40 #[.pointer (some ⟨q, 0, none⟩), .func (.func fm) #[] cm, .func (.func fw) #[] cw, v3] w (DAns 52 B q r (0, s') w) := by
  have hst := state_any B q r s w h
  rw [show dstate s = 0 from by unfold dstate; rw [hd]; rfl] at hst
  obtain ⟨A, c, hb, how, rfl⟩ := h.blk
  rw [ha] at hb
  have c2 := fun j => (hb.drewN j).cell 2 rfl
  have HST := Lib.hid hst
  have HM := Lib.hid hm
  have HW := Lib.hid hw
  clear hd h hst hm hw ha hb how
  go_enter Try.func40, Try.ntmps40
  go_wp2_with fail
  refine HST.out.mono ?_
  rintro e w' ⟨rfl, rfl⟩
  go_wp2_with fail
  refine HM.out.mono ?_
  rintro e w1 ⟨rfl, j, rfl⟩
  have c2 := c2 j
  go_wp2_with fail
  refine (HW.out j).mono ?_
  rintro e w1 ⟨rfl, hS⟩
  go_wp2_with fail
  go_ret
  exact ⟨rfl, hS.of_drewN⟩
theorem deed_torn (B : Nat) (q : Nat) (r : Option Nat) (s s' : DS) (w : World) (h : Dk 52 B w q r s) (hd : s.down = false) (ha : s.armed = true) (fm : Nat) (cm : Array Value) (ft : Nat) (ct : Array Value) (v2 : Value)
    (hcm : ∀ args w, (callFunc fm args).run Try.prog w = .ok (.enter fm args) w) (hct : ∀ args w, (callFunc ft args).run Try.prog w = .ok (.enter ft args) w)
    (hm : Calls Try.prog fm cm w fun e w' => e = .returned (.int .i64 0) ∧ ∃ j, w' = w.drewN j)
    (hw : ∀ j, Calls Try.prog ft ct (w.drewN j) fun e w' => e = .returned (.tuple #[]) ∧ DStep 52 B q r s' (w.drewN j) w') :
    Calls Try.prog 40 #[.pointer (some ⟨q, 0, none⟩), .func (.func fm) #[] cm, v2, .func (.func ft) #[] ct] w (DAns 52 B q r (60, { s' with armed := false, down := true }) w) := by
  have hst := state_any B q r s w h
  rw [show dstate s = 0 from by unfold dstate; rw [hd]; rfl] at hst
  obtain ⟨A, c, hb, how, rfl⟩ := h.blk
  rw [ha] at hb
  have c2 := fun j => (hb.drewN j).cell 2 rfl
  have HST := Lib.hid hst
  have HM := Lib.hid hm
  have HW := Lib.hid hw
  clear hd h hst hm hw ha hb how
  go_enter Try.func40, Try.ntmps40
  go_wp2_with fail
  refine HST.out.mono ?_
  rintro e w' ⟨rfl, rfl⟩
  go_wp2_with fail
  refine HM.out.mono ?_
  rintro e w1 ⟨rfl, j, rfl⟩
  have c2 := c2 j
  go_wp2_with fail
  refine (HW.out j).mono ?_
  rintro e w1 ⟨rfl, hS⟩
  obtain ⟨r', hk, _⟩ := hS.dk
  obtain ⟨A', c', hb', how', rfl⟩ := hk.blk
  have d1 := hb'.cell 1 rfl
  have d2 := hb'.cell 2 rfl
  have f1 := hb'.frozen 1
  have f2 := hb'.frozen 2
  have HS := Lib.hid hS
  clear hS hk hb' how'
  go_wp2_with fail
  go_ret
  exact ⟨rfl, (HS.out.fin (by decide)).of_drewN⟩
end Go.Proofs.Ytckofpdhcpabnaa
