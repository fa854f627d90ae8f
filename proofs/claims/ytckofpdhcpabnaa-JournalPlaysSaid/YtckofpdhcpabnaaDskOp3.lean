/- disk.Swap's and Cut's closures. -/
import Derived.Test.YtckofpdhcpabnaaDskOp
import Derived.Deep.RegionHeld3
import Derived.StillTailTactics
namespace Go.Proofs.Ytckofpdhcpabnaa
open Go.RowKit
set_option linter.unusedVariables false
set_option linter.unusedSimpArgs false

theorem check_q' (b : Bool) (e : Int) (w : World) : Calls Try.prog 39 #[.bool b, .int .i64 e] w fun e' w' => e' = .returned (.int .i64 (if b then 0 else e)) ∧ w' = w :=
  (check_any b e w).mono fun _ _ h => ⟨h.1, h.2.symm⟩

theorem swap_may (w : World) (pb : Nat) (X : Option Addr) (m cx : Nat) (h : Boxed w pb 22 (.slice X m cx)) :
    Calls Try.prog 41 #[.pointer (some ⟨pb, 0, none⟩)] w fun e w' => e = .returned (.int .i64 (if m ≤ 1048576 then 0 else 3)) ∧ ∃ j, w' = w.drewN j := by
  have b0 := h.cell
  by_cases hm : m ≤ 1048576
  · rw [if_pos hm]
    go_enter Try.func41, Try.ntmps41
    go_wp2_with (go_at_call 39; refine (check_any _ _ _).mono ?_; rintro e w' ⟨rfl, rfl⟩)
    go_ret
    exact ⟨rfl, 0, rfl⟩
  · rw [if_neg hm]
    go_enter Try.func41, Try.ntmps41
    go_wp2_with (go_at_call 39; refine (check_any _ _ _).mono ?_; rintro e w' ⟨rfl, rfl⟩)
    go_ret
    exact ⟨rfl, 0, rfl⟩

theorem dk_put {t : TypeId} {B : Nat} {w w1 : World} {q c c' : Nat} {s : DS} {A A' : Option Addr} {y : List UInt8} (hb : Blk w q #[.slice A s.b.length c, .bool s.down, .bool s.armed, .int .i64 (s.keep : Nat)] t) (ht : t ≠ 5)
    (hq : B ≤ q) (hB : B ≤ w.heap.size) (hk : s.keep ≤ 9223372036854775807) (ho : Ow w1 w.heap.size 5 1 A' y.length c' (bv y)) (hg : Below w.heap.size w w1) (hl : y.length ≤ 1048576) (F : Option Nat) :
    DStep t B q F { s with b := y } w (w1.setCell ⟨q, 0, none⟩ (.slice A' y.length c')) := by
  have hb1 := hb.below hg
  have hne := ho.ne_blk hb1 ht
  exact ⟨⟨blk A', ⟨⟨A', c', (hb1.set 0 _).eq (by simp), (ho.setOther _ _ hne).le hB, rfl⟩, hq, hl, hk⟩, fun g hg => .inr (ho.lt hg).1⟩, (Only.of_below hg _).setCell _ _ (fun _ => .inl rfl)⟩

set_option maxHeartbeats 1000000 in
theorem swap_whole (B : Nat) (w : World) (q : Nat) (r : Option Nat) (s : DS) (pb pd : Nat) (X : Option Addr) (m cx : Nat) (x : List UInt8) (hk : Dk 52 B w q r s) (hpb : Boxed w pb 22 (.slice X m cx)) (hpd : Boxed w pd 26 (.pointer (some ⟨q, 0, none⟩))) (hr : Rd w 1 X m cx (bv x)) (hm : m ≤ 1048576) :
    Calls Try.prog 42 #[.pointer (some ⟨pb, 0, none⟩), .pointer (some ⟨pd, 0, none⟩)] w fun e w' => e = .returned (.tuple #[]) ∧ DStep 52 B q r { s with b := x } w w' := by
  obtain ⟨A, c, hb, how, rfl⟩ := hk.blk
  have hB : B ≤ w.heap.size := Nat.le_trans hk.q (Nat.le_of_lt hk.lt.1)
  have b0 := hpb.cell
  have b1 := hpd.cell
  have hkeep := hk.keep
  have hq := hk.q
  have HR := Lib.hid hr
  have HB := Lib.hid hb
  have HPD := Lib.hid (Blk.boxed hpd)
  clear hb how hk hr
  go_enter Try.func42, Try.ntmps42
  go_wp2_with fail
  go_region_with (go_at_call 30; refine (copied_any X m cx x _ HR.out.drew (by omega)).mono ?_; rintro e w1 ⟨A1, c1, rfl, ho1, hb1⟩; have hk1 := HB.out.drew.below hb1; have c01 := hk1.cell 0 rfl; have f01 := hk1.frozen 0; have p01 := (HPD.out.drew.below hb1).cell 0 rfl; have HO1 := Lib.hid ho1; have HB1 := Lib.hid hb1; clear ho1 hb1 hk1)
  all_goals
    go_wp2_with fail
    go_end0
    exact ⟨rfl, DStep.of_drewN (j := 1) (dk_put HB.out.drew (by decide) hq hB hkeep HO1.out HB1.out (by rw [HR.out.blen]; exact hm) _)⟩

theorem cut_may (B : Nat) (w : World) (q : Nat) (r : Option Nat) (s : DS) (pn pd : Nat) (n : Int) (hn1 : -9223372036854775808 ≤ n) (hn2 : n ≤ 9223372036854775807) (hk : Dk 52 B w q r s) (hpn : Boxed w pn 3 (.int .i64 n)) (hpd : Boxed w pd 26 (.pointer (some ⟨q, 0, none⟩))) :
    Calls Try.prog 51 #[.pointer (some ⟨pn, 0, none⟩), .pointer (some ⟨pd, 0, none⟩)] w fun e w' => e = .returned (.int .i64 (if n < 0 ∨ (s.b.length : Int) < n then 2 else 0)) ∧ ∃ j, w' = w.drewN j := by
  obtain ⟨A, c, hb, how, -⟩ := hk.blk
  have b0 := hpn.cell
  have b1 := hpd.cell
  have c0 := hb.cell 0 rfl
  clear hb how hk
  generalize s.b.length = L at *
  by_cases h0 : n < 0
  · rw [if_pos (.inl h0)]
    have hd : decide (0 ≤ n) = false := by simpa using h0
    go_enter Try.func51, Try.ntmps51
    go_wp2_with fail
    go_quiet ((go_at_call 39; exact Calls.quiet_of_same (check_q' _ _ _)))
    go_wp2_with fail
    go_ret
    exact ⟨rfl, _, rfl⟩
  have hd : decide (0 ≤ n) = true := by simp; omega
  by_cases h1 : (L : Int) < n
  · rw [if_pos (.inr h1)]
    have hd2 : decide (n ≤ (L : Int)) = false := by simpa using h1
    go_enter Try.func51, Try.ntmps51
    go_wp2_with fail
    go_quiet ((go_at_call 39; exact Calls.quiet_of_same (check_q' _ _ _)))
    go_wp2_with fail
    go_ret
    exact ⟨rfl, _, rfl⟩
  · rw [if_neg (by omega)]
    have hd2 : decide (n ≤ (L : Int)) = true := by simp; omega
    go_enter Try.func51, Try.ntmps51
    go_wp2_with fail
    go_quiet ((go_at_call 39; exact Calls.quiet_of_same (check_q' _ _ _)))
    go_wp2_with fail
    go_ret
    exact ⟨rfl, _, rfl⟩

theorem dk_cut {t : TypeId} {B : Nat} {w : World} {q c m : Nat} {s : DS} {A : Option Addr} (hb : Blk w q #[.slice A s.b.length c, .bool s.down, .bool s.armed, .int .i64 (s.keep : Nat)] t) (how : Ow w B 5 1 A s.b.length c (bv s.b)) (ht : t ≠ 5)
    (hq : B ≤ q) (hk : s.keep ≤ 9223372036854775807) (hl : s.b.length ≤ 1048576) (hm : m ≤ s.b.length) :
    DStep t B q (blk A) { s with b := s.b.take m } w (w.setCell ⟨q, 0, none⟩ (.slice A m m)) := by
  have hne := how.ne_blk hb ht
  have hc := how.cap
  have hlen : (s.b.take m).length = m := by rw [List.length_take]; exact Nat.min_eq_left hm
  have h2 := (how.setOther ⟨q, 0, none⟩ (.slice A m m) hne).cut hm (Nat.le_refl _) (Nat.le_trans hm hc)
  rw [Nat.mul_one, bv_take] at h2
  refine ⟨⟨blk A, ⟨⟨A, m, ?_, ?_, rfl⟩, hq, by simp only [hlen]; omega, hk⟩, fun g hg => .inl hg⟩, (Only.refl _ _).setCell _ _ (fun _ => .inl rfl)⟩
  · simp only [hlen]; exact (hb.set 0 _).eq (by simp)
  · simp only [hlen]; exact h2

set_option maxHeartbeats 1000000 in
theorem cut_whole (B : Nat) (w : World) (q : Nat) (r : Option Nat) (s : DS) (pn pd : Nat) (m : Nat) (hk : Dk 52 B w q r s) (hpn : Boxed w pn 3 (.int .i64 (m : Int))) (hpd : Boxed w pd 26 (.pointer (some ⟨q, 0, none⟩))) (hm : m ≤ s.b.length) :
    Calls Try.prog 52 #[.pointer (some ⟨pd, 0, none⟩), .pointer (some ⟨pn, 0, none⟩)] w fun e w' => e = .returned (.tuple #[]) ∧ DStep 52 B q r { s with b := s.b.take m } w w' := by
  obtain ⟨A, c, hb, how, rfl⟩ := hk.blk
  have hq := hk.q
  have hkeep := hk.keep
  have hlen := hk.len
  have hcap := how.cap
  have hmc : m ≤ c := Nat.le_trans hm hcap
  have b0 := hpn.cell
  have b1 := hpd.cell
  have c0 := hb.cell 0 rfl
  have f0 := hb.frozen 0
  have HB := Lib.hid hb
  have HO := Lib.hid how
  clear hb how hk
  go_enter Try.func52, Try.ntmps52
  go_wp2_with fail
  go_still_tail 10, (by kernel_rfl)
  all_goals
    go_wp2_with fail
    go_end0
    exact ⟨rfl, DStep.of_drewN (j := 1) (dk_cut HB.out.drew HO.out.drew (by decide) hq hkeep hlen hm)⟩
end Go.Proofs.Ytckofpdhcpabnaa
