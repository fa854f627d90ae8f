/- The reference's disk: Swap, Cut, Copy. -/
import Derived.Test.YthbdhilkdamppaaDskRef2
import Derived.Deep.RegionHeld3
namespace Go.Proofs.Ythbdhilkdamppaa
open Go.RowKit
set_option linter.unusedVariables false
set_option linter.unusedSimpArgs false

set_option maxHeartbeats 2000000 in
theorem rswap_any (B : Nat) (w : World) (q : Nat) (r : Option Nat) (s : DS) (X : Option Addr) (m cx : Nat) (x : List UInt8) (h : Dk 49 B w q r s) (hr : Rd w 1 X m cx (bv x)) :
    Calls Try.prog 40 #[.pointer (some ⟨q, 0, none⟩), .slice X m cx] w (DAns 49 B q r (dSwap s x) w) := by
  have hst := no_any B q r s w h
  have hq := h.q
  have hl := h.len
  have hk := h.keep
  have HX := Lib.hid hr.blen
  have HD := Lib.hid h
  have HR := Lib.hid hr
  have hBs : B ≤ w.heap.size := Nat.le_trans hq (Nat.le_of_lt h.lt.1)
  obtain ⟨A, c, hb, how, rfl⟩ := h.blk
  have HB := Lib.hid hb
  have HO := Lib.hid how
  cases hd : s.down with
  | true =>
    rw [show dSwap s x = (60, s) from by unfold dSwap; rw [if_pos hd]]
    rw [show dstate s = 60 from by unfold dstate; rw [if_pos hd]] at hst
    have HST := Lib.hid hst
    clear hd h hst hb how hr
    go_enter Try.func40, Try.ntmps40
    go_wp2_with fail
    refine HST.out.mono ?_
    rintro e w' ⟨rfl, rfl⟩
    go_wp2_with fail
    go_ret
    exact DAns.drewN (j := 0) HD.out rfl
  | false =>
    have hnd : ¬ s.down = true := by rw [hd]; decide
    rw [show dstate s = 0 from by unfold dstate; rw [if_neg hnd]] at hst
    have HST := Lib.hid hst
    by_cases hlong : 1048576 < x.length
    · rw [show dSwap s x = (3, s) from by unfold dSwap; rw [if_neg hnd, if_pos hlong]]
      rw [HX.out] at hlong
      clear hd h hst hb how hr hnd
      go_enter Try.func40, Try.ntmps40
      go_wp2_with fail
      refine HST.out.mono ?_
      rintro e w' ⟨rfl, rfl⟩
      go_wp2_with fail
      go_ret
      exact DAns.drewN (j := 0) HD.out rfl
    · cases ha : s.armed with
      | true =>
        rw [show dSwap s x = (60, { s with armed := false, down := true }) from by unfold dSwap; rw [if_neg hnd, if_neg hlong, if_pos ha]]
        rw [HX.out] at hlong
        have hty := Lib.hid (torn_yes B q _ s w HD.out ha)
        have HS := Lib.hid ((DStep.drewN0 HD.out).fin (by decide))
        clear hd h hst hb how hr hnd ha
        go_enter Try.func40, Try.ntmps40
        go_wp2_with fail
        refine HST.out.mono ?_
        rintro e w' ⟨rfl, rfl⟩
        go_wp2_with fail
        refine hty.out.mono ?_
        rintro e w1 ⟨rfl, rfl⟩
        go_wp2_with fail
        go_ret
        exact ⟨rfl, HS.out⟩
      | false =>
        rw [show dSwap s x = (0, { s with b := x }) from by unfold dSwap; rw [if_neg hnd, if_neg hlong, if_neg (by rw [ha]; decide)]]
        rw [HX.out] at hlong
        have hty := Lib.hid (torn_no B q _ s w HD.out ha)
        clear hd h hst hb how hr hnd ha
        go_enter Try.func40, Try.ntmps40
        go_wp2_with fail
        refine HST.out.mono ?_
        rintro e w' ⟨rfl, rfl⟩
        go_wp2_with fail
        refine hty.out.mono ?_
        rintro e w' ⟨rfl, rfl⟩
        go_wp2_with fail
        refine (same_any _ _ _ _ _ HR.out (by omega)).mono ?_
        rintro e w1 ⟨A1, c1, rfl, ho1, hb1⟩
        have hk1 := HB.out.below hb1
        have e0 := hk1.cell 0 rfl
        have f0 := hk1.frozen 0
        have HO1 := Lib.hid ho1
        have HB1 := Lib.hid hb1
        clear ho1 hb1 hk1
        go_wp2_with fail
        go_ret
        exact ⟨rfl, dk_put HB.out (by decide) hq hBs hk HO1.out HB1.out (by rw [HX.out]; omega) _⟩

set_option maxHeartbeats 2000000 in
theorem rcut_any (B : Nat) (w : World) (q : Nat) (r : Option Nat) (s : DS) (n : Int) (hn1 : -9223372036854775808 ≤ n) (hn2 : n ≤ 9223372036854775807) (h : Dk 49 B w q r s) :
    Calls Try.prog 41 #[.pointer (some ⟨q, 0, none⟩), .int .i64 n] w (DAns 49 B q r (dCut s n) w) := by
  have hst := no_any B q r s w h
  have hq := h.q
  have hl := h.len
  have hk := h.keep
  have HD := Lib.hid h
  have hBs : B ≤ w.heap.size := Nat.le_trans hq (Nat.le_of_lt h.lt.1)
  obtain ⟨A, c, hb, how, rfl⟩ := h.blk
  have c0 := hb.cell 0 rfl
  have HB := Lib.hid hb
  have HO := Lib.hid how
  have hcap := how.cap
  cases hd : s.down with
  | true =>
    rw [show dCut s n = (60, s) from by unfold dCut; rw [if_pos hd]]
    rw [show dstate s = 60 from by unfold dstate; rw [if_pos hd]] at hst
    have HST := Lib.hid hst
    clear hd h hst hb how
    go_enter Try.func41, Try.ntmps41
    go_wp2_with fail
    refine HST.out.mono ?_
    rintro e w' ⟨rfl, rfl⟩
    go_wp2_with fail
    go_ret
    exact DAns.drewN (j := 0) HD.out rfl
  | false =>
    have hnd : ¬ s.down = true := by rw [hd]; decide
    rw [show dstate s = 0 from by unfold dstate; rw [if_neg hnd]] at hst
    have HST := Lib.hid hst
    by_cases h0 : n < 0
    · rw [show dCut s n = (2, s) from by unfold dCut; rw [if_neg hnd, if_pos (.inl h0)]]
      clear hd h hst hb how hnd
      go_enter Try.func41, Try.ntmps41
      go_wp2_with fail
      refine HST.out.mono ?_
      rintro e w' ⟨rfl, rfl⟩
      go_wp2_with fail
      go_ret
      exact DAns.drewN (j := 0) HD.out rfl
    by_cases h1 : (s.b.length : Int) < n
    · rw [show dCut s n = (2, s) from by unfold dCut; rw [if_neg hnd, if_pos (.inr h1)]]
      clear hd h hst hb how hnd
      go_enter Try.func41, Try.ntmps41
      go_wp2_with fail
      refine HST.out.mono ?_
      rintro e w' ⟨rfl, rfl⟩
      go_wp2_with fail
      go_ret
      exact DAns.drewN (j := 0) HD.out rfl
    have hno : ¬ (n < 0 ∨ (s.b.length : Int) < n) := by omega
    obtain ⟨m, hm⟩ : ∃ m : Nat, n = (m : Int) := ⟨n.toNat, by omega⟩
    subst hm
    have hml : m ≤ s.b.length := by omega
    cases ha : s.armed with
    | true =>
      rw [show dCut s (m : Int) = (60, { s with armed := false, down := true }) from by unfold dCut; rw [if_neg hnd, if_neg hno, if_pos ha]]
      have hty := Lib.hid (torn_yes B q _ s w HD.out ha)
      have HS := Lib.hid ((DStep.drewN0 HD.out).fin (by decide))
      clear hd h hst hb how hnd ha hno
      go_enter Try.func41, Try.ntmps41
      go_wp2_with fail
      refine HST.out.mono ?_
      rintro e w' ⟨rfl, rfl⟩
      go_wp2_with fail
      refine hty.out.mono ?_
      rintro e w1 ⟨rfl, rfl⟩
      go_wp2_with fail
      go_ret
      exact ⟨rfl, HS.out⟩
    | false =>
      rw [show dCut s (m : Int) = (0, { s with b := s.b.take m }) from by unfold dCut; rw [if_neg hnd, if_neg hno, if_neg (by rw [ha]; decide)]; rfl]
      have hty := Lib.hid (torn_no B q _ s w HD.out ha)
      have hmc : m ≤ c := Nat.le_trans hml hcap
      have hlen : (s.b.take m).length = m := by rw [List.length_take]; exact Nat.min_eq_left hml
      have HLEN := Lib.hid hlen
      have HRD : Hid (Rd w 1 A m c (bv (s.b.take m))) := Lib.hid (by
        have := (how.cut hml hmc (Nat.le_refl _)).rd
        rwa [Nat.mul_one, bv_take] at this)
      clear hd h hst hb how hnd ha hno hlen
      go_enter Try.func41, Try.ntmps41
      go_wp2_with fail
      refine HST.out.mono ?_
      rintro e w' ⟨rfl, rfl⟩
      go_wp2_with fail
      refine hty.out.mono ?_
      rintro e w' ⟨rfl, rfl⟩
      go_wp2_with fail
      refine (same_any _ _ _ _ _ HRD.out (by omega)).mono ?_
      rintro e w1 ⟨A1, c1, rfl, ho1, hb1⟩
      have hk1 := HB.out.below hb1
      have e0 := hk1.cell 0 rfl
      have f0 := hk1.frozen 0
      have HO1 := Lib.hid ho1
      have HB1 := Lib.hid hb1
      clear ho1 hb1 hk1
      go_wp2_with fail
      go_ret
      have h2 := dk_put HB.out (by decide) hq hBs hk HO1.out HB1.out (by rw [HLEN.out]; omega) (blk A)
      rw [HLEN.out] at h2
      exact ⟨rfl, h2⟩

set_option maxHeartbeats 2000000 in
theorem rcopy_any (B : Nat) (w : World) (q : Nat) (r : Option Nat) (s : DS) (h : Dk 49 B w q r s) :
    Calls Try.prog 23 #[.pointer (some ⟨q, 0, none⟩)] w (CopyD 49 s w) := by
  have hl := h.len
  have hk := h.keep
  obtain ⟨A, c, hb, how, rfl⟩ := h.blk
  have c0 := hb.cell 0 rfl
  have c1 := hb.cell 1 rfl
  have c2 := hb.cell 2 rfl
  have c3 := hb.cell 3 rfl
  have HB := Lib.hid hb
  have HO := Lib.hid how
  clear h hb how
  go_enter Try.func23, Try.ntmps23
  go_wp2_with fail
  go_region_held3 (fun w' => w'.cell? ⟨q, 0, none⟩ = some (.slice A s.b.length c) ∧ w'.cell? ⟨q, 1, none⟩ = some (.bool s.down) ∧ w'.cell? ⟨q, 2, none⟩ = some (.bool s.armed) ∧ w'.cell? ⟨q, 3, none⟩ = some (.int .i64 (s.keep : Nat))) (go_keep)
    ((go_at_call 45; refine (same_any _ _ _ _ _ HO.out.rd.drew (by omega)).mono ?_; rintro e w1 ⟨A1, d1, rfl, ho1, hb1⟩; have kk := HB.out.drew.below hb1; have k0 := kk.cell 0 rfl; have k1 := kk.cell 1 rfl; have k2 := kk.cell 2 rfl; have k3 := kk.cell 3 rfl; have HO1 := Lib.hid ho1; have HB1 := Lib.hid hb1; clear ho1 hb1 kk))
  all_goals
    go_wp2_with fail
    go_ret
    have hs1 : w.heap.size ≤ w1.heap.size := HB1.out.size
    exact ⟨w1.heap.size, blk A1, rfl, (show Below w.heap.size w w1 from ⟨HB1.out.os, HB1.out.tape, HB1.out.output, HB1.out.size, HB1.out.block⟩).alloc hs1 _, ⟨A1, d1, Blk.new w1 _ _, HO1.out.alloc _, rfl⟩, hs1, hl, hk⟩
end Go.Proofs.Ythbdhilkdamppaa
