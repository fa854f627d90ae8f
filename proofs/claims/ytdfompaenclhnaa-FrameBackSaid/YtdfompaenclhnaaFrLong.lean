/- The law FrameLong. -/
import Derived.Test.YtdfompaenclhnaaFrPlain2
import Derived.Test.YtdfompaenclhnaaFrSame
import Derived.Test.YtdfompaenclhnaaFrTells
namespace Go.Proofs.Ytdfompaenclhnaa
open Go.RowKit

def zeroL (n : Nat) : List UInt8 := List.replicate n 0
theorem zeroL_len (n : Nat) : (zeroL n).length = n := by simp [zeroL]
def zerosObj (n : Nat) : Obj := .cells (madeCells #[.int .u8 0] n) 5
theorem zeros_rd (n : Nat) (hn : n ≤ maxLen) (w : World) : Rd (w.alloc (zerosObj n)) 1 (some ⟨w.heap.size, 0, none⟩) n n (bv (zeroL n)) := by
  have := Rd.lit w 1 n (madeCells #[.int .u8 0] n) 5 (0, 0) (by rw [size_madeCells, Nat.mul_one]) hn
  rw [toList_madeCells_one] at this
  have e : bv (zeroL n) = List.replicate n (.int .u8 0) := by simp [bv, zeroL]
  rw [e]
  exact this
theorem mk_bytes (n : Nat) (x : Int) (hx : x = (n : Int)) (hn : n ≤ 1099511627776) (w : World) :
    (Instr.makeSlice 22 (.int .i64 x) (.int .i64 x)).run Try.prog w = .ok (.slice (some ⟨w.heap.size, 0, none⟩) n n) (w.alloc (zerosObj n)) := by
  subst hx
  obtain ⟨i0, hi, hz0, hz1, hz2⟩ := info_parts info_u8
  have hr := run_make (P := Try.prog) w 22 5 i0 (.int .u8 0) Try.underlying22 hi hz0 .i64 .i64 n n (by omega) (by omega) (by rw [hz2]; omega) (by omega)
  simp only [Int.toNat_natCast] at hr
  rw [hr, hz1, Nat.mul_one]
  rfl

theorem rem3 (x : Int) : x.tmod 3 = -2 ∨ x.tmod 3 = -1 ∨ x.tmod 3 = 0 ∨ x.tmod 3 = 1 ∨ x.tmod 3 = 2 := by
  rw [tmod_eq_if]; split <;> omega

set_option maxHeartbeats 2000000 in
theorem long_pos (w : World) (x : Int) (h : x.tmod 3 = -2 ∨ x.tmod 3 = -1 ∨ x.tmod 3 = 1 ∨ x.tmod 3 = 2) : Calls Try.prog 4 #[.int .i64 x] w (Yes w) := by
  obtain ⟨n1, hn1⟩ : ∃ n : Nat, n = 524289 := ⟨_, rfl⟩
  obtain ⟨n2, hn2⟩ : ∃ n : Nat, n = 524290 := ⟨_, rfl⟩
  have m1 := mk_bytes n1 524289 (by omega) (by omega)
  have m2 := mk_bytes n2 524290 (by omega) (by omega)
  have b1 : 524288 < n1 := by omega
  have b2 : 524288 < n2 := by omega
  have b3 : n1 ≤ maxLen := by unfold maxLen; omega
  have b4 : n2 ≤ maxLen := by unfold maxLen; omega
  clear hn1 hn2
  have s1 : sizeN 524289 = 0 := by decide
  have s2 : sizeN 524290 = 0 := by decide
  rcases h with h | h | h | h
  all_goals
    go_enter Try.func4, Try.ntmps4
    go_wp2_with fail
    refine (frame_any _ _ _ (zeroL _) _ (zeros_rd _ (by assumption) _)).mono ?_
    rintro e w1 ⟨HB, -, h2, -⟩
    obtain rfl := h2 (by rw [zeroL_len]; assumption)
    have HB1 := Lib.hid (((Below.refl w.heap.size w).alloc (Nat.le_refl _) (zerosObj _)).trans (HB.mono (by simp)))
    clear h2 HB
    go_wp2_with (first
      | (go_at_call 12; refine (size_any _ (by omega) (by omega) _).mono ?_; rintro e w' ⟨rfl, rfl⟩)
      | (go_at_call 9; refine (wakes_any _).mono ?_; rintro e w2 ⟨rfl, HB4⟩))
    go_ret
    exact ⟨rfl, HB1.out.trans (HB4.mono HB1.out.size)⟩

set_option maxHeartbeats 2000000 in
theorem long_zero (w : World) (x : Int) (h : x.tmod 3 = 0) : Calls Try.prog 4 #[.int .i64 x] w (Yes w) := by
  obtain ⟨n1, hn1⟩ : ∃ n : Nat, n = 524288 := ⟨_, rfl⟩
  have m1 := mk_bytes n1 524288 (by omega) (by omega)
  have b1 : 1 ≤ n1 := by omega
  have b2 : n1 ≤ 524288 := by omega
  have b3 : n1 ≤ maxLen := by unfold maxLen; omega
  have t1 : (((n1 : Nat) : Int) + 4 == 524292) = true := by rw [beq_iff_eq]; omega
  have t2 : (((n1 : Nat) : Int) == 524288) = true := by rw [beq_iff_eq]; omega
  have hL := zeroL_len n1
  have HN := Lib.hid hn1
  clear hn1
  go_enter Try.func4, Try.ntmps4
  go_wp2_with fail
  refine (frame_any _ _ _ (zeroL _) _ (zeros_rd _ (by assumption) _)).mono ?_
  rintro e w1 ⟨HB, -, -, h2⟩
  rw [hL] at h2
  obtain ⟨A1, c1, rfl, ho1⟩ := h2 b1 b2
  have HB1 := Lib.hid (((Below.refl w.heap.size w).alloc (Nat.le_refl _) (zerosObj n1)).trans (HB.mono (by simp)))
  have hr1 := Rd.of_own ho1
  clear h2 HB ho1
  go_wp2_with fail
  refine (scan_any _ _ _ _ _ hr1 (by omega)).mono ?_
  rintro e w2 ⟨A2, c2, vs, rfl, hbb, HB2⟩
  have hld : loads (by4 n1 ++ zeroL n1) = [zeroL n1] := by have := loads_one (zeroL n1) (by rw [hL]; exact b1) (by rw [hL]; exact b2); rwa [hL] at this
  rw [hld] at hbb ⊢
  have htorn : ((by4 n1 ++ zeroL n1).length : Int) - (szs [zeroL n1] : Int) = 0 := by simp [szs, hL, by4_len]; omega
  rw [htorn]
  obtain ⟨Ai, ci, v1, r1, _⟩ := hbb.row 0 (zeroL n1) rfl
  obtain ⟨ad, rfl, _⟩ := hbb.rd.addr (by simp) (by omega)
  have hc := hbb.rd.get v1
  rw [hL] at hc
  have hc' : w2.cell? ad = some (.slice Ai n1 ci) := hc
  have HB3 := Lib.hid (HB1.out.trans (HB2.mono HB1.out.size))
  clear hc hld htorn hr1 hbb v1 r1 HB2 hL
  go_wp2_with (first
      | (go_at_call 9; refine (wakes_any _).mono ?_; rintro e w2 ⟨rfl, HB4⟩))
  go_ret
  exact ⟨rfl, HB3.out.trans (HB4.mono HB3.out.size)⟩
theorem frameLong_walk (w : World) (x : Int) (_ : -9223372036854775808 ≤ x) (_ : x ≤ 9223372036854775807) : Calls Try.prog 4 #[.int .i64 x] w (Yes w) := by
  rcases rem3 x with h | h | h | h | h
  · exact long_pos w x (.inl h)
  · exact long_pos w x (.inr (.inl h))
  · exact long_zero w x h
  · exact long_pos w x (.inr (.inr (.inl h)))
  · exact long_pos w x (.inr (.inr (.inr h)))
end Go.Proofs.Ytdfompaenclhnaa
