/- frame.Size, frame.first: what they answer. -/
import Derived.Test.YtckofpdhcpabnaaProg
import Derived.Test.YtckofpdhcpabnaaFrPlain
namespace Go.Proofs.Ytckofpdhcpabnaa
open Go.RowKit

theorem size_no (n : Int) (h1 : -9223372036854775808 ≤ n) (h2 : n ≤ 9223372036854775807) (h : n < 1 ∨ 524288 < n) (w : World) :
    Calls Try.prog 46 #[.int .i64 n] w fun e w' => e = .returned (.int .i64 0) ∧ w = w' := by
  rcases h with h | h
  · go_enter Try.func46, Try.ntmps46
    go_wp2
    go_ret
    exact ⟨rfl, rfl⟩
  · have h' : ¬ n < 1 := by omega
    go_enter Try.func46, Try.ntmps46
    go_wp2
    go_ret
    exact ⟨rfl, rfl⟩
theorem size_yes (n : Int) (h1 : 1 ≤ n) (h2 : n ≤ 524288) (w : World) :
    Calls Try.prog 46 #[.int .i64 n] w fun e w' => e = .returned (.int .i64 (n + 4)) ∧ w = w' := by
  go_enter Try.func46, Try.ntmps46
  go_wp2
  go_ret
  exact ⟨rfl, rfl⟩

theorem size_any (n : Int) (h1 : -9223372036854775808 ≤ n) (h2 : n ≤ 9223372036854775807) (w : World) :
    Calls Try.prog 46 #[.int .i64 n] w fun e w' => e = .returned (.int .i64 (sizeN n)) ∧ w = w' := by
  by_cases h : n < 1 ∨ 524288 < n
  · have := size_no n h1 h2 h w
    rwa [show (0 : Int) = sizeN n from by unfold sizeN; rw [if_pos h]] at this
  · have := size_yes n (by omega) (by omega) w
    rwa [show n + 4 = sizeN n from by unfold sizeN; rw [if_neg h]] at this
/-- what first answers -/
def First (l : List UInt8) (w : World) (e : Ending) (w' : World) : Prop :=
  w = w' ∧ (firstF l = none → e = .returned (.tuple #[.slice none 0 0, .bool false])) ∧
  ∀ x, firstF l = some x → ∃ A', e = .returned (.tuple #[.slice A' x.length x.length, .bool true]) ∧ Rd w 1 A' x.length x.length (bv x)

set_option maxHeartbeats 1000000 in
theorem first_any (A : Option Addr) (n c : Nat) (l : List UInt8) (w : World) (hr : Rd w 1 A n c (bv l)) :
    Calls Try.prog 56 #[.slice A n c] w (First l w) := by
  have hc := hr.cap
  have hm := hr.max
  unfold maxLen at hm
  have hl := hr.blen
  by_cases h4 : n < 4
  · go_enter Try.func56, Try.ntmps56
    go_wp2
    go_ret2
    exact ⟨rfl, fun _ => rfl, fun x hx => by simp [firstF, hl, h4] at hx⟩
  obtain ⟨ad, rfl, h0⟩ := hr.addr (by omega) (by omega)
  clear h0
  go_enter Try.func56, Try.ntmps56
  go_wp2_with fail
  go_loop [4, 14] (fun n i => ∃ k : Nat, k ≤ 4 ∧ i = .int .i64 k ∧ n = .int .i64 (beN (l.take k))) (fun _ i => 4 - (intOf i).toNat)
  case atStart => exact ⟨0, by omega, rfl, by simp [beN]⟩
  case round =>
    obtain ⟨k, hk, rfl, rfl⟩ := hrel
    have hb := beN_lt (l.take k)
    rw [List.length_take, hl] at hb
    have hb3 : beN (l.take k) < 4294967296 := Nat.lt_of_lt_of_le hb (Nat.pow_le_pow_right (n := 256) (i := min k n) (j := 4) (by omega) (by omega))
    by_cases hk4 : k < 4
    · have hcell := hr.byte (j := k) (by omega)
      have hb2 : beN (l.take k) < 16777216 := Nat.lt_of_lt_of_le hb (Nat.pow_le_pow_right (n := 256) (i := min k n) (j := 3) (by omega) (by omega))
      have hs := take_snoc l k (by omega)
      have hu := (l[k]).toNat_lt
      have H1 := or_i64' (beN (l.take k)) (l[k]).toNat (by omega) (by omega)
      have H2 := Lib.hid (beN_snoc (l.take k) l[k])
      rw [← hs] at H2
      have HL := Lib.hid hl
      clear hb
      go_wp2_with fail
      go_round
      case rel => exact ⟨k + 1, by omega, by go_num, by rw [H2.out, Int.natCast_add, Int.natCast_mul]; rfl⟩
      case measure => simp [intOf]; omega
    · obtain rfl : k = 4 := by omega
      clear hb
      by_cases hs : beN (l.take 4) < 1 ∨ 524288 < beN (l.take 4)
      · have hn : firstF l = none := by unfold firstF; rw [if_neg (by omega), if_pos (by omega)]
        have HN := Lib.hid hn
        clear hn
        go_wp2_with (go_at_call 46; refine (size_no _ (by omega) (by omega) (by omega) _).mono ?_; rintro e w' ⟨rfl, rfl⟩)
        go_ret2
        exact ⟨rfl, fun _ => rfl, fun x hx => by rw [HN.out] at hx; cases hx⟩
      · by_cases hs2 : n < beN (l.take 4) + 4
        · have hn : firstF l = none := by unfold firstF; rw [if_neg (by omega), if_pos (by omega)]
          have HN := Lib.hid hn
          clear hn
          have ht : (((beN (l.take 4) : Nat) : Int) + 4 == 0) = false := by simp; omega
          go_wp2_with (go_at_call 46; refine (size_yes _ (by omega) (by omega) _).mono ?_; rintro e w' ⟨rfl, rfl⟩)
          go_ret2
          exact ⟨rfl, fun _ => rfl, fun x hx => by rw [HN.out] at hx; cases hx⟩
        · have hn : firstF l = some ((l.drop 4).take (beN (l.take 4))) := by unfold firstF; rw [if_neg (by omega), if_neg (by omega)]
          have HN := Lib.hid hn
          clear hn
          have ht : (((beN (l.take 4) : Nat) : Int) + 4 == 0) = false := by simp; omega
          go_wp2_with (go_at_call 46; refine (size_yes _ (by omega) (by omega) _).mono ?_; rintro e w' ⟨rfl, rfl⟩)
          go_ret2
          refine ⟨rfl, ?_, ?_⟩
          · intro hx; rw [HN.out] at hx; cases hx
          · intro x hx
            rw [HN.out] at hx
            injection hx with hx
            subst hx
            have e1 : ((l.drop 4).take (beN (l.take 4))).length = beN (l.take 4) := by rw [List.length_take, List.length_drop]; omega
            rw [e1]
            have hcut := hr.bcut (k := 4) (m := beN (l.take 4) + 4) (x := beN (l.take 4) + 4) (by omega) (by omega) (by omega) (by omega)
            rw [if_neg (by omega), Nat.add_sub_cancel] at hcut
            exact ⟨_, by rw [Nat.add_sub_cancel]; rfl, hcut⟩
end Go.Proofs.Ytckofpdhcpabnaa
