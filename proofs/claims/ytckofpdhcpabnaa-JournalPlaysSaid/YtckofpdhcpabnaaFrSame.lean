/- hoardingref07.Same at equal lists. -/
import Derived.Test.YtckofpdhcpabnaaFrRScan
namespace Go.Proofs.Ytckofpdhcpabnaa
open Go.RowKit

theorem below_drewN {B : Nat} {a w : World} (h : Below B a w) (n : Nat) : Below B a (w.drewN n) := ⟨h.os, h.tape, h.output, h.size, h.block⟩
theorem BB.drewN {w : World} {B n c : Nat} {A : Option Addr} {ls : List (List UInt8)} {vs : List Value} (h : BB w B A n c ls vs) (k : Nat) : BB (w.drewN k) B A n c ls vs :=
  ⟨h.rd.drewN k, h.len, h.new, fun i x hx => by obtain ⟨Ai, ci, h1, h2, h3⟩ := h.row i x hx; exact ⟨Ai, ci, h1, h2.drewN k, h3⟩⟩

def SameP (w : World) (e : Ending) (w' : World) : Prop := e = .returned (.bool true) ∧ ∃ k, w' = w.drewN k

set_option maxHeartbeats 1000000 in
theorem same_any (B1 B2 : Nat) (A1 A2 : Option Addr) (n c1 c2 : Nat) (ls : List (List UInt8)) (vs1 vs2 : List Value) (w : World) (h1 : BB w B1 A1 n c1 ls vs1) (h2 : BB w B2 A2 n c2 ls vs2) :
    Calls Try.prog 20 #[.slice A1 n c1, .slice A2 n c2] w (SameP w) := by
  have hm := h1.rd.max
  have hc := h1.rd.cap
  unfold maxLen at hm
  have hne : ((n : Int) != (n : Int)) = false := by simp
  go_enter Try.func20, Try.ntmps20
  go_wp2_with fail
  go_loopw [5] (fun i wr => ∃ k m : Nat, k ≤ n ∧ i = .int .i64 k ∧ wr = w.drewN m) (fun i _ => n - (intOf i).toNat)
  case atStart => exact ⟨0, 0, Nat.zero_le _, rfl, rfl⟩
  case round =>
    obtain ⟨k, m, hk, rfl, rfl⟩ := hrel
    by_cases hlt : k < n
    · have H1 := h1.drewN m
      have H2 := h2.drewN m
      obtain ⟨W, hW⟩ : ∃ W, w.drewN m = W := ⟨_, rfl⟩
      rw [hW] at H1 H2 ⊢
      have HW := Lib.hid hW
      clear hW
      obtain ⟨ad1, rfl, _⟩ := H1.rd.addr (by omega) (by omega)
      obtain ⟨ad2, rfl, _⟩ := H2.rd.addr (by omega) (by omega)
      have hln := H1.len
      obtain ⟨x, hx⟩ : ∃ x, ls[k]? = some x := ⟨_, List.getElem?_eq_getElem (by omega)⟩
      obtain ⟨X1, d1, v1, r1, _⟩ := H1.row k x hx
      obtain ⟨X2, d2, v2, r2, _⟩ := H2.row k x hx
      have g1 := H1.rd.get v1
      have g2 := H2.rd.get v2
      have s1 := fun j => run_str (P := Try.prog) (W.drewN j) 22 5 9 Try.underlying22 Try.underlying5 Try.underlying9 (r1.drewN j)
      have s2 := fun j => run_str (P := Try.prog) (W.drewN j) 22 5 9 Try.underlying22 Try.underlying5 Try.underlying9 (r2.drewN j)
      have s3 := s1 0
      have s4 := s2 0
      clear hx v1 v2 hln
      go_wp2_with fail
      go_quiet (fail)
      go_wp2
      go_roundw
      case rel => exact ⟨k + 1, m + nq, by omega, by go_num, by rw [← HW.out, World.drewN_drewN]⟩
      case measure => simp [intOf]; omega
    · go_wp2
      go_ret
      exact ⟨rfl, _, rfl⟩
end Go.Proofs.Ytckofpdhcpabnaa
