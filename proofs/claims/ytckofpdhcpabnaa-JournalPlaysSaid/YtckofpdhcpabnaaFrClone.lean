/- bytes.Clone. -/
import Derived.Test.YtckofpdhcpabnaaFrTy
import Derived.Lib.SliceRun
namespace Go.Proofs.Ytckofpdhcpabnaa
open Go.RowKit

def CloneP (l : List UInt8) (w : World) (e : Ending) (w' : World) : Prop :=
  ∃ A c, e = .returned (.slice A l.length c) ∧ w'.ownsRow w.heap.size 5 1 (.slice A l.length c) l.length (bv l) ∧ Below w.heap.size w w'

set_option maxHeartbeats 400000 in
theorem clone_any (A : Option Addr) (n c : Nat) (l : List UInt8) (w : World) (hr : Rd w 1 A n c (bv l)) (hn : n ≤ 70368744177664) :
    Calls Try.prog 57 #[.slice A n c] w (CloneP l w) := by
  have hl := hr.blen
  cases A with
  | none =>
    have h0 : n = 0 := by
      rcases Nat.eq_zero_or_pos n with h | h
      · exact h
      · obtain ⟨_, e, _⟩ := hr.addr h (by omega); cases e
    subst h0
    obtain rfl : l = [] := List.eq_nil_of_length_eq_zero hl
    clear hl
    have hq := fun W => Lib.run_eql_slice_nil (P := Try.prog) W 22 5 none 0 c 0 0 Try.underlying22
    simp only [Option.isNone_none] at hq
    go_enter Try.func57, Try.ntmps57
    go_wp2
    go_ret
    exact ⟨none, 0, rfl, World.ownsRow_nil _ _ _ _, Below.refl _ _⟩
  | some ad =>
    have hq := fun W => Lib.run_eql_slice_nil (P := Try.prog) W 22 5 (some ad) n c 0 0 Try.underlying22
    simp only [Option.isNone_some] at hq
    have hown : (w.alloc (.cells #[] 5)).ownsRow w.heap.size 5 1 (.slice (some ⟨w.heap.size, 0, none⟩) 0 0) 0 (bv []) :=
      World.ownsRow_lit (base := w.heap.size) (e := 5) (size := 1) w #[] 0 (Nat.le_refl _) (by simp [maxLen]) rfl
    have HL := Lib.hid hl
    have HO := Lib.hid hown
    clear hown hl
    go_enter Try.func57, Try.ntmps57
    go_wp2_with (at_builtin; refine app_u8 rfl (.tmp 5) (.tmp 6) rfl w.heap.size _ 0 0 [] rfl HO.out _ _ _ l rfl (hr.alloc _) (by omega) (by simp) ?_; intro A1 c1 w1 ho1 hg1 hat1 hn1; have HO1 := Lib.hid ho1; have HG1 := Lib.hid hg1; clear ho1 hg1 hat1 hn1)
    go_ret
    have h1 := HO1.out
    have h2 := HL.out
    refine ⟨A1, c1, ?_, ?_, below_app ((Below.refl _ _).alloc (Nat.le_refl _) _) HO.out HG1.out (by simp)⟩
    · rw [h2]; simp
    · rw [h2]; simpa using h1
end Go.Proofs.Ytckofpdhcpabnaa
