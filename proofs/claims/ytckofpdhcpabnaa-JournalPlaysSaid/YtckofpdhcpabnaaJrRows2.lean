/- journal.Rows of a disk. -/
import Derived.Test.YtckofpdhcpabnaaJrRows
import Derived.Test.YtckofpdhcpabnaaJrWakes
namespace Go.Proofs.Ytckofpdhcpabnaa
open Go.RowKit
set_option linter.unusedVariables false
set_option linter.unusedSimpArgs false

def fileL (s : DS) : List UInt8 := if s.down = true then [] else s.b
theorem fileL_loads (s : DS) : loads (fileL s) = if s.down = true then [] else loads s.b := by
  unfold fileL; split
  · exact loads_nil
  · rfl
theorem BytesP.out {s : DS} {w w' : World} {e : Ending} (h : BytesP s w e w') : Below w.heap.size w w' ∧ ∃ A c, e = .returned (.tuple #[.slice A (fileL s).length c, .int .i64 (dstate s)]) ∧ Rd w' 1 A (fileL s).length c (bv (fileL s)) := by
  obtain ⟨h1, h2, h3⟩ := h
  refine ⟨h1, ?_⟩
  unfold fileL dstate
  cases hs : s.down with
  | true => exact ⟨none, 0, by simpa using h2 hs, Rd.nil _ _⟩
  | false => obtain ⟨A, c, he, ho⟩ := h3 hs; exact ⟨A, c, by simpa using he, ho.rd⟩
/-- what Rows answers -/
theorem jrows_any (B0 : Nat) (w : World) (q : Nat) (r : Option Nat) (s : DS) (h : Dk 52 B0 w q r s) :
    Calls Try.prog 14 #[.pointer (some ⟨q, 0, none⟩)] w (RowX (fileL s) (dstate s) w) := by
  refine jrows_gen w _ (dstate s) (fileL s) ?_ ((dbytes_any B0 _ q r s (h.below ((Below.refl _ _).alloc (Nat.le_refl _) _))).mono fun e w' hP => hP.out)
  have := h.len
  unfold fileL
  split
  · simp
  · exact this
end Go.Proofs.Ytckofpdhcpabnaa
