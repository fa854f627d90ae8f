/- A look-up with ok. -/
import Derived.Test.YtjpljkjclamjnaaGrRows
namespace Go.Proofs.Ytjpljkjclamjnaa
open Go.RowKit
set_option linter.unusedVariables false
set_option linter.unusedSimpArgs false

theorem MI.look2 {w : World} {b n : Nat} {f : Int → Nat} (h : MI w b n f) {k : Int} (h1 : -9223372036854775808 ≤ k) (h2 : k ≤ 9223372036854775807) : (Instr.lookup 37 (.map (some b)) (.int .i64 k) true).run Try.prog w = .ok (.tuple #[.int .i64 (f k : Nat), .bool (f k != 0)]) w := by
  obtain ⟨D, g1, g2, g3⟩ := h
  obtain ⟨v, ps, hrun, hv⟩ := g1.look_ok key_int Try.underlying37 (zero_int w) (plainElem_int Try.underlying3 (WalkArith.wf_i64 ⟨by omega, by omega⟩)) (key_of h1 h2)
  obtain ⟨c, rfl, hc, _⟩ := plainElem_int_inv Try.underlying3 hv
  have hc := congrArg Prod.fst hc
  simp only [] at hc
  rw [(g3 k).1] at hc
  injection hc with hc
  injection hc with _ hc
  rw [hrun, ← hc, (g3 k).2]
end Go.Proofs.Ytjpljkjclamjnaa
