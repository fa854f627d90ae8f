/- Opening a trace that comes in; JudgeMost's walk. -/
import Derived.Test.YtfjhomegjceilaaTi
import Derived.Test.YtfjhomegjceilaaJm2
import Derived.Test.YtfjhomegjceilaaJwg
import Derived.ProofKit
namespace Go.Proofs.Ytfjhomegjceilaa
open Go.RowKit Go.ChangeShapes Go.WideShapes Go.ChangeAt
set_option linter.unusedVariables false

section
variable {H : Type} {enc : TypeId × Value → H} {w : World} {base : Nat} {held : Bool}
theorem closed_traces : closedB Try.prog [22, 26, 3, 4] = true := by kernel_rfl
theorem fits_trace {n : Nat} {ts : List Tr} (h : Fits Try.prog n 26 ts) : ∃ x : Tc, ts = x.tr := by
  obtain ⟨m, rfl, p0, r0, rfl, h0, p1, r1, rfl, h1, p2, r2, rfl, h2, rfl⟩ := fits_struct Try.underlying26 h
  obtain ⟨z, rfl⟩ := fits_int Try.underlying3 h0
  obtain ⟨b, rfl⟩ := fits_bool Try.underlying4 h1
  obtain ⟨v, rfl⟩ := fits_bool Try.underlying4 h2
  exact ⟨⟨z, b, v⟩, by simp [Tc.tr]⟩
theorem fits_traces {n : Nat} {ts : List Tr} (h : Fits Try.prog n 22 ts) : ∃ l : List Tc, ts = [.sl 3 16 l.length (l.flatMap Tc.tr)] :=
  fits_rows (tr := Tc.tr) Try.underlying22 (show Try.prog.cellsOf 26 = 3 by kernel_rfl) (show Try.prog.bytesOf 26 = 16 by kernel_rfl) h (fun m r _ hr => fits_trace hr)
theorem open_traces {A : Option Addr} {n c : Nat} {d : DataW H} {p : List MemPlace} (h : DataW.Trod enc Try.prog w base (fun _ => true) held 22 (.slice A n c) d p) (hw : ∀ z ∈ d.weights Try.prog 22, z ≤ reachBytes) :
    ∃ l : List Tc, n = l.length ∧ Ls (fun k => k < w.heap.size) w 3 16 Tc.tr A c l := by
  obtain ⟨fuel, hf⟩ := h
  obtain ⟨ts, h1, h2⟩ := trod_fits closed_traces (fun _ h => h) fuel _ _ _ rfl hf hw
  obtain ⟨l, rfl⟩ := fits_traces h1
  obtain ⟨A', c', _, e, h3, _⟩ := at_row.1 (by simpa [Value.cells] using h2)
  injection e with e _
  injection e with e1 e2 e3
  subst e1; subst e2; subst e3
  exact ⟨l, rfl, h3⟩
end
theorem judgeMost_walk (w : World) (A : Option Addr) (len c : Nat) (l : List Tc) (hlen : len = l.length) (h : Ls (fun k => k < w.heap.size) w 3 16 Tc.tr A c l) (cut : Int) (hc1 : -9223372036854775808 ≤ cut) (hc2 : cut ≤ 9223372036854775807) :
    Calls Try.prog 3 #[.slice A len c, .int .i64 cut] w fun e w' => e = .returned (.bool true) ∧ Below w.heap.size w w' :=
  judgeMost_walk0 w (fun w' _ => wakes_any w') A len c l hlen h cut hc1 hc2
end Go.Proofs.Ytfjhomegjceilaa
