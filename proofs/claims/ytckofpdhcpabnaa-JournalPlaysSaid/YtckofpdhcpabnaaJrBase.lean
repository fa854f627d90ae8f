/- Small lemmas on boxes and rows; journal.all. -/
import Derived.RangeFuncBox
import Derived.Test.YtckofpdhcpabnaaFrSame
import Derived.Test.YtckofpdhcpabnaaFrPlain2
namespace Go.Proofs.Ytckofpdhcpabnaa
open Go.RowKit
set_option linter.unusedVariables false
set_option linter.unusedSimpArgs false

theorem boxBel {W W' : World} {b : Nat} {t : TypeId} {v : Value} (h : Boxed W b t v) (hb : Below W.heap.size W W') : Boxed W' b t v := (hb.block b h.lt).trans h
theorem BB.head {w : World} {B n c : Nat} {A : Option Addr} {ls : List (List UInt8)} {vs : List Value} (h : BB w B A n c ls vs) : ∀ ad, A = some ad → 0 < n → ad.block < w.heap.size := by
  rintro ad rfl h0
  refine h.rd.lt ?_
  rw [h.rd.len]; omega
theorem BB.rows {w : World} {B n c : Nat} {A : Option Addr} {ls : List (List UInt8)} {vs : List Value} (h : BB w B A n c ls vs) (i : Nat) (x : List UInt8) (Ai : Option Addr) (ci : Nat) (hx : ls[i]? = some x) (hv : vs[i]? = some (.slice Ai x.length ci)) : ∀ ad, Ai = some ad → 0 < x.length → ad.block < w.heap.size := by
  rintro ad rfl h0
  obtain ⟨Aj, cj, hv2, hr, _⟩ := h.row i x hx
  rw [hv] at hv2
  injection hv2 with hv2
  injection hv2 with e1 e2 e3
  subst e1
  refine hr.lt ?_
  rw [bv_length]; omega
theorem jall_any (A : Option Addr) (n c : Nat) (w : World) :
    Calls Try.prog 38 #[.slice A n c] w fun e w' => e = .returned (.func (.func 53) #[] #[.pointer (some ⟨w.heap.size, 0, none⟩)]) ∧ w' = w.alloc (.cells #[.slice A n c] 22) := by
  go_enter Try.func38, Try.ntmps38
  go_wp2
  go_ret
  exact ⟨rfl, rfl⟩
end Go.Proofs.Ytckofpdhcpabnaa
