/- Facts on the types of this translation; append onto a row of bytes, of byte slices. -/
import Derived.Test.YtckofpdhcpabnaaTyU8
namespace Go.Proofs.Ytckofpdhcpabnaa
open Go.RowKit

theorem info_bs : (Try.prog.info? 22).map (fun i => (i.zero, i.size, i.bytes)) = some (some (.slice none 0 0), 1, 24) := by kernel_rfl


section
variable {w : World} {ops : Array Oper} {rest : List Oper} {o : Oper} {a : Act} {Q : Exit → Act → World → Prop}
theorem app_u8 (hw : Region.wanted o (yielded ops a.tmps) = true) (s x : Operand)
    (ho : o.op = .call { callee := .builtin .append, args := #[s, x], argTypes := #[22, 22] })
    (base : Nat) (A0 : Option Addr) (c0 n : Nat) (l : List UInt8) (hs : a.eval s = .slice A0 n c0) (hown : w.ownsRow base 5 1 (.slice A0 n c0) n (bv l))
    (A : Option Addr) (m c : Nat) (k : List UInt8) (hx : a.eval x = .slice A m c) (hr : Rd w 1 A m c (bv k))
    (h63 : n + m ≤ 140737488355328) (hbase : base ≤ w.heap.size)
    (h : ∀ A' c' w', w'.ownsRow base 5 1 (.slice A' (n + m) c') (n + m) (bv (l ++ k)) → w.grownBy w' (Value.slice A0 n c0).ownBlock → (A' = A0 ∨ A' = some ⟨w.heap.size, 0, none⟩) → (A' = none ↔ A0 = none ∧ m = 0) →
      wpList Try.prog ops Q rest (a.put o.dst (.slice A' (n + m) c')) w') : wpList Try.prog ops Q (o :: rest) a w := by
  obtain ⟨i0, hi, hz0, hz1, hz2⟩ := info_parts info_u8
  exact wpList_app w hw s x _ ho base _ i0 _ 1 1 Try.underlying22 hi hz0 hz1 hz2 rfl (by omega) A0 c0 n (bv l) hs hown A m c (bv k) hx hr (bv_one k) (by omega) h63 hbase (by rw [← bv_append]; exact h)
theorem app_bs (hw : Region.wanted o (yielded ops a.tmps) = true) (s x : Operand)
    (ho : o.op = .call { callee := .builtin .append, args := #[s, x], argTypes := #[23, 23] })
    (base : Nat) (A0 : Option Addr) (c0 n : Nat) (l : List Value) (hs : a.eval s = .slice A0 n c0) (hown : w.ownsRow base 22 1 (.slice A0 n c0) n l)
    (A : Option Addr) (m c : Nat) (k : List Value) (hx : a.eval x = .slice A m c) (hr : Rd w 1 A m c k) (h1 : ∀ u ∈ k, u.oneCell' = true)
    (h63 : (n + m) * 24 ≤ 140737488355328) (hbase : base ≤ w.heap.size)
    (h : ∀ A' c' w', w'.ownsRow base 22 1 (.slice A' (n + m) c') (n + m) (l ++ k) → w.grownBy w' (Value.slice A0 n c0).ownBlock → (A' = A0 ∨ A' = some ⟨w.heap.size, 0, none⟩) → (A' = none ↔ A0 = none ∧ m = 0) →
      wpList Try.prog ops Q rest (a.put o.dst (.slice A' (n + m) c')) w') : wpList Try.prog ops Q (o :: rest) a w := by
  obtain ⟨i0, hi, hz0, hz1, hz2⟩ := info_parts info_bs
  exact wpList_app w hw s x _ ho base _ i0 _ 1 24 Try.underlying23 hi hz0 hz1 hz2 rfl (by omega) A0 c0 n l hs hown A m c k hx hr h1 h63 (by omega) hbase h
end
end Go.Proofs.Ytckofpdhcpabnaa
