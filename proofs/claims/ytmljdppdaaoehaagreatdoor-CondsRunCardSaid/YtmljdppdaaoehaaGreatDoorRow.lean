/- An append onto a row of the call's own, whatever its elements. -/
import Derived.Test.YtmljdppdaaoehaaGreatDoorRg
import Derived.Test.YtmljdppdaaoehaaGreatDoorMem
import Derived.Test.YtmljdppdaaoehaaGreatDoorProg
import Derived.Test.YtmljdppdaaoehaaGreatDoorBase
namespace Go.Proofs.YtmljdppdaaoehaaGreatDoor
open Go.RowKit
set_option linter.unusedVariables false
set_option linter.unusedSimpArgs false

/-- an append onto a row of the call's own, whatever its elements -/
theorem wpList_row {w : World} {ops : Array Oper} {rest : List Oper} {o : Oper} {a : Act} {Q : Exit → Act → World → Prop} {t e : TypeId} {z : Value} {sz b : Nat}
    (hinfo : (Tryz.prog.info? e).map (fun i => (i.zero, i.size, i.bytes)) = some (some z, sz, b)) (ht : Tryz.prog.underlying t = some (.slice e)) (hzs : z.cells.size = sz) (hsz : 0 < sz)
    (hw : Region.wanted o (yielded ops a.tmps) = true) (s x : Operand) (ho : o.op = .call { callee := .builtin .append, args := #[s, x], argTypes := #[t, t] })
    (base : Nat) (A0 : Option Addr) (c0 n : Nat) (xs : List Value) (hs : a.eval s = .slice A0 n c0) (hown : Ow w base e sz A0 n c0 xs)
    (A : Option Addr) (m c : Nat) (news : List Value) (hx : a.eval x = .slice A m c) (hr : Rd w sz A m c news) (h1 : ∀ u ∈ news, u.oneCell' = true) (hb : n + m ≤ 140737488355328) (hb2 : (n + m) * b ≤ 140737488355328) (hbase : base ≤ w.heap.size)
    (h : ∀ A' c' w', Ow w' base e sz A' (n + m) c' (xs ++ news) → w.grownBy w' (blk A0) → (A' = A0 ∨ A' = some ⟨w.heap.size, 0, none⟩) → wpList Tryz.prog ops Q rest (a.put o.dst (.slice A' (n + m) c')) w') :
    wpList Tryz.prog ops Q (o :: rest) a w := by
  obtain ⟨i0, hi, hz0, hz1, hz2⟩ := info_parts hinfo
  exact wpList_ow w hw s x _ ho base _ i0 _ sz b ht hi hz0 hz1 hz2 hzs hsz A0 c0 n xs hs hown A m c news hx hr h1 hb hb2 hbase h
/-- .. at a step of a region that draws its order -/
theorem step_row {w : World} {ops : Array Oper} {o : Oper} {a : Act} {K : Act → World → Prop} {Q : Exit → Act → World → Prop} {E : Prop} {t e : TypeId} {z : Value} {sz b : Nat}
    (hinfo : (Tryz.prog.info? e).map (fun i => (i.zero, i.size, i.bytes)) = some (some z, sz, b)) (ht : Tryz.prog.underlying t = some (.slice e)) (hzs : z.cells.size = sz) (hsz : 0 < sz)
    (hgd : o.guard = none) (s x : Operand) (ho : o.op = .call { callee := .builtin .append, args := #[s, x], argTypes := #[t, t] })
    (base : Nat) (A0 : Option Addr) (c0 n : Nat) (xs : List Value) (hs : a.eval s = .slice A0 n c0) (hown : Ow w base e sz A0 n c0 xs)
    (A : Option Addr) (m c : Nat) (news : List Value) (hx : a.eval x = .slice A m c) (hr : Rd w sz A m c news) (h1 : ∀ u ∈ news, u.oneCell' = true) (hb : n + m ≤ 140737488355328) (hb2 : (n + m) * b ≤ 140737488355328) (hbase : base ≤ w.heap.size)
    (h : ∀ A' c' w', Ow w' base e sz A' (n + m) c' (xs ++ news) → w.grownBy w' (blk A0) → (A' = A0 ∨ A' = some ⟨w.heap.size, 0, none⟩) → K (a.put o.dst (.slice A' (n + m) c')) w') :
    if Region.wanted o (yielded ops a.tmps) = true then Oper.wp Tryz.prog o a w K Q else E := by
  obtain ⟨i0, hi, hz0, hz1, hz2⟩ := info_parts hinfo
  exact step_ow w hgd s x _ ho base _ i0 _ sz b ht hi hz0 hz1 hz2 hzs hsz A0 c0 n xs hs hown A m c news hx hr h1 hb hb2 hbase h
end Go.Proofs.YtmljdppdaaoehaaGreatDoor
