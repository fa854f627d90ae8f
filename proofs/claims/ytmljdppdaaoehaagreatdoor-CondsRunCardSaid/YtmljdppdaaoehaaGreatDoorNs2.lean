/- The flat as data: guards, nodes, scopes; a node's cells; nest.Under. -/
import Derived.Test.YtmljdppdaaoehaaGreatDoorNs1
namespace Go.Proofs.YtmljdppdaaoehaaGreatDoor
open Go.RowKit
set_option linter.unusedVariables false
set_option linter.unusedSimpArgs false

structure Gd where
  scope : Int
  name : ByteArray
structure Nd where
  id : ByteArray
  scope : Int
  r : Rs
  guards : List Gd
  after : List ByteArray
structure Sc where
  parent : Int
  pre : ByteArray
  t : Tm
  args : List Pr
def Gd.tr (g : Gd) : List Tr := [lI g.scope, lS g.name]
def Nd.tr (n : Nd) : List Tr := lS n.id :: lI n.scope :: (n.r.tr ++ [.sl 2 24 n.guards.length (n.guards.flatMap Gd.tr), sTr n.after])
def Sc.tr (s : Sc) : List Tr := lI s.parent :: lS s.pre :: (s.t.tr ++ [.sl 7 104 s.args.length (s.args.flatMap Pr.tr)])
theorem Gd.trlen (g : Gd) : g.tr.length = 2 := rfl
theorem Nd.trlen (n : Nd) : n.tr.length = 11 := by simp [Nd.tr, Rs.trlen]
theorem Sc.trlen (n : Sc) : n.tr.length = 7 := by simp [Sc.tr, Tm.trlen]

/-- a node's cells -/
structure Nc where
  id : ByteArray
  scope : Int
  rid : ByteArray
  rty : ByteArray
  rco : ByteArray
  P : Option Addr
  pn : Nat
  pc : Nat
  D : Option Addr
  dn : Nat
  dc : Nat
  ret : Bool
  I : Option Addr
  iN : Nat
  ic : Nat
  G : Option Addr
  gn : Nat
  gc : Nat
  A : Option Addr
  an : Nat
  ac : Nat
def Nc.cs (x : Nc) : List Value := [.string x.id, .int .i64 x.scope, .string x.rid, .string x.rty, .string x.rco, .slice x.P x.pn x.pc, .slice x.D x.dn x.dc, .bool x.ret, .slice x.I x.iN x.ic, .slice x.G x.gn x.gc, .slice x.A x.an x.ac]
def Nc.tr (x : Nc) : List Tr := x.cs.map .leaf
theorem flat_len {α : Type} {cs : α → List Value} {sz : Nat} (h : ∀ a, (cs a).length = sz) : ∀ l : List α, (l.flatMap cs).length = l.length * sz
  | [] => by simp
  | x :: l => by rw [List.flatMap_cons, List.length_append, h, flat_len h l, List.length_cons, Nat.succ_mul, Nat.add_comm]
theorem flat_get {α : Type} {cs : α → List Value} {sz : Nat} (h : ∀ a, (cs a).length = sz) : ∀ (l : List α) (i : Nat) (x : α), l[i]? = some x → ∀ (j : Nat) (u : Value), (cs x)[j]? = some u → (l.flatMap cs)[i * sz + j]? = some u
  | [], i, x, hx, _, _, _ => by simp at hx
  | y :: l, i, x, hx, j, u, hu => by
    rw [List.flatMap_cons]
    cases i with
    | zero =>
      simp at hx; subst hx
      have hj := (List.getElem?_eq_some_iff.1 hu).1
      rw [Nat.zero_mul, Nat.zero_add, List.getElem?_append_left hj]; exact hu
    | succ i =>
      rw [List.getElem?_append_right (by rw [h, Nat.succ_mul]; omega), h, show (i + 1) * sz + j - sz = i * sz + j by rw [Nat.succ_mul]; omega]
      exact flat_get h l i x (by simpa using hx) j u hu
theorem Nc.len (x : Nc) : x.cs.length = 11 := rfl
/-- the cells of the node i -/
theorem Rd.ncell {w : World} {A : Option Addr} {n c : Nat} {xs : List Nc} (h : Rd w 11 A n c (xs.flatMap Nc.cs)) {i : Nat} {x : Nc} (hx : xs[i]? = some x) : ∃ ad, A = some ad ∧ Cel w (ad.add (i * 11)) x.cs := by
  have h0 := flat_get Nc.len xs i x hx 0 (.string x.id) rfl
  obtain ⟨ad, rfl, _⟩ := h.at_ _ _ h0
  refine ⟨ad, rfl, fun j u hu => ?_⟩
  have h1 := h.get (flat_get Nc.len xs i x hx j u hu)
  split
  · next hj => subst hj; exact h1
  · next hj =>
    have e : (ad.add (i * 11)).add j = ad.add (i * 11 + j) := add_of_add _ _ _
    rw [add_pos _ (by omega)] at e
    rw [e]; exact h1

/-- begins the text x with d and a full stop, and more? -/
def dot : ByteArray := ⟨#[46]⟩
def und (d x : ByteArray) : Bool := hasPre x (d ++ dot) && !(bEq (cutP x (d ++ dot)) ByteArray.empty)
/-- the numbers of those -/
def unds (d : ByteArray) : Nat → List ByteArray → List Nat
  | _, [] => []
  | i, x :: r => if und d x then i :: unds d (i + 1) r else unds d (i + 1) r
def cN (l : List Nat) : List Value := l.map fun (x : Nat) => .int .i64 (x : Int)
theorem info_int : (Tryz.prog.info? 3).map (fun i => (i.zero, i.size, i.bytes)) = some (some (.int .i64 0), 1, 8) := by kernel_rfl
def UndOut (l : List Nat) (w : World) (e : Ending) (w' : World) : Prop := ∃ A c, e = .returned (.slice A l.length c) ∧ Ow w' w.heap.size 3 1 A l.length c (cN l) ∧ Below w.heap.size w w'
theorem step_int {w : World} {ops : Array Oper} {rest : List Oper} {o : Oper} {a : Act} {Q : Exit → Act → World → Prop} (hw : Region.wanted o (yielded ops a.tmps) = true) (s x : Operand)
    (ho : o.op = .call { callee := .builtin .append, args := #[s, x], argTypes := #[98, 98] })
    (base : Nat) (A0 : Option Addr) (c0 n : Nat) (xs : List Value) (hs : a.eval s = .slice A0 n c0) (hown : Ow w base 3 1 A0 n c0 xs)
    (A : Option Addr) (m c : Nat) (news : List Value) (hx : a.eval x = .slice A m c) (hr : Rd w 1 A m c news) (h1 : ∀ u ∈ news, u.oneCell' = true) (hb : n + m ≤ 1000000) (hbase : base ≤ w.heap.size)
    (h : ∀ A' c' w', Ow w' base 3 1 A' (n + m) c' (xs ++ news) → w.grownBy w' (blk A0) → (A' = A0 ∨ A' = some ⟨w.heap.size, 0, none⟩) → wpList Tryz.prog ops Q rest (a.put o.dst (.slice A' (n + m) c')) w') :
    wpList Tryz.prog ops Q (o :: rest) a w := by
  obtain ⟨i0, hi, hz0, hz1, hz2⟩ := info_parts info_int
  exact wpList_ow w hw s x _ ho base _ i0 _ 1 8 Tryz.underlying98 hi hz0 hz1 hz2 rfl (by omega) A0 c0 n xs hs hown A m c news hx hr h1 (by omega) (by omega) hbase h
theorem unds_drop {d : ByteArray} {l : List ByteArray} {i : Nat} {x : ByteArray} (h : l[i]? = some x) : unds d i (l.drop i) = if und d x then i :: unds d (i + 1) (l.drop (i + 1)) else unds d (i + 1) (l.drop (i + 1)) := by rw [drop_cons h]; rfl
theorem unds_len (d : ByteArray) : ∀ (l : List ByteArray) (i : Nat), (unds d i l).length ≤ l.length
  | [], i => by simp [unds]
  | x :: l, i => by
    have := unds_len d l (i + 1)
    simp only [unds]
    split <;> simp only [List.length_cons] <;> omega

end Go.Proofs.YtmljdppdaaoehaaGreatDoor
