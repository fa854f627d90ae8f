/- The flat as data: guards, nodes, scopes; a node's cells; nest.Under. -/
import Derived.Test.YtnimfdfdpkineaaNs1
namespace Go.Proofs.Ytnimfdfdpkineaa
open Go.RowKit
set_option linter.unusedVariables false
set_option linter.unusedSimpArgs false

structure Gd where
  scope : Int
  name : ByteArray
structure Nd where
  id : ByteArray
  scope : Int
  r : Rs
  guards : List Gd
  after : List ByteArray
structure Sc where
  parent : Int
  pre : ByteArray
  t : Tm
  args : List Pr
def Gd.tr (g : Gd) : List Tr := [lI g.scope, lS g.name]
def Nd.tr (n : Nd) : List Tr := lS n.id :: lI n.scope :: (n.r.tr ++ [.sl 2 24 n.guards.length (n.guards.flatMap Gd.tr), sTr n.after])
def Sc.tr (s : Sc) : List Tr := lI s.parent :: lS s.pre :: (s.t.tr ++ [.sl 7 104 s.args.length (s.args.flatMap Pr.tr)])
theorem Gd.trlen (g : Gd) : g.tr.length = 2 := rfl
theorem Nd.trlen (n : Nd) : n.tr.length = 11 := by simp [Nd.tr, Rs.trlen]
theorem Sc.trlen (n : Sc) : n.tr.length = 7 := by simp [Sc.tr, Tm.trlen]

/-- a node's cells -/
structure Nc where
  id : ByteArray
  scope : Int
  rid : ByteArray
  rty : ByteArray
  rco : ByteArray
  P : Option Addr
  pn : Nat
  pc : Nat
  D : Option Addr
  dn : Nat
  dc : Nat
  ret : Bool
  I : Option Addr
  iN : Nat
  ic : Nat
  G : Option Addr
  gn : Nat
  gc : Nat
  A : Option Addr
  an : Nat
  ac : Nat
def Nc.cs (x : Nc) : List Value := [.string x.id, .int .i64 x.scope, .string x.rid, .string x.rty, .string x.rco, .slice x.P x.pn x.pc, .slice x.D x.dn x.dc, .bool x.ret, .slice x.I x.iN x.ic, .slice x.G x.gn x.gc, .slice x.A x.an x.ac]
def Nc.tr (x : Nc) : List Tr := x.cs.map .leaf
theorem flat_len {α : Type} {cs : α → List Value} {sz : Nat} (h : ∀ a, (cs a).length = sz) : ∀ l : List α, (l.flatMap cs).length = l.length * sz
  | [] => by simp
  | x :: l => by rw [List.flatMap_cons, List.length_append, h, flat_len h l, List.length_cons, Nat.succ_mul, Nat.add_comm]
theorem flat_get {α : Type} {cs : α → List Value} {sz : Nat} (h : ∀ a, (cs a).length = sz) : ∀ (l : List α) (i : Nat) (x : α), l[i]? = some x → ∀ (j : Nat) (u : Value), (cs x)[j]? = some u → (l.flatMap cs)[i * sz + j]? = some u
  | [], i, x, hx, _, _, _ => by simp at hx
  | y :: l, i, x, hx, j, u, hu => by
    rw [List.flatMap_cons]
    cases i with
    | zero =>
      simp at hx; subst hx
      have hj := (List.getElem?_eq_some_iff.1 hu).1
      rw [Nat.zero_mul, Nat.zero_add, List.getElem?_append_left hj]; exact hu
    | succ i =>
      rw [List.getElem?_append_right (by rw [h, Nat.succ_mul]; omega), h, show (i + 1) * sz + j - sz = i * sz + j by rw [Nat.succ_mul]; omega]
      exact flat_get h l i x (by simpa using hx) j u hu
theorem Nc.len (x : Nc) : x.cs.length = 11 := rfl
/-- the cells of the node i -/
theorem Rd.ncell {w : World} {A : Option Addr} {n c : Nat} {xs : List Nc} (h : Rd w 11 A n c (xs.flatMap Nc.cs)) {i : Nat} {x : Nc} (hx : xs[i]? = some x) : ∃ ad, A = some ad ∧ Cel w (ad.add (i * 11)) x.cs := by
  have h0 := flat_get Nc.len xs i x hx 0 (.string x.id) rfl
  obtain ⟨ad, rfl, _⟩ := h.at_ _ _ h0
  refine ⟨ad, rfl, fun j u hu => ?_⟩
  have h1 := h.get (flat_get Nc.len xs i x hx j u hu)
  split
  · next hj => subst hj; exact h1
  · next hj =>
    have e : (ad.add (i * 11)).add j = ad.add (i * 11 + j) := add_of_add _ _ _
    rw [add_pos _ (by omega)] at e
    rw [e]; exact h1

/-- begins the text x with d and a full stop, and more? -/
def dot : ByteArray := ⟨#[46]⟩
def und (d x : ByteArray) : Bool := hasPre x (d ++ dot) && !(bEq (cutP x (d ++ dot)) ByteArray.empty)
/-- the numbers of those -/
def unds (d : ByteArray) : Nat → List ByteArray → List Nat
  | _, [] => []
  | i, x :: r => if und d x then i :: unds d (i + 1) r else unds d (i + 1) r
def cN (l : List Nat) : List Value := l.map fun (x : Nat) => .int .i64 (x : Int)
theorem info_int : (Try.prog.info? 3).map (fun i => (i.zero, i.size, i.bytes)) = some (some (.int .i64 0), 1, 8) := by kernel_rfl
def UndOut (l : List Nat) (w : World) (e : Ending) (w' : World) : Prop := ∃ A c, e = .returned (.slice A l.length c) ∧ Ow w' w.heap.size 3 1 A l.length c (cN l) ∧ Below w.heap.size w w'
theorem step_int {w : World} {ops : Array Oper} {rest : List Oper} {o : Oper} {a : Act} {Q : Exit → Act → World → Prop} (hw : Region.wanted o (yielded ops a.tmps) = true) (s x : Operand)
    (ho : o.op = .call { callee := .builtin .append, args := #[s, x], argTypes := #[66, 66] })
    (base : Nat) (A0 : Option Addr) (c0 n : Nat) (xs : List Value) (hs : a.eval s = .slice A0 n c0) (hown : Ow w base 3 1 A0 n c0 xs)
    (A : Option Addr) (m c : Nat) (news : List Value) (hx : a.eval x = .slice A m c) (hr : Rd w 1 A m c news) (h1 : ∀ u ∈ news, u.oneCell' = true) (hb : n + m ≤ 1000000) (hbase : base ≤ w.heap.size)
    (h : ∀ A' c' w', Ow w' base 3 1 A' (n + m) c' (xs ++ news) → w.grownBy w' (blk A0) → (A' = A0 ∨ A' = some ⟨w.heap.size, 0, none⟩) → wpList Try.prog ops Q rest (a.put o.dst (.slice A' (n + m) c')) w') :
    wpList Try.prog ops Q (o :: rest) a w := by
  obtain ⟨i0, hi, hz0, hz1, hz2⟩ := info_parts info_int
  exact wpList_ow w hw s x _ ho base _ i0 _ 1 8 Try.underlying66 hi hz0 hz1 hz2 rfl (by omega) A0 c0 n xs hs hown A m c news hx hr h1 (by omega) (by omega) hbase h
theorem unds_drop {d : ByteArray} {l : List ByteArray} {i : Nat} {x : ByteArray} (h : l[i]? = some x) : unds d i (l.drop i) = if und d x then i :: unds d (i + 1) (l.drop (i + 1)) else unds d (i + 1) (l.drop (i + 1)) := by rw [drop_cons h]; rfl
theorem unds_len (d : ByteArray) : ∀ (l : List ByteArray) (i : Nat), (unds d i l).length ≤ l.length
  | [], i => by simp [unds]
  | x :: l, i => by
    have := unds_len d l (i + 1)
    simp only [unds]
    split <;> simp only [List.length_cons] <;> omega

set_option maxRecDepth 100000 in
set_option maxHeartbeats 4000000 in
theorem under_any (A A1 : Option Addr) (n1 c1 c : Nat) (xs : List Nc) (d : ByteArray) (w : World) (hr : Rd w 11 A xs.length c (xs.flatMap Nc.cs)) (hx : xs.length ≤ 1000) (hd : d.size ≤ 100000) (hi : ∀ x ∈ xs, x.id.size ≤ 100000) :
    Calls Try.prog 14 #[.agg #[.slice A1 n1 c1, .slice A xs.length c], .string d] w (UndOut (unds d 0 (xs.map Nc.id)) w) := by
  have hc := hr.cap
  have HR := Lib.hid hr
  have HI := Lib.hid hi
  have HW0 : Hid (Below w.heap.size w (w.alloc (.cells #[.slice A1 n1 c1, .slice A xs.length c] 38))) := Lib.hid ((Below.refl _ w).alloc (Nat.le_refl _) _)
  have HS0 : Hid (w.heap.size + 1 ≤ (w.alloc (.cells #[.slice A1 n1 c1, .slice A xs.length c] 38)).heap.size) := Lib.hid (by simp)
  clear hr hi
  go_enter Try.func14, Try.ntmps14
  go_wp2_with fail
  go_loopg [12, 4] xs.length (fun g i o wr => ∃ (j : Nat) (Ao : Option Addr) (co : Nat) (O : List Nat), j + g = xs.length ∧ i = .int .i64 (j : Nat) ∧ o = .slice Ao O.length co ∧ O.length ≤ j ∧ Hid (unds d 0 (xs.map Nc.id) = O ++ unds d j ((xs.map Nc.id).drop j)) ∧ Hid (Ow wr w.heap.size 3 1 Ao O.length co (cN O)) ∧ Hid (Below w.heap.size w wr) ∧ Hid (w.heap.size + 1 ≤ wr.heap.size))
  case atStart => exact ⟨0, none, 0, [], by omega, rfl, rfl, by simp, Lib.hid (by simp), Lib.hid (Ow.nil _ _ _ _), HW0, HS0⟩
  case round =>
    obtain ⟨j, Ao, co, O, hj, rfl, rfl, hOj, HU, HO, HW, HS⟩ := hrel
    rename World => wo
    cases gk with
    | zero =>
      have hjj : ¬ ((j : Int) < (xs.length : Int)) := by omega
      have HR2 : Hid (unds d 0 (xs.map Nc.id) = O) := Lib.hid (by rw [HU.out, List.drop_of_length_le (by simp; omega)]; simp [unds])
      go_wp2_with fail
      go_ret
      exact ⟨Ao, co, by rw [HR2.out]; rfl, by rw [HR2.out]; exact HO.out, HW.out⟩
    | succ g =>
      have hjj : (j : Int) < (xs.length : Int) := by omega
      obtain ⟨x, hx⟩ := get_lt (l := xs) (i := j) (by omega)
      have hxs := HI.out x (List.mem_of_getElem? hx)
      have hu := unds_drop (d := d) (l := xs.map Nc.id) (i := j) (x := x.id) (by simp [hx])
      obtain ⟨ad, rfl, hcel⟩ := (HR.out.below HW.out).ncell hx
      obtain ⟨e0, e1, e2, e3, e4, e5, e6, e7, e8, e9, e10⟩ := cel11 hcel
      rw [hu] at HU
      clear hx hu hcel
      have HC := Lib.hid (cuts_any x.id (d ++ dot) (wo.alloc (.cells #[.string x.id, .int .i64 x.scope, .string x.rid, .string x.rty, .string x.rco, .slice x.P x.pn x.pc, .slice x.D x.dn x.dc, .bool x.ret, .slice x.I x.iN x.ic, .slice x.G x.gn x.gc, .slice x.A x.an x.ac] 44)) (by omega) (by rw [ByteArray.size_append]; show d.size + 1 ≤ 1000000; omega))
      cases hp : hasPre x.id (d ++ dot) with
      | false =>
        unfold CutOut at HC
        rw [hp] at HC
        have HU2 : Hid (unds d 0 (xs.map Nc.id) = O ++ unds d (j + 1) ((xs.map Nc.id).drop (j + 1))) := Lib.hid (by rw [HU.out, if_neg]; unfold und; rw [hp]; simp)
        clear hp
        go_wp2_with fail
        refine HC.out.mono ?_
        rintro e w' ⟨rfl, rfl⟩
        go_wp2_with fail
        go_roundg g
        case measure => omega
        case rel => exact ⟨j + 1, Ao, co, O, by omega, by go_num, rfl, by omega, HU2, Lib.hid (HO.out.alloc _), Lib.hid (HW.out.alloc HW.out.size _), Lib.hid (by simp; have := HS.out; omega)⟩
      | true =>
        unfold CutOut at HC
        rw [hp] at HC
        by_cases hE : cutP x.id (d ++ dot) = ByteArray.empty
        · have HU2 : Hid (unds d 0 (xs.map Nc.id) = O ++ unds d (j + 1) ((xs.map Nc.id).drop (j + 1))) := Lib.hid (by rw [HU.out, if_neg]; unfold und; rw [bEq_iff.2 hE]; simp)
          rw [hE] at HC
          clear hp hE
          go_wp2_with fail
          refine HC.out.mono ?_
          rintro e w' ⟨rfl, rfl⟩
          go_wp2_with fail
          go_roundg g
          case measure => omega
          case rel => exact ⟨j + 1, Ao, co, O, by omega, by go_num, rfl, by omega, HU2, Lib.hid (HO.out.alloc _), Lib.hid (HW.out.alloc HW.out.size _), Lib.hid (by simp; have := HS.out; omega)⟩
        · have HU2 : Hid (unds d 0 (xs.map Nc.id) = (O ++ [j]) ++ unds d (j + 1) ((xs.map Nc.id).drop (j + 1))) := Lib.hid (by rw [HU.out, if_pos (by unfold und; rw [hp, bEq_ne hE]; rfl)]; simp)
          obtain ⟨rst, hrst⟩ : ∃ rst, rst = cutP x.id (d ++ dot) := ⟨_, rfl⟩
          rw [← hrst] at HC hE
          have hE2 : ¬ (rst.toList = []) := fun e => hE (ba_ext (by rw [← Lib.toList_data, e]; rfl))
          have hE3 : (!rst.toList.isEmpty) = true := by simpa using hE2
          clear hp hE hrst
          go_wp2_with fail
          refine HC.out.mono ?_
          rintro e w' ⟨rfl, rfl⟩
          have HON := Lib.hid (HO.out.alloc (.cells #[.string x.id, .int .i64 x.scope, .string x.rid, .string x.rty, .string x.rco, .slice x.P x.pn x.pc, .slice x.D x.dn x.dc, .bool x.ret, .slice x.I x.iN x.ic, .slice x.G x.gn x.gc, .slice x.A x.an x.ac] 44))
          have HWN := Lib.hid (HW.out.alloc HW.out.size (.cells #[.string x.id, .int .i64 x.scope, .string x.rid, .string x.rty, .string x.rco, .slice x.P x.pn x.pc, .slice x.D x.dn x.dc, .bool x.ret, .slice x.I x.iN x.ic, .slice x.G x.gn x.gc, .slice x.A x.an x.ac] 44))
          have HSN : Hid (w.heap.size + 2 ≤ (wo.alloc (.cells #[.string x.id, .int .i64 x.scope, .string x.rid, .string x.rty, .string x.rco, .slice x.P x.pn x.pc, .slice x.D x.dn x.dc, .bool x.ret, .slice x.I x.iN x.ic, .slice x.G x.gn x.gc, .slice x.A x.an x.ac] 44)).heap.size) := Lib.hid (by simp; have := HS.out; omega)
          obtain ⟨w5, hw5⟩ : ∃ w5, w5 = wo.alloc (.cells #[.string x.id, .int .i64 x.scope, .string x.rid, .string x.rty, .string x.rco, .slice x.P x.pn x.pc, .slice x.D x.dn x.dc, .bool x.ret, .slice x.I x.iN x.ic, .slice x.G x.gn x.gc, .slice x.A x.an x.ac] 44) := ⟨_, rfl⟩
          rw [← hw5] at HON HWN HSN
          rw [← hw5]
          clear hw5
          go_wp2_with (at_builtin; refine step_int rfl (.tmp 30) (.tmp 32) rfl w.heap.size Ao co O.length (cN O) rfl (HON.out.alloc _) _ 1 1 [.int .i64 (j : Int)] rfl (Rd.lit _ 1 1 #[.int .i64 (j : Int)] _ _ rfl (by simp [maxLen])) (by simp [Value.oneCell']) (by omega) (by simp; have := HSN.out; omega) ?_; intro A' c' w6 ho hg hat; have HO6 := Lib.hid ho; have HG6 := Lib.hid hg; clear ho hg hat)
          go_roundg g
          case measure => omega
          case rel => exact ⟨j + 1, A', c', O ++ [j], by omega, by go_num, by simp, by simp; omega, HU2, Lib.hid (by have := HO6.out; simpa [cN] using this), Lib.hid ((HWN.out.alloc HWN.out.size _).grown HG6.out (by simp; have := HSN.out; omega) (fun k hk => (HON.out.lt hk).1)), Lib.hid (by have := HG6.out.size; simp at this; have := HSN.out; omega)⟩
end Go.Proofs.Ytnimfdfdpkineaa
