/- Small functions that nest calls: bare, add, Contains, CutPrefix, Under's parts; appends onto rows of structs. -/
/- The flat as data: guards, nodes, scopes; a node's cells; nest.Under. -/
import Derived.Test.YtmljdppdaaoehaaDoorGtVal
namespace Go.Proofs.YtmljdppdaaoehaaDoor
open Go.RowKit
set_option linter.unusedVariables false
set_option linter.unusedSimpArgs false

theorem info_str : (Tryd.prog.info? 9).map (fun i => (i.zero, i.size, i.bytes)) = some (some (.string ByteArray.empty), 1, 16) := by kernel_rfl
theorem info_strs : (Tryd.prog.info? 37).map (fun i => (i.zero, i.size, i.bytes)) = some (some (.slice none 0 0), 1, 24) := by kernel_rfl
/-- a row behind a slice that has no room: new memory -/
theorem wpList_fresh {w : World} {ops : Array Oper} {rest : List Oper} {o : Oper} {a : Act} {Q : Exit → Act → World → Prop} {t e : TypeId} {z : Value} {sz b : Nat}
    (hinfo : (Tryd.prog.info? e).map (fun i => (i.zero, i.size, i.bytes)) = some (some z, sz, b)) (ht : Tryd.prog.underlying t = some (.slice e)) (hzs : z.cells.size = sz) (hsz : 0 < sz)
    (hg : o.guard = none) (s x : Operand) (hop : o.op = Op.call { callee := Callee.builtin Builtin.append, args := #[s, x], argTypes := #[t, t] })
    (A0 : Option Addr) (n : Nat) (xs : List Value) (hs : a.eval s = .slice A0 n n) (hr0 : ∃ c, Rd w sz A0 n c xs) (h0 : A0 = none → n = 0)
    (A : Option Addr) (m c : Nat) (news : List Value) (hx : a.eval x = .slice A m c) (hr : Rd w sz A m c news) (h1 : ∀ u ∈ news, u.oneCell' = true) (hm : 0 < m)
    (hb1 : n + m ≤ 140737488355328) (hb2 : (n + m) * b ≤ 140737488355328)
    (hK : ∀ A' c' w', Ow w' w.heap.size e sz A' (n + m) c' (xs ++ news) → Below w.heap.size w w' → wpList Tryd.prog ops Q rest (a.put o.dst (.slice A' (n + m) c')) w') :
    wpList Tryd.prog ops Q (o :: rest) a w := by
  obtain ⟨i0, hi, hz0, hz1, hz2⟩ := info_parts hinfo
  obtain ⟨c0, hr0⟩ := hr0
  obtain ⟨ad, rfl, hc⟩ := hr.addr hm hsz
  refine Go.wpList_append_grows w hg s x t hop e i0 z sz b ht hi hz0 hz1 hz2 hzs hsz A0 n n xs hs (fun e => ⟨h0 e, h0 e⟩) hr0.len (fun b' e j u hu => by subst e; exact hr0.get hu) ad m c news hx hr.len (fun j u hu => hr.get hu) h1 (by omega) (by unfold maxLen; omega) hb2 ?_
  intro v' w' hown hgr
  obtain ⟨A', c', rfl⟩ := own_form hown
  exact hK A' c' w' (Ow.of_own hown) ⟨hgr.os, hgr.tape, hgr.output, hgr.size, fun k hk => hgr.block k hk (fun e => by cases e)⟩

def AddOut (sz : Nat) (e : TypeId) (m : Nat) (xs : List Value) (w : World) (en : Ending) (w' : World) : Prop := ∃ A' c', en = .returned (.slice A' m c') ∧ Ow w' w.heap.size e sz A' m c' xs ∧ Below w.heap.size w w'
theorem tl_eq {a b : ByteArray} (h : a = b) : (a.toList == b.toList) = true := by subst h; simp
theorem tl_ne {a b : ByteArray} (h : a ≠ b) : (a.toList == b.toList) = false := by
  rw [beq_eq_false_iff_ne]
  intro e
  rw [Lib.toList_data, Lib.toList_data] at e
  apply h
  cases a; cases b
  simp at e
  congr
/-! ### Texts in rows -/
def bEq (a b : ByteArray) : Bool := a.data.toList == b.data.toList
theorem bEq_iff {a b : ByteArray} : bEq a b = true ↔ a = b := by
  unfold bEq
  rw [beq_iff_eq]
  exact ⟨fun h => by cases a; cases b; simp at h; congr, fun h => by rw [h]⟩
theorem bEq_ne {a b : ByteArray} (h : a ≠ b) : bEq a b = false := by
  cases e : bEq a b with
  | false => rfl
  | true => exact absurd (bEq_iff.1 e) h
def sHas (x : ByteArray) (l : List ByteArray) : Bool := l.any (bEq x)
theorem sHas_iff {x : ByteArray} {l : List ByteArray} : sHas x l = true ↔ x ∈ l := by
  unfold sHas
  rw [List.any_eq_true]
  exact ⟨fun ⟨y, h1, h2⟩ => by rw [bEq_iff.1 h2]; exact h1, fun h => ⟨x, h, bEq_iff.2 rfl⟩⟩
theorem sidx_any (S : Nat → Prop) (A : Option Addr) (c : Nat) (l : List ByteArray) (x : ByteArray) (w : World) (h : Ss S w A c l) (hl : l.length ≤ 1000000) :
    Calls Tryd.prog 47 #[.slice A l.length c, .string x] w fun e w' => (∃ z : Int, e = .returned (.int .i64 z) ∧ -1 ≤ z ∧ z ≤ 1000000 ∧ decide (0 ≤ z) = sHas x l) ∧ w = w' := by
  have hc := h.cap
  have HL := Lib.hid h
  clear h
  go_enter Tryd.func47, Tryd.ntmps47
  go_wp2_with fail
  go_loopg [8] l.length (fun g i wr => ∃ j : Nat, j + g = l.length ∧ i = .int .i64 (j : Nat) ∧ wr = w ∧ Hid (sHas x l = sHas x (l.drop j)))
  case atStart => exact ⟨0, by omega, rfl, rfl, Lib.hid rfl⟩
  case round =>
    obtain ⟨j, hj, rfl, rfl, HD⟩ := hrel
    cases gk with
    | zero =>
      have hjj : ¬ ((j : Int) < (l.length : Int)) := by omega
      have HR : Hid (sHas x l = false) := Lib.hid (by rw [HD.out, List.drop_of_length_le (by omega)]; simp [sHas])
      go_wp2_with fail
      go_ret
      exact ⟨⟨-1, rfl, by omega, by omega, by rw [HR.out]; rfl⟩, rfl⟩
    | succ g =>
      have hjj : (j : Int) < (l.length : Int) := by omega
      obtain ⟨y, hy⟩ := get_lt (l := l) (i := j) (by omega)
      have hd := drop_cons hy
      obtain ⟨ad, rfl, hyc, hys⟩ := HL.out.str hy
      by_cases hxy : x = y
      · have HC : Hid (sHas x l = true) := Lib.hid (by rw [HD.out, hd]; simp [sHas, bEq_iff.2 hxy])
        have hb := tl_eq hxy
        clear hy hd hxy
        go_wp2_with fail
        go_ret
        exact ⟨⟨(j : Int), rfl, by omega, by omega, by rw [HC.out]; exact decide_eq_true (by omega)⟩, rfl⟩
      · have HC : Hid (sHas x l = sHas x (l.drop (j + 1))) := Lib.hid (by rw [HD.out, hd]; simp [sHas, bEq_ne hxy])
        have hb := tl_ne hxy
        clear hy hd hxy
        go_wp2_with fail
        go_roundg g
        case measure => omega
        case rel => exact ⟨j + 1, by omega, by go_num, rfl, HC⟩
def SameBool (b : Bool) (w : World) (e : Ending) (w' : World) : Prop := e = .returned (.bool b) ∧ w = w'
theorem scont_any (S : Nat → Prop) (A : Option Addr) (c : Nat) (l : List ByteArray) (x : ByteArray) (w : World) (h : Ss S w A c l) (hl : l.length ≤ 1000000) :
    Calls Tryd.prog 32 #[.slice A l.length c, .string x] w (SameBool (sHas x l) w) := by
  have HF := Lib.hid (sidx_any S A c l x w h hl)
  clear h
  go_enter Tryd.func32, Tryd.ntmps32
  go_wp2_with fail
  refine HF.out.mono ?_
  rintro e w' ⟨⟨z, rfl, hz1, hz2, hz⟩, rfl⟩
  have HZ := Lib.hid hz
  clear hz
  go_wp2_with fail
  go_ret
  exact ⟨by rw [← HZ.out]; rfl, rfl⟩

/-! ### Beginnings of texts -/
theorem run_slice_upto_str {P : Program} (w : World) (t : TypeId) (s : ByteArray) (ht : P.underlying t = some .string) (kh : IntKind) (h : Nat) (h' : Int) (e2 : h' = (h : Int)) (h2 : h ≤ s.size) :
    (Instr.slice t (.string s) none (some (.int kh h')) none).run P w = .ok (.string (s.extract 0 h)) w := by
  subst e2
  simp [Instr.slice, run_underlying ht, Instr.sliceBounds, run_sliceBound, h2]
theorem run_slice_from_str {P : Program} (w : World) (t : TypeId) (s : ByteArray) (ht : P.underlying t = some .string) (kl : IntKind) (l : Nat) (l' : Int) (e1 : l' = (l : Int)) (h1 : l ≤ s.size) :
    (Instr.slice t (.string s) (some (.int kl l')) none none).run P w = .ok (.string (s.extract l s.size)) w := by
  subst e1
  simp [Instr.slice, run_underlying ht, Instr.sliceBounds, run_sliceBound, h1]
def hasPre (s p : ByteArray) : Bool := p.data.toList.isPrefixOf s.data.toList
theorem ba_ext {a b : ByteArray} (h : a.data.toList = b.data.toList) : a = b := by
  cases a; cases b
  simp at h
  congr
theorem ext_list (s : ByteArray) (a b : Nat) : (s.extract a b).data.toList = (s.data.toList.drop a).take (b - a) := by rw [← Lib.toList_data]; exact Lib.extract_toList s a b
theorem hasPre_iff {s p : ByteArray} : hasPre s p = true ↔ p.size ≤ s.size ∧ s.extract 0 p.size = p := by
  unfold hasPre
  rw [List.isPrefixOf_iff_prefix]
  have e1 : p.data.toList.length = p.size := by simp
  have e2 : s.data.toList.length = s.size := by simp
  constructor
  · rintro ⟨r, h⟩
    refine ⟨by have := congrArg List.length h; simp at this; omega, ba_ext ?_⟩
    rw [ext_list, ← h]; simp
  · rintro ⟨h1, h2⟩
    have h3 : (s.extract 0 p.size).data.toList = p.data.toList := by rw [h2]
    rw [ext_list, List.drop_zero, Nat.sub_zero] at h3
    exact ⟨s.data.toList.drop p.size, by rw [← h3]; exact List.take_append_drop _ _⟩
def cutP (s p : ByteArray) : ByteArray := if hasPre s p then s.extract p.size s.size else s
def CutOut (s p : ByteArray) (w : World) (e : Ending) (w' : World) : Prop := e = .returned (.tuple #[.string (cutP s p), .bool (hasPre s p)]) ∧ w = w'
end Go.Proofs.YtmljdppdaaoehaaDoor
namespace Go.Proofs.YtmljdppdaaoehaaDoor
open Go.RowKit
set_option linter.unusedVariables false
set_option linter.unusedSimpArgs false

structure Gd where
  scope : Int
  name : ByteArray
structure Nd where
  id : ByteArray
  scope : Int
  r : Rs
  guards : List Gd
  after : List ByteArray
structure Sc where
  parent : Int
  pre : ByteArray
  t : Tm
  args : List Pr
def Gd.tr (g : Gd) : List Tr := [lI g.scope, lS g.name]
def Nd.tr (n : Nd) : List Tr := lS n.id :: lI n.scope :: (n.r.tr ++ [.sl 2 24 n.guards.length (n.guards.flatMap Gd.tr), sTr n.after])
def Sc.tr (s : Sc) : List Tr := lI s.parent :: lS s.pre :: (s.t.tr ++ [.sl 7 104 s.args.length (s.args.flatMap Pr.tr)])
theorem Gd.trlen (g : Gd) : g.tr.length = 2 := rfl
theorem Nd.trlen (n : Nd) : n.tr.length = 11 := by simp [Nd.tr, Rs.trlen]
theorem Sc.trlen (n : Sc) : n.tr.length = 7 := by simp [Sc.tr, Tm.trlen]

/-- a node's cells -/
structure Nc where
  id : ByteArray
  scope : Int
  rid : ByteArray
  rty : ByteArray
  rco : ByteArray
  P : Option Addr
  pn : Nat
  pc : Nat
  D : Option Addr
  dn : Nat
  dc : Nat
  ret : Bool
  I : Option Addr
  iN : Nat
  ic : Nat
  G : Option Addr
  gn : Nat
  gc : Nat
  A : Option Addr
  an : Nat
  ac : Nat
def Nc.cs (x : Nc) : List Value := [.string x.id, .int .i64 x.scope, .string x.rid, .string x.rty, .string x.rco, .slice x.P x.pn x.pc, .slice x.D x.dn x.dc, .bool x.ret, .slice x.I x.iN x.ic, .slice x.G x.gn x.gc, .slice x.A x.an x.ac]
def Nc.tr (x : Nc) : List Tr := x.cs.map .leaf
theorem flat_len {α : Type} {cs : α → List Value} {sz : Nat} (h : ∀ a, (cs a).length = sz) : ∀ l : List α, (l.flatMap cs).length = l.length * sz
  | [] => by simp
  | x :: l => by rw [List.flatMap_cons, List.length_append, h, flat_len h l, List.length_cons, Nat.succ_mul, Nat.add_comm]
theorem flat_get {α : Type} {cs : α → List Value} {sz : Nat} (h : ∀ a, (cs a).length = sz) : ∀ (l : List α) (i : Nat) (x : α), l[i]? = some x → ∀ (j : Nat) (u : Value), (cs x)[j]? = some u → (l.flatMap cs)[i * sz + j]? = some u
  | [], i, x, hx, _, _, _ => by simp at hx
  | y :: l, i, x, hx, j, u, hu => by
    rw [List.flatMap_cons]
    cases i with
    | zero =>
      simp at hx; subst hx
      have hj := (List.getElem?_eq_some_iff.1 hu).1
      rw [Nat.zero_mul, Nat.zero_add, List.getElem?_append_left hj]; exact hu
    | succ i =>
      rw [List.getElem?_append_right (by rw [h, Nat.succ_mul]; omega), h, show (i + 1) * sz + j - sz = i * sz + j by rw [Nat.succ_mul]; omega]
      exact flat_get h l i x (by simpa using hx) j u hu
theorem Nc.len (x : Nc) : x.cs.length = 11 := rfl
/-- the cells of the node i -/
theorem Rd.ncell {w : World} {A : Option Addr} {n c : Nat} {xs : List Nc} (h : Rd w 11 A n c (xs.flatMap Nc.cs)) {i : Nat} {x : Nc} (hx : xs[i]? = some x) : ∃ ad, A = some ad ∧ Cel w (ad.add (i * 11)) x.cs := by
  have h0 := flat_get Nc.len xs i x hx 0 (.string x.id) rfl
  obtain ⟨ad, rfl, _⟩ := h.at_ _ _ h0
  refine ⟨ad, rfl, fun j u hu => ?_⟩
  have h1 := h.get (flat_get Nc.len xs i x hx j u hu)
  split
  · next hj => subst hj; exact h1
  · next hj =>
    have e : (ad.add (i * 11)).add j = ad.add (i * 11 + j) := add_of_add _ _ _
    rw [add_pos _ (by omega)] at e
    rw [e]; exact h1

/-- begins the text x with d and a full stop, and more? -/
def dot : ByteArray := ⟨#[46]⟩
def und (d x : ByteArray) : Bool := hasPre x (d ++ dot) && !(bEq (cutP x (d ++ dot)) ByteArray.empty)
/-- the numbers of those -/
def unds (d : ByteArray) : Nat → List ByteArray → List Nat
  | _, [] => []
  | i, x :: r => if und d x then i :: unds d (i + 1) r else unds d (i + 1) r
def cN (l : List Nat) : List Value := l.map fun (x : Nat) => .int .i64 (x : Int)
theorem info_int : (Tryd.prog.info? 3).map (fun i => (i.zero, i.size, i.bytes)) = some (some (.int .i64 0), 1, 8) := by kernel_rfl
def UndOut (l : List Nat) (w : World) (e : Ending) (w' : World) : Prop := ∃ A c, e = .returned (.slice A l.length c) ∧ Ow w' w.heap.size 3 1 A l.length c (cN l) ∧ Below w.heap.size w w'
theorem step_int {w : World} {ops : Array Oper} {rest : List Oper} {o : Oper} {a : Act} {Q : Exit → Act → World → Prop} (hw : Region.wanted o (yielded ops a.tmps) = true) (s x : Operand)
    (ho : o.op = .call { callee := .builtin .append, args := #[s, x], argTypes := #[65, 65] })
    (base : Nat) (A0 : Option Addr) (c0 n : Nat) (xs : List Value) (hs : a.eval s = .slice A0 n c0) (hown : Ow w base 3 1 A0 n c0 xs)
    (A : Option Addr) (m c : Nat) (news : List Value) (hx : a.eval x = .slice A m c) (hr : Rd w 1 A m c news) (h1 : ∀ u ∈ news, u.oneCell' = true) (hb : n + m ≤ 1000000) (hbase : base ≤ w.heap.size)
    (h : ∀ A' c' w', Ow w' base 3 1 A' (n + m) c' (xs ++ news) → w.grownBy w' (blk A0) → (A' = A0 ∨ A' = some ⟨w.heap.size, 0, none⟩) → wpList Tryd.prog ops Q rest (a.put o.dst (.slice A' (n + m) c')) w') :
    wpList Tryd.prog ops Q (o :: rest) a w := by
  obtain ⟨i0, hi, hz0, hz1, hz2⟩ := info_parts info_int
  exact wpList_ow w hw s x _ ho base _ i0 _ 1 8 Tryd.underlying65 hi hz0 hz1 hz2 rfl (by omega) A0 c0 n xs hs hown A m c news hx hr h1 (by omega) (by omega) hbase h
theorem unds_drop {d : ByteArray} {l : List ByteArray} {i : Nat} {x : ByteArray} (h : l[i]? = some x) : unds d i (l.drop i) = if und d x then i :: unds d (i + 1) (l.drop (i + 1)) else unds d (i + 1) (l.drop (i + 1)) := by rw [drop_cons h]; rfl
theorem unds_len (d : ByteArray) : ∀ (l : List ByteArray) (i : Nat), (unds d i l).length ≤ l.length
  | [], i => by simp [unds]
  | x :: l, i => by
    have := unds_len d l (i + 1)
    simp only [unds]
    split <;> simp only [List.length_cons] <;> omega

end Go.Proofs.YtmljdppdaaoehaaDoor
