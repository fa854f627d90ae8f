/- Small functions that nest calls: bare, add, Contains, CutPrefix, Under's parts; appends onto rows of structs. -/
import Derived.Test.YtgdfkbalnpfdgaaGreatDoorTi
import Derived.Test.YtgdfkbalnpfdgaaGreatDoorGtVal
namespace Go.Proofs.YtgdfkbalnpfdgaaGreatDoor
open Go.RowKit
set_option linter.unusedVariables false
set_option linter.unusedSimpArgs false
theorem info_str : (Tryz.prog.info? 9).map (fun i => (i.zero, i.size, i.bytes)) = some (some (.string ByteArray.empty), 1, 16) := by kernel_rfl
theorem info_gd : (Tryz.prog.info? 108).map (fun i => (i.zero, i.size, i.bytes)) = some (some (.agg #[.int .i64 0, .string ByteArray.empty]), 2, 24) := by kernel_rfl
theorem info_strs : (Tryz.prog.info? 63).map (fun i => (i.zero, i.size, i.bytes)) = some (some (.slice none 0 0), 1, 24) := by kernel_rfl
theorem info_scope : (Tryz.prog.info? 76).map (fun i => (i.zero, i.size, i.bytes)) = some (some (.agg #[.int .i64 0, .string ByteArray.empty, .slice none 0 0, .slice none 0 0, .slice none 0 0, .slice none 0 0, .slice none 0 0]), 7, 144) := by kernel_rfl
theorem info_node : (Tryz.prog.info? 80).map (fun i => (i.zero, i.size, i.bytes)) = some (some (.agg #[.string ByteArray.empty, .int .i64 0, .string ByteArray.empty, .string ByteArray.empty, .string ByteArray.empty, .slice none 0 0, .slice none 0 0, .bool false, .slice none 0 0, .slice none 0 0, .slice none 0 0]), 11, 200) := by kernel_rfl
theorem wpList_fresh {w : World} {ops : Array Oper} {rest : List Oper} {o : Oper} {a : Act} {Q : Exit → Act → World → Prop} {t e : TypeId} {z : Value} {sz b : Nat}
 (hinfo : (Tryz.prog.info? e).map (fun i => (i.zero, i.size, i.bytes)) = some (some z, sz, b)) (ht : Tryz.prog.underlying t = some (.slice e)) (hzs : z.cells.size = sz) (hsz : 0 < sz)
 (hg : o.guard = none) (s x : Operand) (hop : o.op = Op.call { callee := Callee.builtin Builtin.append, args := #[s, x], argTypes := #[t, t] })
 (A0 : Option Addr) (n : Nat) (xs : List Value) (hs : a.eval s = .slice A0 n n) (hr0 : ∃ c, Rd w sz A0 n c xs) (h0 : A0 = none → n = 0)
 (A : Option Addr) (m c : Nat) (news : List Value) (hx : a.eval x = .slice A m c) (hr : Rd w sz A m c news) (h1 : ∀ u ∈ news, u.oneCell' = true) (hm : 0 < m)
 (hb1 : n + m ≤ 140737488355328) (hb2 : (n + m) * b ≤ 140737488355328)
 (hK : ∀ A' c' w', Ow w' w.heap.size e sz A' (n + m) c' (xs ++ news) → Below w.heap.size w w' → wpList Tryz.prog ops Q rest (a.put o.dst (.slice A' (n + m) c')) w') :
 wpList Tryz.prog ops Q (o :: rest) a w := by
 obtain ⟨i0, hi, hz0, hz1, hz2⟩ := info_parts hinfo
 obtain ⟨c0, hr0⟩ := hr0
 obtain ⟨ad, rfl, hc⟩ := hr.addr hm hsz
 refine Go.wpList_append_grows w hg s x t hop e i0 z sz b ht hi hz0 hz1 hz2 hzs hsz A0 n n xs hs (fun e => ⟨h0 e, h0 e⟩) hr0.len (fun b' e j u hu => by subst e; exact hr0.get hu) ad m c news hx hr.len (fun j u hu => hr.get hu) h1 (by omega) (by unfold maxLen; omega) hb2 ?_
 intro v' w' hown hgr
 obtain ⟨A', c', rfl⟩ := own_form hown
 exact hK A' c' w' (Ow.of_own hown) ⟨hgr.os, hgr.tape, hgr.output, hgr.size, fun k hk => hgr.block k hk (fun e => by cases e)⟩
set_option maxHeartbeats 1000000 in
theorem bare_any (A B C D : Option Addr) (n1 c1 n2 c2 n3 c3 n4 c4 : Nat) (w : World) : Calls Tryz.prog 45 #[.agg #[.slice A n1 c1, .slice B n2 c2, .slice C n3 c3, .slice D n4 c4]] w fun e w' => e = .returned (.agg #[.slice A n1 c1, .slice B n2 c2, .slice none 0 0, .slice D n4 c4]) ∧ Below w.heap.size w w' := by
 go_enter Tryz.func45, Tryz.ntmps45
 go_wp2_with fail
 refine bodyPost_ret (v := .agg #[.slice A n1 c1, .slice B n2 c2, .slice none 0 0, .slice D n4 c4]) (by simp [results, Tryz.results45, go_sem]) rfl ⟨rfl, ?_⟩
 exact ((Below.refl _ w).alloc (Nat.le_refl _) _).alloc (by simp) _
def AddOut (sz : Nat) (e : TypeId) (m : Nat) (xs : List Value) (w : World) (en : Ending) (w' : World) : Prop := ∃ A' c', en = .returned (.slice A' m c') ∧ Ow w' w.heap.size e sz A' m c' xs ∧ Below w.heap.size w w'
set_option maxHeartbeats 1000000 in
theorem addS_any (A : Option Addr) (n c : Nat) (xs : List Value) (B : Option Addr) (m d : Nat) (ys : List Value) (w : World) (hr : Rd w 1 A n c xs) (hA : A = none → n = 0) (hr2 : Rd w 1 B m d ys) (h1 : ∀ u ∈ ys, u.oneCell' = true) (hm : 0 < m) (hb : n + m ≤ 1000000) :
 Calls Tryz.prog 59 #[.slice A n c, .slice B m d] w (AddOut 1 9 (n + m) (xs ++ ys) w) := by
 have hc := hr.cap
 have hmx := hr.max
 unfold maxLen at hmx
 have HR := Lib.hid hr
 have HR2 := Lib.hid hr2
 have H1 := Lib.hid h1
 have HA := Lib.hid hA
 clear hr hr2 h1 hA
 go_enter Tryz.func59, Tryz.ntmps59
 go_wp2_with (at_builtin; refine wpList_fresh info_str Tryz.underlying63 rfl (by omega) rfl (.tmp 10) (.tmp 11) rfl A n xs rfl ⟨c, HR.out⟩ HA.out B m d ys rfl HR2.out H1.out hm (by omega) (by omega) ?_; intro A' c' w' ho hb'; have HO := Lib.hid ho; have HB := Lib.hid hb'; clear ho hb')
 go_ret
 exact ⟨A', c', rfl, HO.out, HB.out⟩
theorem addG_any (A : Option Addr) (n c : Nat) (xs : List Value) (B : Option Addr) (m d : Nat) (ys : List Value) (w : World) (hr : Rd w 2 A n c xs) (hA : A = none → n = 0) (hr2 : Rd w 2 B m d ys) (h1 : ∀ u ∈ ys, u.oneCell' = true) (hm : 0 < m) (hb : n + m ≤ 1000000) :
 Calls Tryz.prog 58 #[.slice A n c, .slice B m d] w (AddOut 2 108 (n + m) (xs ++ ys) w) := by
 have hc := hr.cap
 have hmx := hr.max
 unfold maxLen at hmx
 have HR := Lib.hid hr
 have HR2 := Lib.hid hr2
 have H1 := Lib.hid h1
 have HA := Lib.hid hA
 clear hr hr2 h1 hA
 go_enter Tryz.func58, Tryz.ntmps58
 go_wp2_with (at_builtin; refine wpList_fresh info_gd Tryz.underlying78 rfl (by omega) rfl (.tmp 10) (.tmp 11) rfl A n xs rfl ⟨c, HR.out⟩ HA.out B m d ys rfl HR2.out H1.out hm (by omega) (by omega) ?_; intro A' c' w' ho hb'; have HO := Lib.hid ho; have HB := Lib.hid hb'; clear ho hb')
 go_ret
 exact ⟨A', c', rfl, HO.out, HB.out⟩
theorem tl_eq {a b : ByteArray} (h : a = b) : (a.toList == b.toList) = true := by subst h; simp
theorem tl_ne {a b : ByteArray} (h : a ≠ b) : (a.toList == b.toList) = false := by
 rw [beq_eq_false_iff_ne]
 intro e
 rw [Lib.toList_data, Lib.toList_data] at e
 apply h
 cases a; cases b
 simp at e
 congr
def bEq (a b : ByteArray) : Bool := a.data.toList == b.data.toList
theorem bEq_iff {a b : ByteArray} : bEq a b = true ↔ a = b := by
 unfold bEq
 rw [beq_iff_eq]
 exact ⟨fun h => by cases a; cases b; simp at h; congr, fun h => by rw [h]⟩
theorem bEq_ne {a b : ByteArray} (h : a ≠ b) : bEq a b = false := by
 cases e : bEq a b with
 | false => rfl
 | true => exact absurd (bEq_iff.1 e) h
def sHas (x : ByteArray) (l : List ByteArray) : Bool := l.any (bEq x)
theorem sHas_iff {x : ByteArray} {l : List ByteArray} : sHas x l = true ↔ x ∈ l := by
 unfold sHas
 rw [List.any_eq_true]
 exact ⟨fun ⟨y, h1, h2⟩ => by rw [bEq_iff.1 h2]; exact h1, fun h => ⟨x, h, bEq_iff.2 rfl⟩⟩
theorem sidx_any (S : Nat → Prop) (A : Option Addr) (c : Nat) (l : List ByteArray) (x : ByteArray) (w : World) (h : Ss S w A c l) (hl : l.length ≤ 1000000) :
 Calls Tryz.prog 51 #[.slice A l.length c, .string x] w fun e w' => (∃ z : Int, e = .returned (.int .i64 z) ∧ -1 ≤ z ∧ z ≤ 1000000 ∧ decide (0 ≤ z) = sHas x l) ∧ w = w' := by
 have hc := h.cap
 have HL := Lib.hid h
 clear h
 go_enter Tryz.func51, Tryz.ntmps51
 go_wp2_with fail
 go_loopg [8] l.length (fun g i wr => ∃ j : Nat, j + g = l.length ∧ i = .int .i64 (j : Nat) ∧ wr = w ∧ Hid (sHas x l = sHas x (l.drop j)))
 case atStart => exact ⟨0, by omega, rfl, rfl, Lib.hid rfl⟩
 case round =>
  obtain ⟨j, hj, rfl, rfl, HD⟩ := hrel
  cases gk with
  | zero =>
    have hjj : ¬ ((j : Int) < (l.length : Int)) := by omega
    have HR : Hid (sHas x l = false) := Lib.hid (by rw [HD.out, List.drop_of_length_le (by omega)]; simp [sHas])
    go_wp2_with fail
    go_ret
    exact ⟨⟨-1, rfl, by omega, by omega, by rw [HR.out]; rfl⟩, rfl⟩
  | succ g =>
    have hjj : (j : Int) < (l.length : Int) := by omega
    obtain ⟨y, hy⟩ := get_lt (l := l) (i := j) (by omega)
    have hd := drop_cons hy
    obtain ⟨ad, rfl, hyc, hys⟩ := HL.out.str hy
    by_cases hxy : x = y
    ·have HC : Hid (sHas x l = true) := Lib.hid (by rw [HD.out, hd]; simp [sHas, bEq_iff.2 hxy])
     have hb := tl_eq hxy
     clear hy hd hxy
     go_wp2_with fail
     go_ret
     exact ⟨⟨(j : Int), rfl, by omega, by omega, by rw [HC.out]; exact decide_eq_true (by omega)⟩, rfl⟩
    ·have HC : Hid (sHas x l = sHas x (l.drop (j + 1))) := Lib.hid (by rw [HD.out, hd]; simp [sHas, bEq_ne hxy])
     have hb := tl_ne hxy
     clear hy hd hxy
     go_wp2_with fail
     go_roundg g
     case measure => omega
     case rel => exact ⟨j + 1, by omega, by go_num, rfl, HC⟩
def SameBool (b : Bool) (w : World) (e : Ending) (w' : World) : Prop := e = .returned (.bool b) ∧ w = w'
theorem scont_any (S : Nat → Prop) (A : Option Addr) (c : Nat) (l : List ByteArray) (x : ByteArray) (w : World) (h : Ss S w A c l) (hl : l.length ≤ 1000000) :
 Calls Tryz.prog 34 #[.slice A l.length c, .string x] w (SameBool (sHas x l) w) := by
 have HF := Lib.hid (sidx_any S A c l x w h hl)
 clear h
 go_enter Tryz.func34, Tryz.ntmps34
 go_wp2_with fail
 refine HF.out.mono ?_
 rintro e w' ⟨⟨z, rfl, hz1, hz2, hz⟩, rfl⟩
 have HZ := Lib.hid hz
 clear hz
 go_wp2_with fail
 go_ret
 exact ⟨by rw [← HZ.out]; rfl, rfl⟩
theorem run_slice_upto_str {P : Program} (w : World) (t : TypeId) (s : ByteArray) (ht : P.underlying t = some .string) (kh : IntKind) (h : Nat) (h' : Int) (e2 : h' = (h : Int)) (h2 : h ≤ s.size) :
 (Instr.slice t (.string s) none (some (.int kh h')) none).run P w = .ok (.string (s.extract 0 h)) w := by
 subst e2
 simp [Instr.slice, run_underlying ht, Instr.sliceBounds, run_sliceBound, h2]
theorem run_slice_from_str {P : Program} (w : World) (t : TypeId) (s : ByteArray) (ht : P.underlying t = some .string) (kl : IntKind) (l : Nat) (l' : Int) (e1 : l' = (l : Int)) (h1 : l ≤ s.size) :
 (Instr.slice t (.string s) (some (.int kl l')) none none).run P w = .ok (.string (s.extract l s.size)) w := by
 subst e1
 simp [Instr.slice, run_underlying ht, Instr.sliceBounds, run_sliceBound, h1]
def hasPre (s p : ByteArray) : Bool := p.data.toList.isPrefixOf s.data.toList
theorem ba_ext {a b : ByteArray} (h : a.data.toList = b.data.toList) : a = b := by
 cases a; cases b
 simp at h
 congr
theorem ext_list (s : ByteArray) (a b : Nat) : (s.extract a b).data.toList = (s.data.toList.drop a).take (b - a) := by rw [← Lib.toList_data]; exact Lib.extract_toList s a b
theorem hasPre_iff {s p : ByteArray} : hasPre s p = true ↔ p.size ≤ s.size ∧ s.extract 0 p.size = p := by
 unfold hasPre
 rw [List.isPrefixOf_iff_prefix]
 have e1 : p.data.toList.length = p.size := by simp
 have e2 : s.data.toList.length = s.size := by simp
 constructor
 ·rintro ⟨r, h⟩
  refine ⟨by have := congrArg List.length h; simp at this; omega, ba_ext ?_⟩
  rw [ext_list, ← h]; simp
 ·rintro ⟨h1, h2⟩
  have h3 : (s.extract 0 p.size).data.toList = p.data.toList := by rw [h2]
  rw [ext_list, List.drop_zero, Nat.sub_zero] at h3
  exact ⟨s.data.toList.drop p.size, by rw [← h3]; exact List.take_append_drop _ _⟩
theorem hpre_any (s p : ByteArray) (w : World) (hs : s.size ≤ 1000000) (hp : p.size ≤ 1000000) :
 Calls Tryz.prog 120 #[.string s, .string p] w (SameBool (hasPre s p) w) := by
 by_cases h1 : p.size ≤ s.size
 ·have hsl := run_slice_upto_str (P := Tryz.prog) w 9 s Tryz.underlying9 .i64 p.size (p.size : Int) rfl h1
  by_cases h2 : s.extract 0 p.size = p
  ·have HR : Hid (hasPre s p = true) := Lib.hid (hasPre_iff.2 ⟨h1, h2⟩)
   have hb := tl_eq h2
   clear h2
   go_enter Tryz.func120, Tryz.ntmps120
   go_wp2_with fail
   go_ret
   exact ⟨by rw [HR.out]; rfl, rfl⟩
  ·have HR : Hid (hasPre s p = false) := Lib.hid (by
    cases h : hasPre s p with
    | false => rfl
    | true => exact absurd (hasPre_iff.1 h).2 h2)
   have hb := tl_ne h2
   clear h2
   go_enter Tryz.func120, Tryz.ntmps120
   go_wp2_with fail
   go_ret
   exact ⟨by rw [HR.out]; rfl, rfl⟩
 ·have HR : Hid (hasPre s p = false) := Lib.hid (by
   cases h : hasPre s p with
   | false => rfl
   | true => exact absurd (hasPre_iff.1 h).1 h1)
  have h1' : decide (p.size ≤ s.size) = false := decide_eq_false h1
  clear h1
  go_enter Tryz.func120, Tryz.ntmps120
  go_wp2_with fail
  go_ret
  exact ⟨by rw [HR.out]; rfl, rfl⟩
def cutP (s p : ByteArray) : ByteArray := if hasPre s p then s.extract p.size s.size else s
def CutOut (s p : ByteArray) (w : World) (e : Ending) (w' : World) : Prop := e = .returned (.tuple #[.string (cutP s p), .bool (hasPre s p)]) ∧ w = w'
theorem cutl_any (s p : ByteArray) (w : World) (hs : s.size ≤ 1000000) (hp : p.size ≤ 1000000) :
 Calls Tryz.prog 75 #[.string s, .string p] w (CutOut s p w) := by
 have HF := Lib.hid (hpre_any s p w hs hp)
 cases h : hasPre s p with
 | true =>
   have h1 := (hasPre_iff.1 h).1
   have hsl := run_slice_from_str (P := Tryz.prog) w 9 s Tryz.underlying9 .i64 p.size (p.size : Int) rfl h1
   rw [h] at HF
   have HC : Hid (cutP s p = s.extract p.size s.size ∧ hasPre s p = true) := Lib.hid ⟨by unfold cutP; rw [h]; rfl, h⟩
   clear h
   go_enter Tryz.func75, Tryz.ntmps75
   go_wp2_with fail
   refine HF.out.mono ?_
   rintro e w' ⟨rfl, rfl⟩
   go_wp2_with fail
   go_ret2
   exact ⟨by rw [HC.out.1, HC.out.2]; rfl, rfl⟩
 | false =>
   rw [h] at HF
   have HC : Hid (cutP s p = s ∧ hasPre s p = false) := Lib.hid ⟨by unfold cutP; rw [h]; rfl, h⟩
   clear h
   go_enter Tryz.func75, Tryz.ntmps75
   go_wp2_with fail
   refine HF.out.mono ?_
   rintro e w' ⟨rfl, rfl⟩
   go_wp2_with fail
   go_ret2
   exact ⟨by rw [HC.out.1, HC.out.2]; rfl, rfl⟩
theorem cuts_any (s p : ByteArray) (w : World) (hs : s.size ≤ 1000000) (hp : p.size ≤ 1000000) :
 Calls Tryz.prog 60 #[.string s, .string p] w (CutOut s p w) := by
 have HF := Lib.hid (cutl_any s p w hs hp)
 go_enter Tryz.func60, Tryz.ntmps60
 go_wp2_with fail
 refine HF.out.mono ?_
 rintro e w' ⟨rfl, rfl⟩
 go_wp2_with fail
 go_ret2
 exact ⟨rfl, rfl⟩
open Go.RowKit
set_option linter.unusedVariables false
set_option linter.unusedSimpArgs false
structure Gd where
 scope : Int
 name : ByteArray
structure Nd where
 id : ByteArray
 scope : Int
 r : Rs
 guards : List Gd
 after : List ByteArray
structure Sc where
 parent : Int
 pre : ByteArray
 t : Tm
 args : List Pr
def Gd.tr (g : Gd) : List Tr := [lI g.scope, lS g.name]
def Nd.tr (n : Nd) : List Tr := lS n.id :: lI n.scope :: (n.r.tr ++ [.sl 2 24 n.guards.length (n.guards.flatMap Gd.tr), sTr n.after])
def Sc.tr (s : Sc) : List Tr := lI s.parent :: lS s.pre :: (s.t.tr ++ [.sl 7 104 s.args.length (s.args.flatMap Pr.tr)])
theorem Gd.trlen (g : Gd) : g.tr.length = 2 := rfl
theorem Nd.trlen (n : Nd) : n.tr.length = 11 := by simp [Nd.tr, Rs.trlen]
theorem Sc.trlen (n : Sc) : n.tr.length = 7 := by simp [Sc.tr, Tm.trlen]
structure Nc where
 id : ByteArray
 scope : Int
 rid : ByteArray
 rty : ByteArray
 rco : ByteArray
 P : Option Addr
 pn : Nat
 pc : Nat
 D : Option Addr
 dn : Nat
 dc : Nat
 ret : Bool
 I : Option Addr
 iN : Nat
 ic : Nat
 G : Option Addr
 gn : Nat
 gc : Nat
 A : Option Addr
 an : Nat
 ac : Nat
def Nc.cs (x : Nc) : List Value := [.string x.id, .int .i64 x.scope, .string x.rid, .string x.rty, .string x.rco, .slice x.P x.pn x.pc, .slice x.D x.dn x.dc, .bool x.ret, .slice x.I x.iN x.ic, .slice x.G x.gn x.gc, .slice x.A x.an x.ac]
def Nc.tr (x : Nc) : List Tr := x.cs.map .leaf
theorem flat_get {α : Type} {cs : α → List Value} {sz : Nat} (h : ∀ a, (cs a).length = sz) : ∀ (l : List α) (i : Nat) (x : α), l[i]? = some x → ∀ (j : Nat) (u : Value), (cs x)[j]? = some u → (l.flatMap cs)[i * sz + j]? = some u
 | [], i, x, hx, _, _, _ => by simp at hx
 | y :: l, i, x, hx, j, u, hu => by
   rw [List.flatMap_cons]
   cases i with
   | zero =>
     simp at hx; subst hx
     have hj := (List.getElem?_eq_some_iff.1 hu).1
     rw [Nat.zero_mul, Nat.zero_add, List.getElem?_append_left hj]; exact hu
   | succ i =>
     rw [List.getElem?_append_right (by rw [h, Nat.succ_mul]; omega), h, show (i + 1) * sz + j - sz = i * sz + j by rw [Nat.succ_mul]; omega]
     exact flat_get h l i x (by simpa using hx) j u hu
theorem Nc.len (x : Nc) : x.cs.length = 11 := rfl
theorem Rd.ncell {w : World} {A : Option Addr} {n c : Nat} {xs : List Nc} (h : Rd w 11 A n c (xs.flatMap Nc.cs)) {i : Nat} {x : Nc} (hx : xs[i]? = some x) : ∃ ad, A = some ad ∧ Cel w (ad.add (i * 11)) x.cs := by
 have h0 := flat_get Nc.len xs i x hx 0 (.string x.id) rfl
 obtain ⟨ad, rfl, _⟩ := h.at_ _ _ h0
 refine ⟨ad, rfl, fun j u hu => ?_⟩
 have h1 := h.get (flat_get Nc.len xs i x hx j u hu)
 split
 ·next hj => subst hj; exact h1
 ·next hj =>
  have e : (ad.add (i * 11)).add j = ad.add (i * 11 + j) := add_of_add _ _ _
  rw [add_pos _ (by omega)] at e
  rw [e]; exact h1
def dot : ByteArray := ⟨#[46]⟩
def und (d x : ByteArray) : Bool := hasPre x (d ++ dot) && !(bEq (cutP x (d ++ dot)) ByteArray.empty)
def unds (d : ByteArray) : Nat → List ByteArray → List Nat
 | _, [] => []
 | i, x :: r => if und d x then i :: unds d (i + 1) r else unds d (i + 1) r
def cN (l : List Nat) : List Value := l.map fun (x : Nat) => .int .i64 (x : Int)
theorem info_int : (Tryz.prog.info? 3).map (fun i => (i.zero, i.size, i.bytes)) = some (some (.int .i64 0), 1, 8) := by kernel_rfl
def UndOut (l : List Nat) (w : World) (e : Ending) (w' : World) : Prop := ∃ A c, e = .returned (.slice A l.length c) ∧ Ow w' w.heap.size 3 1 A l.length c (cN l) ∧ Below w.heap.size w w'
theorem step_int {w : World} {ops : Array Oper} {rest : List Oper} {o : Oper} {a : Act} {Q : Exit → Act → World → Prop} (hw : Region.wanted o (yielded ops a.tmps) = true) (s x : Operand)
 (ho : o.op = .call { callee := .builtin .append, args := #[s, x], argTypes := #[44, 44] })
 (base : Nat) (A0 : Option Addr) (c0 n : Nat) (xs : List Value) (hs : a.eval s = .slice A0 n c0) (hown : Ow w base 3 1 A0 n c0 xs)
 (A : Option Addr) (m c : Nat) (news : List Value) (hx : a.eval x = .slice A m c) (hr : Rd w 1 A m c news) (h1 : ∀ u ∈ news, u.oneCell' = true) (hb : n + m ≤ 1000000) (hbase : base ≤ w.heap.size)
 (h : ∀ A' c' w', Ow w' base 3 1 A' (n + m) c' (xs ++ news) → w.grownBy w' (blk A0) → (A' = A0 ∨ A' = some ⟨w.heap.size, 0, none⟩) → wpList Tryz.prog ops Q rest (a.put o.dst (.slice A' (n + m) c')) w') :
 wpList Tryz.prog ops Q (o :: rest) a w := by
 obtain ⟨i0, hi, hz0, hz1, hz2⟩ := info_parts info_int
 exact wpList_ow w hw s x _ ho base _ i0 _ 1 8 Tryz.underlying44 hi hz0 hz1 hz2 rfl (by omega) A0 c0 n xs hs hown A m c news hx hr h1 (by omega) (by omega) hbase h
theorem unds_drop {d : ByteArray} {l : List ByteArray} {i : Nat} {x : ByteArray} (h : l[i]? = some x) : unds d i (l.drop i) = if und d x then i :: unds d (i + 1) (l.drop (i + 1)) else unds d (i + 1) (l.drop (i + 1)) := by rw [drop_cons h]; rfl
theorem unds_len (d : ByteArray) : ∀ (l : List ByteArray) (i : Nat), (unds d i l).length ≤ l.length
 | [], i => by simp [unds]
 | x :: l, i => by
   have := unds_len d l (i + 1)
   simp only [unds]
   split <;> simp only [List.length_cons] <;> omega
set_option maxRecDepth 100000 in
set_option maxHeartbeats 4000000 in
theorem under_any (A A1 : Option Addr) (n1 c1 c : Nat) (xs : List Nc) (d : ByteArray) (w : World) (hr : Rd w 11 A xs.length c (xs.flatMap Nc.cs)) (hx : xs.length ≤ 1000) (hd : d.size ≤ 100000) (hi : ∀ x ∈ xs, x.id.size ≤ 100000) :
 Calls Tryz.prog 48 #[.agg #[.slice A1 n1 c1, .slice A xs.length c], .string d] w (UndOut (unds d 0 (xs.map Nc.id)) w) := by
 have hc := hr.cap
 have HR := Lib.hid hr
 have HI := Lib.hid hi
 have HW0 : Hid (Below w.heap.size w (w.alloc (.cells #[.slice A1 n1 c1, .slice A xs.length c] 34))) := Lib.hid ((Below.refl _ w).alloc (Nat.le_refl _) _)
 have HS0 : Hid (w.heap.size + 1 ≤ (w.alloc (.cells #[.slice A1 n1 c1, .slice A xs.length c] 34)).heap.size) := Lib.hid (by simp)
 clear hr hi
 go_enter Tryz.func48, Tryz.ntmps48
 go_wp2_with fail
 go_loopg [12, 4] xs.length (fun g i o wr => ∃ (j : Nat) (Ao : Option Addr) (co : Nat) (O : List Nat), j + g = xs.length ∧ i = .int .i64 (j : Nat) ∧ o = .slice Ao O.length co ∧ O.length ≤ j ∧ Hid (unds d 0 (xs.map Nc.id) = O ++ unds d j ((xs.map Nc.id).drop j)) ∧ Hid (Ow wr w.heap.size 3 1 Ao O.length co (cN O)) ∧ Hid (Below w.heap.size w wr) ∧ Hid (w.heap.size + 1 ≤ wr.heap.size))
 case atStart => exact ⟨0, none, 0, [], by omega, rfl, rfl, by simp, Lib.hid (by simp), Lib.hid (Ow.nil _ _ _ _), HW0, HS0⟩
 case round =>
  obtain ⟨j, Ao, co, O, hj, rfl, rfl, hOj, HU, HO, HW, HS⟩ := hrel
  rename World => wo
  cases gk with
  | zero =>
    have hjj : ¬ ((j : Int) < (xs.length : Int)) := by omega
    have HR2 : Hid (unds d 0 (xs.map Nc.id) = O) := Lib.hid (by rw [HU.out, List.drop_of_length_le (by simp; omega)]; simp [unds])
    go_wp2_with fail
    go_ret
    exact ⟨Ao, co, by rw [HR2.out]; rfl, by rw [HR2.out]; exact HO.out, HW.out⟩
  | succ g =>
    have hjj : (j : Int) < (xs.length : Int) := by omega
    obtain ⟨x, hx⟩ := get_lt (l := xs) (i := j) (by omega)
    have hxs := HI.out x (List.mem_of_getElem? hx)
    have hu := unds_drop (d := d) (l := xs.map Nc.id) (i := j) (x := x.id) (by simp [hx])
    obtain ⟨ad, rfl, hcel⟩ := (HR.out.below HW.out).ncell hx
    obtain ⟨e0, e1, e2, e3, e4, e5, e6, e7, e8, e9, e10⟩ := cel11 hcel
    rw [hu] at HU
    clear hx hu hcel
    have HC := Lib.hid (cuts_any x.id (d ++ dot) (wo.alloc (.cells #[.string x.id, .int .i64 x.scope, .string x.rid, .string x.rty, .string x.rco, .slice x.P x.pn x.pc, .slice x.D x.dn x.dc, .bool x.ret, .slice x.I x.iN x.ic, .slice x.G x.gn x.gc, .slice x.A x.an x.ac] 80)) (by omega) (by rw [ByteArray.size_append]; show d.size + 1 ≤ 1000000; omega))
    cases hp : hasPre x.id (d ++ dot) with
    | false =>
      unfold CutOut at HC
      rw [hp] at HC
      have HU2 : Hid (unds d 0 (xs.map Nc.id) = O ++ unds d (j + 1) ((xs.map Nc.id).drop (j + 1))) := Lib.hid (by rw [HU.out, if_neg]; unfold und; rw [hp]; simp)
      clear hp
      go_wp2_with fail
      refine HC.out.mono ?_
      rintro e w' ⟨rfl, rfl⟩
      go_wp2_with fail
      go_roundg g
      case measure => omega
      case rel => exact ⟨j + 1, Ao, co, O, by omega, by go_num, rfl, by omega, HU2, Lib.hid (HO.out.alloc _), Lib.hid (HW.out.alloc HW.out.size _), Lib.hid (by simp; have := HS.out; omega)⟩
    | true =>
      unfold CutOut at HC
      rw [hp] at HC
      by_cases hE : cutP x.id (d ++ dot) = ByteArray.empty
      ·have HU2 : Hid (unds d 0 (xs.map Nc.id) = O ++ unds d (j + 1) ((xs.map Nc.id).drop (j + 1))) := Lib.hid (by rw [HU.out, if_neg]; unfold und; rw [bEq_iff.2 hE]; simp)
       rw [hE] at HC
       clear hp hE
       go_wp2_with fail
       refine HC.out.mono ?_
       rintro e w' ⟨rfl, rfl⟩
       go_wp2_with fail
       go_roundg g
       case measure => omega
       case rel => exact ⟨j + 1, Ao, co, O, by omega, by go_num, rfl, by omega, HU2, Lib.hid (HO.out.alloc _), Lib.hid (HW.out.alloc HW.out.size _), Lib.hid (by simp; have := HS.out; omega)⟩
      ·have HU2 : Hid (unds d 0 (xs.map Nc.id) = (O ++ [j]) ++ unds d (j + 1) ((xs.map Nc.id).drop (j + 1))) := Lib.hid (by rw [HU.out, if_pos (by unfold und; rw [hp, bEq_ne hE]; rfl)]; simp)
       obtain ⟨rst, hrst⟩ : ∃ rst, rst = cutP x.id (d ++ dot) := ⟨_, rfl⟩
       rw [← hrst] at HC hE
       have hE2 : ¬ (rst.toList = []) := fun e => hE (ba_ext (by rw [← Lib.toList_data, e]; rfl))
       have hE3 : (!rst.toList.isEmpty) = true := by simpa using hE2
       clear hp hE hrst
       go_wp2_with fail
       refine HC.out.mono ?_
       rintro e w' ⟨rfl, rfl⟩
       have HON := Lib.hid (HO.out.alloc (.cells #[.string x.id, .int .i64 x.scope, .string x.rid, .string x.rty, .string x.rco, .slice x.P x.pn x.pc, .slice x.D x.dn x.dc, .bool x.ret, .slice x.I x.iN x.ic, .slice x.G x.gn x.gc, .slice x.A x.an x.ac] 80))
       have HWN := Lib.hid (HW.out.alloc HW.out.size (.cells #[.string x.id, .int .i64 x.scope, .string x.rid, .string x.rty, .string x.rco, .slice x.P x.pn x.pc, .slice x.D x.dn x.dc, .bool x.ret, .slice x.I x.iN x.ic, .slice x.G x.gn x.gc, .slice x.A x.an x.ac] 80))
       have HSN : Hid (w.heap.size + 2 ≤ (wo.alloc (.cells #[.string x.id, .int .i64 x.scope, .string x.rid, .string x.rty, .string x.rco, .slice x.P x.pn x.pc, .slice x.D x.dn x.dc, .bool x.ret, .slice x.I x.iN x.ic, .slice x.G x.gn x.gc, .slice x.A x.an x.ac] 80)).heap.size) := Lib.hid (by simp; have := HS.out; omega)
       obtain ⟨w5, hw5⟩ : ∃ w5, w5 = wo.alloc (.cells #[.string x.id, .int .i64 x.scope, .string x.rid, .string x.rty, .string x.rco, .slice x.P x.pn x.pc, .slice x.D x.dn x.dc, .bool x.ret, .slice x.I x.iN x.ic, .slice x.G x.gn x.gc, .slice x.A x.an x.ac] 80) := ⟨_, rfl⟩
       rw [← hw5] at HON HWN HSN
       rw [← hw5]
       clear hw5
       go_wp2_with (at_builtin; refine step_int rfl (.tmp 30) (.tmp 32) rfl w.heap.size Ao co O.length (cN O) rfl (HON.out.alloc _) _ 1 1 [.int .i64 (j : Int)] rfl (Rd.lit _ 1 1 #[.int .i64 (j : Int)] _ _ rfl (by simp [maxLen])) (by simp [Value.oneCell']) (by omega) (by simp; have := HSN.out; omega) ?_; intro A' c' w6 ho hg hat; have HO6 := Lib.hid ho; have HG6 := Lib.hid hg; clear ho hg hat)
       go_roundg g
       case measure => omega
       case rel => exact ⟨j + 1, A', c', O ++ [j], by omega, by go_num, by simp, by simp; omega, HU2, Lib.hid (by have := HO6.out; simpa [cN] using this), Lib.hid ((HWN.out.alloc HWN.out.size _).grown HG6.out (by simp; have := HSN.out; omega) (fun k hk => (HON.out.lt hk).1)), Lib.hid (by have := HG6.out.size; simp at this; have := HSN.out; omega)⟩
end Go.Proofs.YtgdfkbalnpfdgaaGreatDoor
