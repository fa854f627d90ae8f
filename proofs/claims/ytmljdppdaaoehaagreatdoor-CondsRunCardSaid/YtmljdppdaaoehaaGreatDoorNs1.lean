/- Small functions that nest calls: bare, add, Contains, CutPrefix, Under's parts; appends onto rows of structs. -/
import Derived.Test.YtmljdppdaaoehaaGreatDoorGtTmpl
namespace Go.Proofs.YtmljdppdaaoehaaGreatDoor
open Go.RowKit
set_option linter.unusedVariables false
set_option linter.unusedSimpArgs false

theorem info_str : (Tryz.prog.info? 9).map (fun i => (i.zero, i.size, i.bytes)) = some (some (.string ByteArray.empty), 1, 16) := by kernel_rfl
theorem info_strs : (Tryz.prog.info? 35).map (fun i => (i.zero, i.size, i.bytes)) = some (some (.slice none 0 0), 1, 24) := by kernel_rfl
/-- a row behind a slice that has no room: new memory -/
theorem wpList_fresh {w : World} {ops : Array Oper} {rest : List Oper} {o : Oper} {a : Act} {Q : Exit → Act → World → Prop} {t e : TypeId} {z : Value} {sz b : Nat}
    (hinfo : (Tryz.prog.info? e).map (fun i => (i.zero, i.size, i.bytes)) = some (some z, sz, b)) (ht : Tryz.prog.underlying t = some (.slice e)) (hzs : z.cells.size = sz) (hsz : 0 < sz)
    (hg : o.guard = none) (s x : Operand) (hop : o.op = Op.call { callee := Callee.builtin Builtin.append, args := #[s, x], argTypes := #[t, t] })
    (A0 : Option Addr) (n : Nat) (xs : List Value) (hs : a.eval s = .slice A0 n n) (hr0 : ∃ c, Rd w sz A0 n c xs) (h0 : A0 = none → n = 0)
    (A : Option Addr) (m c : Nat) (news : List Value) (hx : a.eval x = .slice A m c) (hr : Rd w sz A m c news) (h1 : ∀ u ∈ news, u.oneCell' = true) (hm : 0 < m)
    (hb1 : n + m ≤ 140737488355328) (hb2 : (n + m) * b ≤ 140737488355328)
    (hK : ∀ A' c' w', Ow w' w.heap.size e sz A' (n + m) c' (xs ++ news) → Below w.heap.size w w' → wpList Tryz.prog ops Q rest (a.put o.dst (.slice A' (n + m) c')) w') :
    wpList Tryz.prog ops Q (o :: rest) a w := by
  obtain ⟨i0, hi, hz0, hz1, hz2⟩ := info_parts hinfo
  obtain ⟨c0, hr0⟩ := hr0
  obtain ⟨ad, rfl, hc⟩ := hr.addr hm hsz
  refine Go.wpList_append_grows w hg s x t hop e i0 z sz b ht hi hz0 hz1 hz2 hzs hsz A0 n n xs hs (fun e => ⟨h0 e, h0 e⟩) hr0.len (fun b' e j u hu => by subst e; exact hr0.get hu) ad m c news hx hr.len (fun j u hu => hr.get hu) h1 (by omega) (by unfold maxLen; omega) hb2 ?_
  intro v' w' hown hgr
  obtain ⟨A', c', rfl⟩ := own_form hown
  exact hK A' c' w' (Ow.of_own hown) ⟨hgr.os, hgr.tape, hgr.output, hgr.size, fun k hk => hgr.block k hk (fun e => by cases e)⟩

def AddOut (sz : Nat) (e : TypeId) (m : Nat) (xs : List Value) (w : World) (en : Ending) (w' : World) : Prop := ∃ A' c', en = .returned (.slice A' m c') ∧ Ow w' w.heap.size e sz A' m c' xs ∧ Below w.heap.size w w'
theorem tl_eq {a b : ByteArray} (h : a = b) : (a.toList == b.toList) = true := by subst h; simp
theorem tl_ne {a b : ByteArray} (h : a ≠ b) : (a.toList == b.toList) = false := by
  rw [beq_eq_false_iff_ne]
  intro e
  rw [Lib.toList_data, Lib.toList_data] at e
  apply h
  cases a; cases b
  simp at e
  congr
/-! ### Texts in rows -/
def bEq (a b : ByteArray) : Bool := a.data.toList == b.data.toList
theorem bEq_iff {a b : ByteArray} : bEq a b = true ↔ a = b := by
  unfold bEq
  rw [beq_iff_eq]
  exact ⟨fun h => by cases a; cases b; simp at h; congr, fun h => by rw [h]⟩
theorem bEq_ne {a b : ByteArray} (h : a ≠ b) : bEq a b = false := by
  cases e : bEq a b with
  | false => rfl
  | true => exact absurd (bEq_iff.1 e) h
def sHas (x : ByteArray) (l : List ByteArray) : Bool := l.any (bEq x)
theorem sHas_iff {x : ByteArray} {l : List ByteArray} : sHas x l = true ↔ x ∈ l := by
  unfold sHas
  rw [List.any_eq_true]
  exact ⟨fun ⟨y, h1, h2⟩ => by rw [bEq_iff.1 h2]; exact h1, fun h => ⟨x, h, bEq_iff.2 rfl⟩⟩
theorem sidx_any (S : Nat → Prop) (A : Option Addr) (c : Nat) (l : List ByteArray) (x : ByteArray) (w : World) (h : Ss S w A c l) (hl : l.length ≤ 1000000) :
    Calls Tryz.prog 66 #[.slice A l.length c, .string x] w fun e w' => (∃ z : Int, e = .returned (.int .i64 z) ∧ -1 ≤ z ∧ z ≤ 1000000 ∧ decide (0 ≤ z) = sHas x l) ∧ w = w' := by
  have hc := h.cap
  have HL := Lib.hid h
  clear h
  go_enter Tryz.func66, Tryz.ntmps66
  go_wp2_with fail
  go_loopg [8] l.length (fun g i wr => ∃ j : Nat, j + g = l.length ∧ i = .int .i64 (j : Nat) ∧ wr = w ∧ Hid (sHas x l = sHas x (l.drop j)))
  case atStart => exact ⟨0, by omega, rfl, rfl, Lib.hid rfl⟩
  case round =>
    obtain ⟨j, hj, rfl, rfl, HD⟩ := hrel
    cases gk with
    | zero =>
      have hjj : ¬ ((j : Int) < (l.length : Int)) := by omega
      have HR : Hid (sHas x l = false) := Lib.hid (by rw [HD.out, List.drop_of_length_le (by omega)]; simp [sHas])
      go_wp2_with fail
      go_ret
      exact ⟨⟨-1, rfl, by omega, by omega, by rw [HR.out]; rfl⟩, rfl⟩
    | succ g =>
      have hjj : (j : Int) < (l.length : Int) := by omega
      obtain ⟨y, hy⟩ := get_lt (l := l) (i := j) (by omega)
      have hd := drop_cons hy
      obtain ⟨ad, rfl, hyc, hys⟩ := HL.out.str hy
      by_cases hxy : x = y
      · have HC : Hid (sHas x l = true) := Lib.hid (by rw [HD.out, hd]; simp [sHas, bEq_iff.2 hxy])
        have hb := tl_eq hxy
        clear hy hd hxy
        go_wp2_with fail
        go_ret
        exact ⟨⟨(j : Int), rfl, by omega, by omega, by rw [HC.out]; exact decide_eq_true (by omega)⟩, rfl⟩
      · have HC : Hid (sHas x l = sHas x (l.drop (j + 1))) := Lib.hid (by rw [HD.out, hd]; simp [sHas, bEq_ne hxy])
        have hb := tl_ne hxy
        clear hy hd hxy
        go_wp2_with fail
        go_roundg g
        case measure => omega
        case rel => exact ⟨j + 1, by omega, by go_num, rfl, HC⟩
def SameBool (b : Bool) (w : World) (e : Ending) (w' : World) : Prop := e = .returned (.bool b) ∧ w = w'
theorem scont_any (S : Nat → Prop) (A : Option Addr) (c : Nat) (l : List ByteArray) (x : ByteArray) (w : World) (h : Ss S w A c l) (hl : l.length ≤ 1000000) :
    Calls Tryz.prog 44 #[.slice A l.length c, .string x] w (SameBool (sHas x l) w) := by
  have HF := Lib.hid (sidx_any S A c l x w h hl)
  clear h
  go_enter Tryz.func44, Tryz.ntmps44
  go_wp2_with fail
  refine HF.out.mono ?_
  rintro e w' ⟨⟨z, rfl, hz1, hz2, hz⟩, rfl⟩
  have HZ := Lib.hid hz
  clear hz
  go_wp2_with fail
  go_ret
  exact ⟨by rw [← HZ.out]; rfl, rfl⟩

/-! ### Beginnings of texts -/
theorem run_slice_upto_str {P : Program} (w : World) (t : TypeId) (s : ByteArray) (ht : P.underlying t = some .string) (kh : IntKind) (h : Nat) (h' : Int) (e2 : h' = (h : Int)) (h2 : h ≤ s.size) :
    (Instr.slice t (.string s) none (some (.int kh h')) none).run P w = .ok (.string (s.extract 0 h)) w := by
  subst e2
  simp [Instr.slice, run_underlying ht, Instr.sliceBounds, run_sliceBound, h2]
theorem run_slice_from_str {P : Program} (w : World) (t : TypeId) (s : ByteArray) (ht : P.underlying t = some .string) (kl : IntKind) (l : Nat) (l' : Int) (e1 : l' = (l : Int)) (h1 : l ≤ s.size) :
    (Instr.slice t (.string s) (some (.int kl l')) none none).run P w = .ok (.string (s.extract l s.size)) w := by
  subst e1
  simp [Instr.slice, run_underlying ht, Instr.sliceBounds, run_sliceBound, h1]
def hasPre (s p : ByteArray) : Bool := p.data.toList.isPrefixOf s.data.toList
theorem ba_ext {a b : ByteArray} (h : a.data.toList = b.data.toList) : a = b := by
  cases a; cases b
  simp at h
  congr
theorem ext_list (s : ByteArray) (a b : Nat) : (s.extract a b).data.toList = (s.data.toList.drop a).take (b - a) := by rw [← Lib.toList_data]; exact Lib.extract_toList s a b
theorem hasPre_iff {s p : ByteArray} : hasPre s p = true ↔ p.size ≤ s.size ∧ s.extract 0 p.size = p := by
  unfold hasPre
  rw [List.isPrefixOf_iff_prefix]
  have e1 : p.data.toList.length = p.size := by simp
  have e2 : s.data.toList.length = s.size := by simp
  constructor
  · rintro ⟨r, h⟩
    refine ⟨by have := congrArg List.length h; simp at this; omega, ba_ext ?_⟩
    rw [ext_list, ← h]; simp
  · rintro ⟨h1, h2⟩
    have h3 : (s.extract 0 p.size).data.toList = p.data.toList := by rw [h2]
    rw [ext_list, List.drop_zero, Nat.sub_zero] at h3
    exact ⟨s.data.toList.drop p.size, by rw [← h3]; exact List.take_append_drop _ _⟩
def cutP (s p : ByteArray) : ByteArray := if hasPre s p then s.extract p.size s.size else s
def CutOut (s p : ByteArray) (w : World) (e : Ending) (w' : World) : Prop := e = .returned (.tuple #[.string (cutP s p), .bool (hasPre s p)]) ∧ w = w'
end Go.Proofs.YtmljdppdaaoehaaGreatDoor
