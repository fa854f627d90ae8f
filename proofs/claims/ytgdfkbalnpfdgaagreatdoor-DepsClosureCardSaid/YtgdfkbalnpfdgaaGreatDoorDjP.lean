/- Deps: the first of a row that is so, by a closure. -/
import Derived.Test.YtgdfkbalnpfdgaaGreatDoorPnc
import Derived.Test.YtgdfkbalnpfdgaaGreatDoorDiZ
namespace Go.Proofs.YtgdfkbalnpfdgaaGreatDoor
open Go.RowKit
set_option linter.unusedVariables false
set_option linter.unusedSimpArgs false
set_option maxRecDepth 100000 in
set_option maxHeartbeats 4000000 in
theorem ipmi_any (S : Nat → Prop) (fid : FuncId) (caps : Array Value) (p : Pm → Bool) (A : Option Addr) (c : Nat) (l : List Pm) (w : World) (hl : Ls S w 10 128 Pm.tr A c l) (hn : l.length ≤ 1000000) (hcf : ∀ args w', (callFunc fid args).run Tryz.prog w' = .ok (.enter fid args) w') (hf : AskQ Pm.tr fid caps p l S w) :
 Calls Tryz.prog 121 #[.slice A l.length c, .func (.func fid) #[] caps] w fun e w' => e = .returned (.int .i64 (idxP p l)) ∧ Below w.heap.size w w' := by
 have HL := Lib.hid hl
 have hcap := hl.cap
 have hbyt := hl.bytes
 have HF := Lib.hid hf
 clear hl hf
 go_enter Tryz.func121, Tryz.ntmps121
 go_wp2_with fail
 go_loopg [8] l.length (fun g i wr => ∃ j : Nat, j + g = l.length ∧ i = .int .i64 (j : Nat) ∧ Hid (∀ i x, i < j → l[i]? = some x → p x = false) ∧ Hid (Below w.heap.size w wr))
 case atStart => exact ⟨0, by omega, rfl, Lib.hid (fun i x hi _ => absurd hi (by omega)), Lib.hid (Below.refl _ _)⟩
 case round =>
  obtain ⟨j, hj, rfl, HN, HB⟩ := hrel
  rename World => wo
  cases gk with
  | zero =>
    have hjj : ¬ ((j : Int) < (l.length : Int)) := by omega
    have HE : Hid (idxP p l = -1) := Lib.hid (idxP_none (fun i x hx => HN.out i x (by have := (List.getElem?_eq_some_iff.1 hx).1; omega) hx))
    go_wp2_with fail
    go_ret
    rw [HE.out]
    exact ⟨rfl, HB.out⟩
  | succ g =>
    have hjj : (j : Int) < (l.length : Int) := by omega
    have hji : (0 : Int) ≤ (j : Int) ∧ (j : Int) < (l.length : Int) := by omega
    obtain ⟨k, hk⟩ := get_lt (l := l) (i := j) (by omega)
    obtain ⟨ad, cs, rfl, hxt, hxc⟩ := (HL.out.below HB.out).elem Pm.trlen hk
    have HXT := Lib.hid hxt
    obtain ⟨vs, A3, c3, rfl, -, hxv, -⟩ := Pm.at_iff.1 hxt
    obtain ⟨A2, c2, B2, d2, rfl, -⟩ := Vl.at_iff.1 hxv
    obtain ⟨e0, e1, e2, e3, e4, e5, e6, e7, e8, e9⟩ := cel10 hxc
    clear hxv
    have HCL := Lib.hid (HF.out k (List.mem_of_getElem? hk) _ wo HB.out HXT.out)
    have HE : Hid (p k = true → idxP p l = (j : Int)) := Lib.hid (fun hq => idxP_some hk hq HN.out)
    have HN2 : Hid (p k = false → ∀ i x, i < j + 1 → l[i]? = some x → p x = false) := Lib.hid (fun hq i x hi hx => by
     rcases Nat.lt_or_ge i j with h | h
     ·exact HN.out i x h hx
     ·rw [show i = j by omega, hk] at hx; injection hx with hx; rw [← hx]; exact hq)
    clear hk hxt hxc
    cases hp : p k with
    | true =>
      rw [hp] at HCL
      have HE2 := Lib.hid (HE.out hp)
      clear hp HE
      go_wp2_with fail
      refine HCL.out.mono ?_
      rintro e w2 ⟨rfl, hb2⟩
      have HB2 := Lib.hid (HB.out.trans (hb2.mono HB.out.size))
      clear hb2
      go_wp2_with fail
      go_ret
      rw [HE2.out]
      exact ⟨rfl, HB2.out⟩
    | false =>
      rw [hp] at HCL
      have HN3 := Lib.hid (HN2.out hp)
      clear hp HE
      go_wp2_with fail
      refine HCL.out.mono ?_
      rintro e w2 ⟨rfl, hb2⟩
      have HB2 := Lib.hid (HB.out.trans (hb2.mono HB.out.size))
      clear hb2
      go_wp2_with fail
      go_roundg g
      case measure => omega
      case rel => exact ⟨j + 1, by omega, by go_num, HN3, HB2⟩
theorem ipmc_any (S : Nat → Prop) (fid : FuncId) (caps : Array Value) (p : Pm → Bool) (A : Option Addr) (c : Nat) (l : List Pm) (w : World) (hl : Ls S w 10 128 Pm.tr A c l) (hn : l.length ≤ 1000000) (hcf : ∀ args w', (callFunc fid args).run Tryz.prog w' = .ok (.enter fid args) w') (hf : AskQ Pm.tr fid caps p l S w) :
 Calls Tryz.prog 76 #[.slice A l.length c, .func (.func fid) #[] caps] w (BoolB (l.any p) w) := by
 have HC := Lib.hid (ipmi_any S fid caps p A c l w hl hn hcf hf)
 have HG := Lib.hid (idxP_ge p l)
 obtain ⟨z, hz⟩ : ∃ z, z = idxP p l := ⟨_, rfl⟩
 rw [← hz] at HC HG
 clear hz hl hf hcf
 go_enter Tryz.func76, Tryz.ntmps76
 go_wp2_with fail
 refine HC.out.mono ?_
 rintro e w2 ⟨rfl, hb⟩
 have HB := Lib.hid hb
 clear hb
 go_wp2_with fail
 go_ret
 exact ⟨by rw [← HG.out]; try rfl, HB.out⟩
set_option maxRecDepth 100000 in
set_option maxHeartbeats 4000000 in
theorem ipri_any (S : Nat → Prop) (fid : FuncId) (caps : Array Value) (p : Pr → Bool) (A : Option Addr) (c : Nat) (l : List Pr) (w : World) (hl : Ls S w 7 104 Pr.tr A c l) (hn : l.length ≤ 1000000) (hcf : ∀ args w', (callFunc fid args).run Tryz.prog w' = .ok (.enter fid args) w') (hf : AskQ Pr.tr fid caps p l S w) :
 Calls Tryz.prog 79 #[.slice A l.length c, .func (.func fid) #[] caps] w fun e w' => e = .returned (.int .i64 (idxP p l)) ∧ Below w.heap.size w w' := by
 have HL := Lib.hid hl
 have hcap := hl.cap
 have hbyt := hl.bytes
 have HF := Lib.hid hf
 clear hl hf
 go_enter Tryz.func79, Tryz.ntmps79
 go_wp2_with fail
 go_loopg [8] l.length (fun g i wr => ∃ j : Nat, j + g = l.length ∧ i = .int .i64 (j : Nat) ∧ Hid (∀ i x, i < j → l[i]? = some x → p x = false) ∧ Hid (Below w.heap.size w wr))
 case atStart => exact ⟨0, by omega, rfl, Lib.hid (fun i x hi _ => absurd hi (by omega)), Lib.hid (Below.refl _ _)⟩
 case round =>
  obtain ⟨j, hj, rfl, HN, HB⟩ := hrel
  rename World => wo
  cases gk with
  | zero =>
    have hjj : ¬ ((j : Int) < (l.length : Int)) := by omega
    have HE : Hid (idxP p l = -1) := Lib.hid (idxP_none (fun i x hx => HN.out i x (by have := (List.getElem?_eq_some_iff.1 hx).1; omega) hx))
    go_wp2_with fail
    go_ret
    rw [HE.out]
    exact ⟨rfl, HB.out⟩
  | succ g =>
    have hjj : (j : Int) < (l.length : Int) := by omega
    have hji : (0 : Int) ≤ (j : Int) ∧ (j : Int) < (l.length : Int) := by omega
    obtain ⟨k, hk⟩ := get_lt (l := l) (i := j) (by omega)
    obtain ⟨ad, cs, rfl, hxt, hxc⟩ := (HL.out.below HB.out).elem Pr.trlen hk
    have HXT := Lib.hid hxt
    obtain ⟨vs, rfl, -, hxv⟩ := Pr.at_iff.1 hxt
    obtain ⟨A1, n1, rfl, -⟩ := Ex.at_iff.1 hxv
    obtain ⟨e0, e1, e2, e3, e4, e5, e6⟩ := cel7 hxc
    clear hxv
    have HCL := Lib.hid (HF.out k (List.mem_of_getElem? hk) _ wo HB.out HXT.out)
    have HE : Hid (p k = true → idxP p l = (j : Int)) := Lib.hid (fun hq => idxP_some hk hq HN.out)
    have HN2 : Hid (p k = false → ∀ i x, i < j + 1 → l[i]? = some x → p x = false) := Lib.hid (fun hq i x hi hx => by
     rcases Nat.lt_or_ge i j with h | h
     ·exact HN.out i x h hx
     ·rw [show i = j by omega, hk] at hx; injection hx with hx; rw [← hx]; exact hq)
    clear hk hxt hxc
    cases hp : p k with
    | true =>
      rw [hp] at HCL
      have HE2 := Lib.hid (HE.out hp)
      clear hp HE
      go_wp2_with fail
      refine HCL.out.mono ?_
      rintro e w2 ⟨rfl, hb2⟩
      have HB2 := Lib.hid (HB.out.trans (hb2.mono HB.out.size))
      clear hb2
      go_wp2_with fail
      go_ret
      rw [HE2.out]
      exact ⟨rfl, HB2.out⟩
    | false =>
      rw [hp] at HCL
      have HN3 := Lib.hid (HN2.out hp)
      clear hp HE
      go_wp2_with fail
      refine HCL.out.mono ?_
      rintro e w2 ⟨rfl, hb2⟩
      have HB2 := Lib.hid (HB.out.trans (hb2.mono HB.out.size))
      clear hb2
      go_wp2_with fail
      go_roundg g
      case measure => omega
      case rel => exact ⟨j + 1, by omega, by go_num, HN3, HB2⟩
set_option maxRecDepth 100000 in
set_option maxHeartbeats 4000000 in
theorem igvi_any (S : Nat → Prop) (fid : FuncId) (caps : Array Value) (p : Gv → Bool) (A : Option Addr) (c : Nat) (l : List Gv) (w : World) (hl : Ls S w 8 104 Gv.tr A c l) (hn : l.length ≤ 1000000) (hcf : ∀ args w', (callFunc fid args).run Tryz.prog w' = .ok (.enter fid args) w') (hf : AskQ Gv.tr fid caps p l S w) :
 Calls Tryz.prog 103 #[.slice A l.length c, .func (.func fid) #[] caps] w fun e w' => e = .returned (.int .i64 (idxP p l)) ∧ Below w.heap.size w w' := by
 have HL := Lib.hid hl
 have hcap := hl.cap
 have hbyt := hl.bytes
 have HF := Lib.hid hf
 clear hl hf
 go_enter Tryz.func103, Tryz.ntmps103
 go_wp2_with fail
 go_loopg [8] l.length (fun g i wr => ∃ j : Nat, j + g = l.length ∧ i = .int .i64 (j : Nat) ∧ Hid (∀ i x, i < j → l[i]? = some x → p x = false) ∧ Hid (Below w.heap.size w wr))
 case atStart => exact ⟨0, by omega, rfl, Lib.hid (fun i x hi _ => absurd hi (by omega)), Lib.hid (Below.refl _ _)⟩
 case round =>
  obtain ⟨j, hj, rfl, HN, HB⟩ := hrel
  rename World => wo
  cases gk with
  | zero =>
    have hjj : ¬ ((j : Int) < (l.length : Int)) := by omega
    have HE : Hid (idxP p l = -1) := Lib.hid (idxP_none (fun i x hx => HN.out i x (by have := (List.getElem?_eq_some_iff.1 hx).1; omega) hx))
    go_wp2_with fail
    go_ret
    rw [HE.out]
    exact ⟨rfl, HB.out⟩
  | succ g =>
    have hjj : (j : Int) < (l.length : Int) := by omega
    have hji : (0 : Int) ≤ (j : Int) ∧ (j : Int) < (l.length : Int) := by omega
    obtain ⟨k, hk⟩ := get_lt (l := l) (i := j) (by omega)
    obtain ⟨ad, cs, rfl, hxt, hxc⟩ := (HL.out.below HB.out).elem Gv.trlen hk
    have HXT := Lib.hid hxt
    obtain ⟨vs, rfl, -, hxv⟩ := Gv.at_iff.1 hxt
    obtain ⟨A2, c2, B2, d2, rfl, -⟩ := Vl.at_iff.1 hxv
    obtain ⟨e0, e1, e2, e3, e4, e5, e6, e7⟩ := cel8 hxc
    clear hxv
    have HCL := Lib.hid (HF.out k (List.mem_of_getElem? hk) _ wo HB.out HXT.out)
    have HE : Hid (p k = true → idxP p l = (j : Int)) := Lib.hid (fun hq => idxP_some hk hq HN.out)
    have HN2 : Hid (p k = false → ∀ i x, i < j + 1 → l[i]? = some x → p x = false) := Lib.hid (fun hq i x hi hx => by
     rcases Nat.lt_or_ge i j with h | h
     ·exact HN.out i x h hx
     ·rw [show i = j by omega, hk] at hx; injection hx with hx; rw [← hx]; exact hq)
    clear hk hxt hxc
    cases hp : p k with
    | true =>
      rw [hp] at HCL
      have HE2 := Lib.hid (HE.out hp)
      clear hp HE
      go_wp2_with fail
      refine HCL.out.mono ?_
      rintro e w2 ⟨rfl, hb2⟩
      have HB2 := Lib.hid (HB.out.trans (hb2.mono HB.out.size))
      clear hb2
      go_wp2_with fail
      go_ret
      rw [HE2.out]
      exact ⟨rfl, HB2.out⟩
    | false =>
      rw [hp] at HCL
      have HN3 := Lib.hid (HN2.out hp)
      clear hp HE
      go_wp2_with fail
      refine HCL.out.mono ?_
      rintro e w2 ⟨rfl, hb2⟩
      have HB2 := Lib.hid (HB.out.trans (hb2.mono HB.out.size))
      clear hb2
      go_wp2_with fail
      go_roundg g
      case measure => omega
      case rel => exact ⟨j + 1, by omega, by go_num, HN3, HB2⟩
set_option maxRecDepth 100000 in
set_option maxHeartbeats 4000000 in
theorem ioui_any (S : Nat → Prop) (fid : FuncId) (caps : Array Value) (p : Ou → Bool) (A : Option Addr) (c : Nat) (l : List Ou) (w : World) (hl : Ls S w 8 120 Ou.tr A c l) (hn : l.length ≤ 1000000) (hcf : ∀ args w', (callFunc fid args).run Tryz.prog w' = .ok (.enter fid args) w') (hf : AskQ Ou.tr fid caps p l S w) :
 Calls Tryz.prog 83 #[.slice A l.length c, .func (.func fid) #[] caps] w fun e w' => e = .returned (.int .i64 (idxP p l)) ∧ Below w.heap.size w w' := by
 have HL := Lib.hid hl
 have hcap := hl.cap
 have hbyt := hl.bytes
 have HF := Lib.hid hf
 clear hl hf
 go_enter Tryz.func83, Tryz.ntmps83
 go_wp2_with fail
 go_loopg [8] l.length (fun g i wr => ∃ j : Nat, j + g = l.length ∧ i = .int .i64 (j : Nat) ∧ Hid (∀ i x, i < j → l[i]? = some x → p x = false) ∧ Hid (Below w.heap.size w wr))
 case atStart => exact ⟨0, by omega, rfl, Lib.hid (fun i x hi _ => absurd hi (by omega)), Lib.hid (Below.refl _ _)⟩
 case round =>
  obtain ⟨j, hj, rfl, HN, HB⟩ := hrel
  rename World => wo
  cases gk with
  | zero =>
    have hjj : ¬ ((j : Int) < (l.length : Int)) := by omega
    have HE : Hid (idxP p l = -1) := Lib.hid (idxP_none (fun i x hx => HN.out i x (by have := (List.getElem?_eq_some_iff.1 hx).1; omega) hx))
    go_wp2_with fail
    go_ret
    rw [HE.out]
    exact ⟨rfl, HB.out⟩
  | succ g =>
    have hjj : (j : Int) < (l.length : Int) := by omega
    have hji : (0 : Int) ≤ (j : Int) ∧ (j : Int) < (l.length : Int) := by omega
    obtain ⟨k, hk⟩ := get_lt (l := l) (i := j) (by omega)
    obtain ⟨ad, cs, rfl, hxt, hxc⟩ := (HL.out.below HB.out).elem Ou.trlen hk
    have HXT := Lib.hid hxt
    obtain ⟨vs, rfl, -, -, hxv⟩ := Ou.at_iff.1 hxt
    obtain ⟨A1, n1, rfl, -⟩ := Ex.at_iff.1 hxv
    obtain ⟨e0, e1, e2, e3, e4, e5, e6, e7⟩ := cel8 hxc
    clear hxv
    have HCL := Lib.hid (HF.out k (List.mem_of_getElem? hk) _ wo HB.out HXT.out)
    have HE : Hid (p k = true → idxP p l = (j : Int)) := Lib.hid (fun hq => idxP_some hk hq HN.out)
    have HN2 : Hid (p k = false → ∀ i x, i < j + 1 → l[i]? = some x → p x = false) := Lib.hid (fun hq i x hi hx => by
     rcases Nat.lt_or_ge i j with h | h
     ·exact HN.out i x h hx
     ·rw [show i = j by omega, hk] at hx; injection hx with hx; rw [← hx]; exact hq)
    clear hk hxt hxc
    cases hp : p k with
    | true =>
      rw [hp] at HCL
      have HE2 := Lib.hid (HE.out hp)
      clear hp HE
      go_wp2_with fail
      refine HCL.out.mono ?_
      rintro e w2 ⟨rfl, hb2⟩
      have HB2 := Lib.hid (HB.out.trans (hb2.mono HB.out.size))
      clear hb2
      go_wp2_with fail
      go_ret
      rw [HE2.out]
      exact ⟨rfl, HB2.out⟩
    | false =>
      rw [hp] at HCL
      have HN3 := Lib.hid (HN2.out hp)
      clear hp HE
      go_wp2_with fail
      refine HCL.out.mono ?_
      rintro e w2 ⟨rfl, hb2⟩
      have HB2 := Lib.hid (HB.out.trans (hb2.mono HB.out.size))
      clear hb2
      go_wp2_with fail
      go_roundg g
      case measure => omega
      case rel => exact ⟨j + 1, by omega, by go_num, HN3, HB2⟩
open Go.RowKit
set_option linter.unusedVariables false
set_option linter.unusedSimpArgs false
structure Env where
 sc : List Sc
 nd : List Nd
 O : List (List (ByteArray × Bool))
 on : List Bool
structure Pk where
 out : Bool
 scope : Int
 name : ByteArray
structure Wst where
 got : Int → Bool
 seen : Pk → Nat
 e : Nat
instance : DecidableEq Pk := fun a b =>
 if h : a.out = b.out ∧ a.scope = b.scope ∧ a.name = b.name then isTrue (by cases a; cases b; simp_all) else isFalse (fun e => h (by subst e; exact ⟨rfl, rfl, rfl⟩))
def Wst.fail (s : Wst) (e : Nat) : Wst := { s with e := if s.e = 0 then e else s.e }
def Wst.mark (s : Wst) (p : Pk) (n : Nat) : Wst := { s with seen := fun q => if q = p then n else s.seen q }
def Wst.hit (s : Wst) (k : Nat) : Wst := { s with got := fput s.got (k : Int) true }
def st0 : Wst := ⟨fun _ => false, fun _ => 0, 0⟩
def scAt (Γ : Env) (sc : Int) : Option Sc := if 0 ≤ sc then Γ.sc[sc.toNat]? else none
def fndF (Γ : Env) (sc : Int) (name : ByteArray) : Option Nat := match scAt Γ sc with
 | none => none
 | some s => Γ.nd.findIdx? fun n => decide (n.scope = sc) && bEq n.id (s.pre ++ name)
def innF (Γ : Env) (sc : Int) (name : ByteArray) : Option Nat := match scAt Γ sc with
 | none => none
 | some s => Γ.sc.findIdx? fun n => decide (n.parent = sc) && bEq n.pre (s.pre ++ name ++ dot)
def holdF (Γ : Env) (sc : Nat) (name : ByteArray) : Bool × Bool := match (Γ.O.getD sc []).find? (fun x => bEq x.1 name) with
 | none => (bEq name ByteArray.empty, false)
 | some x => (x.2, true)
inductive Tk
 | ex (sc : Nat) (x : Ex)
 | exs (sc : Nat) (l : List Ex)
 | ent (p : Pk) (sc : Nat) (x : Ex)
inductive Ac
 | stay
 | bad
 | hit (k : Nat)
 | task (t : Tk)
def outsD : ByteArray := ⟨#[79, 117, 116, 112, 117, 116, 115, 46]⟩
def nodeA (Γ : Env) (sc : Int) (name : ByteArray) : Ac := match fndF Γ sc name with
 | none => .bad
 | some k => if Γ.on.getD k false then .hit k else .bad
def refA (Γ : Env) (sc : Nat) (x : Ex) : Ac := match Γ.sc[sc]? with
 | none => .stay
 | some c => if c.t.params.any (fun p => bEq p.name x.name) then
  (match c.args.find? (fun a => bEq a.name x.name) with
    | none => .stay
    | some a => if sc = 0 then .stay else .task (.ent ⟨false, (sc : Int), x.name⟩ c.parent.toNat a.e))
   else nodeA Γ (sc : Int) x.name
def attA (Γ : Env) (sc : Nat) (x : Ex) : Ac := match innF Γ (sc : Int) x.name with
 | none => nodeA Γ (sc : Int) x.name
 | some k => match Γ.sc[k]? with
   | none => .stay
   | some c => if hasPre x.attr outsD = false ∨ bEq (cutP x.attr outsD) ByteArray.empty = true then .bad else
     match c.t.outs.find? (fun o => bEq o.name (cutP x.attr outsD)) with
     | none => .bad
     | some o => if (holdF Γ k o.cond).1 then .task (.ent ⟨true, (k : Int), cutP x.attr outsD⟩ k o.e) else .bad
def ifA (Γ : Env) (sc : Nat) (x : Ex) : Ac :=
 if (holdF Γ sc x.name).2 = false then .bad else
  match x.l with
  | [a, b] => .task (.ex sc (if (holdF Γ sc x.name).1 then a else b))
  | _ => .bad
def act (Γ : Env) (sc : Nat) (x : Ex) : Ac :=
 if x.kind = 3 then refA Γ sc x else if x.kind = 4 then attA Γ sc x else if x.kind = 6 then ifA Γ sc x else .task (.exs sc x.l)
inductive Wk (Γ : Env) : Wst → Tk → Wst → Prop
 | nil {s : Wst} {sc : Nat} : Wk Γ s (.exs sc []) s
 | cons {s s1 s2 : Wst} {sc : Nat} {x : Ex} {l : List Ex} : Wk Γ s (.ex sc x) s1 → Wk Γ s1 (.exs sc l) s2 → Wk Γ s (.exs sc (x :: l)) s2
 | err {s : Wst} {sc : Nat} {x : Ex} : s.e ≠ 0 → Wk Γ s (.ex sc x) s
 | stay {s : Wst} {sc : Nat} {x : Ex} : s.e = 0 → act Γ sc x = .stay → Wk Γ s (.ex sc x) s
 | bad {s : Wst} {sc : Nat} {x : Ex} : s.e = 0 → act Γ sc x = .bad → Wk Γ s (.ex sc x) (s.fail 160)
 | hit {s : Wst} {sc : Nat} {x : Ex} {k : Nat} : s.e = 0 → act Γ sc x = .hit k → Wk Γ s (.ex sc x) (s.hit k)
 | go {s s' : Wst} {sc : Nat} {x : Ex} {t : Tk} : s.e = 0 → act Γ sc x = .task t → Wk Γ s t s' → Wk Γ s (.ex sc x) s'
 | cyc {s : Wst} {p : Pk} {sc : Nat} {x : Ex} : s.seen p = 1 → Wk Γ s (.ent p sc x) (s.fail 200)
 | done {s : Wst} {p : Pk} {sc : Nat} {x : Ex} : s.seen p ≠ 0 → s.seen p ≠ 1 → Wk Γ s (.ent p sc x) s
 | ent {s s' : Wst} {p : Pk} {sc : Nat} {x : Ex} : s.seen p = 0 → Wk Γ (s.mark p 1) (.ex sc x) s' → Wk Γ s (.ent p sc x) (s'.mark p 2)
def okKey (Γ : Env) (k : Int) : Prop := ∃ j : Nat, k = (j : Int) ∧ j < Γ.nd.length ∧ Γ.on.getD j false = true
theorem fndF_lt {Γ : Env} {sc : Int} {name : ByteArray} {k : Nat} (h : fndF Γ sc name = some k) : k < Γ.nd.length := by
 unfold fndF at h
 split at h
 ·cases h
 ·exact (List.findIdx?_eq_some_iff_getElem.1 h).1
theorem Wk.seen {Γ : Env} {s s' : Wst} {t : Tk} (h : Wk Γ s t s') : ∀ p, s.seen p ≠ 0 → s'.seen p ≠ 0 := by
 induction h with
 | nil => exact fun p h => h
 | cons _ _ i1 i2 => exact fun p h => i2 p (i1 p h)
 | err _ => exact fun p h => h
 | stay _ _ => exact fun p h => h
 | bad _ _ => exact fun p h => h
 | hit _ _ => exact fun p h => h
 | go _ _ _ ih => exact ih
 | cyc _ => exact fun p h => h
 | done _ _ => exact fun p h => h
 | @ent s s' q sc x hq _ ih =>
   intro p hp
   unfold Wst.mark
   simp only
   split
   ·decide
   ·next hne => exact ih p (by unfold Wst.mark; simp only; rw [if_neg hne]; exact hp)
def placesOf (i : Nat) (s : Sc) : List Pk := s.args.map (fun a => ⟨false, (i : Int), a.name⟩) ++ s.t.outs.map (fun o => ⟨true, (i : Int), o.name⟩)
def places : Nat → List Sc → List Pk
 | _, [] => []
 | i, s :: r => placesOf i s ++ places (i + 1) r
theorem places_mem : ∀ {l : List Sc} {i j : Nat} {s : Sc} {p : Pk}, l[j]? = some s → p ∈ placesOf (i + j) s → p ∈ places i l
 | [], i, j, s, p, h, _ => by simp at h
 | x :: r, i, 0, s, p, h, hp => by
   simp at h; subst h
   unfold places
   exact List.mem_append_left _ (by simpa using hp)
 | x :: r, i, j + 1, s, p, h, hp => by
   unfold places
   refine List.mem_append_right _ (places_mem (j := j) (s := s) (by simpa using h) ?_)
   rwa [show i + 1 + j = i + (j + 1) by omega]
def left (Γ : Env) (s : Wst) : Nat := (places 0 Γ.sc).countP fun p => decide (s.seen p = 0)
open Go.RowKit
set_option linter.unusedVariables false
set_option linter.unusedSimpArgs false
def bodyF (Γ : Env) (p : Pk) : Option (Nat × Ex) := match scAt Γ p.scope with
 | none => none
 | some c => if p.out then (c.t.outs.find? (fun o => bEq o.name p.name)).map (fun o => (p.scope.toNat, o.e))
   else (c.args.find? (fun a => bEq a.name p.name)).map (fun a => (c.parent.toNat, a.e))
def Tk.wf (Γ : Env) : Tk → Prop
 | .ent p sc x => bodyF Γ p = some (sc, x)
 | _ => True
theorem Wk.det {Γ : Env} {s s1 : Wst} {t : Tk} (h : Wk Γ s t s1) : ∀ {s2 : Wst}, Wk Γ s t s2 → s1 = s2 := by
 induction h with
 | nil => intro s2 h; cases h; rfl
 | cons _ _ i1 i2 =>
   intro s2 h
   cases h with
   | cons a b => rw [← i1 a] at b; exact i2 b
 | err h0 => intro s2 h; cases h <;> first | rfl | contradiction
 | stay h0 ha => intro s2 h; cases h <;> simp_all
 | bad h0 ha => intro s2 h; cases h <;> simp_all
 | hit h0 ha => intro s2 h; cases h <;> simp_all
 | go h0 ha _ ih =>
   intro s2 h
   cases h with
   | err h1 => contradiction
   | stay _ hb => rw [ha] at hb; cases hb
   | bad _ hb => rw [ha] at hb; cases hb
   | hit _ hb => rw [ha] at hb; cases hb
   | go _ hb hc => rw [ha] at hb; injection hb with hb; subst hb; exact ih hc
 | cyc h0 => intro s2 h; cases h <;> first | rfl | simp_all
 | done h0 h1 => intro s2 h; cases h <;> first | rfl | simp_all
 | ent h0 _ ih =>
   intro s2 h
   cases h with
   | cyc h1 => rw [h0] at h1; cases h1
   | done h1 _ => exact absurd h0 h1
   | ent _ h2 => rw [ih h2]
theorem Wk.keep {Γ : Env} {s s' : Wst} {t : Tk} (h : Wk Γ s t s') : ∀ p, s.seen p ≠ 0 → s'.seen p = s.seen p := by
 induction h with
 | nil => exact fun _ _ => rfl
 | cons _ _ i1 i2 => intro p h; rw [i2 p (by rw [i1 p h]; exact h), i1 p h]
 | err _ => exact fun _ _ => rfl
 | stay _ _ => exact fun _ _ => rfl
 | bad _ _ => exact fun _ _ => rfl
 | hit _ _ => exact fun _ _ => rfl
 | go _ _ _ ih => exact ih
 | cyc _ => exact fun _ _ => rfl
 | done _ _ => exact fun _ _ => rfl
 | @ent s s' q sc x h0 _ ih =>
   intro p hp
   have hne : p ≠ q := fun e => by subst e; exact hp h0
   have h1 : (s.mark q 1).seen p = s.seen p := by simp [Wst.mark, hne]
   have h2 : (s'.mark q 2).seen p = s'.seen p := by simp [Wst.mark, hne]
   rw [h2, ih p (by rw [h1]; exact hp), h1]
theorem Wk.more {Γ : Env} {s s' : Wst} {t : Tk} (h : Wk Γ s t s') : ∀ k, s.got k = true → s'.got k = true := by
 induction h with
 | nil => exact fun _ h => h
 | cons _ _ i1 i2 => exact fun k h => i2 k (i1 k h)
 | err _ => exact fun _ h => h
 | stay _ _ => exact fun _ h => h
 | bad _ _ => exact fun _ h => h
 | @hit s sc x k _ _ =>
   intro j hj
   by_cases e : j = (k : Int)
   ·subst e; exact fput_same _ _ _
   ·unfold Wst.hit; simp only; rw [fput_other _ _ e]; exact hj
 | go _ _ _ ih => exact ih
 | cyc _ => exact fun _ h => h
 | done _ _ => exact fun _ h => h
 | ent _ _ ih => exact ih
def two (s : Wst) (p : Pk) : Prop := s.seen p ≠ 0 ∧ s.seen p ≠ 1
section
variable (Γ : Env) (D : Pk → Prop) (G : Int → Prop)
def GoodN : Nat → Tk → Prop
 | 0, _ => False
 | n + 1, .exs sc l => ∀ x ∈ l, GoodN n (.ex sc x)
 | n + 1, .ent p sc x => D p ∧ GoodN n (.ex sc x)
 | n + 1, .ex sc x => match act Γ sc x with
   | .stay => True
   | .bad => False
   | .hit k => G (k : Int)
   | .task t => GoodN n t
theorem GoodN.succ : ∀ {n : Nat} {t : Tk}, GoodN Γ D G n t → GoodN Γ D G (n + 1) t
 | 0, t, h => h.elim
 | n + 1, .exs sc l, h => fun x hx => GoodN.succ (h x hx)
 | n + 1, .ent p sc x, h => ⟨h.1, GoodN.succ h.2⟩
 | n + 1, .ex sc x, h => by
   unfold GoodN at h ⊢
   split at h
   ·trivial
   ·exact h
   ·exact h
   ·exact GoodN.succ h
theorem GoodN.le {n m : Nat} {t : Tk} (h : GoodN Γ D G n t) (hm : n ≤ m) : GoodN Γ D G m t := by
 obtain ⟨k, rfl⟩ := Nat.exists_eq_add_of_le hm
 clear hm
 induction k with
 | zero => exact h
 | succ k ih => exact GoodN.succ Γ D G ih
theorem least {P : Nat → Prop} : ∀ {n : Nat}, P n → ∃ m, m ≤ n ∧ P m ∧ ∀ k, k < m → ¬ P k := by
 intro n
 induction n using Nat.strongRecOn with
 | ind n ih =>
   intro h
   by_cases hk : ∃ k, k < n ∧ P k
   ·obtain ⟨k, h1, h2⟩ := hk
    obtain ⟨m, h3, h4⟩ := ih k h1 h2
    exact ⟨m, by omega, h4⟩
   ·exact ⟨n, Nat.le_refl _, h, fun k h1 h2 => hk ⟨k, h1, h2⟩⟩
def Sim (s u : Wst) : Prop := s.e = u.e ∧ (s.e = 0 → (∀ k, u.got k = true ↔ s.got k = true ∨ G k) ∧ ∀ p, (D p → s.seen p ≠ 1 ∧ two u p) ∧ (¬ D p → u.seen p = s.seen p))
theorem Sim.mark {s u : Wst} {p : Pk} {n : Nat} (h : Sim D G s u) (hp : ¬ D p) : Sim D G (s.mark p n) (u.mark p n) := by
 refine ⟨h.1, fun he => ⟨(h.2 he).1, fun q => ?_⟩⟩
 have h2 := (h.2 he).2 q
 by_cases e : q = p
 ·subst e
  exact ⟨fun h => absurd h hp, fun _ => by simp [Wst.mark]⟩
 ·unfold two Wst.mark
  simp only [if_neg e]
  exact h2
end
open Go.RowKit
set_option linter.unusedVariables false
set_option linter.unusedSimpArgs false
def scL (l : List Sc) (i : Int) : Option Sc := if 0 ≤ i then l[i.toNat]? else none
def PosB (o : Option Nat) (w : World) (e : Ending) (w' : World) : Prop := e = .returned (.tuple #[.int .i64 ((o.getD 0 : Nat) : Int), .bool o.isSome]) ∧ Below w.heap.size w w'
def posF {α : Type} (sc : List Sc) (l : List α) (scope : Int) (p : Sc → α → Bool) : Option Nat := match scL sc scope with
 | none => none
 | some s => l.findIdx? (p s)
theorem posF_none {α : Type} {sc : List Sc} {l : List α} {scope : Int} {p : Sc → α → Bool} (h : scL sc scope = none) : posF sc l scope p = none := by unfold posF; rw [h]
theorem posF_some {α : Type} {sc : List Sc} {l : List α} {scope : Int} {p : Sc → α → Bool} {s : Sc} (h : scL sc scope = some s) : posF sc l scope p = l.findIdx? (p s) := by unfold posF; rw [h]
theorem scL_neg {l : List Sc} {i : Int} (h : i < 0) : scL l i = none := by unfold scL; rw [if_neg (by omega)]
theorem scL_big {l : List Sc} {i : Int} (h : (l.length : Int) ≤ i) : scL l i = none := by unfold scL; rw [if_pos (by omega), List.getElem?_eq_none (by omega)]
theorem scL_nat {l : List Sc} {i : Nat} : scL l (i : Int) = l[i]? := by unfold scL; rw [if_pos (by omega)]; rfl
theorem idx_none {α : Type} {p : α → Bool} {l : List α} (h : ∀ (i : Nat) (x : α), l[i]? = some x → p x = false) : l.findIdx? p = none :=
 List.findIdx?_eq_none_iff.2 (fun x hx => by obtain ⟨i, hi⟩ := List.mem_iff_getElem?.1 hx; exact h i x hi)
theorem idx_some {α : Type} {p : α → Bool} {l : List α} {j : Nat} {k : α} (hk : l[j]? = some k) (hq : p k = true) (h : ∀ (i : Nat) (x : α), i < j → l[i]? = some x → p x = false) : l.findIdx? p = some j := by
 obtain ⟨hj, rfl⟩ := List.getElem?_eq_some_iff.1 hk
 exact List.findIdx?_eq_some_iff_getElem.2 ⟨hj, hq, fun i hi => by rw [h i _ hi (List.getElem?_eq_getElem (by omega))]; decide⟩
set_option maxRecDepth 100000 in
set_option maxHeartbeats 4000000 in
theorem findN_any (S : Nat → Prop) (fb : Nat) (SA NA A : Option Addr) (sC n2 nC c : Nat) (sc : List Sc) (l : List Nd) (scope : Int) (fid : FuncId) (caps : Array Value) (p : Sc → Nd → Bool) (w : World) (hfb : Blk w fb #[.slice SA sc.length sC, .slice NA n2 nC] 34)
 (hsc : Ls S w 7 144 Sc.tr SA sC sc) (hl : Ls S w 11 200 Nd.tr A c l) (hsn : sc.length ≤ 1000000) (hn : l.length ≤ 1000000) (hcf : ∀ args w', (callFunc fid args).run Tryz.prog w' = .ok (.enter fid args) w')
 (hf : ∀ s, scL sc scope = some s → ∀ (ad : Addr) (i : Nat) (x : Nd), A = some ad → l[i]? = some x → ∀ w', Below w.heap.size w w' → Calls Tryz.prog fid (#[.pointer (some (ad.add (i * 11))), .string s.pre] ++ caps) w' (BoolB (p s x) w')) :
 Calls Tryz.prog 150 #[.pointer (some ⟨fb, 0, none⟩), .int .i64 scope, .slice A l.length c, .func (.func fid) #[] caps] w (PosB (posF sc l scope p) w) := by
 have HSC := Lib.hid hsc
 have HL := Lib.hid hl
 have HFB := Lib.hid hfb
 have HF := Lib.hid hf
 have hscap := hsc.cap
 have hsmax := hsc.max
 unfold maxLen at hsmax
 have hcap := hl.cap
 have hmax := hl.max
 unfold maxLen at hmax
 obtain ⟨f0, -⟩ := blk2 hfb
 clear hsc hl hf hfb
 by_cases h0 : scope < 0
 ·have hd0 : decide (scope < 0) = true := decide_eq_true h0
  have HE := Lib.hid (posF_none (l := l) (p := p) (scL_neg (l := sc) h0))
  clear h0
  go_enter Tryz.func150, Tryz.ntmps150
  go_wp2_with fail
  refine bodyPost_ret (v := .tuple #[.int .i64 0, .bool false]) (by simp [results, Tryz.results150, go_sem]) rfl ?_
  rw [HE.out]
  exact ⟨rfl, Below.refl _ _⟩
 have hd0 : decide (scope < 0) = false := decide_eq_false h0
 by_cases h1 : (sc.length : Int) ≤ scope
 ·have hd1 : decide ((sc.length : Int) ≤ scope) = true := decide_eq_true h1
  have HE := Lib.hid (posF_none (l := l) (p := p) (scL_big (l := sc) h1))
  clear h0 h1
  go_enter Tryz.func150, Tryz.ntmps150
  go_wp2_with fail
  refine bodyPost_ret (v := .tuple #[.int .i64 0, .bool false]) (by simp [results, Tryz.results150, go_sem]) rfl ?_
  rw [HE.out]
  exact ⟨rfl, Below.refl _ _⟩
 have hd1 : decide ((sc.length : Int) ≤ scope) = false := decide_eq_false h1
 obtain ⟨q, rfl⟩ : ∃ q : Nat, scope = (q : Int) := ⟨scope.toNat, by omega⟩
 have hqi : (0 : Int) ≤ (q : Int) ∧ (q : Int) < (sc.length : Int) := by omega
 obtain ⟨s, hs⟩ := get_lt (l := sc) (i := q) (by omega)
 have HSL : Hid (scL sc (q : Int) = some s) := Lib.hid (by rw [scL_nat, hs])
 have HS := Lib.hid hs
 have hd2 : decide (sc.length ≤ q) = false := decide_eq_false (by omega)
 clear h0 h1 hs
 go_enter Tryz.func150, Tryz.ntmps150
 go_wp2_with fail
 clear hd0 hd1 hd2 f0
 go_loopg [24] l.length (fun g i wr => ∃ j : Nat, j + g = l.length ∧ i = .int .i64 (j : Nat) ∧ Hid (∀ (i : Nat) (x : Nd), i < j → l[i]? = some x → p s x = false) ∧ Hid (Below w.heap.size w wr))
 case atStart => exact ⟨0, by omega, rfl, Lib.hid (fun i x hi _ => absurd hi (by omega)), Lib.hid (Below.refl _ _)⟩
 case round =>
  obtain ⟨j, hj, rfl, HN, HB⟩ := hrel
  rename World => wo
  cases gk with
  | zero =>
    have hjj : ¬ ((j : Int) < (l.length : Int)) := by omega
    have HE : Hid (posF sc l (q : Int) p = none) := Lib.hid (by rw [posF_some HSL.out]; exact idx_none (fun i x hx => HN.out i x (by have := (List.getElem?_eq_some_iff.1 hx).1; omega) hx))
    go_wp2_with fail
    refine bodyPost_ret (v := .tuple #[.int .i64 0, .bool false]) (by simp [results, Tryz.results150, go_sem]) rfl ?_
    rw [HE.out]
    exact ⟨rfl, HB.out⟩
  | succ g =>
    have hjj : (j : Int) < (l.length : Int) := by omega
    have hji : (0 : Int) ≤ (j : Int) ∧ (j : Int) < (l.length : Int) := by omega
    obtain ⟨k, hk⟩ := get_lt (l := l) (i := j) (by omega)
    obtain ⟨ad, cs, rfl, hxt, hxc⟩ := (HL.out.below HB.out).elem Nd.trlen hk
    obtain ⟨sd, ss, hSA, hst, hsd⟩ := (HSC.out.below HB.out).elem Sc.trlen HS.out
    subst hSA
    obtain ⟨B1, B2, B3, B4, B5, d1, d2, d3, d4, d5, rfl, -, -, -, -, -, -⟩ := sc_form hst
    obtain ⟨e0, e1, e2, e3, e4, e5, e6⟩ := cel7 hsd
    obtain ⟨f0, -⟩ := blk2 (HFB.out.below HB.out)
    have HCL := Lib.hid (HF.out s HSL.out ad j k rfl hk wo.drew HB.out.drew)
    have HBD := Lib.hid HB.out.drew
    have HE : Hid (p s k = true → posF sc l (q : Int) p = some j) := Lib.hid (fun hq => by rw [posF_some HSL.out]; exact idx_some hk hq HN.out)
    have HN2 : Hid (p s k = false → ∀ (i : Nat) (x : Nd), i < j + 1 → l[i]? = some x → p s x = false) := Lib.hid (fun hq i x hi hx => by
     rcases Nat.lt_or_ge i j with h | h
     ·exact HN.out i x h hx
     ·rw [show i = j by omega, hk] at hx; injection hx with hx; rw [← hx]; exact hq)
    clear hk hxt hxc hst hsd
    go_wp2_with fail
    go_still_tail 12, (by kernel_rfl)
    change wpList _ _ _ _ _ wo.drew
    generalize wo.drew = wz at HCL HBD ⊢
    cases hp : p s k with
    | true =>
      rw [hp] at HCL
      have HE2 := Lib.hid (HE.out hp)
      clear hp HE
      go_wp2_with fail
      refine HCL.out.mono ?_
      rintro e w2 ⟨rfl, hb2⟩
      have HB2 := Lib.hid (HBD.out.trans (hb2.mono HBD.out.size))
      clear hb2
      go_wp2_with fail
      refine bodyPost_ret (v := .tuple #[.int .i64 (j : Int), .bool true]) (by simp [results, Tryz.results150, go_sem]) rfl ?_
      rw [HE2.out]
      exact ⟨rfl, HB2.out⟩
    | false =>
      rw [hp] at HCL
      have HN3 := Lib.hid (HN2.out hp)
      clear hp HE
      go_wp2_with fail
      refine HCL.out.mono ?_
      rintro e w2 ⟨rfl, hb2⟩
      have HB2 := Lib.hid (HBD.out.trans (hb2.mono HBD.out.size))
      clear hb2
      go_wp2_with fail
      go_roundg g
      case measure => omega
      case rel => exact ⟨j + 1, by omega, by go_num, HN3, HB2⟩
set_option maxRecDepth 100000 in
set_option maxHeartbeats 4000000 in
theorem findS_any (S : Nat → Prop) (fb : Nat) (SA NA A : Option Addr) (sC n2 nC c : Nat) (sc : List Sc) (l : List Sc) (scope : Int) (fid : FuncId) (caps : Array Value) (p : Sc → Sc → Bool) (w : World) (hfb : Blk w fb #[.slice SA sc.length sC, .slice NA n2 nC] 34)
 (hsc : Ls S w 7 144 Sc.tr SA sC sc) (hl : Ls S w 7 144 Sc.tr A c l) (hsn : sc.length ≤ 1000000) (hn : l.length ≤ 1000000) (hcf : ∀ args w', (callFunc fid args).run Tryz.prog w' = .ok (.enter fid args) w')
 (hf : ∀ s, scL sc scope = some s → ∀ (ad : Addr) (i : Nat) (x : Sc), A = some ad → l[i]? = some x → ∀ w', Below w.heap.size w w' → Calls Tryz.prog fid (#[.pointer (some (ad.add (i * 7))), .string s.pre] ++ caps) w' (BoolB (p s x) w')) :
 Calls Tryz.prog 123 #[.pointer (some ⟨fb, 0, none⟩), .int .i64 scope, .slice A l.length c, .func (.func fid) #[] caps] w (PosB (posF sc l scope p) w) := by
 have HSC := Lib.hid hsc
 have HL := Lib.hid hl
 have HFB := Lib.hid hfb
 have HF := Lib.hid hf
 have hscap := hsc.cap
 have hsmax := hsc.max
 unfold maxLen at hsmax
 have hcap := hl.cap
 have hmax := hl.max
 unfold maxLen at hmax
 obtain ⟨f0, -⟩ := blk2 hfb
 clear hsc hl hf hfb
 by_cases h0 : scope < 0
 ·have hd0 : decide (scope < 0) = true := decide_eq_true h0
  have HE := Lib.hid (posF_none (l := l) (p := p) (scL_neg (l := sc) h0))
  clear h0
  go_enter Tryz.func123, Tryz.ntmps123
  go_wp2_with fail
  refine bodyPost_ret (v := .tuple #[.int .i64 0, .bool false]) (by simp [results, Tryz.results123, go_sem]) rfl ?_
  rw [HE.out]
  exact ⟨rfl, Below.refl _ _⟩
 have hd0 : decide (scope < 0) = false := decide_eq_false h0
 by_cases h1 : (sc.length : Int) ≤ scope
 ·have hd1 : decide ((sc.length : Int) ≤ scope) = true := decide_eq_true h1
  have HE := Lib.hid (posF_none (l := l) (p := p) (scL_big (l := sc) h1))
  clear h0 h1
  go_enter Tryz.func123, Tryz.ntmps123
  go_wp2_with fail
  refine bodyPost_ret (v := .tuple #[.int .i64 0, .bool false]) (by simp [results, Tryz.results123, go_sem]) rfl ?_
  rw [HE.out]
  exact ⟨rfl, Below.refl _ _⟩
 have hd1 : decide ((sc.length : Int) ≤ scope) = false := decide_eq_false h1
 obtain ⟨q, rfl⟩ : ∃ q : Nat, scope = (q : Int) := ⟨scope.toNat, by omega⟩
 have hqi : (0 : Int) ≤ (q : Int) ∧ (q : Int) < (sc.length : Int) := by omega
 obtain ⟨s, hs⟩ := get_lt (l := sc) (i := q) (by omega)
 have HSL : Hid (scL sc (q : Int) = some s) := Lib.hid (by rw [scL_nat, hs])
 have HS := Lib.hid hs
 have hd2 : decide (sc.length ≤ q) = false := decide_eq_false (by omega)
 clear h0 h1 hs
 go_enter Tryz.func123, Tryz.ntmps123
 go_wp2_with fail
 clear hd0 hd1 hd2 f0
 go_loopg [24] l.length (fun g i wr => ∃ j : Nat, j + g = l.length ∧ i = .int .i64 (j : Nat) ∧ Hid (∀ (i : Nat) (x : Sc), i < j → l[i]? = some x → p s x = false) ∧ Hid (Below w.heap.size w wr))
 case atStart => exact ⟨0, by omega, rfl, Lib.hid (fun i x hi _ => absurd hi (by omega)), Lib.hid (Below.refl _ _)⟩
 case round =>
  obtain ⟨j, hj, rfl, HN, HB⟩ := hrel
  rename World => wo
  cases gk with
  | zero =>
    have hjj : ¬ ((j : Int) < (l.length : Int)) := by omega
    have HE : Hid (posF sc l (q : Int) p = none) := Lib.hid (by rw [posF_some HSL.out]; exact idx_none (fun i x hx => HN.out i x (by have := (List.getElem?_eq_some_iff.1 hx).1; omega) hx))
    go_wp2_with fail
    refine bodyPost_ret (v := .tuple #[.int .i64 0, .bool false]) (by simp [results, Tryz.results123, go_sem]) rfl ?_
    rw [HE.out]
    exact ⟨rfl, HB.out⟩
  | succ g =>
    have hjj : (j : Int) < (l.length : Int) := by omega
    have hji : (0 : Int) ≤ (j : Int) ∧ (j : Int) < (l.length : Int) := by omega
    obtain ⟨k, hk⟩ := get_lt (l := l) (i := j) (by omega)
    obtain ⟨ad, cs, rfl, hxt, hxc⟩ := (HL.out.below HB.out).elem Sc.trlen hk
    obtain ⟨sd, ss, hSA, hst, hsd⟩ := (HSC.out.below HB.out).elem Sc.trlen HS.out
    subst hSA
    obtain ⟨B1, B2, B3, B4, B5, d1, d2, d3, d4, d5, rfl, -, -, -, -, -, -⟩ := sc_form hst
    obtain ⟨e0, e1, e2, e3, e4, e5, e6⟩ := cel7 hsd
    obtain ⟨f0, -⟩ := blk2 (HFB.out.below HB.out)
    have HCL := Lib.hid (HF.out s HSL.out ad j k rfl hk wo.drew HB.out.drew)
    have HBD := Lib.hid HB.out.drew
    have HE : Hid (p s k = true → posF sc l (q : Int) p = some j) := Lib.hid (fun hq => by rw [posF_some HSL.out]; exact idx_some hk hq HN.out)
    have HN2 : Hid (p s k = false → ∀ (i : Nat) (x : Sc), i < j + 1 → l[i]? = some x → p s x = false) := Lib.hid (fun hq i x hi hx => by
     rcases Nat.lt_or_ge i j with h | h
     ·exact HN.out i x h hx
     ·rw [show i = j by omega, hk] at hx; injection hx with hx; rw [← hx]; exact hq)
    clear hk hxt hxc hst hsd
    go_wp2_with fail
    go_still_tail 12, (by kernel_rfl)
    change wpList _ _ _ _ _ wo.drew
    generalize wo.drew = wz at HCL HBD ⊢
    cases hp : p s k with
    | true =>
      rw [hp] at HCL
      have HE2 := Lib.hid (HE.out hp)
      clear hp HE
      go_wp2_with fail
      refine HCL.out.mono ?_
      rintro e w2 ⟨rfl, hb2⟩
      have HB2 := Lib.hid (HBD.out.trans (hb2.mono HBD.out.size))
      clear hb2
      go_wp2_with fail
      refine bodyPost_ret (v := .tuple #[.int .i64 (j : Int), .bool true]) (by simp [results, Tryz.results123, go_sem]) rfl ?_
      rw [HE2.out]
      exact ⟨rfl, HB2.out⟩
    | false =>
      rw [hp] at HCL
      have HN3 := Lib.hid (HN2.out hp)
      clear hp HE
      go_wp2_with fail
      refine HCL.out.mono ?_
      rintro e w2 ⟨rfl, hb2⟩
      have HB2 := Lib.hid (HBD.out.trans (hb2.mono HBD.out.size))
      clear hb2
      go_wp2_with fail
      go_roundg g
      case measure => omega
      case rel => exact ⟨j + 1, by omega, by go_num, HN3, HB2⟩
open Go.RowKit Go.Maps
set_option linter.unusedVariables false
set_option linter.unusedSimpArgs false
theorem World.ownsMap.tight {H : Type} {w : World} {P : Program} {k : TypeId} {R : Value → Option (DataW H × List MemPlace)} {b n : Nat} {D : DataW H} (h : w.ownsMap P k R b n D) : w.ownsMap P k R b (Go.Maps.size D) D := by
 obtain ⟨es, clock, h1, h2, h3, h4⟩ := h
 refine ⟨es, clock, h1, h2, ?_, h4⟩
 rw [h4]
 simp [Go.Maps.size, length_sorted]
theorem wp_put_MZ2 {w : World} {ops : Array Oper} {rest : List Oper} {o : Oper} {a : Act} {Q : Exit → Act → World → Prop} (hg : o.guard = none) (m x v : Operand) (hop : o.op = Op.mapUpdate 52 m x v) (b : Nat) (V : List Int) (hm : a.eval m = .map (some b)) (h : MZ w b V) (hn : V.length < maxLen)
 (k : Int) (hk1 : -9223372036854775808 ≤ k) (hk2 : k ≤ 9223372036854775807) (hx : a.eval x = .int .i64 k) (hv : a.eval v = .bool true)
 (hK : ∀ w', MZ w' b (if k ∈ V then V else V ++ [k]) → w.grownBy w' (some b) → wpList Tryz.prog ops Q rest (a.put o.dst undef) w') : wpList Tryz.prog ops Q (o :: rest) a w := by
 by_cases hkV : k ∈ V
 ·rw [if_pos hkV] at hK
  obtain ⟨D, g1, g2, g3, g4⟩ := h
  have ht := g1.tidy key_int
  refine wpList_mapUpdate_own w hg m x v 52 hop 3 4 key_int Tryz.underlying52 _ b V.length D hm g1 hn _ _ (.int .i64 k) hx hv (key_of hk1 hk2) (.lit (.bool true)) [] (plainElem_bool Tryz.underlying4 true) (fun w' h1 h2 => ?_)
  have hs : Go.Maps.size (D.put (.int .i64 k) (.lit (.bool true))) = V.length := by
   rw [Go.Maps.size_put ht, (g3 k).2, g4, tZ_iff.2 hkV]; rfl
  refine hK w' ⟨_, by have := World.ownsMap.tight h1; rwa [hs] at this, g2.put _ _, fun j => ?_, hs⟩ h2
  by_cases hj : j = k
  ·subst hj
   exact ⟨by rw [Go.Maps.atKey_put_same g2 (isKey_int j), tZ_iff.2 hkV], by rw [Go.Maps.has_put_same g2 (isKey_int j), tZ_iff.2 hkV]⟩
  ·have hne : (Lit.int .i64 j) ≠ (Lit.int .i64 k) := fun e => hj (by injection e)
   exact ⟨by rw [Go.Maps.atKey_put_other hne, (g3 j).1], by rw [Go.Maps.has_put_other hne, (g3 j).2]⟩
 ·rw [if_neg hkV] at hK
  exact wp_put_MZ hg m x v hop b V hm h hn k hk1 hk2 hkV hx hv hK
theorem tZ_put2 (V : List Int) (k : Int) : fput (tZ V) k true = tZ (if k ∈ V then V else V ++ [k]) := by
 by_cases h : k ∈ V
 ·rw [if_pos h]
  funext z
  by_cases hz : z = k
  ·subst hz; rw [fput_same, tZ_iff.2 h]
  ·rw [fput_other _ _ hz]
 ·rw [if_neg h, tZ_put]
theorem key_pk : Keyed Tryz.prog 174 := Keyed.of_law (deep_law_gate laidOut_ (Nat.le_of_ble_eq_true (by kernel_rfl)) (Nat.le_of_ble_eq_true (by kernel_rfl)) (by kernel_rfl) (by kernel_rfl))
def pKey (p : Pk) : Value := .agg #[.bool p.out, .int .i64 p.scope, .string p.name]
theorem cells_pk : Tryz.prog.cellsOf 174 = 3 := by kernel_rfl
theorem kt_pk : Tryz.prog.keyType 174 = true := by kernel_rfl
theorem pkey_of {p : Pk} (hi : (Lit.int .i64 p.scope).wf = true) (hs : p.name.size ≤ maxLen) : ∃ l, keyOf Tryz.prog 174 (pKey p) = some l := by
 have h0 : Tryz.prog.cellsOf 4 = 1 := by kernel_rfl
 have h1 : Tryz.prog.cellsOf 3 = 1 := by kernel_rfl
 have h2 : Tryz.prog.cellsOf 9 = 1 := by kernel_rfl
 have h3 : 1 ≤ Tryz.prog.types.size := Nat.le_of_ble_eq_true (by kernel_rfl)
 obtain ⟨n, hn⟩ : ∃ n, Tryz.prog.types.size + 1 = n + 1 + 1 := ⟨Tryz.prog.types.size - 1, by omega⟩
 unfold keyOf pKey
 rw [Tryz.underlying174]
 simp only
 rw [hn]
 simp [kt_pk, Value.formed, Tryz.underlying174, cells_pk, Program.keyLits, h0, h1, h2, Tryz.underlying4, Tryz.underlying3, Tryz.underlying9, hi, hs, Value.cells]
theorem pKey_inj {p q : Pk} (h : pKey p = pKey q) : p = q := by
 unfold pKey at h
 injection h with h
 have h1 := congrArg (fun a => a.toList) h
 simp at h1
 cases p; cases q
 simp_all
theorem zero_i8T (w : World) : (zeroValue 45).run Tryz.prog w = .ok (.int .i8 0) w := by kernel_rfl
def MPk (w : World) (b n : Nat) (f : Pk → Nat) : Prop :=
 ∃ D : DataW Unit, w.ownsMap Tryz.prog 174 (plainElem Tryz.prog 45) b n D ∧ Go.Maps.IsMap D ∧ ∀ (p : Pk) (l : Lit), keyOf Tryz.prog 174 (pKey p) = some l → D.atKey l (.lit (.int .i8 0)) = .lit (.int .i8 (f p : Nat))
section
variable {w w' : World} {b n : Nat} {f : Pk → Nat}
theorem MPk.new (w : World) : MPk (w.alloc (.map #[] 0)) w.heap.size 0 (fun _ => 0) := ⟨.map [], World.ownsMap_made _ _ _ _, ⟨[], rfl⟩, fun _ _ _ => rfl⟩
theorem MPk.only {F : Nat → Prop} (h : MPk w b n f) (ho : Only F w w') (hF : ¬ F b) : MPk w' b n f := by
 obtain ⟨D, h1, h2, h3⟩ := h
 exact ⟨D, ownsMap_same h1 (ho.block b h1.lt hF), h2, h3⟩
theorem MPk.lt (h : MPk w b n f) : b < w.heap.size := by obtain ⟨D, h1, _⟩ := h; exact h1.lt
theorem MPk.below (h : MPk w b n f) (hb : Below w.heap.size w w') : MPk w' b n f := h.only (Only.of_below hb (fun _ => False)) (fun h => h)
set_option maxRecDepth 100000 in
theorem MPk.look (h : MPk w b n f) {p : Pk} (hi : (Lit.int .i64 p.scope).wf = true) (hs : p.name.size ≤ maxLen) : (Instr.lookup 90 (.map (some b)) (.agg #[.bool p.out, .int .i64 p.scope, .string p.name]) false).run Tryz.prog w = .ok (.int .i8 (f p : Nat)) w := by
 obtain ⟨D, g1, g2, g3⟩ := h
 obtain ⟨l, hl⟩ := pkey_of hi hs
 obtain ⟨v, ps, hrun, hv⟩ := g1.lookup key_pk Tryz.underlying90 (zero_i8T w) (plainElem_int Tryz.underlying45 (by decide)) hl
 rw [g3 p l hl] at hv
 unfold pKey at hrun
 rw [hrun]
 obtain ⟨a, rfl, e, _⟩ := plainElem_int_inv Tryz.underlying45 hv
 injection e with e _
 injection e with e
 injection e with _ e
 rw [e]
end
set_option maxRecDepth 100000 in
theorem wp_put_MPk {w : World} {ops : Array Oper} {rest : List Oper} {o : Oper} {a : Act} {Q : Exit → Act → World → Prop} (hg : o.guard = none) (m x v : Operand) (hop : o.op = Op.mapUpdate 90 m x v) (b n : Nat) (f : Pk → Nat) (hm : a.eval m = .map (some b)) (h : MPk w b n f) (hn : n < maxLen)
 (p : Pk) (hi : (Lit.int .i64 p.scope).wf = true) (hs : p.name.size ≤ maxLen) (hx : a.eval x = .agg #[.bool p.out, .int .i64 p.scope, .string p.name]) (y : Nat) (hy : (Lit.int .i8 (y : Int)).wf = true) (hv : a.eval v = .int .i8 (y : Int))
 (hK : ∀ w', MPk w' b (n + 1) (fun q => if q = p then y else f q) → w.grownBy w' (some b) → wpList Tryz.prog ops Q rest (a.put o.dst undef) w') : wpList Tryz.prog ops Q (o :: rest) a w := by
 obtain ⟨D, g1, g2, g3⟩ := h
 obtain ⟨l, hl⟩ := pkey_of hi hs
 refine wpList_mapUpdate_own w hg m x v 90 hop 174 45 key_pk Tryz.underlying90 _ b n D hm g1 hn _ _ l hx hv hl (.lit (.int .i8 (y : Int))) [] (plainElem_int Tryz.underlying45 hy) (fun w' h1 h2 => hK w' ⟨_, h1, g2.put _ _, fun q l' hl' => ?_⟩ h2)
 by_cases hj : q = p
 ·subst hj
  rw [hl] at hl'
  injection hl' with hl'
  subst hl'
  rw [Go.Maps.atKey_put_same g2 (key_pk.key hl)]; simp
 ·have hne : l' ≠ l := fun e => hj (pKey_inj (key_pk.inj hl' (e ▸ hl)))
  rw [Go.Maps.atKey_put_other hne, g3 q l' hl']
  simp only [if_neg hj]
def wgt (Γ : Env) (s : Wst) : Nat := ((places 0 Γ.sc).map fun p => 2 - s.seen p).sum
theorem sum_le {α : Type} {f g : α → Nat} : ∀ {l : List α}, (∀ a ∈ l, f a ≤ g a) → (l.map f).sum ≤ (l.map g).sum
 | [], _ => Nat.le_refl _
 | x :: l, h => by
   have h1 := h x (.head _)
   have h2 := sum_le (l := l) (fun a ha => h a (.tail _ ha))
   simp only [List.map_cons, List.sum_cons]
   omega
theorem sum_lt {α : Type} {f g : α → Nat} {a : α} : ∀ {l : List α}, (∀ a ∈ l, f a ≤ g a) → a ∈ l → f a < g a → (l.map f).sum < (l.map g).sum
 | [], _, h, _ => by cases h
 | x :: l, h, hm, hl => by
   have h1 := h x (.head _)
   have h2 := sum_le (l := l) (fun a ha => h a (.tail _ ha))
   simp only [List.map_cons, List.sum_cons]
   rcases List.mem_cons.1 hm with rfl | hm
   ·omega
   ·have := sum_lt (fun a ha => h a (.tail _ ha)) hm hl
    omega
theorem wgt_le {Γ : Env} {s s' : Wst} {t : Tk} (h : Wk Γ s t s') : wgt Γ s' ≤ wgt Γ s := sum_le fun p _ => by
 by_cases e : s.seen p = 0
 ·rw [e]; omega
 ·rw [h.keep p e]; exact Nat.le_refl _
theorem wgt_mark {Γ : Env} {s : Wst} {p : Pk} {n : Nat} (hp : p ∈ places 0 Γ.sc) (h0 : s.seen p < n) (hn : n ≤ 2) : wgt Γ (s.mark p n) < wgt Γ s := by
 refine sum_lt (a := p) (fun q _ => ?_) hp ?_
 ·unfold Wst.mark
  simp only
  split
  ·next e => subst e; omega
  ·exact Nat.le_refl _
 ·unfold Wst.mark
  simp only [if_pos]
  omega
inductive exOk : Ex → Prop
 | mk {x : Ex} : x.name.size ≤ 1000000 → x.attr.size ≤ 1000000 → x.l.length ≤ 1000000 → (∀ y ∈ x.l, exOk y) → exOk x
structure Env.ok (Γ : Env) : Prop where
 hO : Γ.O.length = Γ.sc.length
 hon : Γ.on.length = Γ.nd.length
 scl : Γ.sc.length ≤ 1000
 ndl : Γ.nd.length ≤ 1000
 orl : ∀ r ∈ Γ.O, r.length ≤ 1000000
 par : ∀ (j : Nat) (s : Sc), 0 < j → Γ.sc[j]? = some s → 0 ≤ s.parent ∧ s.parent < (j : Int)
 par' : ∀ s ∈ Γ.sc, s.t.params.length ≤ 1000000 ∧ s.args.length ≤ 1000000 ∧ s.t.outs.length ≤ 1000000 ∧ s.pre.size ≤ 1000000
 ex : ∀ s ∈ Γ.sc, (∀ a ∈ s.args, exOk a.e) ∧ ∀ o ∈ s.t.outs, exOk o.e
 pl : (places 0 Γ.sc).length ≤ 1000000
structure Wh where
 fb : Nat
 wb : Nat
 gb : Nat
 sb : Nat
 SA : Option Addr
 sC : Nat
 NA : Option Addr
 nC : Nat
 CA : Option Addr
 cC : Nat
 EA : Option Addr
 eC : Nat
def Wh.F (W : Wh) : Nat → Prop := fun k => k = W.wb ∨ k = W.gb ∨ k = W.sb
structure Fxd (Γ : Env) (W : Wh) (w : World) : Prop where
 fb : W.fb < W.wb
 gb : W.wb < W.gb
 sb : W.wb < W.sb
 ne : W.gb ≠ W.sb
 fl : Blk w W.fb #[.slice W.SA Γ.sc.length W.sC, .slice W.NA Γ.nd.length W.nC] 34
 sc : Ls (fun k => k < W.wb) w 7 144 Sc.tr W.SA W.sC Γ.sc
 nd : Ls (fun k => k < W.wb) w 11 200 Nd.tr W.NA W.nC Γ.nd
 cs : ∃ xs, Rd w 1 W.CA Γ.O.length W.cC xs ∧ (∀ ad, W.CA = some ad → 0 < Γ.O.length → ad.block < W.wb) ∧ Trs.at (fun k => k < W.wb) w (Γ.O.flatMap cgTr) xs
 on : Rd w 1 W.EA Γ.on.length W.eC (Γ.on.map .bool)
 onb : ∀ ad, W.EA = some ad → 0 < Γ.on.length → ad.block < W.wb
section
variable {Γ : Env} {W : Wh} {w w' : World} {s : Wst}
theorem Fxd.lo (h : Fxd Γ W w) : ∀ k, W.F k → W.wb ≤ k := fun k hk => by
 rcases hk with rfl | rfl | rfl
 ·exact Nat.le_refl _
 ·have := h.gb; omega
 ·have := h.sb; omega
theorem Fxd.only {F : Nat → Prop} (h : Fxd Γ W w) (ho : Only F w w') (hF : ∀ k, F k → W.wb ≤ k) : Fxd Γ W w' := by
 have hS : ∀ k, k < W.wb → ¬ F k := fun k hk hf => by have := hF k hf; omega
 obtain ⟨xs, h1, h2, h3⟩ := h.cs
 exact ⟨h.fb, h.gb, h.sb, h.ne, h.fl.only ho (hS _ h.fb), h.sc.only ho hS, h.nd.only ho hS, ⟨xs, h1.only ho (fun ad e hn hf => hS _ (h2 ad e hn) hf), h2, h3.only ho hS⟩, h.on.only ho (fun ad e hn hf => hS _ (h.onb ad e hn) hf), h.onb⟩
theorem Fxd.step (h : Fxd Γ W w) (ho : Only W.F w w') : Fxd Γ W w' := h.only ho h.lo
theorem Fxd.below (h : Fxd Γ W w) (hb : Below w.heap.size w w') : Fxd Γ W w' := h.only (F := fun _ => False) (Only.of_below hb _) (fun k hk => hk.elim)
structure Dy (Γ : Env) (W : Wh) (s : Wst) (w : World) : Prop where
 wk : Blk w W.wb #[.pointer (some ⟨W.fb, 0, none⟩), .slice W.CA Γ.O.length W.cC, .slice W.EA Γ.on.length W.eC, .map (some W.gb), .map (some W.sb), .int .i64 (s.e : Nat)] 92
 got : ∃ V : List Int, V.Nodup ∧ (∀ k ∈ V, okKey Γ k) ∧ s.got = tZ V ∧ MZ w W.gb V
 seen : ∃ n, n + wgt Γ s ≤ 2 * (places 0 Γ.sc).length ∧ MPk w W.sb n s.seen
 e : s.e ≤ 1000
theorem Dy.below (h : Dy Γ W s w) (hb : Below w.heap.size w w') : Dy Γ W s w' := by
 obtain ⟨V, h1, h2, h3, h4⟩ := h.got
 obtain ⟨n, h5, h6⟩ := h.seen
 exact ⟨h.wk.below hb, ⟨V, h1, h2, h3, h4.below hb⟩, ⟨n, h5, h6.below hb⟩, h.e⟩
theorem okKey_len {V : List Int} (hn : V.Nodup) (hk : ∀ k ∈ V, okKey Γ k) : V.length ≤ Γ.nd.length := by
 have h := nodup_len Γ.nd.length (V.map Int.toNat) (by
  rw [List.Nodup, List.pairwise_map]
  refine List.Pairwise.imp_of_mem ?_ hn
  intro a b ha hb hab e
  obtain ⟨i, rfl, _⟩ := hk a ha
  obtain ⟨j, rfl, _⟩ := hk b hb
  simp at e
  exact hab (by rw [e])) (fun x hx => by
  obtain ⟨k, hk2, rfl⟩ := List.mem_map.1 hx
  obtain ⟨i, rfl, h3, _⟩ := hk k hk2
  simpa using h3)
 simpa using h
end
def StepO (Γ : Env) (W : Wh) (s : Wst) (t : Tk) (w : World) (e : Ending) (w' : World) : Prop := e = .returned (.tuple #[]) ∧ ∃ s', Wk Γ s t s' ∧ Dy Γ W s' w' ∧ Only W.F w w'
def RunA (Γ : Env) (s : Wst) : Ac → Wst → Prop
 | .stay, s' => s' = s
 | .bad, s' => s' = s.fail 160
 | .hit k, s' => s' = s.hit k
 | .task t, s' => Wk Γ s t s'
def ActO (Γ : Env) (W : Wh) (s : Wst) (a : Ac) (w : World) (e : Ending) (w' : World) : Prop := e = .returned (.tuple #[]) ∧ ∃ s', RunA Γ s a s' ∧ Dy Γ W s' w' ∧ Only W.F w w'
set_option maxRecDepth 100000 in
theorem fail_any (Γ : Env) (W : Wh) (s : Wst) (w : World) (hF : Fxd Γ W w) (hD : Dy Γ W s w) (n : Nat) (hn : n ≤ 1000) :
 Calls Tryz.prog 85 #[.pointer (some ⟨W.wb, 0, none⟩), .int .i64 (n : Int)] w fun e w' => e = .returned (.tuple #[]) ∧ Dy Γ W (s.fail n) w' ∧ Only W.F w w' := by
 obtain ⟨c0, c1, c2, c3, c4, c5⟩ := blk6 hD.wk
 have hfz := hD.wk.frozen 5
 have HD := Lib.hid hD
 have HF := Lib.hid hF
 clear hD hF
 by_cases he : s.e = 0
 ·rw [he] at c5
  have HE := Lib.hid he
  clear he
  go_enter Tryz.func85, Tryz.ntmps85
  go_wp2_with fail
  go_end0
  have ho : Only W.F w (w.setCell ⟨W.wb, 5, none⟩ (.int .i64 (n : Int))) := (Only.refl _ w).setCell _ _ (fun _ => .inl rfl)
  obtain ⟨V, h1, h2, h3, h4⟩ := HD.out.got
  obtain ⟨m, h5, h6⟩ := HD.out.seen
  have ho1 : Only (fun k => k = W.wb) w (w.setCell ⟨W.wb, 5, none⟩ (.int .i64 (n : Int))) := (Only.refl _ w).setCell _ _ (fun _ => rfl)
  refine ⟨rfl, ⟨?_, ⟨V, h1, h2, h3, h4.only ho1 (fun e => by have := HF.out.gb; omega)⟩, ⟨m, h5, h6.only ho1 (fun e => by have := HF.out.sb; omega)⟩, ?_⟩, ho⟩
  ·refine (HD.out.wk.set 5 (.int .i64 (n : Int))).eq ?_
   unfold Wst.fail
   rw [HE.out]
   rfl
  ·unfold Wst.fail; simp only [HE.out]; exact hn
 ·have hne : ((s.e : Int) == 0) = false := by simpa using he
  have hne2 : (s.e == 0) = false := by simpa using he
  have HE : Hid (s.fail n = s) := Lib.hid (by unfold Wst.fail; rw [if_neg he])
  clear he
  go_enter Tryz.func85, Tryz.ntmps85
  go_wp2_with fail
  go_end0
  exact ⟨rfl, by rw [HE.out]; exact HD.out, Only.refl _ _⟩
open Go.RowKit
set_option linter.unusedVariables false
set_option linter.unusedSimpArgs false
def fndL (sc : List Sc) (nd : List Nd) (scope : Int) (name : ByteArray) : Option Nat := posF sc nd scope fun s n => decide (n.scope = scope) && bEq n.id (s.pre ++ name)
def innL (sc : List Sc) (scope : Int) (name : ByteArray) : Option Nat := posF sc sc scope fun s n => decide (n.parent = scope) && bEq n.pre (s.pre ++ name ++ dot)
theorem fndL_eq (Γ : Env) (scope : Int) (name : ByteArray) : fndL Γ.sc Γ.nd scope name = fndF Γ scope name := rfl
theorem innL_eq (Γ : Env) (scope : Int) (name : ByteArray) : innL Γ.sc scope name = innF Γ scope name := rfl
set_option maxRecDepth 100000 in
theorem nfind1_any (S : Nat → Prop) (x : Nd) (cs : List Value) (a : Addr) (pre name : ByteArray) (scope : Int) (b1 b2 : Nat) (w : World) (hx : Trs.at S w x.tr cs) (hc : Cel w a cs) (h1 : Blk w b1 #[.int .i64 scope] 3) (h2 : Blk w b2 #[.string name] 9) (hp : pre.size ≤ 1000000) (hn : name.size ≤ 1000000) :
 Calls Tryz.prog 151 (#[.pointer (some a), .string pre] ++ #[.pointer (some ⟨b1, 0, none⟩), .pointer (some ⟨b2, 0, none⟩)]) w (BoolB (decide (x.scope = scope) && bEq x.id (pre ++ name)) w) := by
 obtain ⟨C1, C2, C3, C4, C5, q1, q2, q3, q4, q5, rfl, -, -, -, -, -⟩ := nd_form hx
 obtain ⟨e0, e1, e2, e3, e4, e5, e6, e7, e8, e9, e10⟩ := cel11 hc
 have m1 := blk1 h1
 have m2 := blk1 h2
 have HT := Lib.hid (bEq_tl x.id (pre ++ name))
 clear hx hc h1 h2
 simp only [List.push_toArray, List.append_toArray, List.cons_append, List.nil_append]
 by_cases hs : x.scope = scope
 ·have hq : (x.scope == scope) = true := by simpa using hs
  have HE : Hid ((decide (x.scope = scope) && bEq x.id (pre ++ name)) = (x.id.toList == (pre ++ name).toList)) := Lib.hid (by rw [HT.out, decide_eq_true hs]; rfl)
  clear hs
  go_enter Tryz.func151, Tryz.ntmps151
  go_wp2_with fail
  go_quiet (fail)
  go_wp2_with fail
  go_ret
  exact ⟨by rw [HE.out]; try rfl, (Below.refl _ w).drewN _⟩
 ·have hq : (x.scope == scope) = false := by simpa using hs
  have HE : Hid ((decide (x.scope = scope) && bEq x.id (pre ++ name)) = false) := Lib.hid (by rw [decide_eq_false hs]; rfl)
  clear hs
  go_enter Tryz.func151, Tryz.ntmps151
  go_wp2_with fail
  go_quiet (fail)
  go_wp2_with fail
  go_ret
  exact ⟨by rw [HE.out]; try rfl, (Below.refl _ w).drewN _⟩
set_option maxRecDepth 100000 in
theorem nfind_any (S : Nat → Prop) (SA NA : Option Addr) (sC nC : Nat) (sc : List Sc) (nd : List Nd) (scope : Int) (name : ByteArray) (w : World) (hsc : Ls S w 7 144 Sc.tr SA sC sc) (hnd : Ls S w 11 200 Nd.tr NA nC nd)
 (hsn : sc.length ≤ 1000000) (hnn : nd.length ≤ 1000000) (hn : name.size ≤ 1000000) (hp : ∀ s ∈ sc, s.pre.size ≤ 1000000) :
 Calls Tryz.prog 122 #[.agg #[.slice SA sc.length sC, .slice NA nd.length nC], .int .i64 scope, .string name] w (PosB (fndL sc nd scope name) w) := by
 obtain ⟨W3, hW3⟩ : ∃ W3, W3 = ((w.alloc (.cells #[.slice SA sc.length sC, .slice NA nd.length nC] 34)).alloc (.cells #[.int .i64 scope] 3)).alloc (.cells #[.string name] 9) := ⟨_, rfl⟩
 have hb1 : Below w.heap.size w W3 := by rw [hW3]; exact (((Below.refl _ w).alloc (Nat.le_refl _) _).alloc (by simp) _).alloc (by simp; omega) _
 have hfb : Blk W3 w.heap.size #[.slice SA sc.length sC, .slice NA nd.length nC] 34 := by rw [hW3]; exact ((Blk.new w _ _).alloc _).alloc _
 have hs1 : Blk W3 (w.heap.size + 1) #[.int .i64 scope] 3 := by
  rw [hW3]
  have := Blk.new (w.alloc (.cells #[.slice SA sc.length sC, .slice NA nd.length nC] 34)) #[.int .i64 scope] 3
  rw [show (w.alloc (.cells #[.slice SA sc.length sC, .slice NA nd.length nC] 34)).heap.size = w.heap.size + 1 by simp] at this
  exact this.alloc _
 have hs2 : Blk W3 (w.heap.size + 1 + 1) #[.string name] 9 := by
  rw [hW3]
  have := Blk.new ((w.alloc (.cells #[.slice SA sc.length sC, .slice NA nd.length nC] 34)).alloc (.cells #[.int .i64 scope] 3)) #[.string name] 9
  rwa [show ((w.alloc (.cells #[.slice SA sc.length sC, .slice NA nd.length nC] 34)).alloc (.cells #[.int .i64 scope] 3)).heap.size = w.heap.size + 1 + 1 by simp] at this
 have HCL := Lib.hid (findN_any S w.heap.size SA NA NA sC nd.length nC nC sc nd scope 151 #[.pointer (some ⟨w.heap.size + 1, 0, none⟩), .pointer (some ⟨w.heap.size + 1 + 1, 0, none⟩)] (fun s n => decide (n.scope = scope) && bEq n.id (s.pre ++ name)) W3 hfb (hsc.below hb1) (hnd.below hb1) hsn hnn (callFunc_go Tryz.func151 rfl rfl)
  (fun s hs ad i x hA hx w' hb => by
    obtain ⟨ad', cs, e, ht, hc⟩ := ((hnd.below hb1).below hb).elem Nd.trlen hx
    rw [hA] at e; injection e with e; subst e
    exact nfind1_any S x cs (ad.add (i * 11)) s.pre name scope _ _ w' ht hc (hs1.below hb) (hs2.below hb) (by
     unfold scL at hs
     split at hs
     ·exact hp s (List.mem_of_getElem? hs)
     ·cases hs) hn))
 have HB1 := Lib.hid hb1
 have HW3 := Lib.hid hW3
 obtain ⟨f0, f1⟩ := blk2 hfb
 have f2 := blk1 hs1
 have HE : Hid (posF sc nd scope (fun s n => decide (n.scope = scope) && bEq n.id (s.pre ++ name)) = fndL sc nd scope name) := Lib.hid rfl
 rw [HE.out] at HCL
 obtain ⟨o, ho⟩ : ∃ o, o = fndL sc nd scope name := ⟨_, rfl⟩
 rw [← ho] at HCL ⊢
 clear hsc hnd hb1 hfb hs1 hs2 hW3 HE ho hp
 go_enter Tryz.func122, Tryz.ntmps122
 go_upto_region 1 with fail
 rw [← HW3.out]
 go_wp2_with fail
 refine HCL.out.mono ?_
 rintro e w4 ⟨rfl, hb4⟩
 have HB4 := Lib.hid (HB1.out.trans (hb4.mono HB1.out.size))
 clear hb4
 go_wp2_with fail
 refine bodyPost_ret (v := .tuple #[.int .i64 ((o.getD 0 : Nat) : Int), .bool o.isSome]) (by simp [results, Tryz.results122, go_sem]) rfl ?_
 exact ⟨rfl, HB4.out⟩
set_option maxRecDepth 100000 in
theorem ninner1_any (S : Nat → Prop) (x : Sc) (cs : List Value) (a : Addr) (pre name : ByteArray) (scope : Int) (b1 b2 : Nat) (w : World) (hx : Trs.at S w x.tr cs) (hc : Cel w a cs) (h1 : Blk w b1 #[.int .i64 scope] 3) (h2 : Blk w b2 #[.string name] 9) (hp : pre.size ≤ 1000000) (hn : name.size ≤ 1000000) :
 Calls Tryz.prog 124 (#[.pointer (some a), .string pre] ++ #[.pointer (some ⟨b1, 0, none⟩), .pointer (some ⟨b2, 0, none⟩)]) w (BoolB (decide (x.parent = scope) && bEq x.pre (pre ++ name ++ dot)) w) := by
 obtain ⟨B1, B2, B3, B4, B5, d1, d2, d3, d4, d5, rfl, -, -, -, -, -, -⟩ := sc_form hx
 obtain ⟨e0, e1, e2, e3, e4, e5, e6⟩ := cel7 hc
 have m1 := blk1 h1
 have m2 := blk1 h2
 have HT := Lib.hid (bEq_tl x.pre (pre ++ name ++ dot))
 clear hx hc h1 h2
 simp only [List.push_toArray, List.append_toArray, List.cons_append, List.nil_append]
 by_cases hs : x.parent = scope
 ·have hq : (x.parent == scope) = true := by simpa using hs
  have HE : Hid ((decide (x.parent = scope) && bEq x.pre (pre ++ name ++ dot)) = (x.pre.toList == (pre ++ name ++ dot).toList)) := Lib.hid (by rw [HT.out, decide_eq_true hs]; rfl)
  clear hs
  go_enter Tryz.func124, Tryz.ntmps124
  go_wp2_with fail
  go_quiet (fail)
  go_wp2_with fail
  go_ret
  exact ⟨by rw [HE.out]; try rfl, (Below.refl _ w).drewN _⟩
 ·have hq : (x.parent == scope) = false := by simpa using hs
  have HE : Hid ((decide (x.parent = scope) && bEq x.pre (pre ++ name ++ dot)) = false) := Lib.hid (by rw [decide_eq_false hs]; rfl)
  clear hs
  go_enter Tryz.func124, Tryz.ntmps124
  go_wp2_with fail
  go_quiet (fail)
  go_wp2_with fail
  go_ret
  exact ⟨by rw [HE.out]; try rfl, (Below.refl _ w).drewN _⟩
set_option maxRecDepth 100000 in
theorem ninner_any (S : Nat → Prop) (SA NA : Option Addr) (sC nC : Nat) (sc : List Sc) (nd : List Nd) (scope : Int) (name : ByteArray) (w : World) (hsc : Ls S w 7 144 Sc.tr SA sC sc) (hnd : Ls S w 11 200 Nd.tr NA nC nd)
 (hsn : sc.length ≤ 1000000) (hnn : nd.length ≤ 1000000) (hn : name.size ≤ 1000000) (hp : ∀ s ∈ sc, s.pre.size ≤ 1000000) :
 Calls Tryz.prog 82 #[.agg #[.slice SA sc.length sC, .slice NA nd.length nC], .int .i64 scope, .string name] w (PosB (innL sc scope name) w) := by
 obtain ⟨W3, hW3⟩ : ∃ W3, W3 = ((w.alloc (.cells #[.slice SA sc.length sC, .slice NA nd.length nC] 34)).alloc (.cells #[.int .i64 scope] 3)).alloc (.cells #[.string name] 9) := ⟨_, rfl⟩
 have hb1 : Below w.heap.size w W3 := by rw [hW3]; exact (((Below.refl _ w).alloc (Nat.le_refl _) _).alloc (by simp) _).alloc (by simp; omega) _
 have hfb : Blk W3 w.heap.size #[.slice SA sc.length sC, .slice NA nd.length nC] 34 := by rw [hW3]; exact ((Blk.new w _ _).alloc _).alloc _
 have hs1 : Blk W3 (w.heap.size + 1) #[.int .i64 scope] 3 := by
  rw [hW3]
  have := Blk.new (w.alloc (.cells #[.slice SA sc.length sC, .slice NA nd.length nC] 34)) #[.int .i64 scope] 3
  rw [show (w.alloc (.cells #[.slice SA sc.length sC, .slice NA nd.length nC] 34)).heap.size = w.heap.size + 1 by simp] at this
  exact this.alloc _
 have hs2 : Blk W3 (w.heap.size + 1 + 1) #[.string name] 9 := by
  rw [hW3]
  have := Blk.new ((w.alloc (.cells #[.slice SA sc.length sC, .slice NA nd.length nC] 34)).alloc (.cells #[.int .i64 scope] 3)) #[.string name] 9
  rwa [show ((w.alloc (.cells #[.slice SA sc.length sC, .slice NA nd.length nC] 34)).alloc (.cells #[.int .i64 scope] 3)).heap.size = w.heap.size + 1 + 1 by simp] at this
 have HCL := Lib.hid (findS_any S w.heap.size SA NA SA sC nd.length nC sC sc sc scope 124 #[.pointer (some ⟨w.heap.size + 1, 0, none⟩), .pointer (some ⟨w.heap.size + 1 + 1, 0, none⟩)] (fun s n => decide (n.parent = scope) && bEq n.pre (s.pre ++ name ++ dot)) W3 hfb (hsc.below hb1) (hsc.below hb1) hsn hsn (callFunc_go Tryz.func124 rfl rfl)
  (fun s hs ad i x hA hx w' hb => by
    obtain ⟨ad', cs, e, ht, hc⟩ := ((hsc.below hb1).below hb).elem Sc.trlen hx
    rw [hA] at e; injection e with e; subst e
    exact ninner1_any S x cs (ad.add (i * 7)) s.pre name scope _ _ w' ht hc (hs1.below hb) (hs2.below hb) (by
     unfold scL at hs
     split at hs
     ·exact hp s (List.mem_of_getElem? hs)
     ·cases hs) hn))
 have HB1 := Lib.hid hb1
 have HW3 := Lib.hid hW3
 obtain ⟨f0, f1⟩ := blk2 hfb
 have f2 := blk1 hs1
 have HE : Hid (posF sc sc scope (fun s n => decide (n.parent = scope) && bEq n.pre (s.pre ++ name ++ dot)) = innL sc scope name) := Lib.hid rfl
 rw [HE.out] at HCL
 obtain ⟨o, ho⟩ : ∃ o, o = innL sc scope name := ⟨_, rfl⟩
 rw [← ho] at HCL ⊢
 clear hsc hnd hb1 hfb hs1 hs2 hW3 HE ho hp
 go_enter Tryz.func82, Tryz.ntmps82
 go_upto_region 1 with fail
 rw [← HW3.out]
 go_wp2_with fail
 refine HCL.out.mono ?_
 rintro e w4 ⟨rfl, hb4⟩
 have HB4 := Lib.hid (HB1.out.trans (hb4.mono HB1.out.size))
 clear hb4
 go_wp2_with fail
 refine bodyPost_ret (v := .tuple #[.int .i64 ((o.getD 0 : Nat) : Int), .bool o.isSome]) (by simp [results, Tryz.results82, go_sem]) rfl ?_
 exact ⟨rfl, HB4.out⟩
end Go.Proofs.YtgdfkbalnpfdgaaGreatDoor
