/- Parameters, plain: what may be, what they are bound to (for NestGuards and the layers behind it). -/
import Derived.Test.YtgdfkbalnpfdgaaGreatDoorCp1
namespace Go.Proofs.YtgdfkbalnpfdgaaGreatDoor
set_option linter.unusedVariables false
set_option linter.unusedSimpArgs false
def wordOk (s : ByteArray) : Bool := decide (s.size ≤ 64) && Lib.validD s.data.toList
def pKind (p : Pm) (v : Vl) : Bool := if vChk v ≠ 0 then false else if p.number = true then decide (v.kind = 2) else if v.kind = 3 then wordOk v.text else false
def pAllowed (p : Pm) (v : Vl) : Bool := decide (p.allowed.length = 0) || p.allowed.any (fun x => vEq x v)
def vEmpty (v : Vl) : Bool := decide (v.kind = 0) && (!v.bool && (decide (v.num = 0) && (bEq v.text ByteArray.empty && (decide (v.list.length = 0) && decide (v.keys.length = 0)))))
def pTwiceGo : List Vl → List Vl → Bool
 | _, [] => false
 | pre, x :: r => pre.any (fun v => vEq v x) || pTwiceGo (pre ++ [x]) r
def pTwice (l : List Vl) : Bool := pTwiceGo [] l
def pMay (p : Pm) : Bool := !((!isName p.name || decide (8 < p.allowed.length)) || (p.allowed.any (fun v => !pKind p v) || (pTwice p.allowed || ((!p.has && !vEmpty p.dflt) || (p.has && !(pKind p p.dflt && pAllowed p p.dflt))))))
def pMayV (p : Pm) (g : Gv) : Bool := if pMay p = false then false else if g.unknown = false then pKind p g.v && pAllowed p g.v else if p.number = true then false else if 0 < p.allowed.length then false else vEmpty g.v
def tLt (s t : ByteArray) : Bool := Op.bytesLess s.toList t.toList
def tLe (s t : ByteArray) : Bool := tLt s t || (s.toList == t.toList)
def pWrong : ByteArray → List Pm → Bool
 | _, [] => false
 | last, p :: r => (!pMay p || tLe p.name last) || pWrong p.name r
def pCheck (l : List Pm) : Nat := if 6 < l.length then 3 else if pWrong ByteArray.empty l = true then 2 else 0
def gOrd : List Gv → Bool
 | [] => true
 | g :: r => (match r with | [] => true | h :: _ => tLt g.name h.name) && gOrd r
def gFind (l : List Gv) (s : ByteArray) : Option Gv := l.find? fun g => bEq g.name s
def pOne (given : List Gv) (p : Pm) : Option Gv := match gFind given p.name with
 | some v => if pMayV p v = true then some v else none
 | none => if p.has = false then none else if pMayV p ⟨p.name, false, p.dflt⟩ = true then some ⟨p.name, false, p.dflt⟩ else none
def pAll (given : List Gv) : List Pm → Option (List Gv)
 | [] => some []
 | p :: r => match pOne given p with
   | none => none
   | some v => (pAll given r).map (v :: ·)
def pBind (l : List Pm) (given : List Gv) : Nat ⊕ List Gv :=
 if pCheck l ≠ 0 then .inl (pCheck l) else if gOrd given = false then .inl 2 else if given.any (fun g => !l.any fun p => bEq p.name g.name) = true then .inl 140
 else match pAll given l with
  | none => .inl 140
  | some o => .inr o
def argOf (out : List Gv) (a : Pr) : Gv := match plainG a.e out with
 | some g => ⟨a.name, g.unknown, g.v⟩
 | none => ⟨a.name, true, zeroV⟩
theorem pAll_len {given : List Gv} : ∀ {l : List Pm} {o : List Gv}, pAll given l = some o → o.length = l.length
 | [], o, h => by
   unfold pAll at h
   injection h with h; subst h; rfl
 | p :: r, o, h => by
   unfold pAll at h
   split at h
   ·cases h
   ·obtain ⟨x, hx, rfl⟩ := Option.map_eq_some_iff.1 h
    simp [pAll_len hx]
theorem pAll_snoc {given : List Gv} {p : Pm} : ∀ {l : List Pm}, pAll given (l ++ [p]) = (pAll given l).bind fun o => (pOne given p).map fun v => o ++ [v]
 | [] => by
   simp only [List.nil_append, pAll]
   cases pOne given p <;> simp
 | q :: r => by
   simp only [List.cons_append, pAll]
   cases pOne given q with
   | none => rfl
   | some b =>
     simp only [pAll_snoc (l := r)]
     cases pAll given r with
     | none => rfl
     | some m => cases pOne given p <;> simp
open Go.RowKit
set_option linter.unusedVariables false
set_option linter.unusedSimpArgs false
theorem pword_any (s : ByteArray) (w : World) (hV : VOk w) (hs : s.size ≤ 140737488351232) : Calls Tryz.prog 165 #[.string s] w (BoolB (wordOk s) w) := by
 have HV := Lib.hid (hV s w hs (Below.refl _ w))
 by_cases h : s.size ≤ 64
 ·have hi : (s.size : Int) ≤ 64 := by omega
  have HE : Hid (wordOk s = Lib.validD s.data.toList) := Lib.hid (by unfold wordOk; simp [h])
  clear h hV
  go_enter Tryz.func165, Tryz.ntmps165
  go_wp2_with fail
  refine HV.out.mono ?_
  rintro e w2 ⟨rfl, hb⟩
  have HB := Lib.hid hb
  clear hb
  go_wp2_with fail
  go_ret
  exact ⟨by rw [HE.out]; rfl, HB.out⟩
 ·have hi : ¬ ((s.size : Int) ≤ 64) := by omega
  have HE : Hid (wordOk s = false) := Lib.hid (by unfold wordOk; simp [h])
  clear h hV
  go_enter Tryz.func165, Tryz.ntmps165
  go_wp2_with fail
  go_ret
  exact ⟨by rw [HE.out]; rfl, Below.refl _ w⟩
def idxP {α : Type} (p : α → Bool) (l : List α) : Int := match l.findIdx? p with | some i => (i : Int) | none => -1
theorem idxP_lt {α : Type} (p : α → Bool) (l : List α) : decide (idxP p l < 0) = !l.any p := by
 unfold idxP
 cases h : l.findIdx? p with
 | none =>
   rw [List.findIdx?_eq_none_iff] at h
   have : l.any p = false := by
    rw [List.any_eq_false]
    intro x hx
    simp [h x hx]
   rw [this]
   rfl
 | some i =>
   have h2 := List.findIdx?_eq_some_iff_getElem.1 h
   obtain ⟨hi, hp, _⟩ := h2
   have : l.any p = true := List.any_eq_true.2 ⟨_, List.getElem_mem hi, hp⟩
   rw [this]
   simp
theorem idxP_ge {α : Type} (p : α → Bool) (l : List α) : decide (0 ≤ idxP p l) = l.any p := by
 have := idxP_lt p l
 have h2 : decide (0 ≤ idxP p l) = !decide (idxP p l < 0) := by
  by_cases h : idxP p l < 0
  ·simp [h, show ¬ (0 ≤ idxP p l) by omega]
  ·simp [h, show 0 ≤ idxP p l by omega]
 rw [h2, this, Bool.not_not]
def idxQ (q : Nat → Bool) (n : Nat) : Int := match (List.range n).find? q with | some i => (i : Int) | none => -1
theorem idxQ_none {q : Nat → Bool} {n : Nat} (h : ∀ i, i < n → q i = false) : idxQ q n = -1 := by
 unfold idxQ
 have : (List.range n).find? q = none := List.find?_eq_none.2 (fun x hx => by rw [h x (List.mem_range.1 hx)]; decide)
 rw [this]
theorem idxQ_some {q : Nat → Bool} {n j : Nat} (hj : j < n) (hq : q j = true) (h : ∀ i, i < j → q i = false) : idxQ q n = (j : Int) := by
 unfold idxQ
 have : (List.range n).find? q = some j := by
  rw [List.find?_range_eq_some]
  exact ⟨hq, List.mem_range.2 hj, fun i hi => by rw [h i hi]; rfl⟩
 rw [this]
theorem idxQ_P {α : Type} {p : α → Bool} {l : List α} : idxQ (fun j => (l[j]?.map p).getD false) l.length = idxP p l := by
 unfold idxP
 cases h : l.findIdx? p with
 | none =>
   rw [List.findIdx?_eq_none_iff] at h
   refine idxQ_none fun i hi => ?_
   rw [List.getElem?_eq_getElem hi]
   simpa using h _ (List.getElem_mem hi)
 | some i =>
   obtain ⟨hi, hp, hlt⟩ := List.findIdx?_eq_some_iff_getElem.1 h
   refine idxQ_some hi (by simp only [List.getElem?_eq_getElem hi, Option.map_some, Option.getD_some]; exact hp) fun k hk => ?_
   have := hlt k hk
   simp only [List.getElem?_eq_getElem (show k < l.length by omega), Option.map_some, Option.getD_some]
   simpa using this
theorem callFunc_go {P : Program} {f : FuncId} {fn : Func} (h : P.funcs[f]? = some fn) (hn : (fn.name == "runtime.NumGoroutine") = false) (hb : fn.body.isNone = false) (args : Array Value) (w : World) : (callFunc f args).run P w = .ok (.enter f args) w := by
 have hn' : ¬ fn.name = "runtime.NumGoroutine" := by simpa using hn
 have hb' : ¬ fn.body = none := fun e => by rw [e] at hb; cases hb
 simp [callFunc, go_sem, h, hn', hb']
def AskQ {α : Type} (tr : α → List Tr) (fid : FuncId) (caps : Array Value) (p : α → Bool) (l : List α) (S : Nat → Prop) (w : World) : Prop :=
 ∀ x ∈ l, ∀ (cs : List Value) (w' : World), Below w.heap.size w w' → Trs.at S w' (tr x) cs → Calls Tryz.prog fid (#[.agg cs.toArray] ++ caps) w' (BoolB (p x) w')
def AskJ {α : Type} (tr : α → List Tr) (fid : FuncId) (caps : Array Value) (q : Nat → Bool) (l : List α) (S : Nat → Prop) (J : Nat → World → Prop) : Prop :=
 ∀ (j : Nat) (x : α), l[j]? = some x → ∀ (cs : List Value) (w' : World), J j w' → Trs.at S w' (tr x) cs → Calls Tryz.prog fid (#[.agg cs.toArray] ++ caps) w' fun e w'' => e = .returned (.bool (q j)) ∧ J (j + 1) w''
set_option maxRecDepth 100000 in
set_option maxHeartbeats 4000000 in
theorem findV_any' (S : Nat → Prop) (fid : FuncId) (caps : Array Value) (q : Nat → Bool) (J : Nat → World → Prop) (A : Option Addr) (c : Nat) (l : List Vl) (w : World) (hl : ∀ j w', J j w' → Ls S w' 6 80 Vl.tr A c l) (hn : l.length ≤ 1000000) (hcf : ∀ args w', (callFunc fid args).run Tryz.prog w' = .ok (.enter fid args) w') (h0 : J 0 w) (hJ : ∀ j w' w'', J j w' → Below w'.heap.size w' w'' → J j w'') (hf : AskJ Vl.tr fid caps q l S J) :
 Calls Tryz.prog 156 #[.slice A l.length c, .func (.func fid) #[] caps] w fun e w' => e = .returned (.int .i64 (idxQ q l.length)) ∧ ∃ j, J j w' := by
 have HL := Lib.hid hl
 have hl0 := hl 0 w h0
 have hcap := hl0.cap
 have hbyt := hl0.bytes
 have HF := Lib.hid hf
 have H0 := Lib.hid h0
 have HJB := Lib.hid hJ
 clear hl hf hl0 h0 hJ
 go_enter Tryz.func156, Tryz.ntmps156
 go_wp2_with fail
 go_loopg [9] l.length (fun g i wr => ∃ j : Nat, j + g = l.length ∧ i = .int .i64 (j : Nat) ∧ Hid (∀ i, i < j → q i = false) ∧ Hid (J j wr))
 case atStart => exact ⟨0, by omega, rfl, Lib.hid (fun i hi => absurd hi (by omega)), H0⟩
 case round =>
  obtain ⟨j, hj, rfl, HN, HJ⟩ := hrel
  rename World => wo
  cases gk with
  | zero =>
    have hjj : ¬ ((j : Int) < (l.length : Int)) := by omega
    have HE : Hid (idxQ q l.length = -1) := Lib.hid (idxQ_none (fun i hi => HN.out i (by omega)))
    go_wp2_with fail
    go_ret
    rw [HE.out]
    exact ⟨rfl, j, HJ.out⟩
  | succ g =>
    have hjj : (j : Int) < (l.length : Int) := by omega
    obtain ⟨k, hk⟩ := get_lt (l := l) (i := j) (by omega)
    obtain ⟨ad, cs, rfl, hxt, hxc⟩ := (HL.out j wo HJ.out).elem Vl.trlen hk
    have HXT := Lib.hid hxt
    obtain ⟨A2, c2, B2, d2, rfl, -⟩ := Vl.at_iff.1 hxt
    obtain ⟨e0, e1, e2, e3, e4, e5⟩ := cel6 hxc
    have hbn : Below wo.heap.size wo (wo.alloc (.cells #[.int .i8 k.kind, .bool k.bool, .int .i64 k.num, .string k.text, .slice A2 k.list.length c2, .slice B2 k.keys.length d2] 104)) := (Below.refl _ wo).alloc (Nat.le_refl _) _
    have HCL := Lib.hid (HF.out j k hk _ _ (HJB.out j _ _ HJ.out hbn) (HXT.out.below hbn))
    clear hbn
    have HE : Hid (q j = true → idxQ q l.length = (j : Int)) := Lib.hid (fun hq => idxQ_some (by omega) hq HN.out)
    clear hk hxt hxc
    cases hp : q j with
    | true =>
      rw [hp] at HCL
      have HE2 := Lib.hid (HE.out hp)
      clear hp HE
      go_wp2_with fail
      refine HCL.out.mono ?_
      rintro e w2 ⟨rfl, hb2⟩
      have HB2 := Lib.hid hb2
      clear hb2
      go_wp2_with fail
      go_ret
      rw [HE2.out]
      exact ⟨rfl, j + 1, HB2.out⟩
    | false =>
      rw [hp] at HCL
      have HN2 : Hid (∀ i, i < j + 1 → q i = false) := Lib.hid (fun i hi => by
       rcases Nat.lt_or_ge i j with h | h
       ·exact HN.out i h
       ·rw [show i = j by omega]; exact hp)
      clear hp HE
      go_wp2_with fail
      refine HCL.out.mono ?_
      rintro e w2 ⟨rfl, hb2⟩
      have HB2 := Lib.hid hb2
      clear hb2
      go_wp2_with fail
      go_roundg g
      case measure => omega
      case rel => exact ⟨j + 1, by omega, by go_num, HN2, HB2⟩
theorem findV_any (S : Nat → Prop) (fid : FuncId) (caps : Array Value) (p : Vl → Bool) (A : Option Addr) (c : Nat) (l : List Vl) (w : World) (hl : Ls S w 6 80 Vl.tr A c l) (hn : l.length ≤ 1000000) (hcf : ∀ args w', (callFunc fid args).run Tryz.prog w' = .ok (.enter fid args) w') (hf : AskQ Vl.tr fid caps p l S w) :
 Calls Tryz.prog 156 #[.slice A l.length c, .func (.func fid) #[] caps] w fun e w' => e = .returned (.int .i64 (idxP p l)) ∧ Below w.heap.size w w' :=
 (findV_any' S fid caps (fun j => (l[j]?.map p).getD false) (fun _ w' => Below w.heap.size w w') A c l w (fun _ _ h => hl.below h) hn hcf (Below.refl _ w) (fun _ _ _ h h' => h.trans (h'.mono h.size)) (fun j x hx cs w' hb ht => (hf x (List.mem_of_getElem? hx) cs w' hb ht).mono (by
   rintro e w'' ⟨rfl, hb'⟩
   exact ⟨by simp [hx], hb.trans (hb'.mono hb.size)⟩))).mono (by
   rintro e w' ⟨rfl, _, h⟩
   exact ⟨by rw [idxQ_P], h⟩)
set_option maxRecDepth 100000 in
set_option maxHeartbeats 4000000 in
theorem findP_any' (S : Nat → Prop) (fid : FuncId) (caps : Array Value) (q : Nat → Bool) (J : Nat → World → Prop) (A : Option Addr) (c : Nat) (l : List Pm) (w : World) (hl : ∀ j w', J j w' → Ls S w' 10 128 Pm.tr A c l) (hn : l.length ≤ 1000000) (hcf : ∀ args w', (callFunc fid args).run Tryz.prog w' = .ok (.enter fid args) w') (h0 : J 0 w) (hJ : ∀ j w' w'', J j w' → Below w'.heap.size w' w'' → J j w'') (hf : AskJ Pm.tr fid caps q l S J) :
 Calls Tryz.prog 108 #[.slice A l.length c, .func (.func fid) #[] caps] w fun e w' => e = .returned (.int .i64 (idxQ q l.length)) ∧ ∃ j, J j w' := by
 have HL := Lib.hid hl
 have hl0 := hl 0 w h0
 have hcap := hl0.cap
 have hbyt := hl0.bytes
 have HF := Lib.hid hf
 have H0 := Lib.hid h0
 have HJB := Lib.hid hJ
 clear hl hf hl0 h0 hJ
 go_enter Tryz.func108, Tryz.ntmps108
 go_wp2_with fail
 go_loopg [9] l.length (fun g i wr => ∃ j : Nat, j + g = l.length ∧ i = .int .i64 (j : Nat) ∧ Hid (∀ i, i < j → q i = false) ∧ Hid (J j wr))
 case atStart => exact ⟨0, by omega, rfl, Lib.hid (fun i hi => absurd hi (by omega)), H0⟩
 case round =>
  obtain ⟨j, hj, rfl, HN, HJ⟩ := hrel
  rename World => wo
  cases gk with
  | zero =>
    have hjj : ¬ ((j : Int) < (l.length : Int)) := by omega
    have HE : Hid (idxQ q l.length = -1) := Lib.hid (idxQ_none (fun i hi => HN.out i (by omega)))
    go_wp2_with fail
    go_ret
    rw [HE.out]
    exact ⟨rfl, j, HJ.out⟩
  | succ g =>
    have hjj : (j : Int) < (l.length : Int) := by omega
    obtain ⟨k, hk⟩ := get_lt (l := l) (i := j) (by omega)
    obtain ⟨ad, cs, rfl, hxt, hxc⟩ := (HL.out j wo HJ.out).elem Pm.trlen hk
    have HXT := Lib.hid hxt
    obtain ⟨vs, A3, c3, rfl, -, hxv, -⟩ := Pm.at_iff.1 hxt
    obtain ⟨A2, c2, B2, d2, rfl, -⟩ := Vl.at_iff.1 hxv
    obtain ⟨e0, e1, e2, e3, e4, e5, e6, e7, e8, e9⟩ := cel10 hxc
    have hbn : Below wo.heap.size wo (wo.alloc (.cells #[.string k.name, .bool k.number, .bool k.has, .int .i8 k.dflt.kind, .bool k.dflt.bool, .int .i64 k.dflt.num, .string k.dflt.text, .slice A2 k.dflt.list.length c2, .slice B2 k.dflt.keys.length d2, .slice A3 k.allowed.length c3] 138)) := (Below.refl _ wo).alloc (Nat.le_refl _) _
    have HCL := Lib.hid (HF.out j k hk _ _ (HJB.out j _ _ HJ.out hbn) (HXT.out.below hbn))
    clear hbn
    have HE : Hid (q j = true → idxQ q l.length = (j : Int)) := Lib.hid (fun hq => idxQ_some (by omega) hq HN.out)
    clear hk hxt hxc hxv
    cases hp : q j with
    | true =>
      rw [hp] at HCL
      have HE2 := Lib.hid (HE.out hp)
      clear hp HE
      go_wp2_with fail
      refine HCL.out.mono ?_
      rintro e w2 ⟨rfl, hb2⟩
      have HB2 := Lib.hid hb2
      clear hb2
      go_wp2_with fail
      go_ret
      rw [HE2.out]
      exact ⟨rfl, j + 1, HB2.out⟩
    | false =>
      rw [hp] at HCL
      have HN2 : Hid (∀ i, i < j + 1 → q i = false) := Lib.hid (fun i hi => by
       rcases Nat.lt_or_ge i j with h | h
       ·exact HN.out i h
       ·rw [show i = j by omega]; exact hp)
      clear hp HE
      go_wp2_with fail
      refine HCL.out.mono ?_
      rintro e w2 ⟨rfl, hb2⟩
      have HB2 := Lib.hid hb2
      clear hb2
      go_wp2_with fail
      go_roundg g
      case measure => omega
      case rel => exact ⟨j + 1, by omega, by go_num, HN2, HB2⟩
theorem findP_any (S : Nat → Prop) (fid : FuncId) (caps : Array Value) (p : Pm → Bool) (A : Option Addr) (c : Nat) (l : List Pm) (w : World) (hl : Ls S w 10 128 Pm.tr A c l) (hn : l.length ≤ 1000000) (hcf : ∀ args w', (callFunc fid args).run Tryz.prog w' = .ok (.enter fid args) w') (hf : AskQ Pm.tr fid caps p l S w) :
 Calls Tryz.prog 108 #[.slice A l.length c, .func (.func fid) #[] caps] w fun e w' => e = .returned (.int .i64 (idxP p l)) ∧ Below w.heap.size w w' :=
 (findP_any' S fid caps (fun j => (l[j]?.map p).getD false) (fun _ w' => Below w.heap.size w w') A c l w (fun _ _ h => hl.below h) hn hcf (Below.refl _ w) (fun _ _ _ h h' => h.trans (h'.mono h.size)) (fun j x hx cs w' hb ht => (hf x (List.mem_of_getElem? hx) cs w' hb ht).mono (by
   rintro e w'' ⟨rfl, hb'⟩
   exact ⟨by simp [hx], hb.trans (hb'.mono hb.size)⟩))).mono (by
   rintro e w' ⟨rfl, _, h⟩
   exact ⟨by rw [idxQ_P], h⟩)
set_option maxRecDepth 100000 in
set_option maxHeartbeats 4000000 in
theorem findG_any' (S : Nat → Prop) (fid : FuncId) (caps : Array Value) (q : Nat → Bool) (J : Nat → World → Prop) (A : Option Addr) (c : Nat) (l : List Gv) (w : World) (hl : ∀ j w', J j w' → Ls S w' 8 104 Gv.tr A c l) (hn : l.length ≤ 1000000) (hcf : ∀ args w', (callFunc fid args).run Tryz.prog w' = .ok (.enter fid args) w') (h0 : J 0 w) (hJ : ∀ j w' w'', J j w' → Below w'.heap.size w' w'' → J j w'') (hf : AskJ Gv.tr fid caps q l S J) :
 Calls Tryz.prog 106 #[.slice A l.length c, .func (.func fid) #[] caps] w fun e w' => e = .returned (.int .i64 (idxQ q l.length)) ∧ ∃ j, J j w' := by
 have HL := Lib.hid hl
 have hl0 := hl 0 w h0
 have hcap := hl0.cap
 have hbyt := hl0.bytes
 have HF := Lib.hid hf
 have H0 := Lib.hid h0
 have HJB := Lib.hid hJ
 clear hl hf hl0 h0 hJ
 go_enter Tryz.func106, Tryz.ntmps106
 go_wp2_with fail
 go_loopg [9] l.length (fun g i wr => ∃ j : Nat, j + g = l.length ∧ i = .int .i64 (j : Nat) ∧ Hid (∀ i, i < j → q i = false) ∧ Hid (J j wr))
 case atStart => exact ⟨0, by omega, rfl, Lib.hid (fun i hi => absurd hi (by omega)), H0⟩
 case round =>
  obtain ⟨j, hj, rfl, HN, HJ⟩ := hrel
  rename World => wo
  cases gk with
  | zero =>
    have hjj : ¬ ((j : Int) < (l.length : Int)) := by omega
    have HE : Hid (idxQ q l.length = -1) := Lib.hid (idxQ_none (fun i hi => HN.out i (by omega)))
    go_wp2_with fail
    go_ret
    rw [HE.out]
    exact ⟨rfl, j, HJ.out⟩
  | succ g =>
    have hjj : (j : Int) < (l.length : Int) := by omega
    obtain ⟨k, hk⟩ := get_lt (l := l) (i := j) (by omega)
    obtain ⟨ad, cs, rfl, hxt, hxc⟩ := (HL.out j wo HJ.out).elem Gv.trlen hk
    have HXT := Lib.hid hxt
    obtain ⟨vs, rfl, -, hxv⟩ := Gv.at_iff.1 hxt
    obtain ⟨A2, c2, B2, d2, rfl, -⟩ := Vl.at_iff.1 hxv
    obtain ⟨e0, e1, e2, e3, e4, e5, e6, e7⟩ := cel8 hxc
    have hbn : Below wo.heap.size wo (wo.alloc (.cells #[.string k.name, .bool k.unknown, .int .i8 k.v.kind, .bool k.v.bool, .int .i64 k.v.num, .string k.v.text, .slice A2 k.v.list.length c2, .slice B2 k.v.keys.length d2] 106)) := (Below.refl _ wo).alloc (Nat.le_refl _) _
    have HCL := Lib.hid (HF.out j k hk _ _ (HJB.out j _ _ HJ.out hbn) (HXT.out.below hbn))
    clear hbn
    have HE : Hid (q j = true → idxQ q l.length = (j : Int)) := Lib.hid (fun hq => idxQ_some (by omega) hq HN.out)
    clear hk hxt hxc hxv
    cases hp : q j with
    | true =>
      rw [hp] at HCL
      have HE2 := Lib.hid (HE.out hp)
      clear hp HE
      go_wp2_with fail
      refine HCL.out.mono ?_
      rintro e w2 ⟨rfl, hb2⟩
      have HB2 := Lib.hid hb2
      clear hb2
      go_wp2_with fail
      go_ret
      rw [HE2.out]
      exact ⟨rfl, j + 1, HB2.out⟩
    | false =>
      rw [hp] at HCL
      have HN2 : Hid (∀ i, i < j + 1 → q i = false) := Lib.hid (fun i hi => by
       rcases Nat.lt_or_ge i j with h | h
       ·exact HN.out i h
       ·rw [show i = j by omega]; exact hp)
      clear hp HE
      go_wp2_with fail
      refine HCL.out.mono ?_
      rintro e w2 ⟨rfl, hb2⟩
      have HB2 := Lib.hid hb2
      clear hb2
      go_wp2_with fail
      go_roundg g
      case measure => omega
      case rel => exact ⟨j + 1, by omega, by go_num, HN2, HB2⟩
theorem findG_any (S : Nat → Prop) (fid : FuncId) (caps : Array Value) (p : Gv → Bool) (A : Option Addr) (c : Nat) (l : List Gv) (w : World) (hl : Ls S w 8 104 Gv.tr A c l) (hn : l.length ≤ 1000000) (hcf : ∀ args w', (callFunc fid args).run Tryz.prog w' = .ok (.enter fid args) w') (hf : AskQ Gv.tr fid caps p l S w) :
 Calls Tryz.prog 106 #[.slice A l.length c, .func (.func fid) #[] caps] w fun e w' => e = .returned (.int .i64 (idxP p l)) ∧ Below w.heap.size w w' :=
 (findG_any' S fid caps (fun j => (l[j]?.map p).getD false) (fun _ w' => Below w.heap.size w w') A c l w (fun _ _ h => hl.below h) hn hcf (Below.refl _ w) (fun _ _ _ h h' => h.trans (h'.mono h.size)) (fun j x hx cs w' hb ht => (hf x (List.mem_of_getElem? hx) cs w' hb ht).mono (by
   rintro e w'' ⟨rfl, hb'⟩
   exact ⟨by simp [hx], hb.trans (hb'.mono hb.size)⟩))).mono (by
   rintro e w' ⟨rfl, _, h⟩
   exact ⟨by rw [idxQ_P], h⟩)
open Go.RowKit
set_option linter.unusedVariables false
set_option linter.unusedSimpArgs false
set_option maxRecDepth 100000 in
set_option maxHeartbeats 4000000 in
theorem pkind_any (S : Nat → Prop) (p : Pm) (A1 B1 A2 : Option Addr) (c1 d1 c2 : Nat) (v : Vl) (A B : Option Addr) (c d : Nat) (w : World) (hV : VOk w) (hv : Trs.at S w v.tr #[.int .i8 v.kind, .bool v.bool, .int .i64 v.num, .string v.text, .slice A v.list.length c, .slice B v.keys.length d].toList) (hs : vSmall v) :
 Calls Tryz.prog 138 #[.agg #[.string p.name, .bool p.number, .bool p.has, .int .i8 p.dflt.kind, .bool p.dflt.bool, .int .i64 p.dflt.num, .string p.dflt.text, .slice A1 p.dflt.list.length c1, .slice B1 p.dflt.keys.length d1, .slice A2 p.allowed.length c2], .agg #[.int .i8 v.kind, .bool v.bool, .int .i64 v.num, .string v.text, .slice A v.list.length c, .slice B v.keys.length d]] w (BoolB (pKind p v) w) := by
 have hb2 : Below w.heap.size w ((w.alloc (.cells #[.string p.name, .bool p.number, .bool p.has, .int .i8 p.dflt.kind, .bool p.dflt.bool, .int .i64 p.dflt.num, .string p.dflt.text, .slice A1 p.dflt.list.length c1, .slice B1 p.dflt.keys.length d1, .slice A2 p.allowed.length c2] 138)).alloc (.cells #[.int .i8 v.kind, .bool v.bool, .int .i64 v.num, .string v.text, .slice A v.list.length c, .slice B v.keys.length d] 104)) := ((Below.refl _ w).alloc (Nat.le_refl _) _).alloc (by simp) _
 have HC := Lib.hid (tchk_any S v A c B d ((w.alloc (.cells #[.string p.name, .bool p.number, .bool p.has, .int .i8 p.dflt.kind, .bool p.dflt.bool, .int .i64 p.dflt.num, .string p.dflt.text, .slice A1 p.dflt.list.length c1, .slice B1 p.dflt.keys.length d1, .slice A2 p.allowed.length c2] 138)).alloc (.cells #[.int .i8 v.kind, .bool v.bool, .int .i64 v.num, .string v.text, .slice A v.list.length c, .slice B v.keys.length d] 104)) (hV.below hb2) (hv.below hb2) hs)
 have HVW : Hid (∀ w', Below w.heap.size w w' → Calls Tryz.prog 165 #[.string v.text] w' (BoolB (wordOk v.text) w')) := Lib.hid (fun w' hb => pword_any v.text w' (hV.below hb) (by obtain ⟨_, _, _, _, _, _, _, ht, _⟩ := Vl.at_iff.1 hv; exact ht))
 have hk1 : Blk ((w.alloc (.cells #[.string p.name, .bool p.number, .bool p.has, .int .i8 p.dflt.kind, .bool p.dflt.bool, .int .i64 p.dflt.num, .string p.dflt.text, .slice A1 p.dflt.list.length c1, .slice B1 p.dflt.keys.length d1, .slice A2 p.allowed.length c2] 138)).alloc (.cells #[.int .i8 v.kind, .bool v.bool, .int .i64 v.num, .string v.text, .slice A v.list.length c, .slice B v.keys.length d] 104)) w.heap.size #[.string p.name, .bool p.number, .bool p.has, .int .i8 p.dflt.kind, .bool p.dflt.bool, .int .i64 p.dflt.num, .string p.dflt.text, .slice A1 p.dflt.list.length c1, .slice B1 p.dflt.keys.length d1, .slice A2 p.allowed.length c2] 138 := (Blk.new w _ _).alloc _
 have hk2 : Blk ((w.alloc (.cells #[.string p.name, .bool p.number, .bool p.has, .int .i8 p.dflt.kind, .bool p.dflt.bool, .int .i64 p.dflt.num, .string p.dflt.text, .slice A1 p.dflt.list.length c1, .slice B1 p.dflt.keys.length d1, .slice A2 p.allowed.length c2] 138)).alloc (.cells #[.int .i8 v.kind, .bool v.bool, .int .i64 v.num, .string v.text, .slice A v.list.length c, .slice B v.keys.length d] 104)) (w.heap.size + 1) #[.int .i8 v.kind, .bool v.bool, .int .i64 v.num, .string v.text, .slice A v.list.length c, .slice B v.keys.length d] 104 := by
  have := Blk.new (w.alloc (.cells #[.string p.name, .bool p.number, .bool p.has, .int .i8 p.dflt.kind, .bool p.dflt.bool, .int .i64 p.dflt.num, .string p.dflt.text, .slice A1 p.dflt.list.length c1, .slice B1 p.dflt.keys.length d1, .slice A2 p.allowed.length c2] 138)) #[.int .i8 v.kind, .bool v.bool, .int .i64 v.num, .string v.text, .slice A v.list.length c, .slice B v.keys.length d] 104
  rwa [show (w.alloc (.cells #[.string p.name, .bool p.number, .bool p.has, .int .i8 p.dflt.kind, .bool p.dflt.bool, .int .i64 p.dflt.num, .string p.dflt.text, .slice A1 p.dflt.list.length c1, .slice B1 p.dflt.keys.length d1, .slice A2 p.allowed.length c2] 138)).heap.size = w.heap.size + 1 by simp] at this
 obtain ⟨e0, e1, e2, e3, e4, e5⟩ := blk6 hk2
 have K1 := Lib.hid hk1
 have K2 := Lib.hid hk2
 have HB2 := Lib.hid hb2
 have HPK : Hid (pKind p v = if vChk v ≠ 0 then false else if p.number = true then decide (v.kind = 2) else if v.kind = 3 then wordOk v.text else false) := Lib.hid rfl
 obtain ⟨z, hz⟩ : ∃ z, z = vChk v := ⟨_, rfl⟩
 rw [← hz] at HC HPK
 obtain ⟨W2, hW2⟩ : ∃ W2, ((w.alloc (.cells #[.string p.name, .bool p.number, .bool p.has, .int .i8 p.dflt.kind, .bool p.dflt.bool, .int .i64 p.dflt.num, .string p.dflt.text, .slice A1 p.dflt.list.length c1, .slice B1 p.dflt.keys.length d1, .slice A2 p.allowed.length c2] 138)).alloc (.cells #[.int .i8 v.kind, .bool v.bool, .int .i64 v.num, .string v.text, .slice A v.list.length c, .slice B v.keys.length d] 104)) = W2 := ⟨_, rfl⟩
 have HW := Lib.hid hW2
 rw [hW2] at HC e0 e1 e2 e3 e4 e5 K1 K2 HB2
 clear hz hb2 hk1 hk2 hv hV hs hW2
 go_enter Tryz.func138, Tryz.ntmps138
 go_wp2_with fail
 rw [HW.out]
 go_wp2_with fail
 refine HC.out.mono ?_
 rintro e w2 ⟨rfl, hb⟩
 have HB := Lib.hid (HB2.out.trans (hb.mono HB2.out.size))
 have k1 := K1.out.below hb
 have k2 := K2.out.below hb
 obtain ⟨a0, a1, a2, a3, a4, a5, a6, a7, a8, a9⟩ := blk10 k1
 obtain ⟨b0, b1, b2, b3, b4, b5⟩ := blk6 k2
 clear hb k1 k2 e0 e1 e2 e3 e4 e5 K1 K2
 by_cases h0 : z = 0
 ·subst h0
  rw [if_neg (by decide)] at HPK
  cases hnb : p.number with
  | true =>
    rw [hnb] at HPK a1
    clear hnb
    rw [if_pos rfl] at HPK
    go_wp2_with fail
    all_goals
     go_ret
     refine ⟨?_, HB.out⟩
     rw [HPK.out]
     first
      | rfl
      | (simp [*]; done)
  | false =>
    rw [hnb] at HPK a1
    clear hnb
    rw [if_neg (by decide)] at HPK
    by_cases h3 : v.kind = 3
    ·have e3 : (v.kind == 3) = true := by rw [h3]; rfl
     rw [if_pos h3] at HPK
     clear h3
     go_wp2_with fail
     refine (HVW.out w2 HB.out).mono ?_
     rintro e w3 ⟨rfl, hb⟩
     have HB3 := Lib.hid (HB.out.trans (hb.mono HB.out.size))
     clear hb
     go_wp2_with fail
     go_ret
     exact ⟨by rw [HPK.out]; try rfl, HB3.out⟩
    ·have e3 : (v.kind == 3) = false := by simpa using h3
     rw [if_neg h3] at HPK
     clear h3
     go_wp2_with fail
     go_ret
     exact ⟨by rw [HPK.out]; try rfl, HB.out⟩
 ·have hz : ((z : Int) == 0) = false := by simpa using h0
  rw [if_pos h0] at HPK
  clear h0
  go_wp2_with fail
  go_ret
  exact ⟨by rw [HPK.out]; try rfl, HB.out⟩
open Go.RowKit
set_option linter.unusedVariables false
set_option linter.unusedSimpArgs false
set_option maxRecDepth 100000 in
set_option maxHeartbeats 4000000 in
theorem pempty_any (v : Vl) (A B : Option Addr) (c d : Nat) (w : World) :
 Calls Tryz.prog 140 #[.agg #[.int .i8 v.kind, .bool v.bool, .int .i64 v.num, .string v.text, .slice A v.list.length c, .slice B v.keys.length d]] w (BoolB (vEmpty v) w) := by
 have hb : Below w.heap.size w (w.alloc (.cells #[.int .i8 v.kind, .bool v.bool, .int .i64 v.num, .string v.text, .slice A v.list.length c, .slice B v.keys.length d] 104)) := (Below.refl _ w).alloc (Nat.le_refl _) _
 have HB := Lib.hid hb
 obtain ⟨e0, e1, e2, e3, e4, e5⟩ := blk6 (Blk.new w #[.int .i8 v.kind, .bool v.bool, .int .i64 v.num, .string v.text, .slice A v.list.length c, .slice B v.keys.length d] 104)
 have HE : Hid (vEmpty v = (decide (v.kind = 0) && (!v.bool && (decide (v.num = 0) && (bEq v.text ByteArray.empty && (decide (v.list.length = 0) && decide (v.keys.length = 0))))))) := Lib.hid rfl
 clear hb
 by_cases h0 : v.kind = 0
 ·have t0 : (v.kind == 0) = true := by rw [h0]; rfl
  rw [h0] at HE
  clear h0
  cases hbo : v.bool with
  | true =>
    rw [hbo] at e1 HE
    go_enter Tryz.func140, Tryz.ntmps140
    go_wp2_with fail
    go_ret
    exact ⟨by rw [HE.out]; try rfl, (Below.refl _ w).alloc (Nat.le_refl _) _⟩
  | false =>
    rw [hbo] at e1 HE
    by_cases h2 : v.num = 0
    ·have t2 : (v.num == 0) = true := by rw [h2]; rfl
     rw [h2] at HE
     clear h2
     by_cases h3 : v.text = ByteArray.empty
     ·have t3 : (v.text.toList == []) = true := by rw [h3, Lib.toList_data]; rfl
      rw [h3, bEq_iff.2 rfl] at HE
      clear h3
      by_cases h4 : v.list.length = 0
      ·have t4 : ((v.list.length : Int) == 0) = true := by simp [h4]
       rw [decide_eq_true h4] at HE
       clear h4
       by_cases h5 : v.keys.length = 0
       ·have t5 : ((v.keys.length : Int) == 0) = true := by simp [h5]
        rw [decide_eq_true h5] at HE
        clear h5
        go_enter Tryz.func140, Tryz.ntmps140
        go_wp2_with fail
        go_ret
        exact ⟨by rw [HE.out]; rfl, (Below.refl _ w).alloc (Nat.le_refl _) _⟩
       ·have t5 : ((v.keys.length : Int) == 0) = false := by simpa using h5
        rw [decide_eq_false h5] at HE
        clear h5
        go_enter Tryz.func140, Tryz.ntmps140
        go_wp2_with fail
        go_ret
        exact ⟨by rw [HE.out]; rfl, (Below.refl _ w).alloc (Nat.le_refl _) _⟩
      ·have t4 : ((v.list.length : Int) == 0) = false := by simpa using h4
       rw [decide_eq_false h4] at HE
       clear h4
       go_enter Tryz.func140, Tryz.ntmps140
       go_wp2_with fail
       go_ret
       exact ⟨by rw [HE.out]; simp, (Below.refl _ w).alloc (Nat.le_refl _) _⟩
     ·have t3 : (v.text.toList == []) = false := by have h := tl_ne h3; rwa [show ByteArray.empty.toList = [] by rw [Lib.toList_data]; rfl] at h
      rw [bEq_ne h3] at HE
      clear h3
      go_enter Tryz.func140, Tryz.ntmps140
      go_wp2_with fail
      go_ret
      exact ⟨by rw [HE.out]; simp, (Below.refl _ w).alloc (Nat.le_refl _) _⟩
    ·have t2 : (v.num == 0) = false := by simpa using h2
     rw [decide_eq_false h2] at HE
     clear h2
     go_enter Tryz.func140, Tryz.ntmps140
     go_wp2_with fail
     go_ret
     exact ⟨by rw [HE.out]; simp, (Below.refl _ w).alloc (Nat.le_refl _) _⟩
 ·have t0 : (v.kind == 0) = false := by simpa using h0
  rw [decide_eq_false h0] at HE
  clear h0
  go_enter Tryz.func140, Tryz.ntmps140
  go_wp2_with fail
  go_ret
  exact ⟨by rw [HE.out]; try rfl, (Below.refl _ w).alloc (Nat.le_refl _) _⟩
set_option maxRecDepth 100000 in
set_option maxHeartbeats 4000000 in
theorem al1_any' (S : Nat → Prop) (v : Vl) (A B : Option Addr) (c d : Nat) (vb : Nat) (x : Vl) (xs : List Value) (w : World) (hV : VOk w) (hv : Trs.at S w v.tr #[.int .i8 v.kind, .bool v.bool, .int .i64 v.num, .string v.text, .slice A v.list.length c, .slice B v.keys.length d].toList) (hvb : Blk w vb #[.int .i8 v.kind, .bool v.bool, .int .i64 v.num, .string v.text, .slice A v.list.length c, .slice B v.keys.length d] 104) (hsv : vSmall v) (hsx : vSmall x) (hx : Trs.at S w x.tr xs) :
 Calls Tryz.prog 166 (#[.agg xs.toArray] ++ #[.pointer (some ⟨vb, 0, none⟩)]) w (BoolB (vEq x v) w) := by
 obtain ⟨A2, c2, B2, d2, rfl, -⟩ := Vl.at_iff.1 hx
 have hbn : Below w.heap.size w (w.alloc (.cells #[.int .i8 x.kind, .bool x.bool, .int .i64 x.num, .string x.text, .slice A2 x.list.length c2, .slice B2 x.keys.length d2] 104)) := (Below.refl _ w).alloc (Nat.le_refl _) _
 have HC := Lib.hid (equal_any w hV S x v _ _ _ hsx hsv hbn (hx.below hbn) (hv.below hbn))
 have HB := Lib.hid hbn
 obtain ⟨e0, e1, e2, e3, e4, e5⟩ := blk6 (hvb.alloc (.cells #[.int .i8 x.kind, .bool x.bool, .int .i64 x.num, .string x.text, .slice A2 x.list.length c2, .slice B2 x.keys.length d2] 104))
 obtain ⟨q, hq⟩ : ∃ q, q = vEq x v := ⟨_, rfl⟩
 rw [← hq] at HC ⊢
 clear hq hv hx hvb hsv hsx hV hbn
 simp only [List.push_toArray, List.append_toArray, Array.append_eq_toArray_iff, Array.toList_append, List.cons_append, List.nil_append]
 go_enter Tryz.func166, Tryz.ntmps166
 go_wp2_with fail
 refine HC.out.mono ?_
 rintro e w2 ⟨rfl, hb⟩
 have HB2 := Lib.hid (HB.out.trans (hb.mono HB.out.size))
 clear hb
 go_wp2_with fail
 go_ret
 exact ⟨rfl, HB2.out⟩
theorem Ls.take {α : Type} {tr : α → List Tr} {S : Nat → Prop} {w : World} {sz b c : Nat} {A : Option Addr} {l : List α} (hsz : ∀ a, (tr a).length = sz) (h : Ls S w sz b tr A c l) {j : Nat} (hj : j ≤ l.length) : Ls S w sz b tr A c (l.take j) := by
 obtain ⟨vs, hr, ht⟩ := h.cells
 have hl : (l.take j).length = j := by simp; omega
 refine ⟨h.sz0, ?_, by rw [hl]; exact Nat.le_trans hj h.cap, h.max, fun ad e h0 => h.blk ad e (by rw [hl] at h0; omega), ⟨vs.take (j * sz), by rw [hl]; exact hr.take hj, ?_⟩⟩
 ·rw [hl]; exact Nat.le_trans (Nat.mul_le_mul_right b hj) h.bytes
 ·rw [← List.take_append_drop j l, List.flatMap_append] at ht
  obtain ⟨a, d, rfl, h1, _⟩ := Trs.at.app.1 ht
  have hal : a.length = j * sz := by
   rw [h1.len, List.length_flatMap, List.map_congr_left (fun a _ => hsz a), List.map_const', List.sum_replicate_nat, hl]
  rw [← hal, List.take_left]
  exact h1
set_option maxRecDepth 100000 in
set_option maxHeartbeats 4000000 in
theorem pallowed_any (S : Nat → Prop) (p : Pm) (A1 B1 A2 : Option Addr) (c1 d1 c2 : Nat) (v : Vl) (A B : Option Addr) (c d : Nat) (w : World) (hV : VOk w) (ha : Ls S w 6 80 Vl.tr A2 c2 p.allowed) (hal : p.allowed.length ≤ 1000000) (hsa : ∀ x ∈ p.allowed, vSmall x) (hv : Trs.at S w v.tr #[.int .i8 v.kind, .bool v.bool, .int .i64 v.num, .string v.text, .slice A v.list.length c, .slice B v.keys.length d].toList) (hs : vSmall v) :
 Calls Tryz.prog 139 #[.agg #[.string p.name, .bool p.number, .bool p.has, .int .i8 p.dflt.kind, .bool p.dflt.bool, .int .i64 p.dflt.num, .string p.dflt.text, .slice A1 p.dflt.list.length c1, .slice B1 p.dflt.keys.length d1, .slice A2 p.allowed.length c2], .agg #[.int .i8 v.kind, .bool v.bool, .int .i64 v.num, .string v.text, .slice A v.list.length c, .slice B v.keys.length d]] w (BoolB (pAllowed p v) w) := by
 have hb2 : Below w.heap.size w ((w.alloc (.cells #[.string p.name, .bool p.number, .bool p.has, .int .i8 p.dflt.kind, .bool p.dflt.bool, .int .i64 p.dflt.num, .string p.dflt.text, .slice A1 p.dflt.list.length c1, .slice B1 p.dflt.keys.length d1, .slice A2 p.allowed.length c2] 138)).alloc (.cells #[.int .i8 v.kind, .bool v.bool, .int .i64 v.num, .string v.text, .slice A v.list.length c, .slice B v.keys.length d] 104)) := ((Below.refl _ w).alloc (Nat.le_refl _) _).alloc (by simp) _
 have hk1 : Blk ((w.alloc (.cells #[.string p.name, .bool p.number, .bool p.has, .int .i8 p.dflt.kind, .bool p.dflt.bool, .int .i64 p.dflt.num, .string p.dflt.text, .slice A1 p.dflt.list.length c1, .slice B1 p.dflt.keys.length d1, .slice A2 p.allowed.length c2] 138)).alloc (.cells #[.int .i8 v.kind, .bool v.bool, .int .i64 v.num, .string v.text, .slice A v.list.length c, .slice B v.keys.length d] 104)) w.heap.size #[.string p.name, .bool p.number, .bool p.has, .int .i8 p.dflt.kind, .bool p.dflt.bool, .int .i64 p.dflt.num, .string p.dflt.text, .slice A1 p.dflt.list.length c1, .slice B1 p.dflt.keys.length d1, .slice A2 p.allowed.length c2] 138 := (Blk.new w _ _).alloc _
 have hk2 : Blk ((w.alloc (.cells #[.string p.name, .bool p.number, .bool p.has, .int .i8 p.dflt.kind, .bool p.dflt.bool, .int .i64 p.dflt.num, .string p.dflt.text, .slice A1 p.dflt.list.length c1, .slice B1 p.dflt.keys.length d1, .slice A2 p.allowed.length c2] 138)).alloc (.cells #[.int .i8 v.kind, .bool v.bool, .int .i64 v.num, .string v.text, .slice A v.list.length c, .slice B v.keys.length d] 104)) (w.heap.size + 1) #[.int .i8 v.kind, .bool v.bool, .int .i64 v.num, .string v.text, .slice A v.list.length c, .slice B v.keys.length d] 104 := by
  have := Blk.new (w.alloc (.cells #[.string p.name, .bool p.number, .bool p.has, .int .i8 p.dflt.kind, .bool p.dflt.bool, .int .i64 p.dflt.num, .string p.dflt.text, .slice A1 p.dflt.list.length c1, .slice B1 p.dflt.keys.length d1, .slice A2 p.allowed.length c2] 138)) #[.int .i8 v.kind, .bool v.bool, .int .i64 v.num, .string v.text, .slice A v.list.length c, .slice B v.keys.length d] 104
  rwa [show (w.alloc (.cells #[.string p.name, .bool p.number, .bool p.has, .int .i8 p.dflt.kind, .bool p.dflt.bool, .int .i64 p.dflt.num, .string p.dflt.text, .slice A1 p.dflt.list.length c1, .slice B1 p.dflt.keys.length d1, .slice A2 p.allowed.length c2] 138)).heap.size = w.heap.size + 1 by simp] at this
 have HFD := Lib.hid (findV_any S 166 #[.pointer (some ⟨w.heap.size + 1, 0, none⟩)] (fun x => vEq x v) A2 c2 p.allowed ((w.alloc (.cells #[.string p.name, .bool p.number, .bool p.has, .int .i8 p.dflt.kind, .bool p.dflt.bool, .int .i64 p.dflt.num, .string p.dflt.text, .slice A1 p.dflt.list.length c1, .slice B1 p.dflt.keys.length d1, .slice A2 p.allowed.length c2] 138)).alloc (.cells #[.int .i8 v.kind, .bool v.bool, .int .i64 v.num, .string v.text, .slice A v.list.length c, .slice B v.keys.length d] 104)) (ha.below hb2) hal (callFunc_go Tryz.func166 rfl rfl) (fun x hx cs w' hb ht => al1_any' S v A B c d (w.heap.size + 1) x cs w' ((hV.below hb2).below hb) ((hv.below hb2).below hb) (hk2.below hb) hs (hsa x hx) ht))
 have HG := Lib.hid (idxP_ge (fun x => vEq x v) p.allowed)
 have HPA : Hid (pAllowed p v = (decide (p.allowed.length = 0) || p.allowed.any (fun x => vEq x v))) := Lib.hid rfl
 obtain ⟨z, hz⟩ : ∃ z, z = idxP (fun x => vEq x v) p.allowed := ⟨_, rfl⟩
 rw [← hz] at HFD HG
 obtain ⟨a0, a1, a2, a3, a4, a5, a6, a7, a8, a9⟩ := blk10 hk1
 have HB2 := Lib.hid hb2
 have hcap := ha.cap
 obtain ⟨W2, hW2⟩ : ∃ W2, ((w.alloc (.cells #[.string p.name, .bool p.number, .bool p.has, .int .i8 p.dflt.kind, .bool p.dflt.bool, .int .i64 p.dflt.num, .string p.dflt.text, .slice A1 p.dflt.list.length c1, .slice B1 p.dflt.keys.length d1, .slice A2 p.allowed.length c2] 138)).alloc (.cells #[.int .i8 v.kind, .bool v.bool, .int .i64 v.num, .string v.text, .slice A v.list.length c, .slice B v.keys.length d] 104)) = W2 := ⟨_, rfl⟩
 have HW := Lib.hid hW2
 rw [hW2] at HFD HB2 a9
 clear hz hb2 hk1 hk2 hv hV hs hsa ha hW2 a0 a1 a2 a3 a4 a5 a6 a7 a8
 by_cases h0 : p.allowed.length = 0
 ·have t0 : ((p.allowed.length : Int) == 0) = true := by simp [h0]
  rw [decide_eq_true h0] at HPA
  clear h0
  go_enter Tryz.func139, Tryz.ntmps139
  go_wp2_with fail
  rw [HW.out]
  go_wp2_with fail
  go_ret
  exact ⟨by rw [HPA.out]; try rfl, HB2.out⟩
 ·have t0 : ((p.allowed.length : Int) == 0) = false := by simpa using h0
  rw [decide_eq_false h0] at HPA
  clear h0
  go_enter Tryz.func139, Tryz.ntmps139
  go_wp2_with fail
  rw [HW.out]
  go_wp2_with fail
  refine HFD.out.mono ?_
  rintro e w3 ⟨rfl, hb⟩
  have HB3 := Lib.hid (HB2.out.trans (hb.mono HB2.out.size))
  clear hb
  go_wp2_with fail
  all_goals
   go_ret
   refine ⟨?_, HB3.out⟩
   rw [HPA.out, ← HG.out]
   simp [*]
theorem tw_drop {l : List Vl} {j : Nat} {x : Vl} (h : l[j]? = some x) : pTwiceGo (l.take j) (l.drop j) = ((l.take j).any (fun v => vEq v x) || pTwiceGo (l.take (j + 1)) (l.drop (j + 1))) := by
 rw [drop_cons h, List.take_add_one, h]; rfl
set_option maxRecDepth 100000 in
set_option maxHeartbeats 4000000 in
theorem tw1_any (S : Nat → Prop) (A : Option Addr) (c : Nat) (l : List Vl) (lb jb j : Nat) (y : Vl) (hy : l[j]? = some y) (x : Vl) (xs : List Value) (w : World) (hV : VOk w) (hl : Ls S w 6 80 Vl.tr A c l) (hlb : Blk w lb #[.slice A l.length c] 102) (hjb : Blk w jb #[.int .i64 (j : Int)] 3) (hsy : vSmall y) (hsx : vSmall x) (hx : Trs.at S w x.tr xs) :
 Calls Tryz.prog 172 (#[.agg xs.toArray] ++ #[.pointer (some ⟨lb, 0, none⟩), .pointer (some ⟨jb, 0, none⟩)]) w (BoolB (vEq x y) w) := by
 obtain ⟨A2, c2, B2, d2, rfl, -⟩ := Vl.at_iff.1 hx
 have hbn : Below w.heap.size w (w.alloc (.cells #[.int .i8 x.kind, .bool x.bool, .int .i64 x.num, .string x.text, .slice A2 x.list.length c2, .slice B2 x.keys.length d2] 104)) := (Below.refl _ w).alloc (Nat.le_refl _) _
 obtain ⟨ad, ys, rfl, hyt, hyc⟩ := (hl.below hbn).elem Vl.trlen hy
 have hyt' := hyt
 obtain ⟨A3, c3, B3, d3, rfl, -⟩ := Vl.at_iff.1 hyt'
 have HC := Lib.hid (fun w' (hb : Below (w.alloc (.cells #[.int .i8 x.kind, .bool x.bool, .int .i64 x.num, .string x.text, .slice A2 x.list.length c2, .slice B2 x.keys.length d2] 104)).heap.size (w.alloc (.cells #[.int .i8 x.kind, .bool x.bool, .int .i64 x.num, .string x.text, .slice A2 x.list.length c2, .slice B2 x.keys.length d2] 104)) w') => equal_any w hV S x y _ _ w' hsx hsy (hbn.trans (hb.mono hbn.size)) ((hx.below hbn).below hb) (hyt.below hb))
 have HB := Lib.hid hbn
 have hcap := hl.cap
 have hmax := hl.max
 have hjn : j < l.length := (List.getElem?_eq_some_iff.1 hy).1
 have hjj : (0 : Int) ≤ (j : Int) ∧ (j : Int) < (l.length : Int) := ⟨by omega, by omega⟩
 obtain ⟨f0, f1, f2, f3, f4, f5⟩ := cel6 hyc
 obtain ⟨e0, e1, e2, e3, e4, e5⟩ := blk6 (Blk.new w #[.int .i8 x.kind, .bool x.bool, .int .i64 x.num, .string x.text, .slice A2 x.list.length c2, .slice B2 x.keys.length d2] 104)
 have g0 := blk1 (hlb.alloc (.cells #[.int .i8 x.kind, .bool x.bool, .int .i64 x.num, .string x.text, .slice A2 x.list.length c2, .slice B2 x.keys.length d2] 104))
 have g1 := blk1 (hjb.alloc (.cells #[.int .i8 x.kind, .bool x.bool, .int .i64 x.num, .string x.text, .slice A2 x.list.length c2, .slice B2 x.keys.length d2] 104))
 obtain ⟨q, hq⟩ : ∃ q, q = vEq x y := ⟨_, rfl⟩
 rw [← hq] at HC ⊢
 clear hq hyt hyt' hx hl hlb hjb hsy hsx hV hbn hyc hy
 simp only [List.push_toArray, List.append_toArray, List.cons_append, List.nil_append]
 go_enter Tryz.func172, Tryz.ntmps172
 go_wp2_with fail
 generalize hW : w.alloc (.cells #[.int .i8 x.kind, .bool x.bool, .int .i64 x.num, .string x.text, .slice A2 x.list.length c2, .slice B2 x.keys.length d2] 104) = W at *
 go_still_tail 5, (by kernel_rfl)
 change wpList _ _ _ _ _ W.drew
 have HBD : Hid (Below W.heap.size W W.drew) := Lib.hid (below_drewN' W 1)
 go_wp2_with fail
 refine (HC.out _ HBD.out).mono ?_
 rintro e w2 ⟨rfl, hb⟩
 have HB2 := Lib.hid (HB.out.trans ((HBD.out.trans (hb.mono HBD.out.size)).mono HB.out.size))
 clear hb
 go_wp2_with fail
 go_ret
 exact ⟨rfl, HB2.out⟩
set_option maxRecDepth 100000 in
set_option maxHeartbeats 4000000 in
theorem ptwice_any (S : Nat → Prop) (A : Option Addr) (c : Nat) (l : List Vl) (w : World) (hV : VOk w) (hl : Ls S w 6 80 Vl.tr A c l) (hn : l.length ≤ 1000000) (hsm : ∀ x ∈ l, vSmall x) :
 Calls Tryz.prog 159 #[.slice A l.length c] w (BoolB (pTwice l) w) := by
 have hcap := hl.cap
 have hmax := hl.max
 have hbn : Below w.heap.size w (w.alloc (.cells #[.slice A l.length c] 102)) := (Below.refl _ w).alloc (Nat.le_refl _) _
 have HB := Lib.hid hbn
 have HKB := Lib.hid (Blk.new w #[.slice A l.length c] 102)
 have HL := Lib.hid hl
 have HV := Lib.hid hV
 have HSM := Lib.hid hsm
 have e0 := blk1 (Blk.new w #[.slice A l.length c] 102)
 clear hl hV hsm hbn
 go_enter Tryz.func159, Tryz.ntmps159
 go_wp2_with fail
 go_loopg [6] l.length (fun g i wr => ∃ j : Nat, j + g = l.length ∧ i = .int .i64 (j : Nat) ∧ Hid (pTwice l = pTwiceGo (l.take j) (l.drop j)) ∧ Hid (Below (w.heap.size + 1) (w.alloc (.cells #[.slice A l.length c] 102)) wr))
 case atStart => exact ⟨0, by omega, rfl, Lib.hid rfl, Lib.hid (Below.refl _ _)⟩
 case round =>
  obtain ⟨j, hj, rfl, HN, HR⟩ := hrel
  rename World => wo
  clear e0
  cases gk with
  | zero =>
    have hjj : ¬ ((j : Int) < (l.length : Int)) := by omega
    have HE : Hid (pTwice l = false) := Lib.hid (by rw [HN.out, List.drop_of_length_le (by omega)]; rfl)
    go_wp2_with fail
    go_ret
    rw [HE.out]
    exact ⟨rfl, HB.out.trans (HR.out.mono (by omega))⟩
  | succ g =>
    have hjj : (j : Int) < (l.length : Int) := by omega
    have hjb : (0 : Int) ≤ (j : Int) ∧ (j : Int) ≤ (c : Int) := ⟨by omega, by omega⟩
    obtain ⟨k, hk⟩ := get_lt (l := l) (i := j) (by omega)
    have HD := Lib.hid (tw_drop hk)
    have hr1 : Below (w.alloc (.cells #[.slice A l.length c] 102)).heap.size (w.alloc (.cells #[.slice A l.length c] 102)) wo := by simpa using HR.out
    have hwo : Below w.heap.size w wo := HB.out.trans (hr1.mono HB.out.size)
    have hbj : Below wo.heap.size wo (wo.alloc (.cells #[.int .i64 (j : Int)] 3)) := (Below.refl _ wo).alloc (Nat.le_refl _) _
    have hwj : Below w.heap.size w (wo.alloc (.cells #[.int .i64 (j : Int)] 3)) := hwo.trans (hbj.mono hwo.size)
    have kb : Blk (wo.alloc (.cells #[.int .i64 (j : Int)] 3)) w.heap.size #[.slice A l.length c] 102 := (HKB.out.below hr1).alloc _
    have kj : Blk (wo.alloc (.cells #[.int .i64 (j : Int)] 3)) wo.heap.size #[.int .i64 (j : Int)] 3 := Blk.new wo _ _
    have htk : (l.take j).length = j := by simp; omega
    have HFD := findV_any S 172 #[.pointer (some ⟨w.heap.size, 0, none⟩), .pointer (some ⟨wo.heap.size, 0, none⟩)] (fun x => vEq x k) A c (l.take j) (wo.alloc (.cells #[.int .i64 (j : Int)] 3)) ((HL.out.take Vl.trlen (by omega)).below hwj) (by omega) (callFunc_go Tryz.func172 rfl rfl)
     (fun x hx cs w' hb ht => tw1_any S A c l w.heap.size wo.heap.size j k hk x cs w' ((HV.out.below hwj).below hb) ((HL.out.below hwj).below hb) (kb.below hb) (kj.below hb) (HSM.out k (List.mem_of_getElem? hk)) (HSM.out x (List.mem_of_mem_take hx)) ht)
    rw [htk] at HFD
    have HFD := Lib.hid HFD
    have HG := Lib.hid (idxP_ge (fun x => vEq x k) (l.take j))
    obtain ⟨z, hz⟩ : ∃ z, z = idxP (fun x => vEq x k) (l.take j) := ⟨_, rfl⟩
    rw [← hz] at HFD HG
    have d0 := blk1 kb
    have d1 := blk1 kj
    have HBJ := Lib.hid hbj
    clear hk hr1 hwo hbj hwj kb kj hz htk
    go_wp2_with fail
    refine HFD.out.mono ?_
    rintro e w2 ⟨rfl, hb2⟩
    have HB2 := Lib.hid (HBJ.out.trans (hb2.mono HBJ.out.size))
    clear hb2
    by_cases hz0 : 0 ≤ z
    ·have HE : Hid (pTwice l = true) := Lib.hid (by
      have := HG.out
      rw [decide_eq_true hz0] at this
      rw [HN.out, HD.out, ← this]; rfl)
     go_wp2_with fail
     go_ret
     rw [HE.out]
     exact ⟨rfl, HB.out.trans ((HR.out.trans (HB2.out.mono (by have := HR.out.size; simpa using this))).mono (by omega))⟩
    ·have HE : Hid (pTwice l = pTwiceGo (l.take (j + 1)) (l.drop (j + 1))) := Lib.hid (by
      have := HG.out
      rw [decide_eq_false hz0] at this
      rw [HN.out, HD.out, ← this]; rfl)
     go_wp2_with fail
     go_roundg g
     case measure => omega
     case rel => exact ⟨j + 1, by omega, by go_num, HE, Lib.hid (HR.out.trans (HB2.out.mono (by have := HR.out.size; simpa using this)))⟩
open Go.RowKit
set_option linter.unusedVariables false
set_option linter.unusedSimpArgs false
def pSmall (p : Pm) : Prop := p.allowed.length ≤ 1000000 ∧ vSmall p.dflt ∧ ∀ x ∈ p.allowed, vSmall x
structure PmAt (S : Nat → Prop) (p : Pm) (A1 B1 A2 : Option Addr) (c1 d1 c2 : Nat) (w : World) : Prop where
 dflt : Trs.at S w p.dflt.tr #[.int .i8 p.dflt.kind, .bool p.dflt.bool, .int .i64 p.dflt.num, .string p.dflt.text, .slice A1 p.dflt.list.length c1, .slice B1 p.dflt.keys.length d1].toList
 al : Ls S w 6 80 Vl.tr A2 c2 p.allowed
 nm : p.name.size ≤ 140737488351232
 sm : pSmall p
theorem PmAt.of {S : Nat → Prop} {p : Pm} {w : World} {cs : List Value} (h : Trs.at S w p.tr cs) (hs : pSmall p) : ∃ (A1 B1 A2 : Option Addr) (c1 d1 c2 : Nat), cs = #[.string p.name, .bool p.number, .bool p.has, .int .i8 p.dflt.kind, .bool p.dflt.bool, .int .i64 p.dflt.num, .string p.dflt.text, .slice A1 p.dflt.list.length c1, .slice B1 p.dflt.keys.length d1, .slice A2 p.allowed.length c2].toList ∧ PmAt S p A1 B1 A2 c1 d1 c2 w := by
 obtain ⟨vs, A2, c2, rfl, hn, hv, hl⟩ := Pm.at_iff.1 h
 have hv' := hv
 obtain ⟨A1, c1, B1, d1, rfl, -⟩ := Vl.at_iff.1 hv'
 exact ⟨A1, B1, A2, c1, d1, c2, rfl, hv, hl, hn, hs⟩
theorem PmAt.below {S : Nat → Prop} {p : Pm} {A1 B1 A2 : Option Addr} {c1 d1 c2 : Nat} {w w' : World} (h : PmAt S p A1 B1 A2 c1 d1 c2 w) (hb : Below w.heap.size w w') : PmAt S p A1 B1 A2 c1 d1 c2 w' := ⟨h.dflt.below hb, h.al.below hb, h.nm, h.sm⟩
def pT1 (p : Pm) : Bool := !isName p.name || decide (8 < p.allowed.length)
def pT2 (p : Pm) : Bool := p.allowed.any (fun v => !pKind p v)
def pT4 (p : Pm) : Bool := !p.has && !vEmpty p.dflt
def pT5 (p : Pm) : Bool := p.has && !(pKind p p.dflt && pAllowed p p.dflt)
set_option maxRecDepth 100000 in
set_option maxHeartbeats 4000000 in
theorem m1_any (S : Nat → Prop) (p : Pm) (A1 B1 A2 : Option Addr) (c1 d1 c2 : Nat) (pb : Nat) (w : World) (hp : PmAt S p A1 B1 A2 c1 d1 c2 w) (hb : Blk w pb #[.string p.name, .bool p.number, .bool p.has, .int .i8 p.dflt.kind, .bool p.dflt.bool, .int .i64 p.dflt.num, .string p.dflt.text, .slice A1 p.dflt.list.length c1, .slice B1 p.dflt.keys.length d1, .slice A2 p.allowed.length c2] 138) :
 Calls Tryz.prog 154 #[.pointer (some ⟨pb, 0, none⟩)] w (BoolB (pT1 p) w) := by
 have HN := Lib.hid (rname_any p.name w hp.nm)
 obtain ⟨a0, a1, a2, a3, a4, a5, a6, a7, a8, a9⟩ := blk10 hb
 have HT : Hid (pT1 p = (!isName p.name || decide (8 < p.allowed.length))) := Lib.hid rfl
 have hcap := hp.al.cap
 have hmax := hp.al.max
 clear hp hb a1 a2 a3 a4 a5 a6 a7 a8
 cases hi : isName p.name with
 | false =>
   rw [hi] at HN HT
   clear hi
   go_enter Tryz.func154, Tryz.ntmps154
   go_wp2_with fail
   refine HN.out.mono ?_
   rintro e w2 ⟨rfl, rfl⟩
   go_wp2_with fail
   go_ret
   exact ⟨by rw [HT.out]; try rfl, Below.refl _ _⟩
 | true =>
   rw [hi] at HN HT
   clear hi
   by_cases h8 : 8 < p.allowed.length
   ·have h8i : (8 : Int) < (p.allowed.length : Int) := by omega
    rw [decide_eq_true h8] at HT
    clear h8
    go_enter Tryz.func154, Tryz.ntmps154
    go_wp2_with fail
    refine HN.out.mono ?_
    rintro e w2 ⟨rfl, rfl⟩
    go_wp2_with fail
    go_ret
    exact ⟨by rw [HT.out]; simp [*], Below.refl _ _⟩
   ·have h8i : ¬ ((8 : Int) < (p.allowed.length : Int)) := by omega
    rw [decide_eq_false h8] at HT
    clear h8
    go_enter Tryz.func154, Tryz.ntmps154
    go_wp2_with fail
    refine HN.out.mono ?_
    rintro e w2 ⟨rfl, rfl⟩
    go_wp2_with fail
    go_ret
    exact ⟨by rw [HT.out]; simp [*], Below.refl _ _⟩
set_option maxRecDepth 100000 in
set_option maxHeartbeats 4000000 in
theorem m21_any (S : Nat → Prop) (p : Pm) (A1 B1 A2 : Option Addr) (c1 d1 c2 : Nat) (pb : Nat) (x : Vl) (xs : List Value) (w : World) (hV : VOk w) (hb : Blk w pb #[.string p.name, .bool p.number, .bool p.has, .int .i8 p.dflt.kind, .bool p.dflt.bool, .int .i64 p.dflt.num, .string p.dflt.text, .slice A1 p.dflt.list.length c1, .slice B1 p.dflt.keys.length d1, .slice A2 p.allowed.length c2] 138) (hsx : vSmall x) (hx : Trs.at S w x.tr xs) :
 Calls Tryz.prog 157 (#[.agg xs.toArray] ++ #[.pointer (some ⟨pb, 0, none⟩)]) w (BoolB (!pKind p x) w) := by
 obtain ⟨A3, c3, B3, d3, rfl, -⟩ := Vl.at_iff.1 hx
 have hbn : Below w.heap.size w (w.alloc (.cells #[.int .i8 x.kind, .bool x.bool, .int .i64 x.num, .string x.text, .slice A3 x.list.length c3, .slice B3 x.keys.length d3] 104)) := (Below.refl _ w).alloc (Nat.le_refl _) _
 have HC := Lib.hid (pkind_any S p A1 B1 A2 c1 d1 c2 x A3 B3 c3 d3 _ (hV.below hbn) (hx.below hbn) hsx)
 have HB := Lib.hid hbn
 obtain ⟨e0, e1, e2, e3, e4, e5⟩ := blk6 (Blk.new w #[.int .i8 x.kind, .bool x.bool, .int .i64 x.num, .string x.text, .slice A3 x.list.length c3, .slice B3 x.keys.length d3] 104)
 obtain ⟨a0, a1, a2, a3, a4, a5, a6, a7, a8, a9⟩ := blk10 (hb.alloc (.cells #[.int .i8 x.kind, .bool x.bool, .int .i64 x.num, .string x.text, .slice A3 x.list.length c3, .slice B3 x.keys.length d3] 104))
 obtain ⟨q, hq⟩ : ∃ q, q = pKind p x := ⟨_, rfl⟩
 rw [← hq] at HC ⊢
 clear hq hx hb hsx hV hbn
 simp only [List.push_toArray, List.append_toArray, List.cons_append, List.nil_append]
 go_enter Tryz.func157, Tryz.ntmps157
 go_wp2_with fail
 refine HC.out.mono ?_
 rintro e w2 ⟨rfl, hb⟩
 have HB2 := Lib.hid (HB.out.trans (hb.mono HB.out.size))
 clear hb
 go_wp2_with fail
 go_ret
 exact ⟨rfl, HB2.out⟩
set_option maxRecDepth 100000 in
set_option maxHeartbeats 4000000 in
theorem m2_any (S : Nat → Prop) (p : Pm) (A1 B1 A2 : Option Addr) (c1 d1 c2 : Nat) (pb : Nat) (w : World) (hV : VOk w) (hp : PmAt S p A1 B1 A2 c1 d1 c2 w) (hb : Blk w pb #[.string p.name, .bool p.number, .bool p.has, .int .i8 p.dflt.kind, .bool p.dflt.bool, .int .i64 p.dflt.num, .string p.dflt.text, .slice A1 p.dflt.list.length c1, .slice B1 p.dflt.keys.length d1, .slice A2 p.allowed.length c2] 138) :
 Calls Tryz.prog 155 #[.pointer (some ⟨pb, 0, none⟩)] w (BoolB (pT2 p) w) := by
 have HFD := Lib.hid (findV_any S 157 #[.pointer (some ⟨pb, 0, none⟩)] (fun x => !pKind p x) A2 c2 p.allowed w hp.al hp.sm.1 (callFunc_go Tryz.func157 rfl rfl) (fun x hx cs w' hbw ht => m21_any S p A1 B1 A2 c1 d1 c2 pb x cs w' (hV.below hbw) (hb.below hbw) (hp.sm.2.2 x hx) ht))
 have HG := Lib.hid (idxP_ge (fun x => !pKind p x) p.allowed)
 have HT : Hid (pT2 p = p.allowed.any (fun x => !pKind p x)) := Lib.hid rfl
 obtain ⟨z, hz⟩ : ∃ z, z = idxP (fun x => !pKind p x) p.allowed := ⟨_, rfl⟩
 rw [← hz] at HFD HG
 obtain ⟨a0, a1, a2, a3, a4, a5, a6, a7, a8, a9⟩ := blk10 hb
 clear hp hb hz hV
 go_enter Tryz.func155, Tryz.ntmps155
 go_wp2_with fail
 refine HFD.out.mono ?_
 rintro e w2 ⟨rfl, hb⟩
 have HB := Lib.hid hb
 clear hb
 go_wp2_with fail
 go_ret
 exact ⟨by rw [HT.out, ← HG.out]; try rfl, HB.out⟩
set_option maxRecDepth 100000 in
set_option maxHeartbeats 4000000 in
theorem m3_any (S : Nat → Prop) (p : Pm) (A1 B1 A2 : Option Addr) (c1 d1 c2 : Nat) (pb : Nat) (w : World) (hV : VOk w) (hp : PmAt S p A1 B1 A2 c1 d1 c2 w) (hb : Blk w pb #[.string p.name, .bool p.number, .bool p.has, .int .i8 p.dflt.kind, .bool p.dflt.bool, .int .i64 p.dflt.num, .string p.dflt.text, .slice A1 p.dflt.list.length c1, .slice B1 p.dflt.keys.length d1, .slice A2 p.allowed.length c2] 138) :
 Calls Tryz.prog 158 #[.pointer (some ⟨pb, 0, none⟩)] w (BoolB (pTwice p.allowed) w) := by
 have HC := Lib.hid (ptwice_any S A2 c2 p.allowed w hV hp.al hp.sm.1 hp.sm.2.2)
 obtain ⟨a0, a1, a2, a3, a4, a5, a6, a7, a8, a9⟩ := blk10 hb
 clear hp hb hV
 go_enter Tryz.func158, Tryz.ntmps158
 go_wp2_with fail
 refine HC.out.mono ?_
 rintro e w2 ⟨rfl, hb⟩
 have HB := Lib.hid hb
 clear hb
 go_wp2_with fail
 go_ret
 exact ⟨rfl, HB.out⟩
set_option maxRecDepth 100000 in
set_option maxHeartbeats 4000000 in
theorem m4_any (S : Nat → Prop) (p : Pm) (A1 B1 A2 : Option Addr) (c1 d1 c2 : Nat) (pb : Nat) (w : World) (hb : Blk w pb #[.string p.name, .bool p.number, .bool p.has, .int .i8 p.dflt.kind, .bool p.dflt.bool, .int .i64 p.dflt.num, .string p.dflt.text, .slice A1 p.dflt.list.length c1, .slice B1 p.dflt.keys.length d1, .slice A2 p.allowed.length c2] 138) :
 Calls Tryz.prog 160 #[.pointer (some ⟨pb, 0, none⟩)] w (BoolB (pT4 p) w) := by
 have HC := Lib.hid (pempty_any p.dflt A1 B1 c1 d1 w)
 have HT : Hid (pT4 p = (!p.has && !vEmpty p.dflt)) := Lib.hid rfl
 obtain ⟨q, hq⟩ : ∃ q, q = vEmpty p.dflt := ⟨_, rfl⟩
 rw [← hq] at HC HT
 obtain ⟨a0, a1, a2, a3, a4, a5, a6, a7, a8, a9⟩ := blk10 hb
 clear hb hq
 cases hh : p.has with
 | true =>
   rw [hh] at HT a2
   clear hh
   go_enter Tryz.func160, Tryz.ntmps160
   go_wp2_with fail
   go_ret
   exact ⟨by rw [HT.out]; try rfl, Below.refl _ _⟩
 | false =>
   rw [hh] at HT a2
   clear hh
   go_enter Tryz.func160, Tryz.ntmps160
   go_wp2_with fail
   refine HC.out.mono ?_
   rintro e w2 ⟨rfl, hb⟩
   have HB := Lib.hid hb
   clear hb
   go_wp2_with fail
   go_ret
   exact ⟨by rw [HT.out]; try rfl, HB.out⟩
set_option maxRecDepth 100000 in
set_option maxHeartbeats 4000000 in
theorem m5_any (S : Nat → Prop) (p : Pm) (A1 B1 A2 : Option Addr) (c1 d1 c2 : Nat) (pb : Nat) (w : World) (hV : VOk w) (hp : PmAt S p A1 B1 A2 c1 d1 c2 w) (hb : Blk w pb #[.string p.name, .bool p.number, .bool p.has, .int .i8 p.dflt.kind, .bool p.dflt.bool, .int .i64 p.dflt.num, .string p.dflt.text, .slice A1 p.dflt.list.length c1, .slice B1 p.dflt.keys.length d1, .slice A2 p.allowed.length c2] 138) :
 Calls Tryz.prog 161 #[.pointer (some ⟨pb, 0, none⟩)] w (BoolB (pT5 p) w) := by
 have HC := Lib.hid (pkind_any S p A1 B1 A2 c1 d1 c2 p.dflt A1 B1 c1 d1 w hV hp.dflt hp.sm.2.1)
 have HA := Lib.hid (fun w' (hbw : Below w.heap.size w w') => pallowed_any S p A1 B1 A2 c1 d1 c2 p.dflt A1 B1 c1 d1 w' (hV.below hbw) (hp.al.below hbw) hp.sm.1 hp.sm.2.2 (hp.dflt.below hbw) hp.sm.2.1)
 have HT : Hid (pT5 p = (p.has && !(pKind p p.dflt && pAllowed p p.dflt))) := Lib.hid rfl
 obtain ⟨q, hq⟩ : ∃ q, q = pKind p p.dflt := ⟨_, rfl⟩
 obtain ⟨r, hr⟩ : ∃ r, r = pAllowed p p.dflt := ⟨_, rfl⟩
 rw [← hq] at HC
 rw [← hr] at HA
 rw [← hq, ← hr] at HT
 obtain ⟨a0, a1, a2, a3, a4, a5, a6, a7, a8, a9⟩ := blk10 hb
 have HK := Lib.hid hb
 clear hb hq hr hV hp
 cases hh : p.has with
 | false =>
   rw [hh] at HT a2
   clear hh
   go_enter Tryz.func161, Tryz.ntmps161
   go_wp2_with fail
   go_ret
   exact ⟨by rw [HT.out]; try rfl, Below.refl _ _⟩
 | true =>
   rw [hh] at HT a2 HK HC HA
   clear hh
   go_enter Tryz.func161, Tryz.ntmps161
   go_wp2_with fail
   refine HC.out.mono ?_
   rintro e w2 ⟨rfl, hb⟩
   have HB := Lib.hid hb
   obtain ⟨b0, b1, b2, b3, b4, b5, b6, b7, b8, b9⟩ := blk10 (HK.out.below hb)
   clear hb a0 a1 a2 a3 a4 a5 a6 a7 a8 a9
   cases q with
   | false =>
     go_wp2_with fail
     go_ret
     exact ⟨by rw [HT.out]; try rfl, HB.out⟩
   | true =>
     go_wp2_with fail
     refine (HA.out w2 HB.out).mono ?_
     rintro e w3 ⟨rfl, hb⟩
     have HB3 := Lib.hid (HB.out.trans (hb.mono HB.out.size))
     clear hb
     go_wp2_with fail
     go_ret
     exact ⟨by rw [HT.out]; try rfl, HB3.out⟩
open Go.RowKit
set_option linter.unusedVariables false
set_option linter.unusedSimpArgs false
theorem m6_any (fid : FuncId) (pb : Nat) (b : Bool) (w : World) (hcf : ∀ args w', (callFunc fid args).run Tryz.prog w' = .ok (.enter fid args) w') (h : Calls Tryz.prog fid #[.pointer (some ⟨pb, 0, none⟩)] w (BoolB b w)) : Calls Tryz.prog 163 #[.func (.func fid) #[] #[.pointer (some ⟨pb, 0, none⟩)]] w (BoolB b w) := by
 have H := Lib.hid h
 clear h
 go_enter Tryz.func163, Tryz.ntmps163
 go_wp2_with fail
 refine H.out.mono ?_
 rintro e w2 ⟨rfl, hb⟩
 have HB := Lib.hid hb
 clear hb
 go_wp2_with fail
 go_ret
 exact ⟨rfl, HB.out⟩
def fnV (pb : Nat) (f : FuncId) : Value := .func (.func f) #[] #[.pointer (some ⟨pb, 0, none⟩)]
set_option maxRecDepth 100000 in
set_option maxHeartbeats 4000000 in
theorem findF_any (pb : Nat) (fs : List FuncId) (q : Nat → Bool) (A : Option Addr) (c : Nat) (w : World) (hr : Rd w 1 A fs.length c (fs.map (fnV pb))) (hn : fs.length ≤ 1000000) (hcf : ∀ f ∈ fs, ∀ args w', (callFunc f args).run Tryz.prog w' = .ok (.enter f args) w') (hf : ∀ (j : Nat) (f : FuncId), fs[j]? = some f → ∀ w', Below w.heap.size w w' → Calls Tryz.prog f #[.pointer (some ⟨pb, 0, none⟩)] w' (BoolB (q j) w')) :
 Calls Tryz.prog 162 #[.slice A fs.length c, .func (.func 163) #[] #[]] w fun e w' => e = .returned (.int .i64 (idxQ q fs.length)) ∧ Below w.heap.size w w' := by
 have HR := Lib.hid hr
 have hcap := hr.cap
 have HF := Lib.hid hf
 have HCF := Lib.hid hcf
 clear hr hf hcf
 go_enter Tryz.func162, Tryz.ntmps162
 go_wp2_with fail
 go_loopg [9] fs.length (fun g i wr => ∃ j : Nat, j + g = fs.length ∧ i = .int .i64 (j : Nat) ∧ Hid (∀ i, i < j → q i = false) ∧ Hid (Below w.heap.size w wr))
 case atStart => exact ⟨0, by omega, rfl, Lib.hid (fun i hi => absurd hi (by omega)), Lib.hid (Below.refl _ _)⟩
 case round =>
  obtain ⟨j, hj, rfl, HN, HB⟩ := hrel
  rename World => wo
  cases gk with
  | zero =>
    have hjj : ¬ ((j : Int) < (fs.length : Int)) := by omega
    have HE : Hid (idxQ q fs.length = -1) := Lib.hid (idxQ_none (fun i hi => HN.out i (by omega)))
    go_wp2_with fail
    go_ret
    rw [HE.out]
    exact ⟨rfl, HB.out⟩
  | succ g =>
    have hjj : (j : Int) < (fs.length : Int) := by omega
    obtain ⟨k, hk⟩ := get_lt (l := fs) (i := j) (by omega)
    obtain ⟨ad, rfl, hc⟩ := (HR.out.below HB.out).at_ j (fnV pb k) (by simp [hk])
    unfold fnV at hc
    have HBN := HB
    have HCL := Lib.hid (m6_any k pb (q j) wo (HCF.out k (List.mem_of_getElem? hk)) (HF.out j k hk _ HBN.out))
    have HE : Hid (q j = true → idxQ q fs.length = (j : Int)) := Lib.hid (fun hq => idxQ_some (by omega) hq HN.out)
    clear hk
    cases hp : q j with
    | true =>
      rw [hp] at HCL
      have HE2 := Lib.hid (HE.out hp)
      clear hp HE
      go_wp2_with fail
      refine HCL.out.mono ?_
      rintro e w2 ⟨rfl, hb2⟩
      have HB2 := Lib.hid (HBN.out.trans (hb2.mono HBN.out.size))
      clear hb2
      go_wp2_with fail
      go_ret
      rw [HE2.out]
      exact ⟨rfl, HB2.out⟩
    | false =>
      rw [hp] at HCL
      have HN2 : Hid (∀ i, i < j + 1 → q i = false) := Lib.hid (fun i hi => by
       rcases Nat.lt_or_ge i j with h | h
       ·exact HN.out i h
       ·rw [show i = j by omega]; exact hp)
      clear hp HE
      go_wp2_with fail
      refine HCL.out.mono ?_
      rintro e w2 ⟨rfl, hb2⟩
      have HB2 := Lib.hid (HBN.out.trans (hb2.mono HBN.out.size))
      clear hb2
      go_wp2_with fail
      go_roundg g
      case measure => omega
      case rel => exact ⟨j + 1, by omega, by go_num, HN2, HB2⟩
def pQ (p : Pm) (j : Nat) : Bool := if j = 0 then pT1 p else if j = 1 then pT2 p else if j = 2 then pTwice p.allowed else if j = 3 then pT4 p else pT5 p
theorem idx5 (q : Nat → Bool) : decide (idxQ q 5 < 0) = !(q 0 || (q 1 || (q 2 || (q 3 || q 4)))) := by
 unfold idxQ
 rw [show List.range 5 = [0, 1, 2, 3, 4] from rfl]
 cases h0 : q 0 <;> cases h1 : q 1 <;> cases h2 : q 2 <;> cases h3 : q 3 <;> cases h4 : q 4 <;> simp [List.find?, *]
theorem pMay_eq (p : Pm) : pMay p = decide (idxQ (pQ p) 5 < 0) := by rw [idx5]; rfl
set_option maxRecDepth 100000 in
set_option maxHeartbeats 4000000 in
theorem pmay_any (S : Nat → Prop) (p : Pm) (A1 B1 A2 : Option Addr) (c1 d1 c2 : Nat) (w : World) (hV : VOk w) (hp : PmAt S p A1 B1 A2 c1 d1 c2 w) :
 Calls Tryz.prog 136 #[.agg #[.string p.name, .bool p.number, .bool p.has, .int .i8 p.dflt.kind, .bool p.dflt.bool, .int .i64 p.dflt.num, .string p.dflt.text, .slice A1 p.dflt.list.length c1, .slice B1 p.dflt.keys.length d1, .slice A2 p.allowed.length c2]] w (BoolB (pMay p) w) := by
 have hb2 : Below w.heap.size w ((w.alloc (.cells #[.string p.name, .bool p.number, .bool p.has, .int .i8 p.dflt.kind, .bool p.dflt.bool, .int .i64 p.dflt.num, .string p.dflt.text, .slice A1 p.dflt.list.length c1, .slice B1 p.dflt.keys.length d1, .slice A2 p.allowed.length c2] 138)).alloc (.cells #[.func (.func 154) #[] #[.pointer (some ⟨w.heap.size, 0, none⟩)], .func (.func 155) #[] #[.pointer (some ⟨w.heap.size, 0, none⟩)], .func (.func 158) #[] #[.pointer (some ⟨w.heap.size, 0, none⟩)], .func (.func 160) #[] #[.pointer (some ⟨w.heap.size, 0, none⟩)], .func (.func 161) #[] #[.pointer (some ⟨w.heap.size, 0, none⟩)]] 30)) := ((Below.refl _ w).alloc (Nat.le_refl _) _).alloc (by simp) _
 have hk1 : Blk ((w.alloc (.cells #[.string p.name, .bool p.number, .bool p.has, .int .i8 p.dflt.kind, .bool p.dflt.bool, .int .i64 p.dflt.num, .string p.dflt.text, .slice A1 p.dflt.list.length c1, .slice B1 p.dflt.keys.length d1, .slice A2 p.allowed.length c2] 138)).alloc (.cells #[.func (.func 154) #[] #[.pointer (some ⟨w.heap.size, 0, none⟩)], .func (.func 155) #[] #[.pointer (some ⟨w.heap.size, 0, none⟩)], .func (.func 158) #[] #[.pointer (some ⟨w.heap.size, 0, none⟩)], .func (.func 160) #[] #[.pointer (some ⟨w.heap.size, 0, none⟩)], .func (.func 161) #[] #[.pointer (some ⟨w.heap.size, 0, none⟩)]] 30)) w.heap.size #[.string p.name, .bool p.number, .bool p.has, .int .i8 p.dflt.kind, .bool p.dflt.bool, .int .i64 p.dflt.num, .string p.dflt.text, .slice A1 p.dflt.list.length c1, .slice B1 p.dflt.keys.length d1, .slice A2 p.allowed.length c2] 138 := (Blk.new w _ _).alloc _
 have hr : Rd ((w.alloc (.cells #[.string p.name, .bool p.number, .bool p.has, .int .i8 p.dflt.kind, .bool p.dflt.bool, .int .i64 p.dflt.num, .string p.dflt.text, .slice A1 p.dflt.list.length c1, .slice B1 p.dflt.keys.length d1, .slice A2 p.allowed.length c2] 138)).alloc (.cells #[.func (.func 154) #[] #[.pointer (some ⟨w.heap.size, 0, none⟩)], .func (.func 155) #[] #[.pointer (some ⟨w.heap.size, 0, none⟩)], .func (.func 158) #[] #[.pointer (some ⟨w.heap.size, 0, none⟩)], .func (.func 160) #[] #[.pointer (some ⟨w.heap.size, 0, none⟩)], .func (.func 161) #[] #[.pointer (some ⟨w.heap.size, 0, none⟩)]] 30)) 1 (some ⟨w.heap.size + 1, 0, none⟩) 5 5 ([154, 155, 158, 160, 161].map (fnV w.heap.size)) := by
  have := Rd.lit (w.alloc (.cells #[.string p.name, .bool p.number, .bool p.has, .int .i8 p.dflt.kind, .bool p.dflt.bool, .int .i64 p.dflt.num, .string p.dflt.text, .slice A1 p.dflt.list.length c1, .slice B1 p.dflt.keys.length d1, .slice A2 p.allowed.length c2] 138)) 1 5 #[.func (.func 154) #[] #[.pointer (some ⟨w.heap.size, 0, none⟩)], .func (.func 155) #[] #[.pointer (some ⟨w.heap.size, 0, none⟩)], .func (.func 158) #[] #[.pointer (some ⟨w.heap.size, 0, none⟩)], .func (.func 160) #[] #[.pointer (some ⟨w.heap.size, 0, none⟩)], .func (.func 161) #[] #[.pointer (some ⟨w.heap.size, 0, none⟩)]] 30 (0, 0) rfl (by unfold maxLen; omega)
  rwa [show (w.alloc (.cells #[.string p.name, .bool p.number, .bool p.has, .int .i8 p.dflt.kind, .bool p.dflt.bool, .int .i64 p.dflt.num, .string p.dflt.text, .slice A1 p.dflt.list.length c1, .slice B1 p.dflt.keys.length d1, .slice A2 p.allowed.length c2] 138)).heap.size = w.heap.size + 1 by simp] at this
 have HFD := Lib.hid (findF_any w.heap.size [154, 155, 158, 160, 161] (pQ p) (some ⟨w.heap.size + 1, 0, none⟩) 5 ((w.alloc (.cells #[.string p.name, .bool p.number, .bool p.has, .int .i8 p.dflt.kind, .bool p.dflt.bool, .int .i64 p.dflt.num, .string p.dflt.text, .slice A1 p.dflt.list.length c1, .slice B1 p.dflt.keys.length d1, .slice A2 p.allowed.length c2] 138)).alloc (.cells #[.func (.func 154) #[] #[.pointer (some ⟨w.heap.size, 0, none⟩)], .func (.func 155) #[] #[.pointer (some ⟨w.heap.size, 0, none⟩)], .func (.func 158) #[] #[.pointer (some ⟨w.heap.size, 0, none⟩)], .func (.func 160) #[] #[.pointer (some ⟨w.heap.size, 0, none⟩)], .func (.func 161) #[] #[.pointer (some ⟨w.heap.size, 0, none⟩)]] 30)) hr (by decide) (fun f hf => by
  simp only [List.mem_cons, List.not_mem_nil, or_false] at hf
  rcases hf with rfl | rfl | rfl | rfl | rfl
  ·exact callFunc_go Tryz.func154 rfl rfl
  ·exact callFunc_go Tryz.func155 rfl rfl
  ·exact callFunc_go Tryz.func158 rfl rfl
  ·exact callFunc_go Tryz.func160 rfl rfl
  ·exact callFunc_go Tryz.func161 rfl rfl) (fun j f hf w' hb => by
  have hV' := (hV.below hb2).below hb
  have hp' := (hp.below hb2).below hb
  have hk' := hk1.below hb
  match j, hf with
  | 0, hf => injection hf with hf; subst hf; exact m1_any S p A1 B1 A2 c1 d1 c2 _ w' hp' hk'
  | 1, hf => injection hf with hf; subst hf; exact m2_any S p A1 B1 A2 c1 d1 c2 _ w' hV' hp' hk'
  | 2, hf => injection hf with hf; subst hf; exact m3_any S p A1 B1 A2 c1 d1 c2 _ w' hV' hp' hk'
  | 3, hf => injection hf with hf; subst hf; exact m4_any S p A1 B1 A2 c1 d1 c2 _ w' hk'
  | 4, hf => injection hf with hf; subst hf; exact m5_any S p A1 B1 A2 c1 d1 c2 _ w' hV' hp' hk'
  | n + 5, hf => simp at hf))
 have HM := Lib.hid (pMay_eq p)
 rw [show ([154, 155, 158, 160, 161]).length = 5 from rfl] at HFD
 obtain ⟨z, hz⟩ : ∃ z, z = idxQ (pQ p) 5 := ⟨_, rfl⟩
 rw [← hz] at HFD HM
 have HB2 := Lib.hid hb2
 clear hz hb2 hk1 hr hV hp
 go_enter Tryz.func136, Tryz.ntmps136
 go_wp2_with fail
 refine HFD.out.mono ?_
 rintro e w3 ⟨rfl, hb⟩
 have HB3 := Lib.hid (HB2.out.trans (hb.mono HB2.out.size))
 clear hb
 go_wp2_with fail
 go_ret
 exact ⟨by rw [HM.out]; try rfl, HB3.out⟩
set_option maxRecDepth 100000 in
set_option maxHeartbeats 8000000 in
theorem pMayV_any (S : Nat → Prop) (p : Pm) (A1 B1 A2 : Option Addr) (c1 d1 c2 : Nat) (g : Gv) (GA GB : Option Addr) (gc gd : Nat) (w : World) (hV : VOk w) (hp : PmAt S p A1 B1 A2 c1 d1 c2 w) (hg : Trs.at S w g.v.tr #[.int .i8 g.v.kind, .bool g.v.bool, .int .i64 g.v.num, .string g.v.text, .slice GA g.v.list.length gc, .slice GB g.v.keys.length gd].toList) (hsg : vSmall g.v) :
 Calls Tryz.prog 111 #[.agg #[.string p.name, .bool p.number, .bool p.has, .int .i8 p.dflt.kind, .bool p.dflt.bool, .int .i64 p.dflt.num, .string p.dflt.text, .slice A1 p.dflt.list.length c1, .slice B1 p.dflt.keys.length d1, .slice A2 p.allowed.length c2], .agg #[.string g.name, .bool g.unknown, .int .i8 g.v.kind, .bool g.v.bool, .int .i64 g.v.num, .string g.v.text, .slice GA g.v.list.length gc, .slice GB g.v.keys.length gd]] w (BoolB (pMayV p g) w) := by
 have hb2 : Below w.heap.size w ((w.alloc (.cells #[.string p.name, .bool p.number, .bool p.has, .int .i8 p.dflt.kind, .bool p.dflt.bool, .int .i64 p.dflt.num, .string p.dflt.text, .slice A1 p.dflt.list.length c1, .slice B1 p.dflt.keys.length d1, .slice A2 p.allowed.length c2] 138)).alloc (.cells #[.string g.name, .bool g.unknown, .int .i8 g.v.kind, .bool g.v.bool, .int .i64 g.v.num, .string g.v.text, .slice GA g.v.list.length gc, .slice GB g.v.keys.length gd] 106)) := ((Below.refl _ w).alloc (Nat.le_refl _) _).alloc (by simp) _
 have hk1 : Blk ((w.alloc (.cells #[.string p.name, .bool p.number, .bool p.has, .int .i8 p.dflt.kind, .bool p.dflt.bool, .int .i64 p.dflt.num, .string p.dflt.text, .slice A1 p.dflt.list.length c1, .slice B1 p.dflt.keys.length d1, .slice A2 p.allowed.length c2] 138)).alloc (.cells #[.string g.name, .bool g.unknown, .int .i8 g.v.kind, .bool g.v.bool, .int .i64 g.v.num, .string g.v.text, .slice GA g.v.list.length gc, .slice GB g.v.keys.length gd] 106)) w.heap.size #[.string p.name, .bool p.number, .bool p.has, .int .i8 p.dflt.kind, .bool p.dflt.bool, .int .i64 p.dflt.num, .string p.dflt.text, .slice A1 p.dflt.list.length c1, .slice B1 p.dflt.keys.length d1, .slice A2 p.allowed.length c2] 138 := (Blk.new w _ _).alloc _
 have hk2 : Blk ((w.alloc (.cells #[.string p.name, .bool p.number, .bool p.has, .int .i8 p.dflt.kind, .bool p.dflt.bool, .int .i64 p.dflt.num, .string p.dflt.text, .slice A1 p.dflt.list.length c1, .slice B1 p.dflt.keys.length d1, .slice A2 p.allowed.length c2] 138)).alloc (.cells #[.string g.name, .bool g.unknown, .int .i8 g.v.kind, .bool g.v.bool, .int .i64 g.v.num, .string g.v.text, .slice GA g.v.list.length gc, .slice GB g.v.keys.length gd] 106)) (w.heap.size + 1) #[.string g.name, .bool g.unknown, .int .i8 g.v.kind, .bool g.v.bool, .int .i64 g.v.num, .string g.v.text, .slice GA g.v.list.length gc, .slice GB g.v.keys.length gd] 106 := by
  have := Blk.new (w.alloc (.cells #[.string p.name, .bool p.number, .bool p.has, .int .i8 p.dflt.kind, .bool p.dflt.bool, .int .i64 p.dflt.num, .string p.dflt.text, .slice A1 p.dflt.list.length c1, .slice B1 p.dflt.keys.length d1, .slice A2 p.allowed.length c2] 138)) #[.string g.name, .bool g.unknown, .int .i8 g.v.kind, .bool g.v.bool, .int .i64 g.v.num, .string g.v.text, .slice GA g.v.list.length gc, .slice GB g.v.keys.length gd] 106
  rwa [show (w.alloc (.cells #[.string p.name, .bool p.number, .bool p.has, .int .i8 p.dflt.kind, .bool p.dflt.bool, .int .i64 p.dflt.num, .string p.dflt.text, .slice A1 p.dflt.list.length c1, .slice B1 p.dflt.keys.length d1, .slice A2 p.allowed.length c2] 138)).heap.size = w.heap.size + 1 by simp] at this
 have HM := Lib.hid (pmay_any S p A1 B1 A2 c1 d1 c2 ((w.alloc (.cells #[.string p.name, .bool p.number, .bool p.has, .int .i8 p.dflt.kind, .bool p.dflt.bool, .int .i64 p.dflt.num, .string p.dflt.text, .slice A1 p.dflt.list.length c1, .slice B1 p.dflt.keys.length d1, .slice A2 p.allowed.length c2] 138)).alloc (.cells #[.string g.name, .bool g.unknown, .int .i8 g.v.kind, .bool g.v.bool, .int .i64 g.v.num, .string g.v.text, .slice GA g.v.list.length gc, .slice GB g.v.keys.length gd] 106)) (hV.below hb2) (hp.below hb2))
 have HC := Lib.hid (fun w' (hb : Below w.heap.size w w') => pkind_any S p A1 B1 A2 c1 d1 c2 g.v GA GB gc gd w' (hV.below hb) (hg.below hb) hsg)
 have HA := Lib.hid (fun w' (hb : Below w.heap.size w w') => pallowed_any S p A1 B1 A2 c1 d1 c2 g.v GA GB gc gd w' (hV.below hb) (hp.al.below hb) hp.sm.1 hp.sm.2.2 (hg.below hb) hsg)
 have HE := Lib.hid (fun w' => pempty_any g.v GA GB gc gd w')
 have HT : Hid (pMayV p g = if pMay p = false then false else if g.unknown = false then pKind p g.v && pAllowed p g.v else if p.number = true then false else if 0 < p.allowed.length then false else vEmpty g.v) := Lib.hid rfl
 obtain ⟨m, hm⟩ : ∃ m, m = pMay p := ⟨_, rfl⟩
 obtain ⟨q, hq⟩ : ∃ q, q = pKind p g.v := ⟨_, rfl⟩
 obtain ⟨r, hr⟩ : ∃ r, r = pAllowed p g.v := ⟨_, rfl⟩
 obtain ⟨s, hs⟩ : ∃ s, s = vEmpty g.v := ⟨_, rfl⟩
 rw [← hm] at HM
 rw [← hq] at HC
 rw [← hr] at HA
 rw [← hs] at HE
 rw [← hm, ← hq, ← hr, ← hs] at HT
 have HB2 := Lib.hid hb2
 have HK1 := Lib.hid hk1
 have HK2 := Lib.hid hk2
 obtain ⟨a0, a1, a2, a3, a4, a5, a6, a7, a8, a9⟩ := blk10 hk1
 have hcap := hp.al.cap
 have hmax := hp.al.max
 obtain ⟨W2, hW2⟩ : ∃ W2, ((w.alloc (.cells #[.string p.name, .bool p.number, .bool p.has, .int .i8 p.dflt.kind, .bool p.dflt.bool, .int .i64 p.dflt.num, .string p.dflt.text, .slice A1 p.dflt.list.length c1, .slice B1 p.dflt.keys.length d1, .slice A2 p.allowed.length c2] 138)).alloc (.cells #[.string g.name, .bool g.unknown, .int .i8 g.v.kind, .bool g.v.bool, .int .i64 g.v.num, .string g.v.text, .slice GA g.v.list.length gc, .slice GB g.v.keys.length gd] 106)) = W2 := ⟨_, rfl⟩
 have HW := Lib.hid hW2
 rw [hW2] at HM HB2 HK1 HK2 a0 a1 a2 a3 a4 a5 a6 a7 a8 a9
 clear hm hq hr hs hb2 hk1 hk2 hV hp hg hsg hW2
 go_enter Tryz.func111, Tryz.ntmps111
 go_wp2_with fail
 rw [HW.out]
 go_wp2_with fail
 refine HM.out.mono ?_
 rintro e w3 ⟨rfl, hb⟩
 have HB3 := Lib.hid (HB2.out.trans (hb.mono HB2.out.size))
 have k1 := HK1.out.below hb
 have k2 := HK2.out.below hb
 have HK3 := Lib.hid k1
 have HK4 := Lib.hid k2
 clear a0 a1 a2 a3 a4 a5 a6 a7 a8 a9 hb
 obtain ⟨a0, a1, a2, a3, a4, a5, a6, a7, a8, a9⟩ := blk10 k1
 obtain ⟨b0, b1, b2, b3, b4, b5, b6, b7⟩ := blk8 k2
 clear k1 k2
 cases m with
 | false =>
   rw [if_pos rfl] at HT
   go_wp2_with fail
   go_ret
   exact ⟨by rw [HT.out]; try rfl, HB3.out⟩
 | true =>
   rw [if_neg (by decide)] at HT
   cases hu : g.unknown with
   | false =>
     rw [hu] at HT b1
     rw [if_pos rfl] at HT
     clear hu
     go_wp2_with fail
     refine (HC.out w3 HB3.out).mono ?_
     rintro e w4 ⟨rfl, hb⟩
     have HB4 := Lib.hid (HB3.out.trans (hb.mono HB3.out.size))
     have k1 := HK3.out.below hb
     have k2 := HK4.out.below hb
     clear a0 a1 a2 a3 a4 a5 a6 a7 a8 a9 b0 b1 b2 b3 b4 b5 b6 b7 hb
     obtain ⟨a0, a1, a2, a3, a4, a5, a6, a7, a8, a9⟩ := blk10 k1
     obtain ⟨b0, b1, b2, b3, b4, b5, b6, b7⟩ := blk8 k2
     clear k1 k2
     cases q with
     | false =>
       go_wp2_with fail
       go_ret
       exact ⟨by rw [HT.out]; try rfl, HB4.out⟩
     | true =>
       go_wp2_with fail
       refine (HA.out w4 HB4.out).mono ?_
       rintro e w5 ⟨rfl, hb⟩
       have HB5 := Lib.hid (HB4.out.trans (hb.mono HB4.out.size))
       clear hb
       go_wp2_with fail
       go_ret
       exact ⟨by rw [HT.out]; try rfl, HB5.out⟩
   | true =>
     rw [hu] at HT b1
     rw [if_neg (by decide)] at HT
     clear hu
     cases hn : p.number with
     | true =>
       rw [hn] at HT a1
       rw [if_pos rfl] at HT
       clear hn
       go_wp2_with fail
       go_ret
       exact ⟨by rw [HT.out]; try rfl, HB3.out⟩
     | false =>
       rw [hn] at HT a1
       rw [if_neg (by decide)] at HT
       clear hn
       by_cases h0 : 0 < p.allowed.length
       ·have h0i : (0 : Int) < (p.allowed.length : Int) := by omega
        rw [if_pos h0] at HT
        clear h0
        go_wp2_with fail
        go_ret
        exact ⟨by rw [HT.out]; try rfl, HB3.out⟩
       ·have h0i : ¬ ((0 : Int) < (p.allowed.length : Int)) := by omega
        rw [if_neg h0] at HT
        clear h0
        go_wp2_with fail
        refine (HE.out w3).mono ?_
        rintro e w4 ⟨rfl, hb⟩
        have HB4 := Lib.hid (HB3.out.trans (hb.mono HB3.out.size))
        clear hb
        go_wp2_with fail
        go_ret
        exact ⟨by rw [HT.out]; try rfl, HB4.out⟩
end Go.Proofs.YtgdfkbalnpfdgaaGreatDoor
