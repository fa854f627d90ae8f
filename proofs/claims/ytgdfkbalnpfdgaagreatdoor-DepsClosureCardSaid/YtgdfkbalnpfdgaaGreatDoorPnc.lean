/- Nested stacks: a map keyed by guards. -/
import Derived.DeepKeys5
import Derived.Maps.Keyed
import Derived.Test.YtgdfkbalnpfdgaaGreatDoorPnb
namespace Go.Proofs.YtgdfkbalnpfdgaaGreatDoor
open Go.RowKit Go.Maps
set_option linter.unusedVariables false
set_option linter.unusedSimpArgs false
theorem laidOut_ : laidOutB Tryz.prog = true := by kernel_rfl
theorem key_gd : Keyed Tryz.prog 108 := Keyed.of_law (deep_law_gate laidOut_ (Nat.le_of_ble_eq_true (by kernel_rfl)) (Nat.le_of_ble_eq_true (by kernel_rfl)) (by kernel_rfl) (by kernel_rfl))
def gKey (i : Int) (s : ByteArray) : Value := .agg #[.int .i64 i, .string s]
theorem cells_gd : Tryz.prog.cellsOf 108 = 2 := by kernel_rfl
theorem kt_gd : Tryz.prog.keyType 108 = true := by kernel_rfl
theorem gkey_of {i : Int} {s : ByteArray} (hi : (Lit.int .i64 i).wf = true) (hs : s.size ≤ maxLen) : ∃ l, keyOf Tryz.prog 108 (gKey i s) = some l := by
 have h1 : Tryz.prog.cellsOf 3 = 1 := by kernel_rfl
 have h2 : Tryz.prog.cellsOf 9 = 1 := by kernel_rfl
 have h3 : 1 ≤ Tryz.prog.types.size := Nat.le_of_ble_eq_true (by kernel_rfl)
 obtain ⟨n, hn⟩ : ∃ n, Tryz.prog.types.size + 1 = n + 1 + 1 := ⟨Tryz.prog.types.size - 1, by omega⟩
 unfold keyOf gKey
 rw [Tryz.underlying108]
 simp only
 rw [hn]
 simp [kt_gd, Value.formed, Tryz.underlying108, cells_gd, Program.keyLits, h1, h2, Tryz.underlying3, Tryz.underlying9, hi, hs, Value.cells]
theorem gKey_inj {i i' : Int} {s s' : ByteArray} (h : gKey i s = gKey i' s') : i = i' ∧ s = s' := by
 unfold gKey at h
 injection h with h
 have h1 := congrArg (fun a => a.toList) h
 simp at h1
 exact h1
def MG (w : World) (b n : Nat) (f : Int → ByteArray → Option Bool) : Prop :=
 ∃ D : DataW Unit, w.ownsMap Tryz.prog 108 (plainElem Tryz.prog 4) b n D ∧ Go.Maps.IsMap D ∧ ∀ (i : Int) (s : ByteArray) (l : Lit), keyOf Tryz.prog 108 (gKey i s) = some l → D.atKey l (.lit (.bool false)) = .lit (.bool ((f i s).getD false))
def updG (f : Int → ByteArray → Option Bool) (i : Int) (s : ByteArray) (y : Bool) : Int → ByteArray → Option Bool := fun i' s' => if i' = i ∧ s' = s then some y else f i' s'
section
variable {w w' : World} {b n : Nat} {f : Int → ByteArray → Option Bool}
theorem MG.new (w : World) : MG (w.alloc (.map #[] 0)) w.heap.size 0 (fun _ _ => none) := ⟨.map [], World.ownsMap_made _ _ _ _, ⟨[], rfl⟩, fun _ _ _ _ => rfl⟩
theorem MG.only {F : Nat → Prop} (h : MG w b n f) (ho : Only F w w') (hF : ¬ F b) : MG w' b n f := by
 obtain ⟨D, h1, h2, h3⟩ := h
 exact ⟨D, ownsMap_same h1 (ho.block b h1.lt hF), h2, h3⟩
theorem MG.lt (h : MG w b n f) : b < w.heap.size := by obtain ⟨D, h1, _⟩ := h; exact h1.lt
theorem MG.below (h : MG w b n f) (hb : Below w.heap.size w w') : MG w' b n f := h.only (Only.of_below hb (fun _ => False)) (fun h => h)
theorem MG.map (h : MG w b n f) : ∃ es k, w.heap[b]? = some (.map es k) := by
 obtain ⟨D, ⟨es, k, h1, _⟩, _⟩ := h
 exact ⟨es, k, h1⟩
theorem MG.look (h : MG w b n f) {i : Int} {s : ByteArray} (hi : (Lit.int .i64 i).wf = true) (hs : s.size ≤ maxLen) : (Instr.lookup 101 (.map (some b)) (.agg #[.int .i64 i, .string s]) false).run Tryz.prog w = .ok (.bool ((f i s).getD false)) w := by
 obtain ⟨D, g1, g2, g3⟩ := h
 obtain ⟨l, hl⟩ := gkey_of hi hs
 obtain ⟨v, ps, hrun, hv⟩ := g1.lookup key_gd Tryz.underlying101 (zero_bool w) (plainElem_bool Tryz.underlying4 false) hl
 rw [g3 i s l hl] at hv
 unfold gKey at hrun
 rw [hrun]
 have hu : Tryz.prog.underlying 4 = some .bool := Tryz.underlying4
 unfold plainElem at hv
 rw [hu] at hv
 cases v <;> simp_all
end
set_option maxRecDepth 100000 in
theorem wp_put_MG {w : World} {ops : Array Oper} {rest : List Oper} {o : Oper} {a : Act} {Q : Exit → Act → World → Prop} (hg : o.guard = none) (m x v : Operand) (hop : o.op = Op.mapUpdate 101 m x v) (b n : Nat) (f : Int → ByteArray → Option Bool) (hm : a.eval m = .map (some b)) (h : MG w b n f) (hn : n < maxLen)
 (i : Int) (s : ByteArray) (hi : (Lit.int .i64 i).wf = true) (hs : s.size ≤ maxLen) (hx : a.eval x = .agg #[.int .i64 i, .string s]) (y : Bool) (hv : a.eval v = .bool y)
 (hK : ∀ w', MG w' b (n + 1) (updG f i s y) → w.grownBy w' (some b) → wpList Tryz.prog ops Q rest (a.put o.dst undef) w') : wpList Tryz.prog ops Q (o :: rest) a w := by
 obtain ⟨D, g1, g2, g3⟩ := h
 obtain ⟨l, hl⟩ := gkey_of hi hs
 refine wpList_mapUpdate_own w hg m x v 101 hop 108 4 key_gd Tryz.underlying101 _ b n D hm g1 hn _ _ l hx hv hl (.lit (.bool y)) [] (plainElem_bool Tryz.underlying4 y) (fun w' h1 h2 => hK w' ⟨_, h1, g2.put _ _, fun i' s' l' hl' => ?_⟩ h2)
 unfold updG
 by_cases hj : i' = i ∧ s' = s
 ·obtain ⟨rfl, rfl⟩ := hj
  rw [hl] at hl'
  injection hl' with hl'
  subst hl'
  rw [Go.Maps.atKey_put_same g2 (key_gd.key hl)]; simp
 ·have hne : l' ≠ l := fun e => hj (gKey_inj (key_gd.inj hl' (e ▸ hl)))
  rw [Go.Maps.atKey_put_other hne, g3 i' s' l' hl', if_neg hj]
def hRow (i : Int) : List (ByteArray × Bool) → (Int → ByteArray → Option Bool) → Int → ByteArray → Option Bool
 | [], f => f
 | x :: r, f => hRow i r (updG f i x.1 x.2)
def hAll : Nat → List (List (ByteArray × Bool)) → (Int → ByteArray → Option Bool) → Int → ByteArray → Option Bool
 | _, [], f => f
 | i, r :: R, f => hAll (i + 1) R (hRow (i : Int) r f)
def enF (O : List (List (ByteArray × Bool))) : Int → ByteArray → Option Bool := hAll 0 O (fun _ _ => none)
def enOn (O : List (List (ByteArray × Bool))) (n : Nd) : Bool := n.guards.all fun g => (enF O g.scope g.name).getD false
def nEnabled (K : List Cd → List Gv → Nat) (sc : List Sc) (nd : List Nd) (args : List Gv) : Nat ⊕ List Bool := match nConds K sc nd args with
 | .inl e => .inl e
 | .inr O => .inr (nd.map (enOn O))
def EnabledOut (r : Nat ⊕ List Bool) (w : World) (e : Ending) (w' : World) : Prop := Below w.heap.size w w' ∧ match r with
 | .inl n => e = .returned (.tuple #[.slice none 0 0, .int .i64 (n : Nat)])
 | .inr B => ∃ A c, e = .returned (.tuple #[.slice A B.length c, .int .i64 0]) ∧ Ow w' w.heap.size 4 1 A B.length c (B.map .bool)
theorem hAll_drop {i : Nat} {O : List (List (ByteArray × Bool))} {r : List (ByteArray × Bool)} {f : Int → ByteArray → Option Bool} (h : O[i]? = some r) : hAll i (O.drop i) f = hAll (i + 1) (O.drop (i + 1)) (hRow (i : Int) r f) := by rw [drop_cons h]; rfl
theorem hRow_drop {i : Int} {k : Nat} {r : List (ByteArray × Bool)} {x : ByteArray × Bool} {f : Int → ByteArray → Option Bool} (h : r[k]? = some x) : hRow i (r.drop k) f = hRow i (r.drop (k + 1)) (updG f i x.1 x.2) := by rw [drop_cons h]; rfl
set_option maxRecDepth 100000 in
theorem en1_any (S : Nat → Prop) (g : Gd) (cs : List Value) (bx mb n : Nat) (f : Int → ByteArray → Option Bool) (w : World) (hg : Trs.at S w g.tr cs) (hbx : Blk w bx #[.map (some mb)] 101) (hM : MG w mb n f) :
 Calls Tryz.prog 38 (#[.agg cs.toArray] ++ #[.pointer (some ⟨bx, 0, none⟩)]) w (BoolB (!((f g.scope g.name).getD false)) w) := by
 obtain ⟨rfl, hi, hs⟩ := Gd.at_iff' hg
 have hbn : Below w.heap.size w (w.alloc (.cells #[.int .i64 g.scope, .string g.name] 108)) := (Below.refl _ w).alloc (Nat.le_refl _) _
 have HB := Lib.hid hbn
 obtain ⟨e0, e1⟩ := blk2 (Blk.new w #[.int .i64 g.scope, .string g.name] 108)
 have x0 := blk1 (hbx.alloc (.cells #[.int .i64 g.scope, .string g.name] 108))
 have hlk := (hM.below hbn).look hi (Nat.le_trans hs (by unfold maxLen; omega))
 clear hg hbx hM hbn hi hs
 simp only [List.push_toArray, List.append_toArray, List.cons_append, List.nil_append]
 go_enter Tryz.func38, Tryz.ntmps38
 go_wp2_with fail
 go_ret
 exact ⟨rfl, HB.out⟩
open Go.RowKit
set_option linter.unusedVariables false
set_option linter.unusedSimpArgs false
theorem nConds_ne {K : List Cd → List Gv → Nat} {sc : List Sc} {nd : List Nd} {args : List Gv} {n : Nat} (h : nConds K sc nd args = .inl n) : n ≠ 0 := by
 have hg : ∀ (l : List Sc) (L : List (List Gv)) (out : List (List (ByteArray × Bool))), cnGo K l L out = .inl n → n ≠ 0 := by
  intro l
  induction l with
  | nil => intro L out h; unfold cnGo at h; cases h
  | cons s r ih =>
    intro L out h
    cases L with
    | nil => unfold cnGo at h; cases h
    | cons g L =>
      unfold cnGo at h
      split at h
      ·next e he => injection h with h; subst h; exact runOf_ne he
      ·exact ih _ _ h
 unfold nConds at h
 split at h
 ·next e he => injection h with h; subst h; exact nParams_ne he
 ·exact hg _ _ _ h
theorem cnGo_ok {K : List Cd → List Gv → Nat} : ∀ {l : List Sc} {L : List (List Gv)} {out O : List (List (ByteArray × Bool))}, L.length = l.length → cnGo K l L out = .inr O →
 O.length = out.length + l.length ∧ ∀ (j : Nat) (r : List (ByteArray × Bool)), O[j]? = some r → (j < out.length ∧ out[j]? = some r) ∨ ∃ s g, out.length ≤ j ∧ l[j - out.length]? = some s ∧ L[j - out.length]? = some g ∧ runOf s.t.conds g vEq (K s.t.conds g) = .inr r
 | [], L, out, O, hl, h => by
   unfold cnGo at h
   injection h with h; subst h
   exact ⟨by simp, fun j r hj => .inl ⟨(List.getElem?_eq_some_iff.1 hj).1, hj⟩⟩
 | s :: l, [], out, O, hl, h => by simp at hl
 | s :: l, g :: L, out, O, hl, h => by
   unfold cnGo at h
   split at h
   ·cases h
   ·next o ho =>
    obtain ⟨h1, h2⟩ := cnGo_ok (by simpa using hl) h
    refine ⟨by rw [h1]; simp; omega, fun j r hj => ?_⟩
    rcases h2 j r hj with ⟨h3, h4⟩ | ⟨s', g', h3, h4, h5, h6⟩
    ·simp only [List.length_append, List.length_singleton] at h3
     rcases Nat.lt_or_ge j out.length with h7 | h7
     ·exact .inl ⟨h7, by rwa [List.getElem?_append_left h7] at h4⟩
     ·have : j = out.length := by omega
      subst this
      rw [List.getElem?_append_right (Nat.le_refl _)] at h4
      simp at h4; subst h4
      exact .inr ⟨s, g, Nat.le_refl _, by simp, by simp, ho⟩
    ·simp only [List.length_append, List.length_singleton] at h3 h4 h5
     have e : j - out.length = (j - (out.length + 1)) + 1 := by omega
     exact .inr ⟨s', g', by omega, by rw [e, List.getElem?_cons_succ]; exact h4, by rw [e, List.getElem?_cons_succ]; exact h5, h6⟩
theorem nConds_ok {K : List Cd → List Gv → Nat} {sc : List Sc} {nd : List Nd} {args : List Gv} {O : List (List (ByteArray × Bool))} (ha : ∀ g ∈ args, vSmall g.v) (hs : ∀ s ∈ sc, s.t.params.length ≤ 1000000 ∧ ∀ p ∈ s.t.params, pSmall p) (h : nConds K sc nd args = .inr O) :
 nMay sc nd = true ∧ O.length = sc.length ∧ ∀ (j : Nat) (r : List (ByteArray × Bool)), O[j]? = some r → ∃ s g, sc[j]? = some s ∧ runOf s.t.conds g vEq (K s.t.conds g) = .inr r := by
 unfold nConds at h
 split at h
 ·cases h
 ·next L hL =>
  have hM : nMay sc nd = true := by
   unfold nParams at hL
   split at hL
   ·cases hL
   ·next h0 => simpa using h0
  obtain ⟨h1, _⟩ := nParams_ok ha hs hL
  obtain ⟨h2, h3⟩ := cnGo_ok h1 h
  refine ⟨hM, by simpa using h2, fun j r hj => ?_⟩
  rcases h3 j r hj with ⟨h4, _⟩ | ⟨s, g, _, h4, _, h5⟩
  ·simp at h4
  ·exact ⟨s, g, by simpa using h4, h5⟩
theorem yg_form {S : Nat → Prop} {w : World} {x : ByteArray × Bool} {cs : List Value} (h : Trs.at S w (yesG x).tr cs) : ∃ (GA GB : Option Addr) (gc gd : Nat), cs = #[.string x.1, .bool false, .int .i8 1, .bool x.2, .int .i64 0, .string ⟨#[]⟩, .slice GA 0 gc, .slice GB 0 gd].toList ∧ x.1.size ≤ 140737488351232 := by
 obtain ⟨GA, GB, gc, gd, rfl, hn, -⟩ := gv_cells h
 exact ⟨GA, GB, gc, gd, rfl, hn⟩
theorem cg_elem {S : Nat → Prop} {w : World} {O : List (List (ByteArray × Bool))} {xs : List Value} (h : Trs.at S w (O.flatMap cgTr) xs) {j : Nat} {l : List (ByteArray × Bool)} (hl : O[j]? = some l) : ∃ A c, xs[j]? = some (.slice A l.length c) ∧ Ls S w 8 104 Gv.tr A c (l.map yesG) := by
 have := Trs.at.elem cgTr_len h j l hl
 obtain ⟨A, c, e, h2⟩ := gs_at.1 this
 refine ⟨A, c, ?_, h2⟩
 have h3 := congrArg (fun z => z[0]?) e
 simpa [List.getElem?_take, List.getElem?_drop] using h3
theorem info_bool3 : (Tryz.prog.info? 4).map (fun i => (i.zero, i.size, i.bytes)) = some (some (.bool false), 1, 1) := by kernel_rfl
theorem wf_nat {j : Nat} (h : j ≤ 1000000) : (Lit.int .i64 (j : Int)).wf = true := by
 simp [Lit.wf, IntKind.min, IntKind.max, IntKind.bits, IntKind.signed]; omega
set_option maxRecDepth 100000 in
set_option maxHeartbeats 16000000 in
theorem nenabled_any (K : List Cd → List Gv → Nat) (hK : DpK K) (S : Nat → Prop) (SA NA : Option Addr) (sC nC : Nat) (sc : List Sc) (nd : List Nd) (AA : Option Addr) (ac : Nat) (args : List Gv) (w : World) (hV : VOk w) (hsc : Ls S w 7 144 Sc.tr SA sC sc) (hnd : Ls S w 11 200 Nd.tr NA nC nd)
 (hsn : sc.length ≤ 1000000) (hnn : nd.length ≤ 1000000) (hgn : ∀ n ∈ nd, n.guards.length ≤ 1000000) (hcn : ∀ s ∈ sc, s.t.conds.length ≤ 1000000) (hco : ∀ s ∈ sc, CsOk s.t.conds)
 (hps : ∀ s ∈ sc, s.t.params.length ≤ 1000000 ∧ (∀ p ∈ s.t.params, pSmall p) ∧ s.args.length ≤ 1000000) (hag : Ls S w 8 104 Gv.tr AA ac args) (han : args.length ≤ 1000000) (has : ∀ g ∈ args, vSmall g.v) :
 Calls Tryz.prog 11 #[.agg #[.slice SA sc.length sC, .slice NA nd.length nC], .slice AA args.length ac] w (EnabledOut (nEnabled K sc nd args) w) := by
 have hcap2 := hnd.cap
 have hmax2 := hnd.max
 have hacap := hag.cap
 have HND := Lib.hid hnd
 have HGN := Lib.hid hgn
 have hb1 : Below w.heap.size w (w.alloc (.cells #[.slice SA sc.length sC, .slice NA nd.length nC] 34)) := (Below.refl _ w).alloc (Nat.le_refl _) _
 have hfb := Blk.new w #[.slice SA sc.length sC, .slice NA nd.length nC] 34
 have HB1 := Lib.hid hb1
 have HFB := Lib.hid hfb
 have HCA := Lib.hid (nconds_any K hK S SA NA sC nC sc nd AA ac args _ (hV.below hb1) (hsc.below hb1) (hnd.below hb1) hsn hnn hgn hcn hco hps (hag.below hb1) han has)
 have HOK := Lib.hid (fun O => nConds_ok (K := K) (nd := nd) (O := O) has (fun s hs => ⟨(hps s hs).1, (hps s hs).2.1⟩))
 have HCN := Lib.hid hcn
 have HEN : Hid (nEnabled K sc nd args = match nConds K sc nd args with | .inl e => .inl e | .inr O => .inr (nd.map (enOn O))) := Lib.hid rfl
 obtain ⟨f0, f1⟩ := blk2 hfb
 have hmm := @run_makeMap Tryz.prog
 clear hV hsc hnd hgn hcn hps hag has hb1 hfb hK hco
 go_enter Tryz.func11, Tryz.ntmps11
 go_wp2_with fail
 refine HCA.out.mono ?_
 rintro e w2 ⟨hb, hm⟩
 have HB2 := Lib.hid (HB1.out.trans (hb.mono HB1.out.size))
 have HFB2 := Lib.hid (HFB.out.below hb)
 clear f0 f1
 cases hnp : nConds K sc nd args with
 | inl n =>
   have hne := nConds_ne hnp
   rw [hnp] at hm HEN
   subst hm
   have hn1 : ((n : Int) != 0) = true := by simpa using hne
   clear hne hnp hb
   go_wp2_with fail
   refine bodyPost_ret (v := .tuple #[.slice none 0 0, .int .i64 n]) (by simp [results, Tryz.results11, go_sem]) rfl ?_
   rw [HEN.out]
   exact ⟨HB2.out, rfl⟩
 | inr O =>
   rw [hnp] at hm HEN
   obtain ⟨-, hOl, hOr⟩ := HOK.out O hnp
   obtain ⟨CA, cc, xs, rfl, hlow, hltr⟩ := hm
   have HCO := Lib.hid hlow
   have HCT := Lib.hid hltr
   have hOn : O.length ≤ 1000000 := by omega
   have hOc := hlow.cap
   have HRL : Hid (∀ (j : Nat) (r : List (ByteArray × Bool)), O[j]? = some r → r.length ≤ 1000000) := Lib.hid (fun j r hj => by
    obtain ⟨s, g, h1, h2⟩ := hOr j r hj
    rw [runEv_len (runOf_ok h2).2]
    exact HCN.out s (List.mem_of_getElem? h1))
   have hlo := HB2.out.size
   obtain ⟨W3, hW3⟩ : ∃ W3, (w2.alloc (.map #[] 0)).alloc (.cells #[.map (some w2.heap.size)] 101) = W3 := ⟨_, rfl⟩
   have hb3 : Below w2.heap.size w2 W3 := by rw [← hW3]; exact ((Below.refl _ w2).alloc (Nat.le_refl _) _).alloc (by simp) _
   have hmg : MG W3 w2.heap.size 0 (fun _ _ => none) := by rw [← hW3]; exact (MG.new w2).below ((Below.refl _ _).alloc (Nat.le_refl _) _)
   have hbx : Blk W3 (w2.heap.size + 1) #[.map (some w2.heap.size)] 101 := by
    rw [← hW3]
    have := Blk.new (w2.alloc (.map #[] 0)) #[.map (some w2.heap.size)] 101
    rwa [show (w2.alloc (.map #[] 0)).heap.size = w2.heap.size + 1 by simp] at this
   have HW3 := Lib.hid hW3
   have HB3 := Lib.hid hb3
   have HMG := Lib.hid hmg
   have HBX := Lib.hid hbx
   have HEF : Hid (enF O = hAll 0 (O.drop 0) (fun _ _ => none)) := Lib.hid rfl
   clear hnp hb hlow hltr hOl hOr hb3 hmg hbx hW3
   go_wp2_with fail
   rw [HW3.out]
   go_loopg [26] O.length (fun g i wr => ∃ (j cnt : Nat) (f : Int → ByteArray → Option Bool), j + g = O.length ∧ i = .int .i64 (j : Nat) ∧ Hid (cnt ≤ j * 1000000) ∧ Hid (enF O = hAll j (O.drop j) f) ∧ Hid (MG wr w2.heap.size cnt f) ∧ Hid (Blk wr (w2.heap.size + 1) #[.map (some w2.heap.size)] 101) ∧ Hid (Only (fun k => k = w2.heap.size) W3 wr))
   case atStart => exact ⟨0, 0, _, by omega, rfl, Lib.hid (Nat.zero_le _), HEF, HMG, HBX, Lib.hid (Only.refl _ _)⟩
   case round =>
    obtain ⟨j, cnt, f, hj, rfl, hcnt, HF, HMG2, HBX2, HO2⟩ := hrel
    rename World => wo
    cases gk with
    | succ g =>
      have hjj : (j : Int) < (O.length : Int) := by omega
      have hji : (0 : Int) ≤ (j : Int) ∧ (j : Int) < (O.length : Int) := by omega
      obtain ⟨r, hr⟩ := get_lt (l := O) (i := j) (by omega)
      have HFD : Hid (enF O = hAll (j + 1) (O.drop (j + 1)) (hRow (j : Int) (r.drop 0) f)) := Lib.hid (by rw [HF.out, hAll_drop hr]; rfl)
      have hrl := HRL.out j r hr
      obtain ⟨RA, rc, hxs, hrls⟩ := cg_elem HCT.out.bound hr
      obtain ⟨adC, hCA, hcc0⟩ := HCO.out.rd.at_ j _ hxs
      subst hCA
      have hcl : (adC.add j).block < w2.heap.size := World.block_lt_of_cell? w2 _ hcc0
      have c0 := (cell_only HO2.out (Nat.lt_of_lt_of_le hcl HB3.out.size) (fun e => by omega)).trans ((HB3.out.cell hcl).trans hcc0)
      have hrls3 := hrls.below HB3.out
      have HRS := Lib.hid hrls3
      have hrcap := hrls.cap
      have hml : (r.map yesG).length = r.length := by simp
      rw [hml] at hrcap
      clear hr hxs hrls hcc0 hcl hml hrls3
      go_wp2_with fail
      go_loopg [33] r.length (fun g i wr => ∃ (k cnt2 : Nat) (f2 : Int → ByteArray → Option Bool), k + g = r.length ∧ i = .int .i64 (k : Nat) ∧ Hid (cnt2 ≤ j * 1000000 + k) ∧ Hid (enF O = hAll (j + 1) (O.drop (j + 1)) (hRow (j : Int) (r.drop k) f2)) ∧ Hid (MG wr w2.heap.size cnt2 f2) ∧ Hid (Blk wr (w2.heap.size + 1) #[.map (some w2.heap.size)] 101) ∧ Hid (Only (fun k => k = w2.heap.size) W3 wr))
      case atStart => exact ⟨0, cnt, f, by omega, rfl, Lib.hid (Nat.le_trans hcnt.out (Nat.le_add_right _ _)), HFD, HMG2, HBX2, HO2⟩
      case round =>
       clear c0
       obtain ⟨k, cnt2, f2, hk, rfl, hcnt2, HF2, HMG3, HBX3, HO3⟩ := hrel
       rename World => wq
       cases gk with
       | zero =>
         have hkk : ¬ ((k : Int) < (r.length : Int)) := by omega
         rw [List.drop_of_length_le (show r.length ≤ k by omega)] at HF2
         have hkr : k ≤ 1000000 := by omega
         have HF3 : Hid (enF O = hAll (j + 1) (O.drop (j + 1)) f2) := Lib.hid (by rw [HF2.out]; rfl)
         go_wp2_with fail
         go_roundg g
         case measure => omega
         case rel => exact ⟨j + 1, cnt2, f2, by omega, by go_num, Lib.hid (by have := hcnt2.out; omega), HF3, HMG3, HBX3, HO3⟩
       | succ g2 =>
         have hkk : (k : Int) < (r.length : Int) := by omega
         have hki : (0 : Int) ≤ (k : Int) ∧ (k : Int) < (r.length : Int) := by omega
         obtain ⟨x, hx⟩ := get_lt (l := r) (i := k) (by omega)
         have HFD2 := Lib.hid (hRow_drop (i := (j : Int)) (f := f2) hx)
         obtain ⟨adR, cs, rfl, hxt, hxc⟩ := (HRS.out.only HO3.out (fun k hk e => by have := hk.2; omega)).elem Gv.trlen (i := k) (x := yesG x) (by simp [hx])
         obtain ⟨GA, GB, gc, gd, rfl, hxz⟩ := yg_form hxt
         obtain ⟨d0, d1, d2, d3, d4, d5, d6, d7⟩ := cel8 hxc
         have hbn : Below wq.heap.size wq (wq.alloc (.cells #[.string x.1, .bool false, .int .i8 1, .bool x.2, .int .i64 0, .string ⟨#[]⟩, .slice GA 0 gc, .slice GB 0 gd] 106)) := (Below.refl _ wq).alloc (Nat.le_refl _) _
         have HMG4 := Lib.hid (HMG3.out.below hbn)
         have HBX4 := HBX3.out.below hbn
         have b0 := blk1 HBX4
         obtain ⟨e0, e1, e2, e3, e4, e5, e6, e7⟩ := blk8 (Blk.new wq #[.string x.1, .bool false, .int .i8 1, .bool x.2, .int .i64 0, .string ⟨#[]⟩, .slice GA 0 gc, .slice GB 0 gd] 106)
         have HO4 := Lib.hid (HO3.out.trans (Only.of_below hbn (fun k => k = w2.heap.size)) (fun _ _ h => h))
         have hxm : x.1.size ≤ maxLen := Nat.le_trans hxz (by unfold maxLen; omega)
         have hcm : cnt2 < maxLen := by have := hcnt2.out; unfold maxLen; omega
         have hjw := wf_nat (show j ≤ 1000000 by omega)
         have HBXX := Lib.hid HBX4
         clear hx hxt hxc hbn hxz HBX4
         go_wp2_with (refine wp_put_MG rfl _ _ _ rfl w2.heap.size cnt2 f2 rfl HMG4.out hcm (j : Int) x.1 hjw hxm rfl x.2 rfl ?_; intro w6 hm6 hg6; have HM6 := Lib.hid hm6; have HO6 := Lib.hid (Only.of_grown hg6); clear hm6 hg6)
         go_roundg g2
         case measure => omega
         case rel => exact ⟨k + 1, cnt2 + 1, updG f2 (j : Int) x.1 x.2, by omega, by go_num, Lib.hid (by have := hcnt2.out; omega), Lib.hid (by rw [HF2.out, HFD2.out]), HM6, Lib.hid (HBXX.out.only HO6.out (fun e => by injection e with e; omega)), Lib.hid (HO4.out.trans HO6.out (fun k hk e => by injection e))⟩
    | zero =>
      have hjj : ¬ ((j : Int) < (O.length : Int)) := by omega
      rw [List.drop_of_length_le (by omega), hAll] at HF
      have hlw : w.heap.size < w2.heap.size := HFB2.out.lt
      have hfb3 : Blk wo w.heap.size #[.slice SA sc.length sC, .slice NA nd.length nC] 34 := (HFB2.out.below HB3.out).only HO2.out (by omega)
      obtain ⟨g0, g1⟩ := blk2 hfb3
      have hbw : Below w.heap.size w wo := HO2.out.belowB (HB2.out.trans (HB3.out.mono HB2.out.size)) (fun k hk => by omega)
      have HBW := Lib.hid hbw
      clear hfb3 hbw
      go_wp2_with fail
      go_loopg [50, 4] nd.length (fun g i o wr => ∃ (j2 : Nat) (OA : Option Addr) (oc : Nat), j2 + g = nd.length ∧ i = .int .i64 (j2 : Nat) ∧ o = .slice OA j2 oc ∧ Hid (Ow wr wo.heap.size 4 1 OA j2 oc ((nd.take j2).map fun n => .bool (enOn O n))) ∧ Hid (Below wo.heap.size wo wr))
      case atStart => exact ⟨0, none, 0, by omega, rfl, rfl, Lib.hid (by simpa using Ow.nil _ _ _ _), Lib.hid (Below.refl _ _)⟩
      case round =>
       clear g0 g1
       obtain ⟨j2, OA, oc, hj2, rfl, rfl, HOW, HB⟩ := hrel
       rename World => wp
       cases gk with
       | zero =>
         have hjj2 : ¬ ((j2 : Int) < (nd.length : Int)) := by omega
         have he : j2 = nd.length := by omega
         subst he
         have HOW2 : Hid (Ow wp wo.heap.size 4 1 OA nd.length oc (nd.map fun n => .bool (enOn O n))) := Lib.hid (by have := HOW.out; rwa [List.take_length] at this)
         go_wp2_with fail
         refine bodyPost_ret (v := .tuple #[.slice OA nd.length oc, .int .i64 0]) (by simp [results, Tryz.results11, go_sem]) rfl ?_
         rw [HEN.out]
         refine ⟨HBW.out.trans (HB.out.mono HBW.out.size), OA, oc, by simp, ?_⟩
         have := HOW2.out.le HBW.out.size
         simpa [List.map_map, Function.comp_def] using this
       | succ g2 =>
         have hjj2 : (j2 : Int) < (nd.length : Int) := by omega
         have hji2 : (0 : Int) ≤ (j2 : Int) ∧ (j2 : Int) < (nd.length : Int) := by omega
         obtain ⟨n, hn⟩ := get_lt (l := nd) (i := j2) (by omega)
         have HN2 := Lib.hid hn
         have hgl := HGN.out n (List.mem_of_getElem? hn)
         have hwp := HBW.out.trans (HB.out.mono HBW.out.size)
         obtain ⟨adN, cs, rfl, hxt, hxc⟩ := (HND.out.below hwp).elem Nd.trlen hn
         obtain ⟨C1, C2, C3, C4, C5, q1, q2, q3, q4, q5, rfl, -, -, -, hgd, -⟩ := nd_form hxt
         obtain ⟨e0, e1, e2, e3, e4, e5, e6, e7, e8, e9, e10⟩ := cel11 hxc
         have hbn : Below wp.heap.size wp (wp.alloc (.cells #[.string n.id, .int .i64 n.scope, .string n.r.id, .string n.r.type, .string n.r.cond, .slice C1 n.r.props.length q1, .slice C2 n.r.depends.length q2, .bool n.r.retain, .slice C3 n.r.inner.length q3, .slice C4 n.guards.length q4, .slice C5 n.after.length q5] 80)) := (Below.refl _ wp).alloc (Nat.le_refl _) _
         have hbo : Below wo.heap.size wo (wp.alloc (.cells #[.string n.id, .int .i64 n.scope, .string n.r.id, .string n.r.type, .string n.r.cond, .slice C1 n.r.props.length q1, .slice C2 n.r.depends.length q2, .bool n.r.retain, .slice C3 n.r.inner.length q3, .slice C4 n.guards.length q4, .slice C5 n.after.length q5] 80)) := HB.out.trans (hbn.mono HB.out.size)
         have HIG := Lib.hid (igdc_any S 38 #[.pointer (some ⟨w2.heap.size + 1, 0, none⟩)] (fun g => !((f g.scope g.name).getD false)) C4 q4 n.guards _ (hgd.below hbn) hgl (callFunc_go Tryz.func38 rfl rfl)
          (fun x hx cs w' hb ht => en1_any S x cs _ _ cnt f w' ht ((HBX2.out.below hbo).below hb) ((HMG2.out.below hbo).below hb)))
         have hon : enOn O n = !(n.guards.any fun g => !((f g.scope g.name).getD false)) := by
          unfold enOn
          rw [HF.out, List.all_eq_not_any_not]
         have HON := Lib.hid hon
         obtain ⟨q, hq⟩ : ∃ q, q = n.guards.any fun g => !((f g.scope g.name).getD false) := ⟨_, rfl⟩
         rw [← hq] at HIG HON
         obtain ⟨m0, m1, m2, m3, m4, m5, m6, m7, m8, m9, m10⟩ := blk11 (Blk.new wp #[.string n.id, .int .i64 n.scope, .string n.r.id, .string n.r.type, .string n.r.cond, .slice C1 n.r.props.length q1, .slice C2 n.r.depends.length q2, .bool n.r.retain, .slice C3 n.r.inner.length q3, .slice C4 n.guards.length q4, .slice C5 n.after.length q5] 80)
         have HBO := Lib.hid hbo
         have HBN := Lib.hid hbn
         clear hn hwp hxt hxc hgd hbn hbo hon hq
         go_wp2_with (first
          | ((go_at_call 37); refine HIG.out.mono ?_; rintro e w6 ⟨rfl, hb6⟩; have HB6 := Lib.hid (HBO.out.trans (hb6.mono HBO.out.size)); have HOW6 := Lib.hid (HOW.out.below (HBN.out.trans (hb6.mono HBN.out.size))); have HRN := Lib.hid (Rd.lit w6 1 1 #[.bool (!q)] 4 (0, 0) rfl (by simp [maxLen])); have hl6 := HB6.out.size; clear hb6)
          | (at_builtin; refine wpList_row info_bool3 Tryz.underlying41 rfl (by omega) rfl (.tmp 54) (.tmp 60) rfl wo.heap.size OA oc j2 ((nd.take j2).map fun n => .bool (enOn O n)) rfl (HOW6.out.alloc _) (some ⟨w6.heap.size, 0, none⟩) 1 1 [.bool (!q)] rfl HRN.out (by simp [Value.oneCell']) (by omega) (by omega) (by simp; omega) ?_; intro A' c' w8 ho hg hat; have HO8 := Lib.hid ho; have HG8 := Lib.hid hg; clear ho hg hat))
         go_roundg g2
         case measure => omega
         case rel =>
          have hb8 : Below wo.heap.size wo w8 := (HB6.out.alloc hl6 _).grown HG8.out (by simp; omega) (fun k hk => (HOW6.out.lt hk).1)
          refine ⟨j2 + 1, A', c', by omega, by go_num, rfl, Lib.hid ?_, Lib.hid hb8⟩
          rw [List.take_add_one, HN2.out, Option.toList_some, List.map_append, List.map_singleton, HON.out]
          exact HO8.out
end Go.Proofs.YtgdfkbalnpfdgaaGreatDoor
