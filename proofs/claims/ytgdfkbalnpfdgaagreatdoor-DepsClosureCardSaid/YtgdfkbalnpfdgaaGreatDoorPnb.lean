/- Nested stacks: the parameters' values of all scopes (nest.Params). -/
import Derived.Test.YtgdfkbalnpfdgaaGreatDoorPna
namespace Go.Proofs.YtgdfkbalnpfdgaaGreatDoor
open Go.RowKit
set_option linter.unusedVariables false
set_option linter.unusedSimpArgs false
def gsTr (l : List Gv) : List Tr := [.sl 8 104 l.length (l.flatMap Gv.tr)]
theorem gsTr_len (l : List Gv) : (gsTr l).length = 1 := rfl
theorem gs_at {S : Nat → Prop} {w : World} {l : List Gv} {cs : List Value} : Trs.at S w (gsTr l) cs ↔ ∃ A c, cs = [.slice A l.length c] ∧ Ls S w 8 104 Gv.tr A c l := by
 unfold gsTr
 rw [at_row]
 constructor
 ·rintro ⟨A, c, cs', rfl, h, h2⟩
  rw [at_nil] at h2; subst h2
  exact ⟨A, c, rfl, h⟩
 ·rintro ⟨A, c, rfl, h⟩
  exact ⟨A, c, [], rfl, h, at_nil.2 rfl⟩
theorem gs_elem {S : Nat → Prop} {w : World} {O : List (List Gv)} {xs : List Value} (h : Trs.at S w (O.flatMap gsTr) xs) {j : Nat} {l : List Gv} (hl : O[j]? = some l) : ∃ A c, xs[j]? = some (.slice A l.length c) ∧ Ls S w 8 104 Gv.tr A c l := by
 have := Trs.at.elem gsTr_len h j l hl
 obtain ⟨A, c, e, h2⟩ := gs_at.1 this
 refine ⟨A, c, ?_, h2⟩
 have h3 := congrArg (fun z => z[0]?) e
 simpa [List.getElem?_take, List.getElem?_drop] using h3
def givenOf (args : List Gv) (i : Nat) (s : Sc) (out : List (List Gv)) : List Gv := if i = 0 then args else s.args.map (argOf (out.getD s.parent.toNat []))
def nPar (args : List Gv) : Nat → List Sc → List (List Gv) → Nat ⊕ List (List Gv)
 | _, [], out => .inr out
 | i, s :: r, out => match pBind s.t.params (givenOf args i s out) with
   | .inl e => .inl (if i = 0 then e else 170)
   | .inr o => nPar args (i + 1) r (out ++ [o])
def nParams (sc : List Sc) (nd : List Nd) (args : List Gv) : Nat ⊕ List (List Gv) := if nMay sc nd = false then .inl 2 else nPar args 0 sc []
theorem nPar_drop {args : List Gv} {sc : List Sc} {j : Nat} {s : Sc} {O : List (List Gv)} (h : sc[j]? = some s) : nPar args j (sc.drop j) O = match pBind s.t.params (givenOf args j s O) with | .inl e => .inl (if j = 0 then e else 170) | .inr o => nPar args (j + 1) (sc.drop (j + 1)) (O ++ [o]) := by rw [drop_cons h]; rfl
theorem scUp_at : ∀ {l : List Sc} {i j : Nat} {s : Sc}, scUp i l = true → l[j]? = some s → 0 ≤ s.parent ∧ s.parent ≤ ((i + j : Nat) : Int)
 | [], i, j, s, _, h => by simp at h
 | x :: r, i, j, s, hu, h => by
   unfold scUp at hu
   simp only [Bool.and_eq_true, decide_eq_true_eq] at hu
   cases j with
   | zero => simp at h; subst h; exact ⟨hu.1.1, by simpa using hu.1.2⟩
   | succ j =>
     have := scUp_at hu.2 (show r[j]? = some s by simpa using h)
     exact ⟨this.1, by have := this.2; omega⟩
theorem nMay_up {sc : List Sc} {nd : List Nd} (h : nMay sc nd = true) {j : Nat} {s : Sc} (hj : 0 < j) (hs : sc[j]? = some s) : 0 ≤ s.parent ∧ s.parent < (j : Int) := by
 unfold nMay at h
 cases sc with
 | nil => cases h
 | cons s0 r =>
   simp only at h
   split at h
   ·cases h
   ·simp only [Bool.and_eq_true] at h
    obtain ⟨k, rfl⟩ : ∃ k, j = k + 1 := ⟨j - 1, by omega⟩
    have := scUp_at h.1 (show r[k]? = some s by simpa using hs)
    exact ⟨this.1, by have := this.2; omega⟩
theorem pBind_ne {l : List Pm} {given : List Gv} {n : Nat} (h : pBind l given = .inl n) : n ≠ 0 := by
 unfold pBind at h
 split at h
 ·injection h with h; omega
 ·split at h
  ·injection h with h; omega
  ·split at h
   ·injection h with h; omega
   ·split at h
    ·injection h with h; omega
    ·cases h
theorem pOne_small {given : List Gv} {p : Pm} {v : Gv} (hg : ∀ g ∈ given, vSmall g.v) (hp : pSmall p) (h : pOne given p = some v) : vSmall v.v := by
 unfold pOne at h
 split at h
 ·next g hf =>
  split at h
  ·injection h with h; subst h; exact hg _ (List.mem_of_find?_eq_some hf)
  ·cases h
 ·split at h
  ·cases h
  ·split at h
   ·injection h with h; subst h; exact hp.2.1
   ·cases h
theorem pAll_small {given : List Gv} (hg : ∀ g ∈ given, vSmall g.v) : ∀ {l : List Pm} {o : List Gv}, (∀ p ∈ l, pSmall p) → pAll given l = some o → ∀ g ∈ o, vSmall g.v
 | [], o, _, h => by
   unfold pAll at h
   injection h with h; subst h; simp
 | p :: r, o, hp, h => by
   unfold pAll at h
   split at h
   ·cases h
   ·next v hv =>
    obtain ⟨x, hx, rfl⟩ := Option.map_eq_some_iff.1 h
    intro g hgm
    rcases List.mem_cons.1 hgm with rfl | hgm
    ·exact pOne_small hg (hp p (by simp)) hv
    ·exact pAll_small hg (fun q hq => hp q (by simp [hq])) hx g hgm
theorem pBind_ok {l : List Pm} {given o : List Gv} (h : pBind l given = .inr o) : pAll given l = some o := by
 unfold pBind at h
 split at h
 ·cases h
 ·split at h
  ·cases h
  ·split at h
   ·cases h
   ·split at h
    ·cases h
    ·next x hx => injection h with h; subst h; exact hx
theorem zeroV_small : vSmall zeroV := by
 unfold vSmall zeroV
 refine ⟨?_, ?_⟩ <;> simp [vWalk]
theorem plainG_small {e : Ex} {ps : List Gv} {g : Gv} (hg : ∀ p ∈ ps, vSmall p.v) (h : plainG e ps = some g) : vSmall g.v := by
 unfold plainG at h
 split at h
 ·cases h
 ·split at h
  ·injection h with h; subst h; exact txtV_small _
  ·split at h
   ·injection h with h; subst h; exact numV_small _
   ·split at h
    ·next k hk =>
     obtain ⟨p, hp, rfl⟩ := Option.map_eq_some_iff.1 h
     exact hg p (List.mem_of_getElem? hp)
    ·cases h
theorem argOf_small {out : List Gv} {a : Pr} (hg : ∀ p ∈ out, vSmall p.v) : vSmall (argOf out a).v := by
 unfold argOf
 split
 ·next g h => show vSmall g.v; exact plainG_small hg h
 ·exact zeroV_small
def ParamsOut (r : Nat ⊕ List (List Gv)) (w : World) (e : Ending) (w' : World) : Prop := Below w.heap.size w w' ∧ match r with
 | .inl n => e = .returned (.tuple #[.slice none 0 0, .int .i64 (n : Nat)])
 | .inr O => ∃ A c xs, e = .returned (.tuple #[.slice A O.length c, .int .i64 0]) ∧ Ow w' w.heap.size 28 1 A O.length c xs ∧ Trs.at (fun k => blk A ≠ some k) w' (O.flatMap gsTr) xs
def PlX (S : Nat → Prop) (o : Option Gv) (w : World) (e : Ending) (w' : World) : Prop := Below w.heap.size w w' ∧ ∃ (g0 : Gv) (HA HB0 : Option Addr) (hc hd er : Nat), e = .returned (.tuple #[.agg #[.string g0.name, .bool g0.unknown, .int .i8 g0.v.kind, .bool g0.v.bool, .int .i64 g0.v.num, .string g0.v.text, .slice HA g0.v.list.length hc, .slice HB0 g0.v.keys.length hd], .int .i64 (er : Int)]) ∧
 Trs.at S w' g0.tr [.string g0.name, .bool g0.unknown, .int .i8 g0.v.kind, .bool g0.v.bool, .int .i64 g0.v.num, .string g0.v.text, .slice HA g0.v.list.length hc, .slice HB0 g0.v.keys.length hd] ∧ ((o = some g0 ∧ er = 0) ∨ (o = none ∧ er = 150))
theorem zeroG_at (S : Nat → Prop) (w : World) (b : Bool) (nm : ByteArray) (h : nm.size ≤ 140737488351232) : Trs.at S w (Gv.tr ⟨nm, b, zeroV⟩) [.string nm, .bool b, .int .i8 0, .bool false, .int .i64 0, .string ⟨#[]⟩, .slice none 0 0, .slice none 0 0] :=
 Gv.at_iff.2 ⟨_, rfl, h, Vl.at_iff.2 ⟨none, 0, none, 0, rfl, (by show (Lit.int .i8 0).wf = true; decide), (by show (Lit.int .i64 0).wf = true; decide), (by show ByteArray.empty.size ≤ _; decide), Ls.nil _ _ _ _ (by omega) _, Ls.nil _ _ _ _ (by omega) _⟩⟩
theorem PlainOut.x {S : Nat → Prop} {o : Option Gv} {w : World} {e : Ending} {w' : World} (h : PlainOut S o w e w') : PlX S o w e w' := by
 obtain ⟨hb, hm⟩ := h
 refine ⟨hb, ?_⟩
 cases o with
 | none => exact ⟨⟨ByteArray.empty, false, zeroV⟩, none, none, 0, 0, 150, hm, zeroG_at _ _ false ByteArray.empty (by decide), .inr ⟨rfl, rfl⟩⟩
 | some g =>
   obtain ⟨cs, rfl, ht⟩ := hm
   have ht' := ht
   obtain ⟨GA, GB, gc, gd, rfl, -, -⟩ := gv_cells ht'
   exact ⟨g, GA, GB, gc, gd, 0, rfl, ht, .inl ⟨rfl, rfl⟩⟩
theorem info_gs : (Tryz.prog.info? 28).map (fun i => (i.zero, i.size, i.bytes)) = some (some (.slice none 0 0), 1, 24) := by kernel_rfl
set_option maxRecDepth 100000 in
set_option maxHeartbeats 16000000 in
theorem nparams_any (S : Nat → Prop) (SA NA : Option Addr) (sC nC : Nat) (sc : List Sc) (nd : List Nd) (AA : Option Addr) (ac : Nat) (args : List Gv) (w : World) (hV : VOk w) (hsc : Ls S w 7 144 Sc.tr SA sC sc) (hnd : Ls S w 11 200 Nd.tr NA nC nd)
 (hsn : sc.length ≤ 1000000) (hnn : nd.length ≤ 1000000) (hgn : ∀ n ∈ nd, n.guards.length ≤ 1000000) (hcn : ∀ s ∈ sc, s.t.conds.length ≤ 1000000)
 (hps : ∀ s ∈ sc, s.t.params.length ≤ 1000000 ∧ (∀ p ∈ s.t.params, pSmall p) ∧ s.args.length ≤ 1000000) (hag : Ls S w 8 104 Gv.tr AA ac args) (han : args.length ≤ 1000000) (has : ∀ g ∈ args, vSmall g.v) :
 Calls Tryz.prog 53 #[.agg #[.slice SA sc.length sC, .slice NA nd.length nC], .slice AA args.length ac] w (ParamsOut (nParams sc nd args) w) := by
 have hcap := hsc.cap
 have hmax := hsc.max
 have HSC := Lib.hid hsc.bound
 have HAG := Lib.hid hag.bound
 have HAS := Lib.hid has
 have HPS := Lib.hid hps
 have HV := Lib.hid hV
 have hb1 : Below w.heap.size w (w.alloc (.cells #[.slice SA sc.length sC, .slice NA nd.length nC] 34)) := (Below.refl _ w).alloc (Nat.le_refl _) _
 have hfb := Blk.new w #[.slice SA sc.length sC, .slice NA nd.length nC] 34
 have HB1 := Lib.hid hb1
 have HFB := Lib.hid hfb
 have HMY := Lib.hid (nmay_any S w.heap.size SA NA sC nC sc nd _ hfb (hsc.below hb1) (hnd.below hb1) hsn hnn hgn hcn)
 have hacap := hag.cap
 have HNP0 : Hid (nParams sc nd args = if nMay sc nd = false then .inl 2 else nPar args 0 sc []) := Lib.hid rfl
 obtain ⟨m, hm⟩ : ∃ m, m = nMay sc nd := ⟨_, rfl⟩
 have HM := Lib.hid hm
 rw [← hm] at HMY HNP0
 clear hV hsc hnd hgn hcn hps hag has hb1 hfb hm
 go_enter Tryz.func53, Tryz.ntmps53
 go_wp2_with fail
 refine HMY.out.mono ?_
 rintro e w2 ⟨rfl, hb⟩
 have HB2 := Lib.hid (HB1.out.trans (hb.mono HB1.out.size))
 obtain ⟨f0, f1⟩ := blk2 (HFB.out.below hb)
 clear hb
 cases m with
 | false =>
   rw [if_pos rfl] at HNP0
   go_wp2_with fail
   refine bodyPost_ret (v := .tuple #[.slice none 0 0, .int .i64 2]) (by simp [results, Tryz.results53, go_sem]) rfl ?_
   rw [HNP0.out]
   exact ⟨HB2.out, rfl⟩
 | true =>
   rw [if_neg (by decide)] at HNP0
   go_wp2_with fail
   go_loopg [21, 4] sc.length (fun g i o wr => ∃ (j : Nat) (O : List (List Gv)) (OA : Option Addr) (oc : Nat) (xs : List Value), j + g = sc.length ∧ i = .int .i64 (j : Nat) ∧ o = .slice OA O.length oc ∧ O.length ≤ j ∧ Hid (O.length = j) ∧ Hid (nParams sc nd args = nPar args j (sc.drop j) O) ∧ Hid (∀ row ∈ O, row.length ≤ 1000000 ∧ ∀ g ∈ row, vSmall g.v) ∧ Hid (Ow wr w.heap.size 28 1 OA O.length oc xs) ∧ Hid (Trs.at (fun k => blk OA ≠ some k) wr (O.flatMap gsTr) xs) ∧ Hid (Below w.heap.size w wr))
   case atStart => exact ⟨0, [], none, 0, [], by omega, rfl, rfl, Nat.le_refl _, Lib.hid rfl, HNP0, Lib.hid (by simp), Lib.hid (Ow.nil _ _ _ _), Lib.hid (by simp [Trs.at]), HB2⟩
   case round =>
    clear f0 f1
    obtain ⟨j, O, OA, oc, xs, hj, rfl, rfl, hOle, HOj, HNP, HSM1, HOW, HTR, HB⟩ := hrel
    rename World => wo
    cases gk with
    | zero =>
      have hjj : ¬ ((j : Int) < (sc.length : Int)) := by omega
      rw [List.drop_of_length_le (by omega)] at HNP
      go_wp2_with fail
      refine bodyPost_ret (v := .tuple #[.slice OA O.length oc, .int .i64 0]) (by simp [results, Tryz.results53, go_sem]) rfl ?_
      rw [HNP.out]
      exact ⟨HB.out, OA, oc, xs, rfl, HOW.out, HTR.out⟩
    | succ g =>
      have hjj : (j : Int) < (sc.length : Int) := by omega
      have hji : (0 : Int) ≤ (j : Int) ∧ (j : Int) < (sc.length : Int) := by omega
      obtain ⟨s, hs⟩ := get_lt (l := sc) (i := j) (by omega)
      have HD := Lib.hid (nPar_drop (args := args) (O := O) hs)
      have HSM0 := Lib.hid (List.mem_of_getElem? hs)
      have HUP := Lib.hid (fun h0 : 0 < j => nMay_up HM.out.symm h0 hs)
      have hT : ∀ k, (S k ∧ k < w.heap.size) → (blk OA ≠ some k ∧ k < wo.heap.size) := fun k hk => ⟨fun e => by have := (HOW.out.lt e).1; omega, by have := HB.out.size; omega⟩
      obtain ⟨ad, cs, rfl, hxt, hxc⟩ := (HSC.out.below HB.out).elem Sc.trlen hs
      obtain ⟨B1, B2, B3, B4, B5, d1, d2, d3, d4, d5, rfl, hwp, -, hpl, -, -, hal⟩ := sc_form hxt
      obtain ⟨e0, e1, e2, e3, e4, e5, e6⟩ := cel7 hxc
      have hbn : Below wo.heap.size wo (wo.alloc (.cells #[.int .i64 s.parent, .string s.pre, .slice B1 s.t.params.length d1, .slice B2 s.t.conds.length d2, .slice B3 s.t.res.length d3, .slice B4 s.t.outs.length d4, .slice B5 s.args.length d5] 76)) := (Below.refl _ wo).alloc (Nat.le_refl _) _
      have HBN := Lib.hid hbn
      have HSB := Lib.hid (Blk.new wo #[.int .i64 s.parent, .string s.pre, .slice B1 s.t.params.length d1, .slice B2 s.t.conds.length d2, .slice B3 s.t.res.length d3, .slice B4 s.t.outs.length d4, .slice B5 s.args.length d5] 76)
      have HPL := Lib.hid (hpl.mono hT)
      have HAL := Lib.hid (hal.mono hT)
      have HAG2 := Lib.hid ((HAG.out.below HB.out).mono hT)
      have HOB := Lib.hid HTR.out.bound
      clear hxt hxc hs hbn hpl hal hT
      by_cases hj0 : j = 0
      ·have hji0 : ¬ ((0 : Int) < (j : Int)) := by omega
       have HJ0 := Lib.hid hj0
       clear hj0
       have HAG3 := Lib.hid ((HAG2.out.below HBN.out).mono (fun k hk => hk.1))
       have hbt := HBN.out
       have HBI := Lib.hid (pbind_any (fun k => blk OA ≠ some k) B1 d1 s.t.params AA ac args (wo.alloc (.cells #[.int .i64 s.parent, .string s.pre, .slice B1 s.t.params.length d1, .slice B2 s.t.conds.length d2, .slice B3 s.t.res.length d3, .slice B4 s.t.outs.length d4, .slice B5 s.args.length d5] 76)) (HV.out.below (HB.out.trans (hbt.mono HB.out.size))) ((HPL.out.below hbt).mono (fun k hk => hk.1)) (HPS.out s HSM0.out).1 (HPS.out s HSM0.out).2.1 HAG3.out han HAS.out)
       have HNP2 : Hid (nParams sc nd args = match pBind s.t.params args with | .inl e => .inl (if j = 0 then e else 170) | .inr o => nPar args (j + 1) (sc.drop (j + 1)) (O ++ [o])) := Lib.hid (by rw [HNP.out, HD.out, show givenOf args j s O = args by unfold givenOf; rw [if_pos HJ0.out]])
       obtain ⟨b0, b1, b2, b3, b4, b5, b6⟩ := blk7 HSB.out
       clear hbt
       go_wp2_with fail
       refine HBI.out.mono ?_
       rintro e w6 ⟨hb6, hm⟩
       have HB6 := Lib.hid (HBN.out.trans (hb6.mono HBN.out.size))
       clear b0 b1 b2 b3 b4 b5 b6
       cases hpb : pBind s.t.params args with
       | inl n =>
         have hne := pBind_ne hpb
         rw [hpb] at hm HNP2
         obtain ⟨sx, rfl⟩ := hm
         have hn0 : ((n : Int) == 0) = false := by simpa using hne
         have hn1 : ((n : Int) != 0) = true := by simpa using hne
         have HE : Hid (nParams sc nd args = .inl n) := Lib.hid (by rw [HNP2.out]; show Sum.inl (if j = 0 then n else 170) = _; rw [if_pos HJ0.out])
         clear hb6 hne hpb
         go_wp2_with fail
         refine bodyPost_ret (v := .tuple #[.slice none 0 0, .int .i64 n]) (by simp [results, Tryz.results53, go_sem]) rfl ?_
         rw [HE.out]
         exact ⟨HB.out.trans (HB6.out.mono HB.out.size), rfl⟩
       | inr o =>
         rw [hpb] at hm HNP2
         obtain ⟨BA, bc, ys, rfl, how, htr⟩ := hm
         have hol : o.length = s.t.params.length := pAll_len (pBind_ok hpb)
         have hosm := pAll_small HAS.out (HPS.out s HSM0.out).2.1 (pBind_ok hpb)
         have HOL : Hid (o.length ≤ 1000000 ∧ ∀ g ∈ o, vSmall g.v) := Lib.hid ⟨by rw [hol]; exact (HPS.out s HSM0.out).1, hosm⟩
         have HOW6 := Lib.hid (HOW.out.below HB6.out)
         have HTR6 := Lib.hid (HTR.out.below HB6.out)
         have hneq : blk OA ≠ blk BA ∨ blk BA = none := by
          cases hq : blk BA with
          | none => exact .inr rfl
          | some g =>
            refine .inl (fun e => ?_)
            have h1 := (how.lt hq).1
            have h2 := (HOW.out.lt e).2
            have h3 := HBN.out.size
            omega
         have hol2 := HOL.out.1
         have hblk : ∀ ad, BA = some ad → 0 < o.length → blk OA ≠ some ad.block := fun ad e _ => by
          rcases hneq with h | h
          ·rw [e] at h; exact h
          ·rw [e] at h; cases h
         have HNL : Hid (Ls (fun k => blk OA ≠ some k) w6 8 104 Gv.tr BA bc o) := Lib.hid ⟨by omega, by omega, how.cap, how.max, hblk, ys, how.rd, htr⟩
         have HRN := Lib.hid (Rd.lit w6 1 1 #[.slice BA o.length bc] 28 (0, 0) rfl (by simp [maxLen]))
         have hlo : w.heap.size ≤ w6.heap.size := (HB.out.trans (HB6.out.mono HB.out.size)).size
         clear hb6 hpb how htr hol hosm hneq hblk
         go_wp2_with (at_builtin; refine wpList_row info_gs Tryz.underlying89 rfl (by omega) rfl (.tmp 76) (.tmp 78) rfl w.heap.size OA oc O.length xs rfl (HOW6.out.alloc _) (some ⟨w6.heap.size, 0, none⟩) 1 1 [.slice BA o.length bc] rfl HRN.out (by simp [Value.oneCell']) (by omega) (by omega) (by simp; omega) ?_; intro A' c' w8 ho hg hat; have HO8 := Lib.hid ho; have HG8 := Lib.hid hg; have HAT := Lib.hid hat; clear ho hg hat)
         go_roundg g
         case measure => omega
         case rel =>
          have hb8 : Below w.heap.size w w8 := ((HB.out.trans (HB6.out.mono HB.out.size)).alloc hlo _).grown HG8.out (by simp; omega) (fun k hk => (HOW6.out.lt hk).1)
          have hon : Only (fun k => some k = blk OA) w6 w8 := ((Only.refl _ _).alloc _).grown HG8.out (fun g hg _ => hg.symm)
          have hS : ∀ k, (blk OA ≠ some k ∧ k < w6.heap.size) → ¬ (some k = blk OA) := fun k hk e => hk.1 e.symm
          have hS2 : ∀ k, (blk OA ≠ some k ∧ k < w6.heap.size) → blk A' ≠ some k := fun k hk e => by
           rcases HAT.out with h | h
           ·rw [h] at e; exact hk.1 e
           ·rw [h] at e; injection e with e; have := hk.2; simp at e; omega
          refine ⟨j + 1, O ++ [o], A', c', xs ++ [.slice BA o.length bc], by omega, by go_num, by simp, by simp; omega, Lib.hid (by simp [HOj.out]), Lib.hid HNP2.out, Lib.hid (fun row hrow => ?_), Lib.hid (by simpa using HO8.out), Lib.hid ?_, Lib.hid hb8⟩
          ·rcases List.mem_append.1 hrow with h | h
           ·exact HSM1.out row h
           ·rw [List.mem_singleton.1 h]; exact HOL.out
          ·rw [List.flatMap_append]
           refine Trs.at.app.2 ⟨_, _, rfl, (HTR6.out.bound.only hon hS).mono hS2, ?_⟩
           simp only [List.flatMap_cons, List.flatMap_nil, List.append_nil]
           exact gs_at.2 ⟨BA, bc, rfl, (HNL.out.bound.only hon hS).mono hS2⟩
      ·have hji0 : (0 : Int) < (j : Int) := by omega
       obtain ⟨up0, up1⟩ := HUP.out (by omega)
       obtain ⟨pi, hpi⟩ : ∃ pi : Nat, s.parent = (pi : Int) := ⟨s.parent.toNat, by omega⟩
       have hplt : pi < O.length := by rw [HOj.out]; omega
       obtain ⟨P, hP⟩ := get_lt (l := O) (i := pi) hplt
       have HPD : Hid (O.getD s.parent.toNat [] = P) := Lib.hid (by rw [hpi]; simp [List.getD, hP])
       have HPS1 := Lib.hid (HSM1.out P (List.mem_of_getElem? hP))
       obtain ⟨PA, pc, hxs, hpls⟩ := gs_elem HOB.out hP
       obtain ⟨adO, hOA, hoc⟩ := HOW.out.rd.at_ pi _ hxs
       subst hOA
       have HPLS := Lib.hid hpls
       have HOC := Lib.hid hoc
       have HJ0 := Lib.hid hj0
       have hpb : (0 : Int) ≤ (pi : Int) ∧ (pi : Int) < (O.length : Int) := by omega
       have hpcap := hpls.cap
       rw [hpi] at e0 HSB HBN
       obtain ⟨b0, b1, b2, b3, b4, b5, b6⟩ := blk7 HSB.out
       have halen := (HPS.out s HSM0.out).2.2
       clear up0 up1 hpi hP hxs hpls hoc hj0
       have HJI := Lib.hid hji0
       have hjn : 0 < j := by omega
       go_wp2_with fail
       clear hji0 hjn
       go_loopg [32, 8] s.args.length (fun g i o wr => ∃ (k : Nat) (GL : List Gv) (GA : Option Addr) (gc : Nat) (ys : List Value), k + g = s.args.length ∧ i = .int .i64 (k : Nat) ∧ o = .slice GA GL.length gc ∧ GL.length ≤ k ∧ Hid (GL = (s.args.take k).map (argOf P)) ∧ Hid (Ow wr (wo.heap.size + 1) 106 8 GA GL.length gc ys) ∧ Hid (Trs.at (fun k => blk (some adO) ≠ some k ∧ k < wo.heap.size) wr (GL.flatMap Gv.tr) ys) ∧ Hid (Below wo.heap.size wo wr) ∧ Hid (Blk wr wo.heap.size #[.int .i64 (pi : Int), .string s.pre, .slice B1 s.t.params.length d1, .slice B2 s.t.conds.length d2, .slice B3 s.t.res.length d3, .slice B4 s.t.outs.length d4, .slice B5 s.args.length d5] 76))
       case atStart => exact ⟨0, [], none, 0, [], by omega, rfl, rfl, Nat.le_refl _, Lib.hid (by simp), Lib.hid (Ow.nil _ _ _ _), Lib.hid (by simp [Trs.at]), HBN, HSB⟩
       case round =>
        clear b0 b1 b2 b3 b4 b5 b6 e0 e1 e2 e3 e4 e5 e6
        obtain ⟨k2, GL, GA, gc, ys, hk2, rfl, rfl, hGle, HGL, HGW, HGT, HBR, HSR⟩ := hrel
        rename World => wr
        cases gk with
        | zero =>
          have hkk : ¬ ((k2 : Int) < (s.args.length : Int)) := by omega
          have hGE := HGL.out
          rw [List.take_of_length_le (by omega)] at hGE
          have HGE := Lib.hid hGE
          have hgl3 : GL.length ≤ 1000000 := by omega
          have HGS3 : Hid (∀ g ∈ GL, vSmall g.v) := Lib.hid (fun g hg => by
           rw [hGE] at hg
           obtain ⟨x, -, rfl⟩ := List.mem_map.1 hg
           exact argOf_small HPS1.out.2)
          have hbg : ∀ ad, GA = some ad → 0 < GL.length → blk (some adO) ≠ some ad.block := fun ad e _ e2 => by
           have h1 := (HGW.out.lt (g := ad.block) (by rw [e]; rfl)).1
           have h2 := (HOW.out.lt e2).2
           omega
          have HGL3 : Hid (Ls (fun k => blk (some adO) ≠ some k) wr 8 104 Gv.tr GA gc GL) := Lib.hid ⟨by omega, by omega, HGW.out.cap, HGW.out.max, hbg, ys, HGW.out.rd, HGT.out.mono (fun k hk => hk.1)⟩
          have hgcap := HGW.out.cap
          clear hGE hbg
          have hji0 := HJI.out
          have hbt := HBR.out
          have HBI := Lib.hid (pbind_any (fun k => blk (some adO) ≠ some k) B1 d1 s.t.params GA gc GL wr (HV.out.below (HB.out.trans (hbt.mono HB.out.size))) ((HPL.out.below hbt).mono (fun k hk => hk.1)) (HPS.out s HSM0.out).1 (HPS.out s HSM0.out).2.1 HGL3.out hgl3 HGS3.out)
          have HNP2 : Hid (nParams sc nd args = match pBind s.t.params GL with | .inl e => .inl (if j = 0 then e else 170) | .inr o => nPar args (j + 1) (sc.drop (j + 1)) (O ++ [o])) := Lib.hid (by rw [HNP.out, HD.out, show givenOf args j s O = GL by unfold givenOf; rw [if_neg HJ0.out, HPD.out, HGE.out]])
          obtain ⟨b0, b1, b2, b3, b4, b5, b6⟩ := blk7 HSR.out
          clear hbt
          go_wp2_with fail
          refine HBI.out.mono ?_
          rintro e w6 ⟨hb6, hm⟩
          have HB6 := Lib.hid (HBR.out.trans (hb6.mono HBR.out.size))
          clear b0 b1 b2 b3 b4 b5 b6
          cases hpb : pBind s.t.params GL with
          | inl n =>
            have hne := pBind_ne hpb
            rw [hpb] at hm HNP2
            obtain ⟨sx, rfl⟩ := hm
            have hn0 : ((n : Int) == 0) = false := by simpa using hne
            have hn1 : ((n : Int) != 0) = true := by simpa using hne
            have HE : Hid (nParams sc nd args = .inl 170) := Lib.hid (by rw [HNP2.out]; show Sum.inl (if j = 0 then n else 170) = _; rw [if_neg HJ0.out])
            clear hb6 hne hpb
            go_wp2_with fail
            refine bodyPost_ret (v := .tuple #[.slice none 0 0, .int .i64 170]) (by simp [results, Tryz.results53, go_sem]) rfl ?_
            rw [HE.out]
            exact ⟨HB.out.trans (HB6.out.mono HB.out.size), rfl⟩
          | inr o =>
            rw [hpb] at hm HNP2
            obtain ⟨BA, bc, ys, rfl, how, htr⟩ := hm
            have hol : o.length = s.t.params.length := pAll_len (pBind_ok hpb)
            have hosm := pAll_small HGS3.out (HPS.out s HSM0.out).2.1 (pBind_ok hpb)
            have HOL : Hid (o.length ≤ 1000000 ∧ ∀ g ∈ o, vSmall g.v) := Lib.hid ⟨by rw [hol]; exact (HPS.out s HSM0.out).1, hosm⟩
            have HOW6 := Lib.hid (HOW.out.below HB6.out)
            have HTR6 := Lib.hid (HTR.out.below HB6.out)
            have hneq : blk (some adO) ≠ blk BA ∨ blk BA = none := by
             cases hq : blk BA with
             | none => exact .inr rfl
             | some g =>
               refine .inl (fun e => ?_)
               have h1 := (how.lt hq).1
               have h2 := (HOW.out.lt e).2
               have h3 := HBR.out.size
               omega
            have hol2 := HOL.out.1
            have hblk : ∀ ad, BA = some ad → 0 < o.length → blk (some adO) ≠ some ad.block := fun ad e _ => by
             rcases hneq with h | h
             ·rw [e] at h; exact h
             ·rw [e] at h; cases h
            have HNL : Hid (Ls (fun k => blk (some adO) ≠ some k) w6 8 104 Gv.tr BA bc o) := Lib.hid ⟨by omega, by omega, how.cap, how.max, hblk, ys, how.rd, htr⟩
            have HRN := Lib.hid (Rd.lit w6 1 1 #[.slice BA o.length bc] 28 (0, 0) rfl (by simp [maxLen]))
            have hlo : w.heap.size ≤ w6.heap.size := (HB.out.trans (HB6.out.mono HB.out.size)).size
            clear hb6 hpb how htr hol hosm hneq hblk
            go_wp2_with (at_builtin; refine wpList_row info_gs Tryz.underlying89 rfl (by omega) rfl (.tmp 76) (.tmp 78) rfl w.heap.size (some adO) oc O.length xs rfl (HOW6.out.alloc _) (some ⟨w6.heap.size, 0, none⟩) 1 1 [.slice BA o.length bc] rfl HRN.out (by simp [Value.oneCell']) (by omega) (by omega) (by simp; omega) ?_; intro A' c' w8 ho hg hat; have HO8 := Lib.hid ho; have HG8 := Lib.hid hg; have HAT := Lib.hid hat; clear ho hg hat)
            go_roundg g
            case measure => omega
            case rel =>
             have hb8 : Below w.heap.size w w8 := ((HB.out.trans (HB6.out.mono HB.out.size)).alloc hlo _).grown HG8.out (by simp; omega) (fun k hk => (HOW6.out.lt hk).1)
             have hon : Only (fun k => some k = blk (some adO)) w6 w8 := ((Only.refl _ _).alloc _).grown HG8.out (fun g hg _ => hg.symm)
             have hS : ∀ k, (blk (some adO) ≠ some k ∧ k < w6.heap.size) → ¬ (some k = blk (some adO)) := fun k hk e => hk.1 e.symm
             have hS2 : ∀ k, (blk (some adO) ≠ some k ∧ k < w6.heap.size) → blk A' ≠ some k := fun k hk e => by
              rcases HAT.out with h | h
              ·rw [h] at e; exact hk.1 e
              ·rw [h] at e; injection e with e; have := hk.2; simp at e; omega
             refine ⟨j + 1, O ++ [o], A', c', xs ++ [.slice BA o.length bc], by omega, by go_num, by simp, by simp; omega, Lib.hid (by simp [HOj.out]), Lib.hid HNP2.out, Lib.hid (fun row hrow => ?_), Lib.hid (by simpa using HO8.out), Lib.hid ?_, Lib.hid hb8⟩
             ·rcases List.mem_append.1 hrow with h | h
              ·exact HSM1.out row h
              ·rw [List.mem_singleton.1 h]; exact HOL.out
             ·rw [List.flatMap_append]
              refine Trs.at.app.2 ⟨_, _, rfl, (HTR6.out.bound.only hon hS).mono hS2, ?_⟩
              simp only [List.flatMap_cons, List.flatMap_nil, List.append_nil]
              exact gs_at.2 ⟨BA, bc, rfl, (HNL.out.bound.only hon hS).mono hS2⟩
        | succ g2 =>
          have hkk : (k2 : Int) < (s.args.length : Int) := by omega
          have hki : (0 : Int) ≤ (k2 : Int) ∧ (k2 : Int) < (s.args.length : Int) := by omega
          obtain ⟨a, ha⟩ := get_lt (l := s.args) (i := k2) (by omega)
          have HA2 := Lib.hid ha
          obtain ⟨adA, cs, rfl, hxt, hxc⟩ := (HAL.out.below HBR.out).elem Pr.trlen ha
          obtain ⟨vs, rfl, hans, hxe⟩ := Pr.at_iff.1 hxt
          have hxe' := hxe
          obtain ⟨X1, n1, rfl, -⟩ := Ex.at_iff.1 hxe'
          obtain ⟨e0, e1, e2, e3, e4, e5, e6⟩ := cel7 hxc
          have hb1 : Below wr.heap.size wr (wr.alloc (.cells #[.string a.name, .int .i8 a.e.kind, .string a.e.text, .int .i64 a.e.num, .string a.e.name, .string a.e.attr, .slice X1 a.e.l.length n1] 96)) := (Below.refl _ wr).alloc (Nat.le_refl _) _
          have hab := Blk.new wr #[.string a.name, .int .i8 a.e.kind, .string a.e.text, .int .i64 a.e.num, .string a.e.name, .string a.e.attr, .slice X1 a.e.l.length n1] 96
          have hwz : (wr.alloc (.cells #[.string a.name, .int .i8 a.e.kind, .string a.e.text, .int .i64 a.e.num, .string a.e.name, .string a.e.attr, .slice X1 a.e.l.length n1] 96)).heap.size = wr.heap.size + 1 := by simp
          obtain ⟨wv, hwv⟩ : ∃ wv, wr.alloc (.cells #[.string a.name, .int .i8 a.e.kind, .string a.e.text, .int .i64 a.e.num, .string a.e.name, .string a.e.attr, .slice X1 a.e.l.length n1] 96) = wv := ⟨_, rfl⟩
          rw [hwv] at hb1 hab hwz
          have HWV := Lib.hid hwv
          have HWZ := Lib.hid hwz
          have hsw : wo.heap.size < wr.heap.size := HSR.out.lt
          have hbwv : Below wo.heap.size wo wv := HBR.out.trans (hb1.mono HBR.out.size)
          have HPC : Hid (∀ w', Below wv.heap.size wv w' → Calls Tryz.prog 68 #[.agg #[.int .i8 a.e.kind, .string a.e.text, .int .i64 a.e.num, .string a.e.name, .string a.e.attr, .slice X1 a.e.l.length n1], .slice PA P.length pc] w' (PlX (fun k => blk (some adO) ≠ some k ∧ k < wo.heap.size) (plainG a.e P) w')) := Lib.hid (fun w' hb => by
           have h1 := hbwv.trans (hb.mono hbwv.size)
           exact (pln_any (fun k => blk (some adO) ≠ some k ∧ k < wo.heap.size) a.e X1 n1 PA pc P w' (HV.out.below (HB.out.trans (h1.mono HB.out.size))) (hxe.below (hb1.trans (hb.mono hb1.size))) (HPLS.out.below h1)).mono (fun e w'' h => h.x))
          have HAB := Lib.hid hab
          have HSV := Lib.hid (HSR.out.below hb1)
          have HBV := Lib.hid hb1
          have HBWV := Lib.hid hbwv
          have holt : (adO.add pi).block < wo.heap.size := World.block_lt_of_cell? wo _ HOC.out
          obtain ⟨p0, p1, p2, p3, p4, p5, p6⟩ := blk7 hab
          have b0 := (blk7 (HSR.out.below hb1)).1
          have o0 := (hbwv.cell holt).trans HOC.out
          have hal1 : wr.heap.size ≠ wv.heap.size := by omega
          have hel1 : wo.heap.size ≠ wv.heap.size := by omega
          have hol1 : (adO.add pi).block ≠ wv.heap.size := by omega
          obtain ⟨aC, haC⟩ : ∃ aC, adO.add pi = aC := ⟨_, rfl⟩
          rw [haC] at hol1 o0
          have HB0 : Hid (Below wv.heap.size wv wv.drew) := Lib.hid (Below.refl _ wv).drew
          have HB1' : Hid (Below wv.heap.size wv ((wv.alloc (.cells #[.string ⟨#[]⟩, .bool false, .int .i8 0, .bool false, .int .i64 0, .string ⟨#[]⟩, .slice none 0 0, .slice none 0 0] 106)).drew)) := Lib.hid ((Below.refl _ wv).alloc (Nat.le_refl _) _).drew
          have HZ1 : Hid (Blk ((wv.alloc (.cells #[.string ⟨#[]⟩, .bool false, .int .i8 0, .bool false, .int .i64 0, .string ⟨#[]⟩, .slice none 0 0, .slice none 0 0] 106)).drew) wv.heap.size #[.string ⟨#[]⟩, .bool false, .int .i8 0, .bool false, .int .i64 0, .string ⟨#[]⟩, .slice none 0 0, .slice none 0 0] 106) := Lib.hid (Blk.new wv _ _).drew
          clear ha hxt hxe hxe' hxc hb1 hab hwv hbwv hwz
          go_upto_region 12 with fail
          rw [HWV.out]
          go_cut [11, 12] from 36 to 46 (fun v11 v12 wx => ∃ (b1 : Nat) (g0 : Gv) (HA HB0 : Option Addr) (hc hd er : Nat), v11 = .pointer (some ⟨b1, 0, none⟩) ∧ v12 = .int .i64 (er : Int) ∧ wv.heap.size ≤ b1 ∧ Hid (Blk wx b1 #[.string g0.name, .bool g0.unknown, .int .i8 g0.v.kind, .bool g0.v.bool, .int .i64 g0.v.num, .string g0.v.text, .slice HA g0.v.list.length hc, .slice HB0 g0.v.keys.length hd] 106) ∧ Hid (Trs.at (fun k => blk (some adO) ≠ some k ∧ k < wo.heap.size) wx g0.tr #[.string g0.name, .bool g0.unknown, .int .i8 g0.v.kind, .bool g0.v.bool, .int .i64 g0.v.num, .string g0.v.text, .slice HA g0.v.list.length hc, .slice HB0 g0.v.keys.length hd].toList) ∧ Hid (Below wv.heap.size wv wx) ∧ Hid ((plainG a.e P = some g0 ∧ er = 0) ∨ (plainG a.e P = none ∧ er = 150)))
          case first =>
           clear e0 e1 e2 e3 e4 e5 e6
           go_region_held3 (fun w' => w'.cell? ⟨wr.heap.size, 1, none⟩ = some (.int .i8 a.e.kind) ∧ w'.cell? ⟨wr.heap.size, 2, none⟩ = some (.string a.e.text) ∧ w'.cell? ⟨wr.heap.size, 3, none⟩ = some (.int .i64 a.e.num) ∧ w'.cell? ⟨wr.heap.size, 4, none⟩ = some (.string a.e.name) ∧ w'.cell? ⟨wr.heap.size, 5, none⟩ = some (.string a.e.attr) ∧ w'.cell? ⟨wr.heap.size, 6, none⟩ = some (.slice X1 a.e.l.length n1) ∧
            w'.cell? ⟨wo.heap.size, 0, none⟩ = some (.int .i64 (pi : Int)) ∧ w'.cell? aC = some (.slice PA P.length pc)) (first | go_keep | exact ⟨set8_cell hal1 d1, set8_cell hal1 d2, set8_cell hal1 d3, set8_cell hal1 d4, set8_cell hal1 d5, set8_cell hal1 d6, set8_cell hel1 u0, set8_cell hol1 v0⟩)
            ((first
              | (go_at_call 68; (with_reducible refine (HPC.out ((wv.alloc (.cells #[.string ⟨#[]⟩, .bool false, .int .i8 0, .bool false, .int .i64 0, .string ⟨#[]⟩, .slice none 0 0, .slice none 0 0] 106)).drew) HB1'.out).mono ?_); rintro e w2 ⟨hb, g0, HA, HBB, hc, hd, er, rfl, ht, ho⟩; have hb2 := HB1'.out.trans (hb.mono HB1'.out.size); have hz2 := HZ1.out.below hb; have HT2 := Lib.hid ht; have HO2 := Lib.hid ho; have HB2 := Lib.hid hb2; have HZ2 := Lib.hid hz2; obtain ⟨d0, d1, d2, d3, d4, d5, d6⟩ := blk7 (HAB.out.below hb2); have u0 := (blk7 (HSV.out.below hb2)).1; have v0 := (hb2.cell (World.block_lt_of_cell? wv _ o0)).trans o0; have z0 := hz2.frozen 0; have z1 := hz2.frozen 1; have z2 := hz2.frozen 2; have z3 := hz2.frozen 3; have z4 := hz2.frozen 4; have z5 := hz2.frozen 5; have z6 := hz2.frozen 6; have z7 := hz2.frozen 7; obtain ⟨q0, q1, q2, q3, q4, q5, q6, q7⟩ := blk8 hz2; clear hb ht ho hb2 hz2)
              | (go_at_call 68; (with_reducible refine (HPC.out wv.drew HB0.out).mono ?_); rintro e w2 ⟨hb, g0, HA, HBB, hc, hd, er, rfl, ht, ho⟩; have hb2 := HB0.out.trans (hb.mono HB0.out.size); have HT2 := Lib.hid ht; have HO2 := Lib.hid ho; have HB2 := Lib.hid hb2; obtain ⟨d0, d1, d2, d3, d4, d5, d6⟩ := blk7 (HAB.out.below hb2); have u0 := (blk7 (HSV.out.below hb2)).1; have v0 := (hb2.cell (World.block_lt_of_cell? wv _ o0)).trans o0; clear hb ht ho hb2)))
           ·go_wp2_with fail
            go_meet
            exact ⟨w2.heap.size, g0, HA, HBB, hc, hd, er, rfl, rfl, HB2.out.size, Lib.hid (Blk.new w2 _ _), Lib.hid (HT2.out.alloc _), Lib.hid (HB2.out.alloc HB2.out.size _), HO2⟩
           ·go_wp2_with fail
            go_meet
            exact ⟨wv.heap.size, g0, HA, HBB, hc, hd, er, rfl, rfl, Nat.le_refl _, Lib.hid (HZ2.out.set8 rfl _ _ _ _ _ _ _ _), Lib.hid (HT2.out.only (set8_only _ _ _ _ _ _ _ _ _ _) (fun k hk => by have := hk.2; have := HWZ.out; omega)), Lib.hid ((set8_only _ _ _ _ _ _ _ _ _ _).belowB HB2.out (fun k hk => by omega)), HO2⟩
          case rest =>
           obtain ⟨b1, g0, HA, HB0, hc, hd, er, rfl, rfl, hb1, HX, HXT, HBX, HOX⟩ := hcut
           rename World => wx
           have HAB5' := Lib.hid (HAB.out.below HBX.out)
           have hwb : wr.heap.size < b1 := by have := HWZ.out; omega
           have HBR5 := Lib.hid (HBV.out.trans (HBX.out.mono HBV.out.size))
           clear p0 p1 p2 p3 p4 p5 p6 b0 o0 e0 e1 e2 e3 e4 e5 e6
           rcases HOX.out with ⟨hpg, he⟩ | ⟨hpg, he⟩
           ·subst he
            have HN5 : Hid (argOf P a = ⟨a.name, g0.unknown, g0.v⟩) := Lib.hid (by unfold argOf; rw [hpg])
            have HT5 : Hid (Trs.at (fun k => blk (some adO) ≠ some k ∧ k < wo.heap.size) wx (Gv.tr ⟨a.name, g0.unknown, g0.v⟩) (#[.string a.name, .bool g0.unknown, .int .i8 g0.v.kind, .bool g0.v.bool, .int .i64 g0.v.num, .string g0.v.text, .slice HA g0.v.list.length hc, .slice HB0 g0.v.keys.length hd]).toList) := Lib.hid (by
             obtain ⟨vs, e, -, hv⟩ := Gv.at_iff.1 HXT.out
             injection e with _ e
             injection e with _ e
             subst e
             exact Gv.at_iff.2 ⟨_, rfl, hans, hv⟩)
            have HK5 := HX
            have HAB5 := HAB5'
            have HB5 := HBR5
            clear hpg
            have k5 := HK5.out
            have z0 := k5.frozen 0
            have K6 := Lib.hid ((k5.set 0 (.string a.name)).eq (cs' := #[.string a.name, .bool g0.unknown, .int .i8 g0.v.kind, .bool g0.v.bool, .int .i64 g0.v.num, .string g0.v.text, .slice HA g0.v.list.length hc, .slice HB0 g0.v.keys.length hd]) (by simp))
            have HO6 : Hid (Only (fun k => k = b1) wx (wx.setCell ⟨b1, 0, none⟩ (.string a.name))) := Lib.hid ((Only.refl _ _).setCell _ _ (fun _ => rfl))
            obtain ⟨p0, p1, p2, p3, p4, p5, p6⟩ := blk7 HAB5.out
            obtain ⟨v0, v1, v2, v3, v4, v5, v6, v7⟩ := blk8 k5
            have HB6 : Hid (Below wr.heap.size wr (wx.setCell ⟨b1, 0, none⟩ (.string a.name))) := Lib.hid (HO6.out.belowB HB5.out (fun k hk => by omega))
            generalize hw6 : wx.setCell ⟨b1, 0, none⟩ (.string a.name) = w6 at HO6 HB6 K6
            have HW6 := Lib.hid hw6
            have HT6 := Lib.hid (HT5.out.only HO6.out (fun k hk => by have := hk.2; omega))
            clear hw6 k5
            go_upto_region 16 with fail
            rw [HW6.out]
            obtain ⟨v0, v1, v2, v3, v4, v5, v6, v7⟩ := blk8 K6.out
            clear p0 p1 p2 p3 p4 p5 p6
            have HOW6 := Lib.hid (HGW.out.below HB6.out)
            have HTR6 := Lib.hid (HGT.out.below HB6.out)
            have HRN := Lib.hid (Rd.lit w6 8 1 #[.string a.name, .bool g0.unknown, .int .i8 g0.v.kind, .bool g0.v.bool, .int .i64 g0.v.num, .string g0.v.text, .slice HA g0.v.list.length hc, .slice HB0 g0.v.keys.length hd] 106 (0, 0) rfl (by simp [maxLen]))
            have hlo : wo.heap.size + 1 ≤ w6.heap.size := by have h1 := HB6.out.size; have h2 := HBR.out.size; have h3 := HSR.out.lt; omega
            go_wp2_with (at_builtin; refine wpList_row info_given Tryz.underlying28 rfl (by omega) rfl (.tmp 53) (.tmp 55) rfl (wo.heap.size + 1) GA gc GL.length ys rfl (HOW6.out.alloc _) (some ⟨w6.heap.size, 0, none⟩) 1 1 #[.string a.name, .bool g0.unknown, .int .i8 g0.v.kind, .bool g0.v.bool, .int .i64 g0.v.num, .string g0.v.text, .slice HA g0.v.list.length hc, .slice HB0 g0.v.keys.length hd].toList rfl HRN.out (by simp [Value.oneCell']) (by omega) (by omega) (by simp; omega) ?_; intro A' c' w8 ho hg hat; have HO8 := Lib.hid ho; have HG8 := Lib.hid hg; have HAT := Lib.hid hat; clear ho hg hat)
            go_roundg g2
            case measure => omega
            case rel =>
             have hgb : ∀ k, blk GA = some k → wo.heap.size + 1 ≤ k := fun k hk => (HOW6.out.lt hk).1
             have hb8 : Below wo.heap.size wo w8 := ((HBR.out.trans (HB6.out.mono HBR.out.size)).alloc (by omega) _).grown HG8.out (by simp; omega) (fun k hk => by have := hgb k hk; omega)
             have hon : Only (fun k => some k = blk GA) w6 w8 := ((Only.refl _ _).alloc _).grown HG8.out (fun g hg _ => hg.symm)
             have hS : ∀ k, (blk (some adO) ≠ some k ∧ k < wo.heap.size) → ¬ (some k = blk GA) := fun k hk e => by have := hgb k e.symm; have := hk.2; omega
             refine ⟨k2 + 1, GL ++ [⟨a.name, g0.unknown, g0.v⟩], A', c', ys ++ #[.string a.name, .bool g0.unknown, .int .i8 g0.v.kind, .bool g0.v.bool, .int .i64 g0.v.num, .string g0.v.text, .slice HA g0.v.list.length hc, .slice HB0 g0.v.keys.length hd].toList, by omega, by go_num, by simp, by simp; omega, Lib.hid (by rw [List.take_add_one, HA2.out, Option.toList_some, List.map_append, ← HGL.out, List.map_singleton, HN5.out]), Lib.hid (by simpa using HO8.out), Lib.hid ?_, Lib.hid hb8, Lib.hid ((HSR.out.below HB6.out).only hon (fun e => by have := hgb _ e.symm; omega))⟩
             rw [List.flatMap_append]
             refine Trs.at.app.2 ⟨_, _, rfl, HTR6.out.only hon hS, ?_⟩
             simp only [List.flatMap_cons, List.flatMap_nil, List.append_nil]
             exact HT6.out.only hon hS
           ·subst he
            have HN5 : Hid (argOf P a = ⟨a.name, true, zeroV⟩) := Lib.hid (by unfold argOf; rw [hpg])
            clear hpg
            obtain ⟨v0, v1, v2, v3, v4, v5, v6, v7⟩ := blk8 HX.out
            go_upto_region 15 with ((with_reducible refine is_store ?_); refine wpList_store_blk rfl 106 _ _ rfl b1 #[.string ⟨#[]⟩, .bool true, .int .i8 0, .bool false, .int .i64 0, .string ⟨#[]⟩, .slice none 0 0, .slice none 0 0] #[.string g0.name, .bool g0.unknown, .int .i8 g0.v.kind, .bool g0.v.bool, .int .i64 g0.v.num, .string g0.v.text, .slice HA g0.v.list.length hc, .slice HB0 g0.v.keys.length hd] 106 rfl rfl HX.out rfl (by kernel_rfl) (by simp [Value.oneCell']) ?_; intro w5 hk5 ho5; have HK5 := Lib.hid hk5; have HO5 := Lib.hid ho5; clear hk5 ho5)
            clear v0 v1 v2 v3 v4 v5 v6 v7
            have HT5 : Hid (Trs.at (fun k => blk (some adO) ≠ some k ∧ k < wo.heap.size) w5 (Gv.tr ⟨a.name, true, zeroV⟩) (#[.string a.name, .bool true, .int .i8 0, .bool false, .int .i64 0, .string ⟨#[]⟩, .slice none 0 0, .slice none 0 0]).toList) := Lib.hid (zeroG_at _ w5 true a.name hans)
            have HAB5 := Lib.hid (HAB5'.out.only HO5.out (by omega))
            have HB5 := Lib.hid (HO5.out.belowB HBR5.out (fun k hk => by omega))
            have k5 := HK5.out
            have z0 := k5.frozen 0
            have K6 := Lib.hid ((k5.set 0 (.string a.name)).eq (cs' := #[.string a.name, .bool true, .int .i8 0, .bool false, .int .i64 0, .string ⟨#[]⟩, .slice none 0 0, .slice none 0 0]) (by simp))
            have HO6 : Hid (Only (fun k => k = b1) w5 (w5.setCell ⟨b1, 0, none⟩ (.string a.name))) := Lib.hid ((Only.refl _ _).setCell _ _ (fun _ => rfl))
            obtain ⟨p0, p1, p2, p3, p4, p5, p6⟩ := blk7 HAB5.out
            obtain ⟨v0, v1, v2, v3, v4, v5, v6, v7⟩ := blk8 k5
            have HB6 : Hid (Below wr.heap.size wr (w5.setCell ⟨b1, 0, none⟩ (.string a.name))) := Lib.hid (HO6.out.belowB HB5.out (fun k hk => by omega))
            generalize hw6 : w5.setCell ⟨b1, 0, none⟩ (.string a.name) = w6 at HO6 HB6 K6
            have HW6 := Lib.hid hw6
            have HT6 := Lib.hid (HT5.out.only HO6.out (fun k hk => by have := hk.2; omega))
            clear hw6 k5
            go_upto_region 16 with fail
            rw [HW6.out]
            obtain ⟨v0, v1, v2, v3, v4, v5, v6, v7⟩ := blk8 K6.out
            clear p0 p1 p2 p3 p4 p5 p6
            have HOW6 := Lib.hid (HGW.out.below HB6.out)
            have HTR6 := Lib.hid (HGT.out.below HB6.out)
            have HRN := Lib.hid (Rd.lit w6 8 1 #[.string a.name, .bool true, .int .i8 0, .bool false, .int .i64 0, .string ⟨#[]⟩, .slice none 0 0, .slice none 0 0] 106 (0, 0) rfl (by simp [maxLen]))
            have hlo : wo.heap.size + 1 ≤ w6.heap.size := by have h1 := HB6.out.size; have h2 := HBR.out.size; have h3 := HSR.out.lt; omega
            go_wp2_with (at_builtin; refine wpList_row info_given Tryz.underlying28 rfl (by omega) rfl (.tmp 53) (.tmp 55) rfl (wo.heap.size + 1) GA gc GL.length ys rfl (HOW6.out.alloc _) (some ⟨w6.heap.size, 0, none⟩) 1 1 #[.string a.name, .bool true, .int .i8 0, .bool false, .int .i64 0, .string ⟨#[]⟩, .slice none 0 0, .slice none 0 0].toList rfl HRN.out (by simp [Value.oneCell']) (by omega) (by omega) (by simp; omega) ?_; intro A' c' w8 ho hg hat; have HO8 := Lib.hid ho; have HG8 := Lib.hid hg; have HAT := Lib.hid hat; clear ho hg hat)
            go_roundg g2
            case measure => omega
            case rel =>
             have hgb : ∀ k, blk GA = some k → wo.heap.size + 1 ≤ k := fun k hk => (HOW6.out.lt hk).1
             have hb8 : Below wo.heap.size wo w8 := ((HBR.out.trans (HB6.out.mono HBR.out.size)).alloc (by omega) _).grown HG8.out (by simp; omega) (fun k hk => by have := hgb k hk; omega)
             have hon : Only (fun k => some k = blk GA) w6 w8 := ((Only.refl _ _).alloc _).grown HG8.out (fun g hg _ => hg.symm)
             have hS : ∀ k, (blk (some adO) ≠ some k ∧ k < wo.heap.size) → ¬ (some k = blk GA) := fun k hk e => by have := hgb k e.symm; have := hk.2; omega
             refine ⟨k2 + 1, GL ++ [⟨a.name, true, zeroV⟩], A', c', ys ++ #[.string a.name, .bool true, .int .i8 0, .bool false, .int .i64 0, .string ⟨#[]⟩, .slice none 0 0, .slice none 0 0].toList, by omega, by go_num, by simp, by simp; omega, Lib.hid (by rw [List.take_add_one, HA2.out, Option.toList_some, List.map_append, ← HGL.out, List.map_singleton, HN5.out]), Lib.hid (by simpa using HO8.out), Lib.hid ?_, Lib.hid hb8, Lib.hid ((HSR.out.below HB6.out).only hon (fun e => by have := hgb _ e.symm; omega))⟩
             rw [List.flatMap_append]
             refine Trs.at.app.2 ⟨_, _, rfl, HTR6.out.only hon hS, ?_⟩
             simp only [List.flatMap_cons, List.flatMap_nil, List.append_nil]
             exact HT6.out.only hon hS
open Go.RowKit
set_option linter.unusedVariables false
set_option linter.unusedSimpArgs false
theorem nPar_len {args : List Gv} : ∀ {l : List Sc} {i : Nat} {out L : List (List Gv)}, nPar args i l out = .inr L → L.length = out.length + l.length
 | [], i, out, L, h => by unfold nPar at h; injection h with h; subst h; simp
 | s :: r, i, out, L, h => by
   unfold nPar at h
   split at h
   ·cases h
   ·rw [nPar_len h]; simp; omega
def rowOk (row : List Gv) : Prop := row.length ≤ 1000000 ∧ ∀ g ∈ row, vSmall g.v
theorem nPar_small {args : List Gv} (ha : ∀ g ∈ args, vSmall g.v) : ∀ {l : List Sc} {i : Nat} {out L : List (List Gv)}, (∀ s ∈ l, s.t.params.length ≤ 1000000 ∧ ∀ p ∈ s.t.params, pSmall p) → (∀ row ∈ out, rowOk row) → nPar args i l out = .inr L → ∀ row ∈ L, rowOk row
 | [], i, out, L, _, ho, h => by unfold nPar at h; injection h with h; subst h; exact ho
 | s :: r, i, out, L, hs, ho, h => by
   unfold nPar at h
   split at h
   ·cases h
   ·next o hb =>
    refine nPar_small ha (fun x hx => hs x (by simp [hx])) (fun row hrow => ?_) h
    rcases List.mem_append.1 hrow with hr | hr
    ·exact ho row hr
    ·rw [List.mem_singleton.1 hr]
     have hall := pBind_ok hb
     refine ⟨by rw [pAll_len hall]; exact (hs s (by simp)).1, pAll_small ?_ (hs s (by simp)).2 hall⟩
     unfold givenOf
     split
     ·exact ha
     ·intro g hg
      obtain ⟨a, -, rfl⟩ := List.mem_map.1 hg
      refine argOf_small (fun p hp => ?_)
      rw [List.getD_eq_getElem?_getD] at hp
      cases hq : out[s.parent.toNat]? with
      | none => rw [hq] at hp; simp at hp
      | some row => rw [hq] at hp; exact (ho row (List.mem_of_getElem? hq)).2 p hp
theorem nParams_ok {sc : List Sc} {nd : List Nd} {args : List Gv} {L : List (List Gv)} (ha : ∀ g ∈ args, vSmall g.v) (hs : ∀ s ∈ sc, s.t.params.length ≤ 1000000 ∧ ∀ p ∈ s.t.params, pSmall p) (h : nParams sc nd args = .inr L) : L.length = sc.length ∧ ∀ row ∈ L, rowOk row := by
 unfold nParams at h
 split at h
 ·cases h
 ·exact ⟨by simpa using nPar_len h, nPar_small ha hs (by simp) h⟩
def DpK (K : List Cd → List Gv → Nat) : Prop := ∀ l ps, (∀ p ∈ ps, vSmall p.v) → csCheck l (gNames ps) = 0 → ∀ c ∈ l, Dp l ps vSmall (K l ps) c
theorem dpK_ex : ∃ K, DpK K := by
 have h : ∀ x : List Cd × List Gv, ∃ k, (∀ p ∈ x.2, vSmall p.v) → csCheck x.1 (gNames x.2) = 0 → ∀ c ∈ x.1, Dp x.1 x.2 vSmall k c := fun x => by
  by_cases h1 : ∀ p ∈ x.2, vSmall p.v
  ·by_cases h2 : csCheck x.1 (gNames x.2) = 0
   ·obtain ⟨k, hk, _⟩ := chk_dp h1 h2
    exact ⟨k, fun _ _ => hk⟩
   ·exact ⟨0, fun _ h => absurd h h2⟩
  ·exact ⟨0, fun h => absurd h h1⟩
 exact ⟨fun l ps => Classical.choose (h (l, ps)), fun l ps h1 h2 => Classical.choose_spec (h (l, ps)) h1 h2⟩
def yesG (x : ByteArray × Bool) : Gv := ⟨x.1, false, ⟨1, x.2, 0, ByteArray.empty, [], []⟩⟩
def cgTr (r : List (ByteArray × Bool)) : List Tr := gsTr (r.map yesG)
theorem yesG_at {S : Nat → Prop} {w : World} : ∀ {r : List (ByteArray × Bool)}, (∀ x ∈ r, x.1.size ≤ 140737488351232) → Trs.at S w ((r.map yesG).flatMap Gv.tr) (yesL r)
 | [], _ => by simp [yesL, Trs.at]
 | x :: r, h => by
   rw [List.map_cons, List.flatMap_cons, show yesL (x :: r) = yes x.1 x.2 ++ yesL r from rfl]
   refine Trs.at.app.2 ⟨_, _, rfl, ?_, yesG_at (fun y hy => h y (by simp [hy]))⟩
   exact Gv.at_iff.2 ⟨_, rfl, h x (by simp), Vl.at_iff.2 ⟨none, 0, none, 0, rfl, (by show (Lit.int .i8 1).wf = true; decide), (by show (Lit.int .i64 0).wf = true; decide), (by show ByteArray.empty.size ≤ _; decide), Ls.nil _ _ _ _ (by omega) _, Ls.nil _ _ _ _ (by omega) _⟩⟩
theorem runEv_names {l : List Cd} {ps : List Gv} {eq : Vl → Vl → Bool} {K : Nat} : ∀ {r : List Cd} {o : List (ByteArray × Bool)}, runEv l ps eq K r = some o → o.map Prod.fst = r.map Cd.name
 | [], o, h => by simp only [runEv, Option.some.injEq] at h; subst h; rfl
 | c :: r, o, h => by
   unfold runEv at h
   split at h
   ·cases h
   ·obtain ⟨x, hx, rfl⟩ := Option.map_eq_some_iff.1 h
    simp [runEv_names hx]
theorem runOf_ok {l : List Cd} {ps : List Gv} {K : Nat} {o : List (ByteArray × Bool)} (h : runOf l ps vEq K = .inr o) : csCheck l (gNames ps) = 0 ∧ runEv l ps vEq K l = some o := by
 unfold runOf at h
 split at h
 ·cases h
 ·next h0 =>
  split at h
  ·cases h
  ·next r hr => injection h with h; subst h; exact ⟨by omega, hr⟩
theorem runOf_ne {l : List Cd} {ps : List Gv} {K n : Nat} (h : runOf l ps vEq K = .inl n) : n ≠ 0 := by
 unfold runOf at h
 split at h
 ·injection h with h; omega
 ·split at h
  ·injection h with h; omega
  ·cases h
def cnGo (K : List Cd → List Gv → Nat) : List Sc → List (List Gv) → List (List (ByteArray × Bool)) → Nat ⊕ List (List (ByteArray × Bool))
 | s :: r, g :: L, out => match runOf s.t.conds g vEq (K s.t.conds g) with
   | .inl e => .inl e
   | .inr o => cnGo K r L (out ++ [o])
 | _, _, out => .inr out
def nConds (K : List Cd → List Gv → Nat) (sc : List Sc) (nd : List Nd) (args : List Gv) : Nat ⊕ List (List (ByteArray × Bool)) := match nParams sc nd args with
 | .inl e => .inl e
 | .inr L => cnGo K sc L []
theorem cnGo_drop {K : List Cd → List Gv → Nat} {sc : List Sc} {L : List (List Gv)} {j : Nat} {s : Sc} {g : List Gv} {O : List (List (ByteArray × Bool))} (hs : sc[j]? = some s) (hg : L[j]? = some g) :
 cnGo K (sc.drop j) (L.drop j) O = match runOf s.t.conds g vEq (K s.t.conds g) with | .inl e => .inl e | .inr o => cnGo K (sc.drop (j + 1)) (L.drop (j + 1)) (O ++ [o]) := by
 rw [drop_cons hs, drop_cons hg]; rfl
def CondsOut (r : Nat ⊕ List (List (ByteArray × Bool))) (w : World) (e : Ending) (w' : World) : Prop := Below w.heap.size w w' ∧ match r with
 | .inl n => e = .returned (.tuple #[.slice none 0 0, .int .i64 (n : Nat)])
 | .inr O => ∃ A c xs, e = .returned (.tuple #[.slice A O.length c, .int .i64 0]) ∧ Ow w' w.heap.size 28 1 A O.length c xs ∧ Trs.at (fun k => blk A ≠ some k) w' (O.flatMap cgTr) xs
theorem cd_names {S : Nat → Prop} {w : World} {A : Option Addr} {c : Nat} {l : List Cd} (h : Ls S w 15 224 Cd.tr A c l) : ∀ x ∈ l, x.name.size ≤ 140737488351232 := fun x hx => by
 obtain ⟨i, hi⟩ := List.mem_iff_getElem?.1 hx
 obtain ⟨ad, cs, _, ht, _⟩ := h.elem Cd.trlen hi
 obtain ⟨_, _, _, _, _, hn, _⟩ := Cd.at_iff.1 ht
 exact hn
theorem cgTr_len (l : List (ByteArray × Bool)) : (cgTr l).length = 1 := rfl
theorem nParams_ne {sc : List Sc} {nd : List Nd} {args : List Gv} {n : Nat} (h : nParams sc nd args = .inl n) : n ≠ 0 := by
 have hg : ∀ (l : List Sc) (i : Nat) (out : List (List Gv)), nPar args i l out = .inl n → n ≠ 0 := by
  intro l
  induction l with
  | nil => intro i out h; unfold nPar at h; cases h
  | cons s r ih =>
    intro i out h
    unfold nPar at h
    split at h
    ·next e he =>
     injection h with h
     have := pBind_ne he
     split at h <;> omega
    ·exact ih _ _ h
 unfold nParams at h
 split at h
 ·injection h with h; omega
 ·exact hg _ _ _ h
set_option maxRecDepth 100000 in
set_option maxHeartbeats 16000000 in
theorem nconds_any (K : List Cd → List Gv → Nat) (hK : DpK K) (S : Nat → Prop) (SA NA : Option Addr) (sC nC : Nat) (sc : List Sc) (nd : List Nd) (AA : Option Addr) (ac : Nat) (args : List Gv) (w : World) (hV : VOk w) (hsc : Ls S w 7 144 Sc.tr SA sC sc) (hnd : Ls S w 11 200 Nd.tr NA nC nd)
 (hsn : sc.length ≤ 1000000) (hnn : nd.length ≤ 1000000) (hgn : ∀ n ∈ nd, n.guards.length ≤ 1000000) (hcn : ∀ s ∈ sc, s.t.conds.length ≤ 1000000) (hco : ∀ s ∈ sc, CsOk s.t.conds)
 (hps : ∀ s ∈ sc, s.t.params.length ≤ 1000000 ∧ (∀ p ∈ s.t.params, pSmall p) ∧ s.args.length ≤ 1000000) (hag : Ls S w 8 104 Gv.tr AA ac args) (han : args.length ≤ 1000000) (has : ∀ g ∈ args, vSmall g.v) :
 Calls Tryz.prog 36 #[.agg #[.slice SA sc.length sC, .slice NA nd.length nC], .slice AA args.length ac] w (CondsOut (nConds K sc nd args) w) := by
 have hcap := hsc.cap
 have hmax := hsc.max
 have hacap := hag.cap
 have HSC := Lib.hid hsc.bound
 have HV := Lib.hid hV
 have HK := Lib.hid hK
 have HCO := Lib.hid hco
 have HCN := Lib.hid hcn
 have hb1 : Below w.heap.size w (w.alloc (.cells #[.slice SA sc.length sC, .slice NA nd.length nC] 34)) := (Below.refl _ w).alloc (Nat.le_refl _) _
 have hfb := Blk.new w #[.slice SA sc.length sC, .slice NA nd.length nC] 34
 have HB1 := Lib.hid hb1
 have HFB := Lib.hid hfb
 have HPA := Lib.hid (nparams_any S SA NA sC nC sc nd AA ac args _ (hV.below hb1) (hsc.below hb1) (hnd.below hb1) hsn hnn hgn hcn hps (hag.below hb1) han has)
 have HOK := Lib.hid (fun L => nParams_ok (nd := nd) (L := L) has (fun s hs => ⟨(hps s hs).1, (hps s hs).2.1⟩))
 have HNC : Hid (nConds K sc nd args = match nParams sc nd args with | .inl e => .inl e | .inr L => cnGo K sc L []) := Lib.hid rfl
 obtain ⟨f0, f1⟩ := blk2 hfb
 clear hV hsc hnd hgn hcn hps hag has hb1 hfb hK hco
 go_enter Tryz.func36, Tryz.ntmps36
 go_wp2_with fail
 refine HPA.out.mono ?_
 rintro e w2 ⟨hb, hm⟩
 have HB2 := Lib.hid (HB1.out.trans (hb.mono HB1.out.size))
 obtain ⟨g0, g1⟩ := blk2 (HFB.out.below hb)
 clear f0 f1
 cases hnp : nParams sc nd args with
 | inl n =>
   have hne := nParams_ne hnp
   rw [hnp] at hm HNC
   subst hm
   have hn1 : ((n : Int) != 0) = true := by simpa using hne
   clear hne hnp hb
   go_wp2_with fail
   refine bodyPost_ret (v := .tuple #[.slice none 0 0, .int .i64 n]) (by simp [results, Tryz.results36, go_sem]) rfl ?_
   rw [HNC.out]
   exact ⟨HB2.out, rfl⟩
 | inr L =>
   rw [hnp] at hm HNC
   obtain ⟨hLl, hLr⟩ := HOK.out L hnp
   obtain ⟨LA, lc, ls, rfl, hlow, hltr⟩ := hm
   have HLO := Lib.hid hlow
   have HLT := Lib.hid hltr
   have HLL := Lib.hid hLl
   have HLR := Lib.hid hLr
   have hLn : L.length ≤ 1000000 := by omega
   have hlcap := hlow.cap
   clear hnp hb hlow hltr hLl hLr
   go_wp2_with fail
   go_loopg [23, 4] sc.length (fun g i o wr => ∃ (j : Nat) (O : List (List (ByteArray × Bool))) (OA : Option Addr) (oc : Nat) (xs : List Value), j + g = sc.length ∧ i = .int .i64 (j : Nat) ∧ o = .slice OA O.length oc ∧ O.length ≤ j ∧ Hid (O.length = j) ∧ Hid (nConds K sc nd args = cnGo K (sc.drop j) (L.drop j) O) ∧ Hid (Ow wr w2.heap.size 28 1 OA O.length oc xs) ∧ Hid (Trs.at (fun k => blk OA ≠ some k) wr (O.flatMap cgTr) xs) ∧ Hid (Below w2.heap.size w2 wr))
   case atStart => exact ⟨0, [], none, 0, [], by omega, rfl, rfl, Nat.le_refl _, Lib.hid rfl, HNC, Lib.hid (Ow.nil _ _ _ _), Lib.hid (by simp [Trs.at]), Lib.hid (Below.refl _ _)⟩
   case round =>
    clear g0 g1
    obtain ⟨j, O, OA, oc, xs, hj, rfl, rfl, hOle, HOj, HNP, HOW, HTR, HB⟩ := hrel
    rename World => wo
    cases gk with
    | zero =>
      have hjj : ¬ ((j : Int) < (sc.length : Int)) := by omega
      have HE : Hid (nConds K sc nd args = .inr O) := Lib.hid (by rw [HNP.out, List.drop_of_length_le (by omega)]; unfold cnGo; rfl)
      go_wp2_with fail
      refine bodyPost_ret (v := .tuple #[.slice OA O.length oc, .int .i64 0]) (by simp [results, Tryz.results36, go_sem]) rfl ?_
      rw [HE.out]
      exact ⟨HB2.out.trans (HB.out.mono HB2.out.size), OA, oc, xs, rfl, HOW.out.le HB2.out.size, HTR.out⟩
    | succ g =>
      have hjj : (j : Int) < (sc.length : Int) := by omega
      have hji : (0 : Int) ≤ (j : Int) ∧ (j : Int) < (sc.length : Int) := by omega
      obtain ⟨s, hs⟩ := get_lt (l := sc) (i := j) (by omega)
      obtain ⟨P, hP⟩ := get_lt (l := L) (i := j) (by rw [HLL.out]; omega)
      have HD := Lib.hid (cnGo_drop (K := K) (O := O) hs hP)
      have hsm := List.mem_of_getElem? hs
      have hpr := HLR.out P (List.mem_of_getElem? hP)
      obtain ⟨ad, cs, rfl, hxt, hxc⟩ := (HSC.out.below (HB2.out.trans (HB.out.mono HB2.out.size))).elem Sc.trlen hs
      obtain ⟨B1, B2, B3, B4, B5, d1, d2, d3, d4, d5, rfl, -, -, -, hcl, -, -⟩ := sc_form hxt
      obtain ⟨e0, e1, e2, e3, e4, e5, e6⟩ := cel7 hxc
      obtain ⟨PA, pc, hxs, hpls⟩ := gs_elem HLT.out hP
      obtain ⟨adL, hLA, hlc0⟩ := HLO.out.rd.at_ j _ hxs
      subst hLA
      have hjl : (0 : Int) ≤ (j : Int) ∧ (j : Int) < (L.length : Int) := by have := HLL.out; omega
      have hpcap := hpls.cap
      have hll : (adL.add j).block < w2.heap.size := World.block_lt_of_cell? w2 _ hlc0
      have hbn : Below wo.heap.size wo (wo.alloc (.cells #[.int .i64 s.parent, .string s.pre, .slice B1 s.t.params.length d1, .slice B2 s.t.conds.length d2, .slice B3 s.t.res.length d3, .slice B4 s.t.outs.length d4, .slice B5 s.args.length d5] 76)) := (Below.refl _ wo).alloc (Nat.le_refl _) _
      obtain ⟨wv, hwv⟩ : ∃ wv, wo.alloc (.cells #[.int .i64 s.parent, .string s.pre, .slice B1 s.t.params.length d1, .slice B2 s.t.conds.length d2, .slice B3 s.t.res.length d3, .slice B4 s.t.outs.length d4, .slice B5 s.args.length d5] 76) = wv := ⟨_, rfl⟩
      have hsb := Blk.new wo #[.int .i64 s.parent, .string s.pre, .slice B1 s.t.params.length d1, .slice B2 s.t.conds.length d2, .slice B3 s.t.res.length d3, .slice B4 s.t.outs.length d4, .slice B5 s.args.length d5] 76
      rw [hwv] at hbn hsb
      have hb2v : Below w2.heap.size w2 wv := HB.out.trans (hbn.mono HB.out.size)
      have hbwv : Below w.heap.size w wv := HB2.out.trans (hb2v.mono HB2.out.size)
      have HRUN : Hid (∀ w', Below wv.heap.size wv w' → Calls Tryz.prog 54 #[.slice B2 s.t.conds.length d2, .slice PA P.length pc] w' (RunOut (runOf s.t.conds P vEq (K s.t.conds P)) w')) := Lib.hid (fun w' hb =>
       crun_any (fun _ => True) B2 d2 s.t.conds PA pc P w' (HV.out.below (hbwv.trans (hb.mono hbwv.size))) (((hcl.below hbn).below hb).mono (fun _ _ => trivial)) (((hpls.below hb2v).below hb).mono (fun _ _ => trivial)) hpr.1 hpr.2 (HCO.out s hsm) _ (fun h0 => HK.out _ _ hpr.2 h0))
      have HNM := Lib.hid (cd_names hcl)
      obtain ⟨b0, b1, b2, b3, b4, b5, b6⟩ := blk7 hsb
      have l0 := (hb2v.cell hll).trans hlc0
      obtain ⟨aC, haC⟩ : ∃ aC, adL.add j = aC := ⟨_, rfl⟩
      rw [haC] at l0
      have HWV := Lib.hid hwv
      have HBN := Lib.hid hbn
      have HBD : Hid (Below wv.heap.size wv wv.drew) := Lib.hid (Below.refl _ wv).drew
      have HSB := Lib.hid hsb
      have HBV := Lib.hid hb2v
      clear hs hP hpr hxt hxc hcl hxs hpls hlc0 hbn hwv hsb hb2v hbwv
      go_upto_region 7 with fail
      rw [HWV.out]
      clear e0 e1 e2 e3 e4 e5 e6
      cases hro : runOf s.t.conds P vEq (K s.t.conds P) with
      | inl n =>
        have hne := runOf_ne hro
        rw [hro] at HRUN HD
        have HE : Hid (nConds K sc nd args = .inl n) := Lib.hid (by rw [HNP.out, HD.out])
        have hn1 : ((n : Int) != 0) = true := by simpa using hne
        clear hne hro hsm
        go_region_held3 (fun w' => w'.cell? ⟨wo.heap.size, 3, none⟩ = some (.slice B2 s.t.conds.length d2) ∧ w'.cell? aC = some (.slice PA P.length pc)) (first | go_keep | exact ⟨u3, v0⟩)
         ((go_at_call 54; (with_reducible refine (HRUN.out _ HBD.out).mono ?_); rintro e w6 ⟨rfl, hb6⟩; have HB6 := Lib.hid (HBV.out.trans ((HBD.out.trans (hb6.mono HBD.out.size)).mono HBV.out.size)); have u3 := (blk7 (HSB.out.below (HBD.out.trans (hb6.mono HBD.out.size)))).2.2.2.1; have v0 := ((HBD.out.trans (hb6.mono HBD.out.size)).cell (World.block_lt_of_cell? wv _ l0)).trans l0; clear hb6))
        go_wp2_with fail
        refine bodyPost_ret (v := .tuple #[.slice none 0 0, .int .i64 n]) (by simp [results, Tryz.results36, go_sem]) rfl ?_
        rw [HE.out]
        exact ⟨HB2.out.trans (HB6.out.mono HB2.out.size), rfl⟩
      | inr o =>
        rw [hro] at HRUN HD
        have hrk := runOf_ok hro
        have HNS : Hid (∀ x ∈ o, x.1.size ≤ 140737488351232) := Lib.hid (fun x hx => by
         have h1 := runEv_names hrk.2
         have h2 : x.1 ∈ s.t.conds.map Cd.name := by rw [← h1]; exact List.mem_map.2 ⟨x, hx, rfl⟩
         obtain ⟨c, hc, e⟩ := List.mem_map.1 h2
         rw [← e]; exact HNM.out c hc)
        have hol : o.length = s.t.conds.length := runEv_len hrk.2
        have hob : o.length ≤ 1000000 := by rw [hol]; exact HCN.out s hsm
        clear hro hrk hol hsm
        go_region_held3 (fun w' => w'.cell? ⟨wo.heap.size, 3, none⟩ = some (.slice B2 s.t.conds.length d2) ∧ w'.cell? aC = some (.slice PA P.length pc)) (first | go_keep | exact ⟨u3, v0⟩)
         ((go_at_call 54; (with_reducible refine (HRUN.out _ HBD.out).mono ?_); rintro e w6 ⟨RA, rc, rfl, how, hb6⟩; have HB6 := Lib.hid (HBV.out.trans ((HBD.out.trans (hb6.mono HBD.out.size)).mono HBV.out.size)); have HVW := Lib.hid (HBD.out.trans (hb6.mono HBD.out.size)); have HRO := Lib.hid how; have u3 := (blk7 (HSB.out.below (HBD.out.trans (hb6.mono HBD.out.size)))).2.2.2.1; have v0 := ((HBD.out.trans (hb6.mono HBD.out.size)).cell (World.block_lt_of_cell? wv _ l0)).trans l0; clear hb6 how))
        have how := HRO.out
        have hbo6 : Below wo.heap.size wo w6 := HBN.out.trans (HVW.out.mono HBN.out.size)
        have HOW6 := Lib.hid (HOW.out.below hbo6)
        have HTR6 := Lib.hid (HTR.out.below hbo6)
        have hneq : ∀ ad, RA = some ad → 0 < (o.map yesG).length → blk OA ≠ some ad.block := fun ad e _ e2 => by
         have h1 := (how.lt (g := ad.block) (by rw [e]; rfl)).1
         have h2 := (HOW.out.lt e2).2
         have h3 := HBN.out.size
         simp at h1
         omega
        have hml : (o.map yesG).length = o.length := by simp
        have HNL : Hid (Ls (fun k => blk OA ≠ some k) w6 8 104 Gv.tr RA rc (o.map yesG)) := Lib.hid ⟨by omega, by rw [hml]; omega, by rw [hml]; exact how.cap, how.max, hneq, yesL o, by rw [hml]; exact how.rd, yesG_at HNS.out⟩
        have HRN := Lib.hid (Rd.lit w6 1 1 #[.slice RA o.length rc] 28 (0, 0) rfl (by simp [maxLen]))
        have hlo : w2.heap.size ≤ w6.heap.size := HB6.out.size
        clear how hbo6 hneq hml
        go_wp2_with (at_builtin; refine wpList_row info_gs Tryz.underlying89 rfl (by omega) rfl (.tmp 42) (.tmp 44) rfl w2.heap.size OA oc O.length xs rfl (HOW6.out.alloc _) (some ⟨w6.heap.size, 0, none⟩) 1 1 [.slice RA o.length rc] rfl HRN.out (by simp [Value.oneCell']) (by omega) (by omega) (by simp; omega) ?_; intro A' c' w8 ho hg hat; have HO8 := Lib.hid ho; have HG8 := Lib.hid hg; have HAT := Lib.hid hat; clear ho hg hat)
        go_roundg g
        case measure => omega
        case rel =>
         have hb8 : Below w2.heap.size w2 w8 := (HB6.out.alloc hlo _).grown HG8.out (by simp; omega) (fun k hk => (HOW6.out.lt hk).1)
         have hon : Only (fun k => some k = blk OA) w6 w8 := ((Only.refl _ _).alloc _).grown HG8.out (fun g hg _ => hg.symm)
         have hS : ∀ k, (blk OA ≠ some k ∧ k < w6.heap.size) → ¬ (some k = blk OA) := fun k hk e => hk.1 e.symm
         have hS2 : ∀ k, (blk OA ≠ some k ∧ k < w6.heap.size) → blk A' ≠ some k := fun k hk e => by
          rcases HAT.out with h | h
          ·rw [h] at e; exact hk.1 e
          ·rw [h] at e; injection e with e; have := hk.2; simp at e; omega
         refine ⟨j + 1, O ++ [o], A', c', xs ++ [.slice RA o.length rc], by omega, by go_num, by simp, by simp; omega, Lib.hid (by simp [HOj.out]), Lib.hid (by rw [HNP.out, HD.out]), Lib.hid (by simpa using HO8.out), Lib.hid ?_, Lib.hid hb8⟩
         rw [List.flatMap_append]
         refine Trs.at.app.2 ⟨_, _, rfl, (HTR6.out.bound.only hon hS).mono hS2, ?_⟩
         simp only [List.flatMap_cons, List.flatMap_nil, List.append_nil]
         have h2 := gs_at.2 ⟨RA, rc, rfl, (HNL.out.bound.only hon hS).mono hS2⟩
         rw [List.length_map] at h2
         exact h2
end Go.Proofs.YtgdfkbalnpfdgaaGreatDoor
