/- Deps: over. -/
import Derived.ProofKit
import Derived.Test.YtgdfkbalnpfdgaaGreatDoorRows
import Derived.PinnedBridge
import Derived.Lib.LaidU8T
import Derived.Lay
import Derived.LaidOnce
import Derived.Test.YtgdfkbalnpfdgaaGreatDoorNs11
import Derived.Test.YtgdfkbalnpfdgaaGreatDoorDjE
import Derived.Test.YtgdfkbalnpfdgaaGreatDoorCnU
namespace Go.Proofs.YtgdfkbalnpfdgaaGreatDoor
open Go.RowKit Go.Maps
set_option linter.unusedVariables false
set_option linter.unusedSimpArgs false
theorem exC_all (Γ : Env) (W : Wh) (hΓ : Γ.ok) : ∀ (u : Nat) (x : Ex), ExC Γ W u x := by
 intro u
 induction u using Nat.strongRecOn with
 | ind u ih =>
   have key : ∀ (n : Nat) (x : Ex), SizeOf.sizeOf x ≤ n → ExC Γ W u x := by
    intro n
    induction n with
    | zero => intro x hx; cases x; simp at hx
    | succ n ihn =>
      intro x hx
      refine expr_step Γ W u x hΓ (fun u' hu' y => ih u' hu' y) (fun y hy => ihn y ?_)
      have h1 := List.sizeOf_lt_of_mem hy
      obtain ⟨k, t, m, nm, a, l⟩ := x
      simp only [Ex.mk.sizeOf_spec] at hx
      simp only at h1
      omega
   exact fun x => key _ x (Nat.le_refl _)
structure Fx0 (Γ : Env) (W : Wh) (w : World) : Prop where
 fb : W.fb < W.wb
 fl : Blk w W.fb #[.slice W.SA Γ.sc.length W.sC, .slice W.NA Γ.nd.length W.nC] 34
 sc : Ls (fun k => k < W.wb) w 7 144 Sc.tr W.SA W.sC Γ.sc
 nd : Ls (fun k => k < W.wb) w 11 200 Nd.tr W.NA W.nC Γ.nd
 cs : ∃ xs, Rd w 1 W.CA Γ.O.length W.cC xs ∧ (∀ ad, W.CA = some ad → 0 < Γ.O.length → ad.block < W.wb) ∧ Trs.at (fun k => k < W.wb) w (Γ.O.flatMap cgTr) xs
 on : Rd w 1 W.EA Γ.on.length W.eC (Γ.on.map .bool)
 onb : ∀ ad, W.EA = some ad → 0 < Γ.on.length → ad.block < W.wb
theorem Fx0.only {Γ : Env} {W : Wh} {w w' : World} {F : Nat → Prop} (h : Fx0 Γ W w) (ho : Only F w w') (hF : ∀ k, F k → W.wb ≤ k) : Fx0 Γ W w' := by
 have hS : ∀ k, k < W.wb → ¬ F k := fun k hk hf => by have := hF k hf; omega
 obtain ⟨xs, h1, h2, h3⟩ := h.cs
 exact ⟨h.fb, h.fl.only ho (hS _ h.fb), h.sc.only ho hS, h.nd.only ho hS, ⟨xs, h1.only ho (fun ad e hn hf => hS _ (h2 ad e hn) hf), h2, h3.only ho hS⟩, h.on.only ho (fun ad e hn hf => hS _ (h.onb ad e hn) hf), h.onb⟩
def Ptrs (wb : Nat) (w : World) (ps : List Addr) (xs : List Ex) : Prop := ps.length = xs.length ∧ ∀ (i : Nat) (p : Addr) (x : Ex), ps[i]? = some p → xs[i]? = some x → p.block < wb ∧ ∃ cs, Cel w p cs ∧ Trs.at (fun k => k < wb) w x.tr cs
def cP (ps : List Addr) : List Value := ps.map fun p => .pointer (some p)
theorem Ptrs.only {wb : Nat} {w w' : World} {ps : List Addr} {xs : List Ex} {F : Nat → Prop} (h : Ptrs wb w ps xs) (ho : Only F w w') (hF : ∀ k, F k → wb ≤ k) : Ptrs wb w' ps xs :=
 ⟨h.1, fun i p x hp hx => by
   obtain ⟨h1, cs, h2, h3⟩ := h.2 i p x hp hx
   exact ⟨h1, cs, h2.only ho (fun hf => by have := hF _ hf; omega), h3.only ho (fun k hk hf => by have := hF _ hf; omega)⟩⟩
def OverO (Γ : Env) (W : Wh) (scope : Nat) (xs : List Ex) (w : World) (e : Ending) (w' : World) : Prop := ∃ s', Wk Γ st0 (.exs scope xs) s' ∧ Dy Γ W s' w' ∧ Only (fun k => k = W.wb) w w' ∧ w.heap.size + 2 ≤ w'.heap.size ∧
 if s'.e = 0 then ∃ (A : Option Addr) (c : Nat) (l : List Int), e = .returned (.tuple #[.slice A l.length c, .int .i64 0]) ∧ Rd w' 1 A l.length c (cZ l) ∧ Rises s'.got l else e = .returned (.tuple #[.slice none 0 0, .int .i64 (s'.e : Nat)])
set_option maxRecDepth 100000 in
set_option maxHeartbeats 8000000 in
theorem over_any (Γ : Env) (W : Wh) (hΓ : Γ.ok) (w : World) (hgb : W.gb = w.heap.size) (hsb : W.sb = w.heap.size + 1) (hF : Fx0 Γ W w) (g sn z : Value) (hwk : Blk w W.wb #[.pointer (some ⟨W.fb, 0, none⟩), .slice W.CA Γ.O.length W.cC, .slice W.EA Γ.on.length W.eC, g, sn, z] 92)
 (scope : Nat) (hsc : scope < Γ.sc.length) (xs : List Ex) (ps : List Addr) (LA : Option Addr) (lc : Nat) (hR : Rd w 1 LA xs.length lc (cP ps)) (hRb : ∀ ad, LA = some ad → 0 < xs.length → ad.block ≠ W.wb) (hP : Ptrs W.wb w ps xs) (hx : ∀ x ∈ xs, exOk x) :
 Calls Tryz.prog 33 #[.pointer (some ⟨W.wb, 0, none⟩), .int .i64 (scope : Int), .slice LA xs.length lc] w (OverO Γ W scope xs w) := by
 obtain ⟨c0, c1, c2, c3, c4, c5⟩ := blk6 hwk
 have z3 := hwk.frozen 3
 have z4 := hwk.frozen 4
 have z5 := hwk.frozen 5
 have hmm := @run_makeMap Tryz.prog
 have hlt := hwk.lt
 have hcap := hR.cap
 have hmx := hR.max
 unfold maxLen at hmx
 obtain ⟨WA, hWA⟩ : ∃ WA, WA = ((w.setCell ⟨W.wb, 3, none⟩ (.map (some w.heap.size))).setCell ⟨W.wb, 4, none⟩ (.map (some (w.heap.size + 1)))).setCell ⟨W.wb, 5, none⟩ (.int .i64 0) := ⟨_, rfl⟩
 have hsA : WA.heap.size = w.heap.size := by rw [hWA]; simp
 have hbA : Blk WA W.wb #[.pointer (some ⟨W.fb, 0, none⟩), .slice W.CA Γ.O.length W.cC, .slice W.EA Γ.on.length W.eC, .map (some W.gb), .map (some W.sb), .int .i64 ((0 : Nat) : Int)] 92 := by
  rw [hWA, hgb, hsb]
  exact (((hwk.set 3 (.map (some w.heap.size))).set 4 (.map (some (w.heap.size + 1)))).set 5 (.int .i64 0)).eq rfl
 have hoA1 : Only (fun k => k = W.wb) w (w.setCell ⟨W.wb, 3, none⟩ (.map (some w.heap.size))) := (Only.refl _ w).setCell ⟨W.wb, 3, none⟩ (.map (some w.heap.size)) (fun _ => rfl)
 have hoA2 := hoA1.setCell ⟨W.wb, 4, none⟩ (.map (some (w.heap.size + 1))) (fun _ => rfl)
 have hoA : Only (fun k => k = W.wb) w WA := by rw [hWA]; exact hoA2.setCell ⟨W.wb, 5, none⟩ (.int .i64 0) (fun _ => rfl)
 obtain ⟨W2, hW2⟩ : ∃ W2, W2 = (WA.alloc (.map #[] 0)).alloc (.map #[] 0) := ⟨_, rfl⟩
 have hb2 : Below WA.heap.size WA W2 := by rw [hW2]; exact ((Below.refl _ WA).alloc (Nat.le_refl _) _).alloc (by simp) _
 have hs2 : W2.heap.size = w.heap.size + 2 := by rw [hW2]; simp [hsA]
 have hm2 : MZ W2 W.gb [] := by
  rw [hW2, hgb, ← hsA]
  exact (MZ.new WA).below ((Below.refl _ _).alloc (Nat.le_refl _) _)
 have hp2 : MPk W2 W.sb 0 (fun _ => 0) := by
  rw [hW2, hsb]
  have := MPk.new (WA.alloc (.map #[] 0))
  rwa [show (WA.alloc (.map #[] 0)).heap.size = w.heap.size + 1 by simp [hsA]] at this
 have ho2 : Only (fun k => k = W.wb) w W2 := hoA.trans (Only.of_below hb2 (fun k => k = W.wb)) (fun _ _ h => h)
 have hF2 := hF.only ho2 (fun k hk => by rw [hk]; exact Nat.le_refl _)
 have hFx : Fxd Γ W W2 := ⟨hF2.fb, by rw [hgb]; exact hlt, by rw [hsb]; omega, by rw [hgb, hsb]; omega, hF2.fl, hF2.sc, hF2.nd, hF2.cs, hF2.on, hF2.onb⟩
 have hD2 : Dy Γ W st0 W2 := ⟨hbA.below hb2, ⟨[], List.nodup_nil, fun k hk => (by cases hk), by rw [tZ_nil]; rfl, hm2⟩, ⟨0, by
  have : ∀ l : List Pk, (l.map fun p => 2 - st0.seen p).sum = 2 * l.length := fun l => by
   induction l with
   | nil => rfl
   | cons a l ih => simp only [List.map_cons, List.sum_cons, ih, List.length_cons]; simp [st0]; omega
  unfold wgt
  rw [this]; omega, hp2⟩, by simp [st0]⟩
 have hR2 : Rd W2 1 LA xs.length lc (cP ps) := hR.only ho2 (fun ad e hl e2 => hRb ad e hl e2)
 have hP2 : Ptrs W.wb W2 ps xs := hP.only ho2 (fun k hk => by rw [hk]; exact Nat.le_refl _)
 have hRl : ∀ ad, LA = some ad → 0 < xs.length → ad.block < w.heap.size := fun ad e hl => by
  obtain ⟨p, hp⟩ := get_lt (l := ps) (i := 0) (by rw [hP.1]; exact hl)
  obtain ⟨ad', e', hc⟩ := hR.at_ 0 (.pointer (some p)) (by simp [cP, hp])
  rw [e] at e'; injection e' with e'; subst e'
  exact World.block_lt_of_cell? w _ hc
 have HWA := Lib.hid hWA
 have HW2 := Lib.hid hW2
 have HFX := Lib.hid hFx
 have HD2 := Lib.hid hD2
 have HO2 := Lib.hid ho2
 have HS2 := Lib.hid hs2
 have HR2 := Lib.hid hR2
 have HP2 := Lib.hid hP2
 have HRL := Lib.hid hRl
 have HRB := Lib.hid hRb
 have HX := Lib.hid hx
 have HGB := Lib.hid hgb
 have HSB := Lib.hid hsb
 have HΓ := Lib.hid hΓ
 clear hWA hW2 hFx hD2 ho2 hs2 hR2 hP2 hRl hRb hx hgb hsb hΓ hF hF2 hwk hR hP hsA hbA hoA hoA1 hoA2 hb2 hm2 hp2
 go_enter Tryz.func33, Tryz.ntmps33
 go_upto_region 2 with fail
 rw [← HWA.out, ← HW2.out]
 clear hmm c0 c1 c2 c3 c4 c5 z3 z4 z5
 go_wp2_with fail
 go_loopg [23] xs.length (fun g i wr => ∃ (j : Nat) (s2 : Wst), j + g = xs.length ∧ i = .int .i64 (j : Nat) ∧ Hid (Wk Γ st0 (.exs scope (xs.take j)) s2) ∧ Hid (Dy Γ W s2 wr) ∧ Hid (Only W.F W2 wr))
 case atStart => exact ⟨0, st0, by omega, rfl, Lib.hid (by simpa using Wk.nil), HD2, Lib.hid (Only.refl _ _)⟩
 case round =>
  obtain ⟨j, s2, hj, rfl, HK, HD, HO⟩ := hrel
  rename World => wo
  have HOw : Hid (Only (fun k => k = W.wb) w wo) := Lib.hid (HO2.out.trans HO.out (fun i hi hf => by
   rcases hf with h | h | h
   ·exact h
   ·rw [h, HGB.out] at hi; omega
   ·rw [h, HSB.out] at hi; omega))
  have HSZ : Hid (w.heap.size + 2 ≤ wo.heap.size) := Lib.hid (by have := HO.out.size; have := HS2.out; omega)
  cases gk with
  | zero =>
    have hjj : ¬ ((j : Int) < (xs.length : Int)) := by omega
    have HK2 : Hid (Wk Γ st0 (.exs scope xs) s2) := Lib.hid (by have := HK.out; rwa [List.take_of_length_le (by omega)] at this)
    obtain ⟨c0, c1, c2, c3, c4, c5⟩ := blk6 HD.out.wk
    by_cases he : s2.e = 0
    ·obtain ⟨V, hV1, hV2, hV3, hV4⟩ := HD.out.got
     have HRI := Lib.hid (rising_any wo W.gb V.length (tZ V) hV4.mt (by have := okKey_len hV1 hV2; have := HΓ.out.ndl; omega))
     have HV3 := Lib.hid hV3
     have HE := Lib.hid he
     rw [he] at c5
     clear he hV1 hV2 hV3 hV4
     go_wp2_with fail
     refine HRI.out.mono ?_
     rintro e w5 ⟨A5, c5', l, rfl, how, hb, hri⟩
     have HB := Lib.hid hb
     have HRD := Lib.hid how.rd
     have HRI5 := Lib.hid hri
     clear how hb hri
     go_wp2_with fail
     refine bodyPost_ret (v := .tuple #[.slice A5 l.length c5', .int .i64 0]) (by simp [results, Tryz.results33, go_sem]) rfl ?_
     refine ⟨s2, HK2.out, HD.out.below HB.out, HOw.out.trans (Only.of_below HB.out _) (fun _ _ h => h), Nat.le_trans HSZ.out HB.out.size, ?_⟩
     rw [if_pos HE.out]
     exact ⟨A5, c5', l, rfl, HRD.out, by rw [HV3.out]; exact HRI5.out⟩
    ·have hne : ((s2.e : Int) != 0) = true := by simpa using he
     have HE := Lib.hid he
     clear he
     go_wp2_with fail
     go_quiet (fail)
     go_wp2_with fail
     refine bodyPost_ret (v := .tuple #[.slice none 0 0, .int .i64 (s2.e : Int)]) (by simp [results, Tryz.results33, go_sem]) rfl ?_
     refine ⟨s2, HK2.out, HD.out.below (below_drewN _ _), HOw.out.trans (Only.of_below (below_drewN _ _) _) (fun _ _ h => h), HSZ.out, ?_⟩
     rw [if_neg HE.out]
  | succ g =>
    have hjj : (j : Int) < (xs.length : Int) := by omega
    have hji : (0 : Int) ≤ (j : Int) ∧ (j : Int) < (xs.length : Int) := by omega
    obtain ⟨y, hy⟩ := get_lt (l := xs) (i := j) (by omega)
    obtain ⟨p, hp⟩ := get_lt (l := ps) (i := j) (by rw [HP2.out.1]; omega)
    have hrow := HR2.out.only HO.out (fun ad e hl hf => by
     have h1 := HRL.out ad e hl
     rcases hf with h | h | h
     ·exact HRB.out ad e hl h
     ·rw [h, HGB.out] at h1; omega
     ·rw [h, HSB.out] at h1; omega)
    obtain ⟨ad, hLA, hcp⟩ := hrow.at_ j (.pointer (some p)) (by simp [cP, hp])
    subst hLA
    obtain ⟨hpb, cs, hpc, hpt⟩ := (HP2.out.only HO.out HFX.out.lo).2 j p y hp hy
    have HTK : Hid (xs.take (j + 1) = xs.take j ++ [y]) := Lib.hid (by rw [List.take_add_one, hy]; rfl)
    have HEX := Lib.hid (exC_all Γ W HΓ.out (wgt Γ s2) y s2 scope p cs wo (Nat.le_refl _) hsc (HX.out y (List.mem_of_getElem? hy)) (HFX.out.step HO.out) HD.out hpc hpt hpb)
    clear hy hp hrow hpb hpc hpt
    go_wp2_with fail
    refine HEX.out.mono ?_
    rintro e w3 ⟨rfl, s3, hwk, hd3, ho3⟩
    have HK3 : Hid (Wk Γ st0 (.exs scope (xs.take (j + 1))) s3) := Lib.hid (by rw [HTK.out]; exact HK.out.app (.cons hwk .nil))
    have HD3 := Lib.hid hd3
    have HO3 := Lib.hid (HO.out.F ho3)
    clear hwk hd3 ho3
    go_wp2_with fail
    go_roundg g
    case measure => omega
    case rel => exact ⟨j + 1, s3, by omega, by go_num, HK3, HD3, HO3⟩
open Go.RowKit Go.Maps
set_option linter.unusedVariables false
set_option linter.unusedSimpArgs false
structure FlatOk (sc : List Sc) (nd : List Nd) : Prop where
 scl : sc.length ≤ 1000
 ndl : nd.length ≤ 1000
 par : ∀ s ∈ sc, s.t.params.length ≤ 400 ∧ s.args.length ≤ 400 ∧ s.t.outs.length ≤ 400 ∧ s.pre.size ≤ 1000000
 gd : ∀ n ∈ nd, n.guards.length ≤ 1000000
 cn : ∀ s ∈ sc, s.t.conds.length ≤ 1000000
 co : ∀ s ∈ sc, CsOk s.t.conds
 ps : ∀ s ∈ sc, s.t.params.length ≤ 1000000 ∧ (∀ p ∈ s.t.params, pSmall p) ∧ s.args.length ≤ 1000000
 ex : ∀ s ∈ sc, (∀ a ∈ s.args, exOk a.e) ∧ ∀ o ∈ s.t.outs, exOk o.e
 nx : ∀ n ∈ nd, n.r.props.length ≤ 1000 ∧ n.after.length ≤ 1000000 ∧ ∀ p ∈ n.r.props, exOk p.e
theorem places_len : ∀ {l : List Sc} {i : Nat}, (∀ s ∈ l, s.args.length ≤ 400 ∧ s.t.outs.length ≤ 400) → (places i l).length ≤ 800 * l.length
 | [], i, _ => by simp [places]
 | s :: r, i, h => by
   have h1 := h s (.head _)
   have h2 := places_len (l := r) (i := i + 1) (fun s hs => h s (.tail _ hs))
   unfold places placesOf
   simp only [List.length_append, List.length_map, List.length_cons]
   omega
theorem env_ok {K : List Cd → List Gv → Nat} {sc : List Sc} {nd : List Nd} {args : List Gv} {O : List (List (ByteArray × Bool))} (hf : FlatOk sc nd) (ha : ∀ g ∈ args, vSmall g.v) (h : nConds K sc nd args = .inr O) : Env.ok ⟨sc, nd, O, nd.map (enOn O)⟩ := by
 obtain ⟨hM, hl, hr⟩ := nConds_ok ha (fun s hs => ⟨(hf.ps s hs).1, (hf.ps s hs).2.1⟩) h
 refine ⟨hl, by simp, hf.scl, hf.ndl, fun r hr2 => ?_, fun j s hj hs => nMay_up hM hj hs, fun s hs => ?_, hf.ex, ?_⟩
 ·obtain ⟨j, hj⟩ := List.mem_iff_getElem?.1 hr2
  obtain ⟨s, g, h1, h2⟩ := hr j r hj
  rw [runEv_len (runOf_ok h2).2]
  exact hf.cn s (List.mem_of_getElem? h1)
 ·obtain ⟨h1, h2, h3, h4⟩ := hf.par s hs
  exact ⟨by omega, by omega, by omega, h4⟩
 ·have := places_len (l := sc) (i := 0) (fun s hs => ⟨(hf.par s hs).2.1, (hf.par s hs).2.2.1⟩)
  have := hf.scl
  show (places 0 sc).length ≤ _
  omega
def BeginO (K : List Cd → List Gv → Nat) (sc : List Sc) (nd : List Nd) (args : List Gv) (fb : Nat) (SA NA : Option Addr) (sC nC : Nat) (w : World) (e : Ending) (w' : World) : Prop := Below w.heap.size w w' ∧ match nConds K sc nd args with
 | .inl n => n ≠ 0 ∧ e = .returned (.tuple #[.pointer none, .int .i64 (n : Nat)])
 | .inr O => ∃ (wb : Nat) (CA EA : Option Addr) (cC eC : Nat), e = .returned (.tuple #[.pointer (some ⟨wb, 0, none⟩), .int .i64 0]) ∧ w.heap.size ≤ wb ∧
  (∀ gb sb, Fx0 ⟨sc, nd, O, nd.map (enOn O)⟩ ⟨fb, wb, gb, sb, SA, sC, NA, nC, CA, cC, EA, eC⟩ w') ∧
  Blk w' wb #[.pointer (some ⟨fb, 0, none⟩), .slice CA O.length cC, .slice EA nd.length eC, .map none, .map none, .int .i64 0] 92
set_option maxRecDepth 100000 in
set_option maxHeartbeats 8000000 in
theorem begin_any (K : List Cd → List Gv → Nat) (hK : DpK K) (fb : Nat) (SA NA : Option Addr) (sC nC : Nat) (sc : List Sc) (nd : List Nd) (AA : Option Addr) (ac : Nat) (args : List Gv) (w : World) (hV : VOk w) (hfb : Blk w fb #[.slice SA sc.length sC, .slice NA nd.length nC] 34) (hsc : Ls (fun k => k < w.heap.size) w 7 144 Sc.tr SA sC sc) (hnd : Ls (fun k => k < w.heap.size) w 11 200 Nd.tr NA nC nd)
 (hf : FlatOk sc nd) (hag : Ls (fun k => k < w.heap.size) w 8 104 Gv.tr AA ac args) (han : args.length ≤ 1000000) (has : ∀ g ∈ args, vSmall g.v) :
 Calls Tryz.prog 32 #[.pointer (some ⟨fb, 0, none⟩), .slice AA args.length ac] w (BeginO K sc nd args fb SA NA sC nC w) := by
 have HCO : Hid (∀ w2, Below w.heap.size w w2 → Calls Tryz.prog 36 #[.agg #[.slice SA sc.length sC, .slice NA nd.length nC], .slice AA args.length ac] w2 (CondsOut (nConds K sc nd args) w2)) := Lib.hid (fun w2 hb =>
  nconds_any K hK _ SA NA sC nC sc nd AA ac args w2 (hV.below hb) (hsc.below hb) (hnd.below hb) (by have := hf.scl; omega) (by have := hf.ndl; omega) hf.gd hf.cn hf.co hf.ps (hag.below hb) han has)
 have HEN := Lib.hid (nenabled_any K hK _ SA NA sC nC sc nd AA ac args w hV hsc hnd (by have := hf.scl; omega) (by have := hf.ndl; omega) hf.gd hf.cn hf.co hf.ps hag han has)
 have HEQ : Hid (nEnabled K sc nd args = match nConds K sc nd args with | .inl e => .inl e | .inr O => .inr (nd.map (enOn O))) := Lib.hid rfl
 obtain ⟨f0, f1⟩ := blk2 hfb
 have hfl := hfb.lt
 have HFB := Lib.hid hfb
 have HSC := Lib.hid hsc
 have HND := Lib.hid hnd
 have hacap := hag.cap
 cases hnp : nConds K sc nd args with
 | inl n =>
   have hne := nConds_ne hnp
   rw [hnp] at HEQ
   rw [HEQ.out] at HEN
   have hn1 : ((n : Int) != 0) = true := by simpa using hne
   have HNP := Lib.hid hnp
   have HNE := Lib.hid hne
   clear hV hfb hsc hnd hf hag has hne hnp HCO HEQ hK
   go_enter Tryz.func32, Tryz.ntmps32
   go_wp2_with fail
   refine HEN.out.mono ?_
   rintro e w2 ⟨hb, rfl⟩
   have HB := Lib.hid hb
   clear hb
   go_wp2_with fail
   refine bodyPost_ret (v := .tuple #[.pointer none, .int .i64 (n : Int)]) (by simp [results, Tryz.results32, go_sem]) rfl ?_
   unfold BeginO
   rw [HNP.out]
   exact ⟨HB.out, HNE.out, rfl⟩
 | inr O =>
   rw [hnp] at HEQ HCO
   rw [HEQ.out] at HEN
   have HNP := Lib.hid hnp
   clear hV hfb hsc hnd hf hag has hnp HEQ hK
   go_enter Tryz.func32, Tryz.ntmps32
   go_wp2_with fail
   refine HEN.out.mono ?_
   rintro e w2 ⟨hb, EA, eC, rfl, how⟩
   have HB := Lib.hid hb
   have HC2 := Lib.hid (HCO.out w2 hb)
   have HOW := Lib.hid how
   obtain ⟨g0, g1⟩ := blk2 (HFB.out.below hb)
   clear hb how f0 f1
   go_wp2_with fail
   refine HC2.out.mono ?_
   rintro e w3 ⟨hb3, hm⟩
   obtain ⟨CA, cC, xs, rfl, hlow, hltr⟩ := hm
   have hb := HB.out.trans (hb3.mono HB.out.size)
   have HB3 := Lib.hid hb
   have HB23 := Lib.hid hb3
   have HLO := Lib.hid hlow
   have HLT := Lib.hid hltr
   clear hb3 hb hlow hltr
   go_wp2_with fail
   refine bodyPost_ret (v := .tuple #[.pointer (some ⟨w3.heap.size, 0, none⟩), .int .i64 0]) (by simp [results, Tryz.results32, go_sem]) rfl ?_
   have hb4 : ∀ cs t, Below w3.heap.size w3 (w3.alloc (.cells cs t)) := fun cs t => (Below.refl _ w3).alloc (Nat.le_refl _) _
   have hb04 := fun cs t => HB3.out.trans ((hb4 cs t).mono HB3.out.size)
   have hsz := HB3.out.size
   have hsz2 := HB23.out.size
   unfold BeginO
   rw [HNP.out]
   refine ⟨hb04 _ _, w3.heap.size, CA, EA, cC, eC, rfl, hsz, fun gb sb => ⟨by show fb < w3.heap.size; omega, HFB.out.below (hb04 _ _), (HSC.out.below (hb04 _ _)).mono (fun k hk => by show k < w3.heap.size; omega), (HND.out.below (hb04 _ _)).mono (fun k hk => by show k < w3.heap.size; omega), ⟨xs, HLO.out.rd.below (hb4 _ _), fun ad e hl => by have := (HLO.out.lt (g := ad.block) (by rw [show CA = some ad from e]; rfl)).2; exact this, ?_⟩, ?_, fun ad e hl => ?_⟩, ?_⟩
   ·exact (HLT.out.bound.mono (fun k hk => hk.2)).below (hb4 _ _)
   ·have := (HOW.out.rd.below HB23.out).below (hb4 #[.pointer (some ⟨fb, 0, none⟩), .slice CA O.length cC, .slice EA nd.length eC, .map none, .map none, .int .i64 0] 92)
    simpa using this
   ·have := (HOW.out.lt (g := ad.block) (by rw [show EA = some ad from e]; rfl)).2
    show ad.block < w3.heap.size
    omega
   ·simpa using Blk.new w3 #[.pointer (some ⟨fb, 0, none⟩), .slice CA O.length cC, .slice EA nd.length eC, .map none, .map none, .int .i64 0] 92
open Go.RowKit Go.Maps
set_option linter.unusedVariables false
set_option linter.unusedSimpArgs false
theorem info_pex : (Tryz.prog.info? 94).map (fun i => (i.zero, i.size, i.bytes)) = some (some (.pointer none), 1, 8) := by kernel_rfl
def aft (Γ : Env) (n : Nd) (k : Int) : Bool := decide (0 ≤ k) && (Γ.on.getD k.toNat false && match Γ.nd[k.toNat]? with | some m => sHas m.id n.after | none => false)
def RowP (Γ : Env) (on : Bool) (n : Nd) (row : List Int) : Prop := if on = false then row = [] else ∃ s', Wk Γ st0 (.exs n.scope.toNat (n.r.props.map Pr.e)) s' ∧ s'.e = 0 ∧ Rises (fun k => s'.got k || aft Γ n k) row
def RunO (Γ : Env) (w : World) (e : Ending) (w' : World) : Prop := Below w.heap.size w w' ∧
 ((∃ (i : Nat) (n : Nd) (s' : Wst), Γ.nd[i]? = some n ∧ Wk Γ st0 (.exs n.scope.toNat (n.r.props.map Pr.e)) s' ∧ s'.e ≠ 0 ∧ e = .returned (.tuple #[.slice none 0 0, .int .i64 (i : Int), .int .i64 (s'.e : Int)])) ∨
  ∃ (A : Option Addr) (c : Nat) (rows : List (List Int)), e = .returned (.tuple #[.slice A rows.length c, .int .i64 0, .int .i64 0]) ∧ LL w' A c rows ∧ rows.length = Γ.nd.length ∧ ∀ (i : Nat) (n : Nd) (row : List Int), Γ.nd[i]? = some n → rows[i]? = some row → RowP Γ (Γ.on.getD i false) n row)
theorem nMay_scope {sc : List Sc} {nd : List Nd} (h : nMay sc nd = true) {n : Nd} (hn : n ∈ nd) : 0 ≤ n.scope ∧ n.scope < (sc.length : Int) := by
 unfold nMay at h
 cases sc with
 | nil => cases h
 | cons s0 r =>
   simp only at h
   split at h
   ·cases h
   ·simp only [Bool.and_eq_true, List.all_eq_true] at h
    have h2 := h.2 n hn
    unfold ndOk at h2
    split at h2
    ·cases h2
    ·next h3 => omega
theorem bool_or_eq {f a b : Bool} {P : Prop} (h1 : f = true ↔ a = true ∨ (b = true ∧ P)) (h2 : b = true → P) : f = (a || b) := by
 rw [Bool.eq_iff_iff, h1, Bool.or_eq_true]
 exact or_congr Iff.rfl ⟨fun h => h.1, fun h => ⟨h, h2 h⟩⟩
theorem aft_at {Γ : Env} {n m : Nd} {p : Nat} (hm : Γ.nd[p]? = some m) : aft Γ n (p : Int) = (Γ.on.getD p false && sHas m.id n.after) := by
 unfold aft
 rw [show ((p : Int)).toNat = p from rfl, hm]
 simp
theorem aft_step {Γ : Env} {n : Nd} {p : Nat} {f g : Int → Bool} {f2 : Int → Bool} (h : ∀ k, f k = true ↔ g k = true ∨ (aft Γ n k = true ∧ k < (p : Int))) (h2 : ∀ k, f2 k = true ↔ f k = true ∨ (k = (p : Int) ∧ aft Γ n (p : Int) = true)) : ∀ k, f2 k = true ↔ g k = true ∨ (aft Γ n k = true ∧ k < ((p + 1 : Nat) : Int)) := fun k => by
 rw [h2 k, h k]
 constructor
 ·rintro ((h3 | ⟨h3, h4⟩) | ⟨rfl, h3⟩)
  ·exact .inl h3
  ·exact .inr ⟨h3, by omega⟩
  ·exact .inr ⟨h3, by omega⟩
 ·rintro (h3 | ⟨h3, h4⟩)
  ·exact .inl (.inl h3)
  ·rcases (show k < (p : Int) ∨ k = (p : Int) by omega) with h5 | h5
   ·exact .inl (.inr ⟨h3, h5⟩)
   ·exact .inr ⟨h5, by rw [← h5]; exact h3⟩
theorem aft_0 {Γ : Env} {n : Nd} {k : Int} (h : aft Γ n k = true) : 0 ≤ k := by unfold aft at h; simp only [Bool.and_eq_true, decide_eq_true_eq] at h; exact h.1
structure QR (w0 : World) (A : Option Addr) (c : Nat) (rs : List Rw3) (w : World) : Prop where
 own : Ow w w0.heap.size 44 1 A rs.length c (cR rs)
 ok : RwOk w rs
 off : ∀ r ∈ rs, ∀ g, blk r.A = some g → w0.heap.size ≤ g ∧ blk A ≠ some g ∧ g < w.heap.size
theorem QR.only {w0 w w' : World} {A : Option Addr} {c : Nat} {rs : List Rw3} {F : Nat → Prop} (h : QR w0 A c rs w) (ho : Only F w w') (hF : ∀ k, F k → k < w0.heap.size ∨ w.heap.size ≤ k) : QR w0 A c rs w' :=
 ⟨h.own.only ho (fun g hg hf => by have := h.own.lt hg; have := hF g hf; omega), fun r hr => (h.ok r hr).only ho (fun ad e hl hf => by
   have h1 := h.off r hr ad.block (by rw [e]; rfl)
   have := hF _ hf
   omega), fun r hr g hg => by obtain ⟨h1, h2, h3⟩ := h.off r hr g hg; exact ⟨h1, h2, Nat.lt_of_lt_of_le h3 ho.size⟩⟩
theorem QR.app {w0 w w1 w8 : World} {A A' : Option Addr} {c c' : Nat} {rs : List Rw3} {r : Rw3} (h : QR w0 A c rs w) (hb : Below w.heap.size w w1) (hr : Rd w1 1 r.A r.l.length r.c (cZ r.l)) (hro : ∀ g, blk r.A = some g → w0.heap.size ≤ g ∧ blk A ≠ some g ∧ g < w1.heap.size)
 (ho : Ow w8 w0.heap.size 44 1 A' (rs.length + 1) c' (cR rs ++ [r.v])) (hg : w1.grownBy w8 (blk A)) (hat : A' = A ∨ A' = some ⟨w1.heap.size, 0, none⟩) : QR w0 A' c' (rs ++ [r]) w8 := by
 have hall : ∀ q ∈ rs ++ [r], Rd w1 1 q.A q.l.length q.c (cZ q.l) ∧ ∀ g, blk q.A = some g → w0.heap.size ≤ g ∧ blk A ≠ some g ∧ g < w1.heap.size := fun q hq => by
  rcases List.mem_append.1 hq with hq | hq
  ·exact ⟨(h.ok q hq).below hb, fun g hg => by obtain ⟨h1, h2, h3⟩ := h.off q hq g hg; exact ⟨h1, h2, Nat.lt_of_lt_of_le h3 hb.size⟩⟩
  ·rw [List.mem_singleton] at hq; subst hq; exact ⟨hr, hro⟩
 refine ⟨by simpa [cR] using ho, fun q hq => ?_, fun q hq g hgq => ?_⟩
 ·refine (hall q hq).1.only (Only.of_grown hg) (fun ad e hl e2 => ?_)
  exact ((hall q hq).2 ad.block (by rw [e]; rfl)).2.1 e2.symm
 ·obtain ⟨h1, h2, h3⟩ := (hall q hq).2 g hgq
  refine ⟨h1, fun e => ?_, Nat.lt_of_lt_of_le h3 hg.size⟩
  rcases hat with h4 | h4
  ·rw [h4] at e; exact h2 e
  ·rw [h4] at e; simp [blk] at e; omega
theorem nd_props {S : Nat → Prop} {w : World} {n : Nd} {cs : List Value} (h : Trs.at S w n.tr cs) : ∃ (C1 C2 C3 C4 C5 : Option Addr) (q1 q2 q3 q4 q5 : Nat), cs = [.string n.id, .int .i64 n.scope, .string n.r.id, .string n.r.type, .string n.r.cond, .slice C1 n.r.props.length q1, .slice C2 n.r.depends.length q2, .bool n.r.retain, .slice C3 n.r.inner.length q3, .slice C4 n.guards.length q4, .slice C5 n.after.length q5] ∧ Ls S w 7 104 Pr.tr C1 q1 n.r.props ∧ Ss S w C5 q5 n.after := by
 obtain ⟨C1, C2, C3, C4, C5, q1, q2, q3, q4, q5, rfl, h1, h2, h3, h4, h5⟩ := nd_form h
 exact ⟨C1, C2, C3, C4, C5, q1, q2, q3, q4, q5, rfl, h3, h5⟩
set_option maxRecDepth 100000 in
set_option maxHeartbeats 16000000 in
theorem drun_any (K : List Cd → List Gv → Nat) (hK : DpK K) (SA NA : Option Addr) (sC nC : Nat) (sc : List Sc) (nd : List Nd) (AA : Option Addr) (ac : Nat) (args : List Gv) (w : World) (hV : VOk w) (hsc : Ls (fun k => k < w.heap.size) w 7 144 Sc.tr SA sC sc) (hnd : Ls (fun k => k < w.heap.size) w 11 200 Nd.tr NA nC nd)
 (hf : FlatOk sc nd) (hag : Ls (fun k => k < w.heap.size) w 8 104 Gv.tr AA ac args) (han : args.length ≤ 1000000) (has : ∀ g ∈ args, vSmall g.v) (O : List (List (ByteArray × Bool))) (hnp : nConds K sc nd args = .inr O) :
 Calls Tryz.prog 10 #[.agg #[.slice SA sc.length sC, .slice NA nd.length nC], .slice AA args.length ac] w (RunO (Env.mk sc nd O (nd.map (enOn O))) w) := by
 obtain ⟨fb, hfbE⟩ : ∃ fb, fb = w.heap.size := ⟨_, rfl⟩
 obtain ⟨w1, hw1⟩ : ∃ w1, w1 = w.alloc (.cells #[.slice SA sc.length sC, .slice NA nd.length nC] 34) := ⟨_, rfl⟩
 have hb1 : Below w.heap.size w w1 := by rw [hw1]; exact (Below.refl _ w).alloc (Nat.le_refl _) _
 have hs1 : w1.heap.size = w.heap.size + 1 := by rw [hw1]; simp
 have hfb : Blk w1 fb #[.slice SA sc.length sC, .slice NA nd.length nC] 34 := by rw [hw1, hfbE]; exact Blk.new w _ _
 have hBG := begin_any K hK fb SA NA sC nC sc nd AA ac args w1 (hV.below hb1) hfb ((hsc.below hb1).mono (fun k hk => by omega)) ((hnd.below hb1).mono (fun k hk => by omega)) hf ((hag.below hb1).mono (fun k hk => by omega)) han has
 unfold BeginO at hBG
 rw [hnp] at hBG
 have hΓ := env_ok hf has hnp
 obtain ⟨hM, -, -⟩ := nConds_ok has (fun s hs => ⟨(hf.ps s hs).1, (hf.ps s hs).2.1⟩) hnp
 have HBG := Lib.hid hBG
 have HΓ := Lib.hid hΓ
 have HMS : Hid (∀ n ∈ nd, 0 ≤ n.scope ∧ n.scope < (sc.length : Int)) := Lib.hid (fun n hn => nMay_scope hM hn)
 have HNX := Lib.hid hf.nx
 have HB1 := Lib.hid hb1
 have HW1 := Lib.hid hw1
 have hndl := hf.ndl
 have hscl := hf.scl
 have HFE := Lib.hid hfbE
 have hncap := hnd.cap
 have hnmax := hnd.max
 unfold maxLen at hnmax
 have hacap := hag.cap
 have f1 := (blk2 hfb).2
 clear hK hV hsc hnd hag has hnp hBG hΓ hM hb1 hfb hw1 hs1 hf
 rw [hfbE] at HBG f1
 clear HFE hfbE
 go_enter Tryz.func10, Tryz.ntmps10
 go_upto_region 1 with fail
 rw [← HW1.out]
 go_wp2_with fail
 refine HBG.out.mono ?_
 rintro e w2 ⟨hb2, wb, CA, EA, cC, eC, rfl, hwb, hfx, hbk⟩
 have HB2 := Lib.hid (HB1.out.trans (hb2.mono HB1.out.size))
 have HWB : Hid (w.heap.size ≤ wb) := Lib.hid (Nat.le_trans HB1.out.size hwb)
 have HFX := Lib.hid hfx
 have HBK := Lib.hid hbk
 have HWL := Lib.hid hbk.lt
 have HQ0 : Hid (QR w2 none 0 [] w2) := Lib.hid ⟨Ow.nil _ _ _ _, fun r hr => (by cases hr), fun r hr => (by cases hr)⟩
 have f1' : w2.cell? ⟨w.heap.size, 1, none⟩ = some (.slice NA nd.length nC) := (blk2 (hfx 0 0).fl).2
 clear f1 hb2 hwb hfx hbk
 go_wp2_with fail
 clear f1'
 go_loopg [4, 27] nd.length (fun g v i wr => ∃ (rs : List Rw3) (A4 : Option Addr) (c4 : Nat) (gv sv zv : Value), rs.length + g = nd.length ∧ v = .slice A4 rs.length c4 ∧ i = .int .i64 (rs.length : Nat) ∧ Hid (Blk wr wb #[.pointer (some ⟨w.heap.size, 0, none⟩), .slice CA O.length cC, .slice EA nd.length eC, gv, sv, zv] 92) ∧ Hid (Only (fun k => k = wb) w2 wr) ∧ Hid (QR w2 A4 c4 rs wr) ∧ Hid (∀ (k : Nat) (n : Nd) (r : Rw3), nd[k]? = some n → rs[k]? = some r → RowP (Env.mk sc nd O (nd.map (enOn O))) (enOn O n) n r.l))
 case atStart => exact ⟨[], none, 0, _, _, _, by simp, rfl, rfl, HBK, Lib.hid (Only.refl _ _), HQ0, Lib.hid (fun k n r _ h => by simp at h)⟩
 case round =>
  obtain ⟨rs, A4, c4, gv, sv, zv, hj, rfl, rfl, HBK, HO, HQ, HR⟩ := hrel
  rename World => wo
  have HBo : Hid (Below w.heap.size w wo) := Lib.hid (HO.out.belowB HB2.out (fun k hk => by rw [hk]; exact HWB.out))
  have HFXo : Hid (∀ gb sb, Fx0 (Env.mk sc nd O (nd.map (enOn O))) (Wh.mk w.heap.size wb gb sb SA sC NA nC CA cC EA eC) wo) := Lib.hid (fun gb sb => (HFX.out gb sb).only HO.out (fun k hk => by rw [hk]; exact Nat.le_refl _))
  have f1 : wo.cell? ⟨w.heap.size, 1, none⟩ = some (.slice NA nd.length nC) := (blk2 (HFXo.out 0 0).fl).2
  cases gk with
  | zero =>
    have hjj : ¬ ((rs.length : Int) < (nd.length : Int)) := by omega
    have HLL : Hid (LL wo A4 c4 (rs.map Rw3.l)) := Lib.hid (LL.of_rd HQ.out.own.rd HQ.out.ok)
    go_wp2_with fail
    refine bodyPost_ret (v := .tuple #[.slice A4 rs.length c4, .int .i64 0, .int .i64 0]) (by simp [results, Tryz.results10, go_sem]) rfl ?_
    refine ⟨HBo.out, .inr ⟨A4, c4, rs.map Rw3.l, by rw [List.length_map], HLL.out, by rw [List.length_map]; exact hj, fun i n row hn hrow => ?_⟩⟩
    rw [List.getElem?_map] at hrow
    cases hr : rs[i]? with
    | none => rw [hr] at hrow; cases hrow
    | some r =>
      rw [hr] at hrow; injection hrow with hrow; subst hrow
      have hon : (Env.mk sc nd O (nd.map (enOn O))).on.getD i false = enOn O n := by
       show (nd.map (enOn O)).getD i false = _
       rw [List.getD_eq_getElem?_getD, List.getElem?_map, show nd[i]? = some n from hn]; rfl
      rw [hon]
      exact HR.out i n r hn hr
  | succ g =>
    have hjj : (rs.length : Int) < (nd.length : Int) := by omega
    have hji : (0 : Int) ≤ (rs.length : Int) ∧ (rs.length : Int) < (nd.length : Int) := by omega
    obtain ⟨n, hn⟩ := get_lt (l := nd) (i := rs.length) (by omega)
    have HN := Lib.hid hn
    obtain ⟨hs0, hs1⟩ := HMS.out n (List.mem_of_getElem? hn)
    obtain ⟨q, hq⟩ : ∃ q : Nat, n.scope = (q : Int) := ⟨n.scope.toNat, by omega⟩
    have HQQ := Lib.hid hq
    have hqs : q < sc.length := by omega
    have hon : (nd.map (enOn O))[rs.length]? = some (enOn O n) := by rw [List.getElem?_map, hn]; rfl
    obtain ⟨adE, hEA, hec⟩ := (HFXo.out 0 0).on.at_ rs.length (.bool (enOn O n)) (by
     show ((nd.map (enOn O)).map Value.bool)[rs.length]? = _
     rw [List.getElem?_map, hon]; rfl)
    have hEA' : EA = some adE := hEA
    subst hEA'
    have hje : (0 : Int) ≤ (rs.length : Int) ∧ (rs.length : Int) < ((nd.map (enOn O)).length : Int) := by simp; omega
    obtain ⟨adN, ncs, hNA, hnt, hnc⟩ := (HFXo.out 0 0).nd.elem Nd.trlen hn
    have hNA' : NA = some adN := hNA
    subst hNA'
    obtain ⟨C1, C2, C3, C4, C5, q1, q2, q3, q4, q5, rfl, hpl, haf⟩ := nd_props hnt
    obtain ⟨e0, e1, e2, e3, e4, e5, e6, e7, e8, e9, e10⟩ := cel11 hnc
    obtain ⟨x0, x1, x2, x3, x4, x5⟩ := blk6 HBK.out
    obtain ⟨hpn, han, hpx⟩ := HNX.out n (List.mem_of_getElem? hn)
    clear hn hs0 hs1 hq hon hNA hEA hnt
    cases honn : enOn O n with
    | false =>
      rw [honn] at hec
      have HRN := Lib.hid (Rd.lit wo 1 1 #[Value.slice none 0 0] 44 (0, 0) rfl (by simp [maxLen]))
      have HON := Lib.hid honn
      have hlo : w2.heap.size ≤ wo.heap.size := HO.out.size
      clear honn hnc hpl haf
      go_wp2_with (at_builtin; refine wpList_row info_intsD Tryz.underlying38 rfl (by omega) rfl (.tmp 42) (.tmp 43) rfl w2.heap.size A4 c4 rs.length (cR rs) rfl (HQ.out.own.alloc _) (some ⟨wo.heap.size, 0, none⟩) 1 1 [Value.slice none 0 0] rfl HRN.out (by simp [Value.oneCell']) (by omega) (by omega) (by simp; omega) ?_; intro A' c' w8 ho hg hat; have HO8 := Lib.hid ho; have HG8 := Lib.hid hg; have HAT := Lib.hid hat; clear ho hg hat)
      go_roundg g
      case measure => omega
      case rel =>
       have hwa : Below wo.heap.size wo (wo.alloc (.cells #[Value.slice none 0 0] 44)) := (Below.refl _ wo).alloc (Nat.le_refl _) _
       have hA4 : ∀ g, blk A4 = some g → w2.heap.size ≤ g := fun g hg => (HQ.out.own.lt hg).1
       refine ⟨rs ++ [⟨none, 0, []⟩], A', c', gv, sv, zv, by simp; omega, by simp, by simp only [List.length_append, List.length_singleton]; go_num, Lib.hid ((HBK.out.below hwa).grown HG8.out (fun e => by have := hA4 _ e; have := HWL.out; omega)), Lib.hid ((HO.out.trans (Only.of_below hwa _) (fun _ _ h => h)).grown HG8.out (fun g hg hlt => by have := hA4 g hg; omega)), Lib.hid (HQ.out.app (r := ⟨none, 0, []⟩) hwa (Rd.nil _ _) (fun g hg => by cases hg) HO8.out HG8.out HAT.out), Lib.hid (fun k m r hm hr => ?_)⟩
       rcases Nat.lt_or_ge k rs.length with h2 | h2
       ·rw [List.getElem?_append_left h2] at hr; exact HR.out k m r hm hr
       ·rw [List.getElem?_append_right h2] at hr
        have h3 : k - rs.length < 1 := by simpa using (List.getElem?_eq_some_iff.1 hr).1
        have h4 : k = rs.length := by omega
        subst h4
        simp at hr; subst hr
        rw [HN.out] at hm; injection hm with hm; subst hm
        unfold RowP; rw [if_pos HON.out]
    | true =>
      rw [honn] at hec
      have HON := Lib.hid honn
      have hpcap := hpl.cap
      have hpmax := hpl.max
      unfold maxLen at hpmax
      have HPL := Lib.hid hpl
      have HAF := Lib.hid haf
      have HNC := Lib.hid hnc
      have HPX := Lib.hid hpx
      have HEC := Lib.hid hec
      clear honn hnc hpl haf hpx
      go_wp2_with fail
      clear e0 e1 e2 e3 e4 e5 e6 e7 e8 e9 e10 x0 x1 x2 x3 x4 x5 f1
      go_loopg [10, 51] n.r.props.length (fun g2 v i wr => ∃ (ps : List Addr) (LA : Option Addr) (lc : Nat), ps.length + g2 = n.r.props.length ∧ v = .slice LA ps.length lc ∧ i = .int .i64 (ps.length : Nat) ∧ Hid (Ow wr wo.heap.size 94 1 LA ps.length lc (cP ps)) ∧ Hid (Below wo.heap.size wo wr) ∧ Hid (∀ (k : Nat) (p : Addr), ps[k]? = some p → ∃ P1, C1 = some P1 ∧ p = ⟨(P1.add (k * 7)).block, (P1.add (k * 7)).off + 1, none⟩))
      case atStart => exact ⟨[], none, 0, by simp, rfl, rfl, Lib.hid (Ow.nil _ _ _ _), Lib.hid (Below.refl _ _), Lib.hid (fun k p h => by simp at h)⟩
      case round =>
       obtain ⟨ps, LA, lc, hps, rfl, rfl, HL, HB, HPS⟩ := hrel
       rename World => wp
       obtain ⟨e0, e1, e2, e3, e4, e5, e6, e7, e8, e9, e10⟩ := cel11 (HNC.out.below HB.out)
       cases gk with
       | succ g2 =>
         have hpp : (ps.length : Int) < (n.r.props.length : Int) := by omega
         have hpi : (0 : Int) ≤ (ps.length : Int) ∧ (ps.length : Int) < (n.r.props.length : Int) := by omega
         obtain ⟨pr, hpr⟩ := get_lt (l := n.r.props) (i := ps.length) (by omega)
         obtain ⟨P1, pcs, hC1, -, -⟩ := (HPL.out.below HB.out).elem Pr.trlen hpr
         subst hC1
         have HRN := Lib.hid (Rd.lit wp 1 1 #[.pointer (some ⟨(P1.add (ps.length * 7)).block, (P1.add (ps.length * 7)).off + 1, none⟩)] 94 (0, 0) rfl (by simp [maxLen]))
         have hlo : wo.heap.size ≤ wp.heap.size := HB.out.size
         clear hpr
         go_wp2_with (at_builtin; refine wpList_row info_pex Tryz.underlying93 rfl (by omega) rfl (.tmp 54) (.tmp 63) rfl wo.heap.size LA lc ps.length (cP ps) rfl (HL.out.alloc _) (some ⟨wp.heap.size, 0, none⟩) 1 1 [.pointer (some ⟨(P1.add (ps.length * 7)).block, (P1.add (ps.length * 7)).off + 1, none⟩)] rfl HRN.out (by simp [Value.oneCell']) (by omega) (by omega) (by simp; omega) ?_; intro A' c' w8 ho hg hat; have HO8 := Lib.hid ho; have HG8 := Lib.hid hg; clear ho hg hat)
         go_roundg g2
         case measure => omega
         case rel =>
          refine ⟨ps ++ [⟨(P1.add (ps.length * 7)).block, (P1.add (ps.length * 7)).off + 1, none⟩], A', c', by simp; omega, by simp, by simp only [List.length_append, List.length_singleton]; go_num, Lib.hid (by have := HO8.out; simpa [cP] using this), Lib.hid ((HB.out.alloc hlo _).grown HG8.out (by simp; omega) (fun k hk => (HL.out.lt hk).1)), Lib.hid (fun k p hk => ?_)⟩
          rcases Nat.lt_or_ge k ps.length with h2 | h2
          ·rw [List.getElem?_append_left h2] at hk; exact HPS.out k p hk
          ·rw [List.getElem?_append_right h2] at hk
           have h3 : k - ps.length < 1 := by simpa using (List.getElem?_eq_some_iff.1 hk).1
           have h4 : k = ps.length := by omega
           subst h4
           simp at hk; subst hk
           exact ⟨P1, rfl, rfl⟩
       | zero =>
         have hpp : ¬ ((ps.length : Int) < (n.r.props.length : Int)) := by omega
         have hpl2 : ps.length = n.r.props.length := by omega
         obtain ⟨gb, hgb⟩ : ∃ gb, gb = wp.heap.size := ⟨_, rfl⟩
         obtain ⟨sb, hsb⟩ : ∃ sb, sb = wp.heap.size + 1 := ⟨_, rfl⟩
         have hFX := (HFXo.out gb sb).only (Only.of_below HB.out (fun _ => False)) (fun k hk => hk.elim)
         have hBK := HBK.out.below HB.out
         have hPT : Ptrs wb wp ps (n.r.props.map Pr.e) := ⟨by rw [List.length_map]; exact hpl2, fun k p x hp hx => by
          obtain ⟨P1, rfl, rfl⟩ := HPS.out k p hp
          rw [List.getElem?_map] at hx
          cases hk : n.r.props[k]? with
          | none => rw [hk] at hx; cases hx
          | some pr =>
            rw [hk] at hx; injection hx with hx; subst hx
            have hpl3 := HPL.out.below HB.out
            obtain ⟨P2, pcs, hP2, hpt, hpc⟩ := hpl3.elem Pr.trlen hk
            injection hP2 with hP2; subst hP2
            have hb := hpl3.blk P1 rfl (by have := (List.getElem?_eq_some_iff.1 hk).1; omega)
            obtain ⟨vs, rfl, -, hvt⟩ := Pr.at_iff.1 hpt
            exact ⟨by show (P1.add (k * 7)).block < wb; rw [addr_blk]; exact hb, vs, hpc.tail, hvt⟩⟩
         have hOVR : Calls Tryz.prog 33 #[.pointer (some ⟨wb, 0, none⟩), .int .i64 (q : Int), .slice LA ps.length lc] wp (OverO (Env.mk sc nd O (nd.map (enOn O))) (Wh.mk w.heap.size wb gb sb SA sC (some adN) nC CA cC (some adE) eC) q (n.r.props.map Pr.e) wp) := by
          have := over_any (Env.mk sc nd O (nd.map (enOn O))) (Wh.mk w.heap.size wb gb sb SA sC (some adN) nC CA cC (some adE) eC) HΓ.out wp hgb hsb hFX gv sv zv (by simpa using hBK) q hqs (n.r.props.map Pr.e) ps LA lc (by rw [List.length_map, ← hpl2]; exact HL.out.rd) (fun ad e _ => by
           have h1 := (HL.out.lt (g := ad.block) (by rw [e]; rfl)).1
           have := HO.out.size; have := HWL.out
           show ad.block ≠ wb
           omega) hPT (fun x hx => by
           obtain ⟨pr, hpr, rfl⟩ := List.mem_map.1 hx
           exact HPX.out pr hpr)
          rwa [List.length_map, ← hpl2] at this
         have HOV := Lib.hid hOVR
         rw [HQQ.out] at e1
         have HGBE := Lib.hid hgb
         have HSBE := Lib.hid hsb
         have hecp := (HB.out.cell (World.block_lt_of_cell? wo _ HEC.out)).trans HEC.out
         clear hFX hBK hPT hOVR hgb hsb hpl2
         go_wp2_with fail
         refine HOV.out.mono ?_
         rintro e w3 ⟨s3, hwk, hd3, ho3, hz3, hcond⟩
         have HOp3 : Hid (Only (fun k => k = wb) wp w3) := Lib.hid ho3
         have HO23 : Hid (Only (fun k => k = wb) w2 w3) := Lib.hid ((HO.out.trans (Only.of_below HB.out _) (fun _ _ h => h)).trans ho3 (fun _ _ h => h))
         have HWK : Hid (Wk (Env.mk sc nd O (nd.map (enOn O))) st0 (.exs n.scope.toNat (n.r.props.map Pr.e)) s3) := Lib.hid (by rw [HQQ.out]; exact hwk)
         have HD3 := Lib.hid hd3
         have HZ3 := Lib.hid hz3
         clear hwk hd3 ho3 hz3 e0 e1 e2 e3 e4 e5 e6 e7 e8 e9 e10
         by_cases he : s3.e = 0
         ·rw [if_pos he] at hcond
          obtain ⟨A3, c3, l3, rfl, -, -⟩ := hcond
          have HE := Lib.hid he
          have HFX3 := Lib.hid ((HFX.out gb sb).only HO23.out (fun k hk => by rw [hk]; exact Nat.le_refl _))
          have f1 : w3.cell? ⟨w.heap.size, 1, none⟩ = some (.slice (some adN) nd.length nC) := (blk2 HFX3.out.fl).2
          obtain ⟨V0, hV1, hV2, hV3, hV4⟩ := HD3.out.got
          have HV1 := Lib.hid hV1
          have HV2 := Lib.hid hV2
          have HV3 : Hid (∀ k, tZ V0 k = true ↔ s3.got k = true ∨ (aft (Env.mk sc nd O (nd.map (enOn O))) n k = true ∧ k < ((0 : Nat) : Int))) := Lib.hid (fun k => by
           rw [hV3]
           constructor
           ·exact .inl
           ·rintro (h | ⟨h1, h2⟩)
            ·exact h
            ·exfalso; have := aft_0 h1; omega)
          have HV4 : Hid (MZ w3 gb V0) := Lib.hid hV4
          have HGL : Hid (wb < gb ∧ w2.heap.size ≤ gb) := Lib.hid (by have := HO.out.size; have := HB.out.size; have := HGBE.out; have := HWL.out; omega)
          clear he hV1 hV2 hV3 hV4
          go_wp2_with fail
          clear f1
          go_loopg [83] nd.length (fun g3 i wr => ∃ (p : Nat) (V : List Int), p + g3 = nd.length ∧ i = .int .i64 (p : Nat) ∧ Hid (V.Nodup) ∧ Hid (∀ k ∈ V, okKey (Env.mk sc nd O (nd.map (enOn O))) k) ∧ Hid (∀ k, tZ V k = true ↔ s3.got k = true ∨ (aft (Env.mk sc nd O (nd.map (enOn O))) n k = true ∧ k < (p : Int))) ∧ Hid (MZ wr gb V) ∧ Hid (Only (fun k => k = gb) w3 wr))
          case atStart => exact ⟨0, V0, by omega, rfl, HV1, HV2, HV3, HV4, Lib.hid (Only.refl _ _)⟩
          case round =>
           clear HV1 HV2 HV3 HV4
           obtain ⟨p, V, hp, rfl, HV1, HV2, HV3, HV4, HOr⟩ := hrel
           rename World => wr
           have HOpr : Hid (Only (fun k => k = wb) wp wr) := Lib.hid (HOp3.out.trans HOr.out (fun i hi e => by rw [e, HGBE.out] at hi; omega))
           have HO2r : Hid (Only (fun k => k = wb) w2 wr) := Lib.hid (HO23.out.trans HOr.out (fun i hi e => by rw [e] at hi; have := HGL.out.2; omega))
           have HFXr := Lib.hid ((HFX.out gb sb).only HO2r.out (fun k hk => by rw [hk]; exact Nat.le_refl _))
           have hbkr : Blk wr wb #[.pointer (some ⟨w.heap.size, 0, none⟩), .slice CA O.length cC, .slice (some adE) nd.length eC, .map (some gb), .map (some sb), .int .i64 (s3.e : Nat)] 92 := by
            have := HD3.out.wk.only HOr.out (fun e => by have := HGL.out.1; have e2 : wb = gb := e; omega)
            simpa using this
           have HBKr := Lib.hid hbkr
           have HVL : Hid (V.length ≤ 1000) := Lib.hid (by have h1 := okKey_len HV1.out HV2.out; have h2 : (Env.mk sc nd O (nd.map (enOn O))).nd.length = nd.length := rfl; omega)
           cases gk with
           | zero =>
             have hpp : ¬ ((p : Int) < (nd.length : Int)) := by omega
             obtain ⟨x0, x1, x2, x3, x4, x5⟩ := blk6 hbkr
             have HRI := Lib.hid (rising_any wr gb V.length (tZ V) HV4.out.mt (by have := HVL.out; omega))
             have hQr := HQ.out.only (Only.of_below HB.out (fun _ => False)) (fun k hk => hk.elim)
             have hQr2 := hQr.only HOpr.out (fun k hk => by left; rw [hk]; exact HWL.out)
             have HQr := Lib.hid hQr2
             have hlo : w2.heap.size ≤ wr.heap.size := HO2r.out.size
             have HFE : Hid (tZ V = fun k => s3.got k || aft (Env.mk sc nd O (nd.map (enOn O))) n k) := Lib.hid (by
              funext k
              have h1 := HV3.out k
              have h2 : aft (Env.mk sc nd O (nd.map (enOn O))) n k = true → k < (p : Int) := fun h => by
               unfold aft at h
               simp only [Bool.and_eq_true, decide_eq_true_eq] at h
               obtain ⟨h3, h4, _⟩ := h
               have h5 : k.toNat < (nd.map (enOn O)).length := by
                rcases Nat.lt_or_ge k.toNat (nd.map (enOn O)).length with h6 | h6
                ·exact h6
                ·rw [List.getD_eq_getElem?_getD, List.getElem?_eq_none h6] at h4; cases h4
               rw [List.length_map] at h5
               omega
              exact bool_or_eq h1 h2)
             clear hQr hQr2 hbkr
             go_wp2_with (first
              | ((go_at_call 35); refine HRI.out.mono ?_; rintro e w5 ⟨A5, c5, l, rfl, ho, hb, hri⟩; have HO5 := Lib.hid ho; have HB5 := Lib.hid hb; have HRI5 := Lib.hid hri; have hlt := hb.size; have HQ5 := Lib.hid (HQr.out.only (Only.of_below hb (fun _ => False)) (fun k hk => hk.elim)); have HRN := Lib.hid (Rd.lit w5 1 1 #[.slice A5 l.length c5] 44 (0, 0) rfl (by simp [maxLen])); clear ho hb hri)
              | (at_builtin; refine wpList_row info_intsD Tryz.underlying38 rfl (by omega) rfl (.tmp 110) (.tmp 116) rfl w2.heap.size A4 c4 rs.length (cR rs) rfl (HQ5.out.own.alloc _) (some ⟨w5.heap.size, 0, none⟩) 1 1 [.slice A5 l.length c5] rfl HRN.out (by simp [Value.oneCell']) (by omega) (by omega) (by simp; omega) ?_; intro A' c' w8 ho hg hat; have HO8 := Lib.hid ho; have HG8 := Lib.hid hg; have HAT := Lib.hid hat; clear ho hg hat))
             go_roundg g
             case measure => omega
             case rel =>
              have hwa : Below w5.heap.size w5 (w5.alloc (.cells #[.slice A5 l.length c5] 44)) := (Below.refl _ w5).alloc (Nat.le_refl _) _
              have hwr : Below wr.heap.size wr (w5.alloc (.cells #[.slice A5 l.length c5] 44)) := HB5.out.trans (hwa.mono HB5.out.size)
              have hA4 : ∀ g, blk A4 = some g → w2.heap.size ≤ g ∧ g < wr.heap.size := fun g hg => HQr.out.own.lt hg
              refine ⟨rs ++ [⟨A5, c5, l⟩], A', c', .map (some gb), .map (some sb), .int .i64 (s3.e : Nat), by simp; omega, by simp, by simp only [List.length_append, List.length_singleton]; go_num, Lib.hid ((HBKr.out.below hwr).grown HG8.out (fun e => by have := (hA4 _ e).1; have := HWL.out; omega)), Lib.hid ((HO2r.out.trans (Only.of_below hwr _) (fun _ _ h => h)).grown HG8.out (fun g hg hlt => by have := (hA4 g hg).1; omega)), Lib.hid (HQ5.out.app (r := ⟨A5, c5, l⟩) hwa (HO5.out.rd.below hwa) (fun g hg => by
               have h1 := HO5.out.lt hg
               refine ⟨by omega, fun e => by have := (hA4 g e).2; omega, Nat.lt_of_lt_of_le h1.2 hwa.size⟩) HO8.out HG8.out HAT.out), Lib.hid (fun k m r hm hr => ?_)⟩
              rcases Nat.lt_or_ge k rs.length with h2 | h2
              ·rw [List.getElem?_append_left h2] at hr; exact HR.out k m r hm hr
              ·rw [List.getElem?_append_right h2] at hr
               have h3 : k - rs.length < 1 := by simpa using (List.getElem?_eq_some_iff.1 hr).1
               have h4 : k = rs.length := by omega
               subst h4
               simp at hr; subst hr
               rw [HN.out] at hm; injection hm with hm; subst hm
               unfold RowP
               rw [HON.out, if_neg (by decide)]
               exact ⟨s3, HWK.out, HE.out, by rw [← HFE.out]; exact HRI5.out⟩
           | succ g3 =>
             have hpp : (p : Int) < (nd.length : Int) := by omega
             have hpi : (0 : Int) ≤ (p : Int) ∧ (p : Int) < (nd.length : Int) := by omega
             obtain ⟨m, hm⟩ := get_lt (l := nd) (i := p) (by omega)
             have hmo : (nd.map (enOn O))[p]? = some (enOn O m) := by rw [List.getElem?_map, hm]; rfl
             obtain ⟨adE2, hE2, hecm⟩ := HFXr.out.on.at_ p (.bool (enOn O m)) (by
              show ((nd.map (enOn O)).map Value.bool)[p]? = _
              rw [List.getElem?_map, hmo]; rfl)
             have hE3 : some adE = some adE2 := hE2
             injection hE3 with hE3
             subst hE3
             have hjm : (0 : Int) ≤ (p : Int) ∧ (p : Int) < ((nd.map (enOn O)).length : Int) := by simp; omega
             obtain ⟨adM, mcs, hNM, hmt, hmc⟩ := HFXr.out.nd.elem Nd.trlen hm
             have hNM3 : some adN = some adM := hNM
             injection hNM3 with hNM3
             subst hNM3
             obtain ⟨M1, M2, M3, M4, M5, m1, m2, m3, m4, m5, rfl, -, -⟩ := nd_props hmt
             obtain ⟨adN4, ncs4, hNN, hnt4, hnc4⟩ := HFXr.out.nd.elem Nd.trlen HN.out
             have hNN3 : some adN = some adN4 := hNN
             injection hNN3 with hNN3
             subst hNN3
             obtain ⟨T1, T2, T3, T4, T5, t1, t2, t3, t4, t5, rfl, -, haft⟩ := nd_props hnt4
             obtain ⟨d0, d1, d2, d3, d4, d5, d6, d7, d8, d9, d10⟩ := cel11 hmc
             obtain ⟨W1, hW1⟩ : ∃ W1, W1 = (wr.alloc (.cells #[.string m.id, .int .i64 m.scope, .string m.r.id, .string m.r.type, .string m.r.cond, .slice M1 m.r.props.length m1, .slice M2 m.r.depends.length m2, .bool m.r.retain, .slice M3 m.r.inner.length m3, .slice M4 m.guards.length m4, .slice M5 m.after.length m5] 80)) := ⟨_, rfl⟩
             have hbw : Below wr.heap.size wr W1 := by rw [hW1]; exact (Below.refl _ wr).alloc (Nat.le_refl _) _
             have hbm := Blk.new wr [.string m.id, .int .i64 m.scope, .string m.r.id, .string m.r.type, .string m.r.cond, .slice M1 m.r.props.length m1, .slice M2 m.r.depends.length m2, .bool m.r.retain, .slice M3 m.r.inner.length m3, .slice M4 m.guards.length m4, .slice M5 m.after.length m5].toArray 80
             rw [show wr.alloc (.cells [.string m.id, .int .i64 m.scope, .string m.r.id, .string m.r.type, .string m.r.cond, .slice M1 m.r.props.length m1, .slice M2 m.r.depends.length m2, .bool m.r.retain, .slice M3 m.r.inner.length m3, .slice M4 m.guards.length m4, .slice M5 m.after.length m5].toArray 80) = W1 from hW1.symm] at hbm
             obtain ⟨y0, y1, y2, y3, y4, y5, y6, y7, y8, y9, y10⟩ := blk11 hbm
             obtain ⟨n0, n1, n2, n3, n4, n5, n6, n7, n8, n9, n10⟩ := cel11 (hnc4.below hbw)
             obtain ⟨x0, x1, x2, x3, x4, x5⟩ := blk6 (HBKr.out.below hbw)
             have hecm2 := (hbw.cell (World.block_lt_of_cell? wr _ hecm)).trans hecm
             have HSC : Hid (∀ j, Calls Tryz.prog 34 #[.slice T5 n.after.length t5, .string m.id] (W1.drewN j) fun e w' => e = .returned (.bool (sHas m.id n.after)) ∧ w' = W1.drewN j) := Lib.hid (fun j =>
              (scont_any _ T5 t5 n.after m.id (W1.drewN j) ((haft.below hbw).below (below_drewN _ _)) han).mono (fun e w' h => ⟨h.1, h.2.symm⟩))
             have HAP : Hid (aft (Env.mk sc nd O (nd.map (enOn O))) n (p : Int) = (enOn O m && sHas m.id n.after)) := Lib.hid (by
              rw [aft_at (m := m) hm]
              show ((nd.map (enOn O)).getD p false && _) = _
              rw [List.getD_eq_getElem?_getD, hmo]; rfl)
             have f1 : wr.cell? ⟨w.heap.size, 1, none⟩ = some (.slice (some adN) nd.length nC) := (blk2 HFXr.out.fl).2
             have HOK : Hid (aft (Env.mk sc nd O (nd.map (enOn O))) n (p : Int) = true → okKey (Env.mk sc nd O (nd.map (enOn O))) (p : Int)) := Lib.hid (fun h => by
              rw [aft_at (m := m) hm] at h
              simp only [Bool.and_eq_true] at h
              exact ⟨p, rfl, by show p < nd.length; omega, h.1⟩)
             have HW1 := Lib.hid hW1
             have HBW := Lib.hid hbw
             have HSZ : Hid (gb < wr.heap.size) := Lib.hid HV4.out.lt
             clear hm hmo hE2 hNM hmt hmc hNN hnt4 hnc4 haft hbm hbkr hW1 hbw hecm
             go_upto_region 22 with fail
             rw [← HW1.out]
             clear f1 d0 d1 d2 d3 d4 d5 d6 d7 d8 d9 d10
             have skip : Hid (aft (Env.mk sc nd O (nd.map (enOn O))) n (p : Int) = false → ∀ nq, (∀ k, tZ V k = true ↔ s3.got k = true ∨ (aft (Env.mk sc nd O (nd.map (enOn O))) n k = true ∧ k < ((p + 1 : Nat) : Int))) ∧ MZ (W1.drewN nq) gb V ∧ Only (fun k => k = gb) w3 (W1.drewN nq)) := Lib.hid (fun h nq => ⟨aft_step HV3.out (fun k => ⟨.inl, fun h2 => by
              rcases h2 with h2 | ⟨_, h2⟩
              ·exact h2
              ·rw [h] at h2; cases h2⟩), (HV4.out.below HBW.out).below (below_drewN _ _), (HOr.out.trans (Only.of_below HBW.out _) (fun _ _ h => h)).trans (Only.of_below (below_drewN _ _) _) (fun _ _ h => h)⟩)
             cases hom : enOn O m with
             | false =>
               rw [hom] at hecm2 HAP
               have HSK := Lib.hid (skip.out (by rw [HAP.out]; rfl))
               clear hom skip
               go_quiet (fail)
               go_wp2_with fail
               go_roundg g3
               case measure => omega
               case rel => exact ⟨p + 1, V, by omega, by go_num, HV1, HV2, Lib.hid (HSK.out nq).1, Lib.hid (HSK.out nq).2.1, Lib.hid (HSK.out nq).2.2⟩
             | true =>
               rw [hom] at hecm2 HAP
               cases hsh : sHas m.id n.after with
               | false =>
                 rw [hsh] at HSC HAP
                 have HSK := Lib.hid (skip.out (by rw [HAP.out]; rfl))
                 clear hom hsh skip
                 go_quiet ((go_at_call 34; exact Calls.quiet_of_same (HSC.out _)))
                 go_wp2_with fail
                 go_roundg g3
                 case measure => omega
                 case rel => exact ⟨p + 1, V, by omega, by go_num, HV1, HV2, Lib.hid (HSK.out nq).1, Lib.hid (HSK.out nq).2.1, Lib.hid (HSK.out nq).2.2⟩
               | true =>
                 rw [hsh] at HSC HAP
                 have HAT : Hid (aft (Env.mk sc nd O (nd.map (enOn O))) n (p : Int) = true) := Lib.hid (by rw [HAP.out]; rfl)
                 clear hom hsh skip
                 go_quiet ((go_at_call 34; exact Calls.quiet_of_same (HSC.out _)))
                 have HM2 := Lib.hid ((HV4.out.below HBW.out).below (below_drewN W1 nq))
                 have HO2q : Hid (Only (fun k => k = gb) w3 (W1.drewN nq)) := Lib.hid ((HOr.out.trans (Only.of_below HBW.out _) (fun _ _ h => h)).trans (Only.of_below (below_drewN _ _) _) (fun _ _ h => h))
                 have x3' : (W1.drewN nq).cell? ⟨wb, 3, none⟩ = some (.map (some gb)) := x3
                 have hVm : V.length < maxLen := by have := HVL.out; unfold maxLen; omega
                 generalize W1.drewN nq = wz at HM2 HO2q x3' ⊢
                 clear x0 x1 x2 x3 x4 x5 y0 y1 y2 y3 y4 y5 y6 y7 y8 y9 y10 n0 n1 n2 n3 n4 n5 n6 n7 n8 n9 n10 hecm2
                 go_wp2_with (refine wp_put_MZ2 rfl _ _ _ rfl gb V rfl HM2.out hVm (p : Int) (by omega) (by omega) rfl rfl ?_; intro w8 hm8 hg8; have HM8 := Lib.hid hm8; have HG8 := Lib.hid hg8; clear hm8 hg8)
                 go_roundg g3
                 case measure => omega
                 case rel =>
                  refine ⟨p + 1, _, by omega, by go_num, Lib.hid ?_, Lib.hid ?_, Lib.hid (aft_step HV3.out (fun k => ?_)), HM8, Lib.hid (HO2q.out.trans ((Only.of_grown HG8.out).mono (fun i _ e => by injection e)) (fun _ _ h => h))⟩
                  ·split
                   ·exact HV1.out
                   ·next hnk => rw [List.nodup_append]; exact ⟨HV1.out, by simp, fun a ha b hb e => by rw [List.mem_singleton] at hb; subst hb; subst e; exact hnk ha⟩
                  ·intro j hj
                   split at hj
                   ·exact HV2.out j hj
                   ·rcases List.mem_append.1 hj with hj | hj
                    ·exact HV2.out j hj
                    ·rw [List.mem_singleton] at hj; subst hj; exact HOK.out HAT.out
                  ·rw [← tZ_put2]
                   by_cases hk : k = (p : Int)
                   ·rw [hk, fput_same]; simp [HAT.out]
                   ·rw [fput_other _ _ hk]; simp [hk]
         ·rw [if_neg he] at hcond
          subst hcond
          have hne : ((s3.e : Int) != 0) = true := by simpa using he
          have HE := Lib.hid he
          have HBF : Hid (Below w.heap.size w w3) := Lib.hid (HO23.out.belowB HB2.out (fun k hk => by rw [hk]; exact HWB.out))
          clear he
          go_wp2_with fail
          refine bodyPost_ret (v := .tuple #[.slice none 0 0, .int .i64 (rs.length : Int), .int .i64 (s3.e : Int)]) (by simp [results, Tryz.results10, go_sem]) rfl ?_
          exact ⟨HBF.out, .inl ⟨rs.length, n, s3, HN.out, HWK.out, HE.out, rfl⟩⟩
open Go.RowKit Go.Maps
set_option linter.unusedVariables false
set_option linter.unusedSimpArgs false
theorem ls_lit {α : Type} {tr : α → List Tr} (w : World) (sz b : Nat) (l : List α) (cs : Array Value) (t : TypeId) (hsz : 0 < sz) (hb : l.length * b ≤ 1000000) (hl : l.length ≤ 1000) (hcs : cs.size = l.length * sz) (ht : Trs.at (fun _ => True) w (l.flatMap tr) cs.toList) :
 Ls (fun _ => True) (w.alloc (.cells cs t)) sz b tr (some ⟨w.heap.size, 0, none⟩) l.length l :=
 ⟨hsz, by omega, Nat.le_refl _, by unfold maxLen; omega, fun _ _ _ => trivial, _, Rd.lit w sz l.length cs t (0, 0) hcs (by unfold maxLen; omega), ht.alloc _⟩
def xR : Ex := ⟨3, ByteArray.empty, 0, ⟨#[65]⟩, ByteArray.empty, []⟩
def rW0 : Rs := ⟨⟨#[65]⟩, ⟨#[68, 105, 115, 107]⟩, ByteArray.empty, [], [], false, []⟩
def rW1 : Rs := ⟨⟨#[66]⟩, ⟨#[78, 111, 100, 101]⟩, ByteArray.empty, [⟨⟨#[68, 105, 115, 107]⟩, xR⟩], [], false, []⟩
def tW1 : Tm := ⟨[], [], [rW0, rW1], []⟩
def scW : List Sc := [⟨-1, ByteArray.empty, ⟨[], [], [], []⟩, []⟩]
def ndW : List Nd := [⟨⟨#[65]⟩, 0, rW0, [], []⟩, ⟨⟨#[66]⟩, 0, rW1, [], []⟩]
theorem tW1_ok : tW1.ok 8 := by
 simp [tW1, Tm.ok, rW0, rW1]
 decide
theorem tW1_flat : flatF 8 tW1 = (0, scW, ndW) := by kernel_rfl
def GW : Env := ⟨scW, ndW, [[]], [true, true]⟩
theorem actW : act GW 0 xR = .hit 0 := by kernel_rfl
theorem onW : ndW.map (enOn [[]]) = [true, true] := by kernel_rfl
theorem condsW (K : List Cd → List Gv → Nat) : nConds K scW ndW [] = .inr [[]] := by kernel_rfl
theorem flatW : FlatOk scW ndW := by
 refine ⟨by decide, by decide, ?_, ?_, ?_, ?_, ?_, ?_, ?_⟩
 ·intro s hs; simp only [scW, List.mem_singleton] at hs; subst hs; exact ⟨by simp, by simp, by simp, by show ByteArray.empty.size ≤ _; decide⟩
 ·intro n hn; simp only [ndW, List.mem_cons, List.mem_singleton, List.not_mem_nil, or_false] at hn; rcases hn with rfl | rfl <;> simp
 ·intro s hs; simp only [scW, List.mem_singleton] at hs; subst hs; simp
 ·intro s hs; simp only [scW, List.mem_singleton] at hs; subst hs; intro c hc; cases hc
 ·intro s hs; simp only [scW, List.mem_singleton] at hs; subst hs; exact ⟨by simp, fun p hp => (by cases hp), by simp⟩
 ·intro s hs; simp only [scW, List.mem_singleton] at hs; subst hs; exact ⟨fun a ha => (by cases ha), fun a ha => (by cases ha)⟩
 ·intro n hn
  simp only [ndW, List.mem_cons, List.mem_singleton, List.not_mem_nil, or_false] at hn
  rcases hn with rfl | rfl
  ·exact ⟨by simp [rW0], by simp, fun p hp => by simp [rW0] at hp⟩
  ·refine ⟨by simp [rW1], by simp, fun p hp => ?_⟩
   simp only [rW1, List.mem_singleton] at hp
   subst hp
   exact .mk (by show (⟨#[65]⟩ : ByteArray).size ≤ _; decide) (by show ByteArray.empty.size ≤ _; decide) (by simp [xR]) (fun y hy => by simp [xR] at hy)
theorem aftW {n : Nd} (h : n.after = []) (k : Int) : aft GW n k = false := by
 unfold aft
 rw [h]
 cases GW.nd[k.toNat]? <;> simp [sHas]
theorem runW {w : World} {e : Ending} {w' : World} (h : RunO GW w e w') : Below w.heap.size w w' ∧ ∃ A c, e = .returned (.tuple #[.slice A 2 c, .int .i64 0, .int .i64 0]) ∧ LL w' A c [[], [0]] := by
 obtain ⟨hb, h⟩ := h
 refine ⟨hb, ?_⟩
 have w0 : ∀ s', Wk GW st0 (.exs 0 []) s' → s' = st0 := fun s' h => by cases h; rfl
 have w1 : ∀ s', Wk GW st0 (.exs 0 [xR]) s' → s' = st0.hit 0 := fun s' h => by
  cases h with
  | cons a b => cases b; exact (Wk.hit (rfl) actW |>.det a).symm
 rcases h with ⟨i, n, s', hn, hk, he, -⟩ | ⟨A, c, rows, he, hl, hlen, hrow⟩
 ·exfalso
  match i, hn with
  | 0, hn =>
    have hn' : some (Nd.mk ⟨#[65]⟩ 0 rW0 [] []) = some n := hn
    injection hn' with hn'; subst hn'
    exact he (by rw [w0 s' hk]; rfl)
  | 1, hn =>
    have hn' : some (Nd.mk ⟨#[66]⟩ 0 rW1 [] []) = some n := hn
    injection hn' with hn'; subst hn'
    exact he (by rw [w1 s' hk]; rfl)
  | i + 2, hn => have hn' : (none : Option Nd) = some n := hn; cases hn'
 ·have h2 : rows.length = 2 := hlen
  obtain ⟨r0, r1, rfl⟩ : ∃ r0 r1, rows = [r0, r1] := by
   match rows, h2 with
   | [a, b], _ => exact ⟨a, b, rfl⟩
  have h3 := hrow 0 _ r0 (show GW.nd[0]? = some (Nd.mk ⟨#[65]⟩ 0 rW0 [] []) from rfl) rfl
  have h4 := hrow 1 _ r1 (show GW.nd[1]? = some (Nd.mk ⟨#[66]⟩ 0 rW1 [] []) from rfl) rfl
  unfold RowP at h3 h4
  rw [if_neg (by decide)] at h3 h4
  obtain ⟨s0, k0, -, p0⟩ := h3
  obtain ⟨s1, k1, -, p1⟩ := h4
  have e0 : r0 = [] := by
   cases r0 with
   | nil => rfl
   | cons z r =>
     have h5 : (s0.got z || aft GW ⟨⟨#[65]⟩, 0, rW0, [], []⟩ z) = true := (p0.2 z).1 (.head _)
     rw [aftW (n := ⟨⟨#[65]⟩, 0, rW0, [], []⟩) rfl, w0 s0 k0] at h5
     cases h5
  have e1 : r1 = [0] := by
   refine rises_eq p1 ⟨by simp, fun k => ?_⟩
   show _ ↔ (s1.got k || aft GW ⟨⟨#[66]⟩, 0, rW1, [], []⟩ k) = true
   rw [aftW (n := ⟨⟨#[66]⟩, 0, rW1, [], []⟩) rfl, w1 s1 k1, List.mem_singleton, Bool.or_false]
   show _ ↔ fput (fun _ => false) ((0 : Nat) : Int) true k = true
   by_cases hk : k = 0
   ·subst hk; simp [fput]
   ·simp [fput, hk]
  subst e0 e1
  exact ⟨A, c, he, hl⟩
theorem res_any (id kind prop tx nm at_ : ByteArray) (k nu : Int) (w : World) :
 Calls Tryz.prog 23 #[.string id, .string kind, .string prop, .agg #[.int .i8 k, .string tx, .int .i64 nu, .string nm, .string at_, .slice none 0 0]] w fun e w' => ∃ g, e = .returned (.agg #[.string id, .string kind, .string ⟨#[]⟩, .slice (some ⟨g, 0, none⟩) 1 1, .slice none 0 0, .bool false, .slice none 0 0]) ∧ Blk w' g #[.string prop, .int .i8 k, .string tx, .int .i64 nu, .string nm, .string at_, .slice none 0 0] 96 ∧ Below w.heap.size w w' := by
 obtain ⟨W3, hW3⟩ : ∃ W3, W3 = ((w.alloc (.cells #[.int .i8 k, .string tx, .int .i64 nu, .string nm, .string at_, .slice none 0 0] 48)).alloc (.cells #[.string id, .string kind, .string ⟨#[]⟩, .slice (some ⟨w.heap.size + 1 + 1, 0, none⟩) 1 1, .slice none 0 0, .bool false, .slice none 0 0] 66)).alloc (.cells #[.string prop, .int .i8 k, .string tx, .int .i64 nu, .string nm, .string at_, .slice none 0 0] 96) := ⟨_, rfl⟩
 have hb : Below w.heap.size w W3 := by rw [hW3]; exact (((Below.refl _ w).alloc (Nat.le_refl _) _).alloc (by simp) _).alloc (by simp; omega) _
 have hr : Blk W3 (w.heap.size + 1) #[.string id, .string kind, .string ⟨#[]⟩, .slice (some ⟨w.heap.size + 1 + 1, 0, none⟩) 1 1, .slice none 0 0, .bool false, .slice none 0 0] 66 := by
  rw [hW3]
  have := Blk.new (w.alloc (.cells #[.int .i8 k, .string tx, .int .i64 nu, .string nm, .string at_, .slice none 0 0] 48)) #[.string id, .string kind, .string ⟨#[]⟩, .slice (some ⟨w.heap.size + 1 + 1, 0, none⟩) 1 1, .slice none 0 0, .bool false, .slice none 0 0] 66
  rw [show (w.alloc (.cells #[.int .i8 k, .string tx, .int .i64 nu, .string nm, .string at_, .slice none 0 0] 48)).heap.size = w.heap.size + 1 by simp] at this
  exact this.alloc _
 have hp : Blk W3 (w.heap.size + 1 + 1) #[.string prop, .int .i8 k, .string tx, .int .i64 nu, .string nm, .string at_, .slice none 0 0] 96 := by
  rw [hW3]
  have := Blk.new ((w.alloc (.cells #[.int .i8 k, .string tx, .int .i64 nu, .string nm, .string at_, .slice none 0 0] 48)).alloc (.cells #[.string id, .string kind, .string ⟨#[]⟩, .slice (some ⟨w.heap.size + 1 + 1, 0, none⟩) 1 1, .slice none 0 0, .bool false, .slice none 0 0] 66)) #[.string prop, .int .i8 k, .string tx, .int .i64 nu, .string nm, .string at_, .slice none 0 0] 96
  rwa [show ((w.alloc (.cells #[.int .i8 k, .string tx, .int .i64 nu, .string nm, .string at_, .slice none 0 0] 48)).alloc (.cells #[.string id, .string kind, .string ⟨#[]⟩, .slice (some ⟨w.heap.size + 1 + 1, 0, none⟩) 1 1, .slice none 0 0, .bool false, .slice none 0 0] 66)).heap.size = w.heap.size + 1 + 1 by simp] at this
 obtain ⟨z0, z1, z2, z3, z4, z5, z6⟩ := blk7 hr
 have HW3 := Lib.hid hW3
 have HB := Lib.hid hb
 have HP := Lib.hid hp
 clear hW3 hb hp hr
 go_enter Tryz.func23, Tryz.ntmps23
 go_wp2_with fail
 rw [← HW3.out]
 refine bodyPost_ret (v := .agg #[.string id, .string kind, .string ⟨#[]⟩, .slice (some ⟨w.heap.size + 1 + 1, 0, none⟩) 1 1, .slice none 0 0, .bool false, .slice none 0 0]) (by simp [results, Tryz.results23, go_sem, z0, z1, z2, z3, z4, z5, z6]) rfl ?_
 exact ⟨w.heap.size + 1 + 1, rfl, HP.out, HB.out⟩
theorem ls_blk {α : Type} {tr : α → List Tr} {w : World} {g sz b : Nat} {l : List α} {cs : Array Value} {t : TypeId} (h : Blk w g cs t) (hsz : 0 < sz) (hb : l.length * b ≤ 1000000) (hl : l.length ≤ 1000) (hcs : cs.size = l.length * sz) (ht : Trs.at (fun _ => True) w (l.flatMap tr) cs.toList) : Ls (fun _ => True) w sz b tr (some ⟨g, 0, none⟩) l.length l :=
 ⟨hsz, by omega, Nat.le_refl _, by unfold maxLen; omega, fun _ _ _ => trivial, cs.toList, ⟨by simpa using hcs, Nat.le_refl _, by unfold maxLen; omega, fun j u hu => ⟨⟨g, 0, none⟩, rfl, by
   rw [add_plain, Nat.zero_add]
   exact Blk.cell h j (by simpa using hu)⟩⟩, ht⟩
theorem ex_at {S : Nat → Prop} {w : World} : Trs.at S w xR.tr [.int .i8 3, .string ⟨#[]⟩, .int .i64 0, .string ⟨#[65]⟩, .string ⟨#[]⟩, .slice none 0 0] :=
 Ex.at_iff.2 ⟨none, 0, rfl, by decide, by decide, by show (0 : Nat) ≤ _; omega, by show (1 : Nat) ≤ _; omega, by show (0 : Nat) ≤ _; omega, Ls.nil _ _ _ _ (by omega) _⟩
theorem t_at {w1 : World} {g : Nat} (h : Blk w1 g #[.string ⟨#[68, 105, 115, 107]⟩, .int .i8 3, .string ⟨#[]⟩, .int .i64 0, .string ⟨#[65]⟩, .string ⟨#[]⟩, .slice none 0 0] 96) (W2 : World) (hW : W2 = w1.alloc (.cells #[.string ⟨#[65]⟩, .string ⟨#[68, 105, 115, 107]⟩, .string ⟨#[]⟩, .slice none 0 0, .slice none 0 0, .bool false, .slice none 0 0, .string ⟨#[66]⟩, .string ⟨#[78, 111, 100, 101]⟩, .string ⟨#[]⟩, .slice (some ⟨g, 0, none⟩) 1 1, .slice none 0 0, .bool false, .slice none 0 0] 66)) :
 Trs.at (fun _ => True) W2 tW1.tr [.slice none 0 0, .slice none 0 0, .slice (some ⟨w1.heap.size, 0, none⟩) 2 2, .slice none 0 0] := by
 have h1 : Ls (fun _ => True) w1 7 104 Pr.tr (some ⟨g, 0, none⟩) 1 [⟨⟨#[68, 105, 115, 107]⟩, xR⟩] := ls_blk (α := Pr) (tr := Pr.tr) (b := 104) (sz := 7) (l := [⟨⟨#[68, 105, 115, 107]⟩, xR⟩]) h (by omega) (by decide) (by decide) rfl (by
  rw [List.flatMap_cons, List.flatMap_nil, List.append_nil]
  exact (Pr.at_iff (v := ⟨⟨#[68, 105, 115, 107]⟩, xR⟩)).2 ⟨[.int .i8 3, .string ⟨#[]⟩, .int .i64 0, .string ⟨#[65]⟩, .string ⟨#[]⟩, .slice none 0 0], rfl, by show (4 : Nat) ≤ _; omega, ex_at⟩)
 have h2 : Ls (fun _ => True) W2 7 128 Rs.tr (some ⟨w1.heap.size, 0, none⟩) 2 [rW0, rW1] := by
  rw [hW]
  refine ls_lit w1 7 128 [rW0, rW1] _ 66 (by omega) (by decide) (by decide) rfl ?_
  rw [List.flatMap_cons, List.flatMap_cons, List.flatMap_nil, List.append_nil]
  exact Trs.at.app.2 ⟨[.string ⟨#[65]⟩, .string ⟨#[68, 105, 115, 107]⟩, .string ⟨#[]⟩, .slice none 0 0, .slice none 0 0, .bool false, .slice none 0 0], [.string ⟨#[66]⟩, .string ⟨#[78, 111, 100, 101]⟩, .string ⟨#[]⟩, .slice (some ⟨g, 0, none⟩) 1 1, .slice none 0 0, .bool false, .slice none 0 0], rfl,
   Rs.at_iff.2 ⟨none, 0, none, 0, none, 0, rfl, by show (1 : Nat) ≤ _; omega, by show (4 : Nat) ≤ _; omega, by show (0 : Nat) ≤ _; omega, Ls.nil _ _ _ _ (by omega) _, Ls.nil _ _ _ _ (by omega) _, Ls.nil _ _ _ _ (by omega) _⟩,
   Rs.at_iff.2 ⟨some ⟨g, 0, none⟩, 1, none, 0, none, 0, rfl, by show (1 : Nat) ≤ _; omega, by show (4 : Nat) ≤ _; omega, by show (0 : Nat) ≤ _; omega, h1, Ls.nil _ _ _ _ (by omega) _, Ls.nil _ _ _ _ (by omega) _⟩⟩
 exact Tm.at_iff.2 ⟨none, 0, none, 0, some ⟨w1.heap.size, 0, none⟩, 2, none, 0, rfl, Ls.nil _ _ _ _ (by omega) _, Ls.nil _ _ _ _ (by omega) _, h2, Ls.nil _ _ _ _ (by omega) _⟩
set_option maxRecDepth 100000 in
set_option maxHeartbeats 8000000 in
theorem wakes_any (w : World) (hV : VOk w) : Calls Tryz.prog 8 #[] w fun e w' => e = .returned (.bool true) ∧ Below w.heap.size w w' := by
 obtain ⟨K, hK⟩ := dpK_ex
 have HK := Lib.hid hK
 have HV := Lib.hid hV
 clear hK hV
 go_enter Tryz.func8, Tryz.ntmps8
 go_wp2_with fail
 refine (res_any _ _ _ _ _ _ _ _ _).mono ?_
 rintro e w1 ⟨g, rfl, hbg, hb1⟩
 obtain ⟨W2, hW2⟩ : ∃ W2, W2 = w1.alloc (.cells #[.string ⟨#[65]⟩, .string ⟨#[68, 105, 115, 107]⟩, .string ⟨#[]⟩, .slice none 0 0, .slice none 0 0, .bool false, .slice none 0 0, .string ⟨#[66]⟩, .string ⟨#[78, 111, 100, 101]⟩, .string ⟨#[]⟩, .slice (some ⟨g, 0, none⟩) 1 1, .slice none 0 0, .bool false, .slice none 0 0] 66) := ⟨_, rfl⟩
 obtain ⟨W3, hW3⟩ : ∃ W3, W3 = W2.alloc (.cells #[.slice none 0 0, .slice none 0 0, .slice (some ⟨w1.heap.size, 0, none⟩) 2 2, .slice none 0 0] 27) := ⟨_, rfl⟩
 have hb2 : Below w1.heap.size w1 W2 := by rw [hW2]; exact (Below.refl _ w1).alloc (Nat.le_refl _) _
 have hs2 : W2.heap.size = w1.heap.size + 1 := by rw [hW2]; simp
 have hb3 : Below W2.heap.size W2 W3 := by rw [hW3]; exact (Below.refl _ W2).alloc (Nat.le_refl _) _
 have hta := (t_at hbg W2 hW2).below hb3
 have htb : Blk W3 (w1.heap.size + 1) #[.slice none 0 0, .slice none 0 0, .slice (some ⟨w1.heap.size, 0, none⟩) 2 2, .slice none 0 0] 27 := by rw [hW3, ← hs2]; exact Blk.new W2 _ _
 have hfl := flat_any (fun _ => True) 8 tW1 _ W3 tW1_ok hta
 rw [tW1_flat] at hfl
 have HB3 := Lib.hid (hb1.trans ((hb2.trans (hb3.mono hb2.size)).mono hb1.size))
 have HFL := Lib.hid hfl
 have HW3 : Hid (W3 = (w1.alloc (.cells #[.string ⟨#[65]⟩, .string ⟨#[68, 105, 115, 107]⟩, .string ⟨#[]⟩, .slice none 0 0, .slice none 0 0, .bool false, .slice none 0 0, .string ⟨#[66]⟩, .string ⟨#[78, 111, 100, 101]⟩, .string ⟨#[]⟩, .slice (some ⟨g, 0, none⟩) 1 1, .slice none 0 0, .bool false, .slice none 0 0] 66)).alloc (.cells #[.slice none 0 0, .slice none 0 0, .slice (some ⟨w1.heap.size, 0, none⟩) 2 2, .slice none 0 0] 27)) := Lib.hid (by rw [hW3, hW2])
 obtain ⟨t0, t1, t2, t3⟩ := blk4 htb
 clear hbg hb1 hW2 hW3 hb2 hs2 hb3 hta htb hfl
 go_upto_region 2 with fail
 rw [← HW3.out]
 go_wp2_with fail
 refine HFL.out.mono ?_
 rintro e w5 ⟨hb5, A1, c1, A2, c2, rfl, hf1, hf2⟩
 obtain ⟨W6, hW6⟩ : ∃ W6, W6 = w5.alloc (.cells #[.slice A1 scW.length c1, .slice A2 ndW.length c2] 34) := ⟨_, rfl⟩
 have hb6 : Below w5.heap.size w5 W6 := by rw [hW6]; exact (Below.refl _ w5).alloc (Nat.le_refl _) _
 have hbk : Blk W6 w5.heap.size #[.slice A1 scW.length c1, .slice A2 ndW.length c2] 34 := by rw [hW6]; exact Blk.new w5 _ _
 have hb := HB3.out.trans (hb5.mono HB3.out.size)
 have HB6 := Lib.hid (hb.trans (hb6.mono hb.size))
 have hrun := drun_any K HK.out A1 A2 c1 c2 scW ndW none 0 [] W6 (HV.out.below HB6.out) ((hf1.below hb6).mono (fun k hk => Nat.lt_of_lt_of_le hk hb6.size)) ((hf2.below hb6).mono (fun k hk => Nat.lt_of_lt_of_le hk hb6.size)) flatW (Ls.nil _ _ _ _ (by omega) _) (by simp) (fun g hg => by cases hg) [[]] (condsW K)
 rw [show (Env.mk scW ndW [[]] (ndW.map (enOn [[]]))) = GW by unfold GW; rw [onW]] at hrun
 have HRUN : Hid (Calls Tryz.prog 10 #[.agg #[.slice A1 scW.length c1, .slice A2 ndW.length c2], .slice none 0 0] W6 (RunO GW W6)) := Lib.hid hrun
 have HW6 := Lib.hid hW6
 obtain ⟨g0, g1⟩ := blk2 hbk
 clear hb5 hf1 hf2 hW6 hb6 hbk hb hrun t0 t1 t2 t3
 go_upto_region 3 with fail
 rw [← HW6.out]
 go_wp2_with fail
 refine HRUN.out.mono ?_
 intro e w7 h7
 obtain ⟨hb7, A, c, rfl, hll⟩ := runW h7
 have HB7 := Lib.hid (HB6.out.trans (hb7.mono HB6.out.size))
 obtain ⟨ad, R0, r0, rfl, hc0, -⟩ := hll.row 0 [] rfl
 obtain ⟨ad1, R1, r1, e1, hc1, hr1⟩ := hll.row 1 [0] rfl
 injection e1 with e1
 subst e1
 obtain ⟨zd, rfl, hz⟩ := hr1.zcell (i := 0) (z := 0) rfl
 rw [show ad.add 0 = ad by simp [Addr.add]] at hc0
 rw [add_pos _ (by omega)] at hc1
 rw [show zd.add 0 = zd by simp [Addr.add]] at hz
 clear h7 hb7 hll hr1 g0 g1
 go_wp2_with fail
 go_ret
 exact ⟨rfl, HB7.out⟩
open Go.RowKit Go.ChangeShapes Go.WideShapes Go.ChangeAt
set_option linter.unusedVariables false
section
variable {H : Type} {enc : TypeId × Value → H} {w : World} {base : Nat} {held : Bool}
def zTr (z : Int) : List Tr := [lI z]
def zsTr (l : List Int) : List Tr := [.sl 1 8 l.length (l.flatMap zTr)]
theorem closed_lls : closedB Tryz.prog [38, 44, 3] = true := by kernel_rfl
theorem fits_zs {n : Nat} {ts : List Tr} (h : Fits Tryz.prog n 44 ts) : ∃ l : List Int, ts = zsTr l := by
 obtain ⟨l, rfl⟩ := fits_rows (tr := zTr) Tryz.underlying44 (show Tryz.prog.cellsOf 3 = 1 by kernel_rfl) (show Tryz.prog.bytesOf 3 = 8 by kernel_rfl) h (fun m r _ hr => fits_int Tryz.underlying3 hr)
 exact ⟨l, rfl⟩
theorem fits_zss {n : Nat} {ts : List Tr} (h : Fits Tryz.prog n 38 ts) : ∃ l : List (List Int), ts = [.sl 1 24 l.length (l.flatMap zsTr)] := by
 obtain ⟨l, rfl⟩ := fits_rows (tr := zsTr) Tryz.underlying38 (show Tryz.prog.cellsOf 44 = 1 by kernel_rfl) (show Tryz.prog.bytesOf 44 = 24 by kernel_rfl) h (fun m r _ hr => fits_zs hr)
 exact ⟨l, rfl⟩
theorem zs_at {S : Nat → Prop} {w : World} : ∀ {l : List Int} {cs : List Value}, Trs.at S w (l.flatMap zTr) cs → cs = cZ l
 | [], cs, h => by simpa [Trs.at, cZ] using h
 | z :: l, cs, h => by
   rw [List.flatMap_cons] at h
   obtain ⟨c, cs', rfl, h2⟩ : ∃ c cs', cs = c :: cs' ∧ c = .int .i64 z ∧ Trs.at S w (l.flatMap zTr) cs' := by
    unfold zTr lI at h
    obtain ⟨cs', rfl, _, h3⟩ := at_leaf.1 h
    exact ⟨_, cs', rfl, rfl, h3⟩
   rw [h2.1, zs_at h2.2]; rfl
theorem zsTr_len (l : List Int) : (zsTr l).length = 1 := rfl
theorem ls_LL {S : Nat → Prop} {w : World} {A : Option Addr} {c : Nat} {ls : List (List Int)} (h : Ls S w 1 24 zsTr A c ls) : LL w A c ls :=
 ⟨h.cap, h.max, fun i x hx => by
   obtain ⟨ad, cs, e, ht, hc⟩ := h.elem zsTr_len hx
   obtain ⟨Ai, ci, cs', rfl, hl, h0⟩ := at_row.1 ht
   rw [at_nil] at h0; subst h0
   obtain ⟨vs, hr, hz⟩ := hl.cells
   rw [zs_at hz] at hr
   have h1 := hc 0 _ rfl
   rw [if_pos rfl, Nat.mul_one] at h1
   exact ⟨ad, Ai, ci, e, h1, hr⟩⟩
theorem open_lls {A : Option Addr} {n c : Nat} {d : DataW H} {p : List MemPlace} (h : DataW.Trod enc Tryz.prog w base (fun _ => true) held 38 (.slice A n c) d p) (hw : ∀ z ∈ d.weights Tryz.prog 38, z ≤ reachBytes) :
 ∃ l : List (List Int), n = l.length ∧ LL w A c l := by
 obtain ⟨fuel, hf⟩ := h
 obtain ⟨ts, h1, h2⟩ := trod_fits closed_lls (fun _ h => h) fuel _ _ _ rfl hf hw
 obtain ⟨l, rfl⟩ := fits_zss h1
 obtain ⟨A', c', _, e, h3, _⟩ := at_row.1 (by simpa [Value.cells] using h2)
 injection e with e _
 injection e with e1 e2 e3
 subst e1; subst e2; subst e3
 exact ⟨l, rfl, ls_LL h3⟩
theorem trod_lt' {t : TypeId} {v : Value} {d : DataW H} {ps : List MemPlace} {P : Program} (h : DataW.Trod enc P w 0 (fun _ => true) true t v d ps) : ∀ x ∈ ps, x.block < w.heap.size := by
 obtain ⟨m, hm⟩ := h; exact DataW.trod_lt m _ _ _ hm
end
theorem wkOk {w : World} (hV : VOk w) : WkOk w := fun w' hb => wakes_any w' (hV.below hb)
theorem depsTurns_walk (w : World) (hV : VOk w) (A : Option Addr) (len c : Nat) (ls : List (List Int)) (hlen : len = ls.length) (h : LL w A c ls) (s : Int) (h1 : -9223372036854775808 ≤ s) (h2 : s ≤ 9223372036854775807) :
 Calls Tryz.prog 5 #[.slice A len c, .int .i64 s] w fun e w' => e = .returned (.bool true) ∧ Below w.heap.size w w' := by
 subst hlen
 exact depsTurns_walk0 w (wkOk hV) A c ls h s
theorem depsClosure_walk (w : World) (hV : VOk w) (A : Option Addr) (len c : Nat) (ls : List (List Int)) (hlen : len = ls.length) (h : LL w A c ls) (s : Int) (h1 : -9223372036854775808 ≤ s) (h2 : s ≤ 9223372036854775807) :
 Calls Tryz.prog 6 #[.slice A len c, .int .i64 s] w fun e w' => e = .returned (.bool true) ∧ Below w.heap.size w w' := by
 subst hlen
 exact depsClosure_walk0 w (wkOk hV) A c ls h s
open Go.Shelf Go.RowKit Go.Lib
set_option linter.unusedVariables false
set_option linter.unusedSimpArgs false
theorem U8.below {w w' : World} (h : U8 w) (hb : Below w.heap.size w w') : U8 w' := Utf8Tabs_below h hb
theorem rvalid_any (s : ByteArray) (w : World) (hs : s.size ≤ 9223372036854775807) (hT : U8 w) :
 Calls Tryz.prog 134 #[.string s] w (BoolB (Lib.validD s.data.toList) w) := by
 have HV := Lib.hid (valid_any s w hs hT)
 obtain ⟨v, hv⟩ : ∃ v, Lib.validD s.data.toList = v := ⟨_, rfl⟩
 rw [hv] at HV ⊢
 clear hT hv
 go_enter Tryz.func134, Tryz.ntmps134
 go_wp2_with fail
 refine HV.out.mono ?_
 rintro e w1 ⟨rfl, hb⟩
 have HB := Lib.hid hb
 clear hb
 go_wp2_with fail
 go_ret
 exact ⟨rfl, HB.out⟩
theorem VOk.of_u8 {w : World} (h : U8 w) : VOk w := fun s w' hs hb => rvalid_any s w' (by omega) (h.below hb)
set_option maxRecDepth 100000 in
theorem accept_eq : (Rows.laid_unicode_utf8_acceptRanges : DataW Unit) = Lib.acceptData := by kernel_rfl
set_option maxRecDepth 100000 in
theorem u8_of_laid {w : World} (h : laidMet Tryz.prog Rows.depsTurnsRow.laid w) : U8 w := by
 exact utf8Tabs_of_readsT (U8Types.of196 lay196) ⟨by kernel_rfl, by kernel_rfl, by kernel_rfl, by kernel_rfl, by kernel_rfl, by kernel_rfl, by kernel_rfl⟩
  (Pinned.utf8First_eq ▸ Lib.laidMet.reads h (.tail _ (.head _))) (accept_eq ▸ Lib.laidMet.reads h (.head _))
end Go.Proofs.YtgdfkbalnpfdgaaGreatDoor
