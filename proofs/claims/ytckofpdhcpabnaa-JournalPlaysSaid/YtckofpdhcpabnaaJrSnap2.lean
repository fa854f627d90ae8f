/- journal.Snap: the second deed. -/
import Derived.Test.YtckofpdhcpabnaaJrSnap
import Derived.Deep.RegionHeld3
namespace Go.Proofs.Ytckofpdhcpabnaa
open Go.RowKit
set_option linter.unusedVariables false
set_option linter.unusedSimpArgs false

def hvb (h : Option Addr × Nat × List UInt8) : Value := .slice h.1 h.2.2.length h.2.1
theorem Ow.ne' {w : World} {base base' n n' c c' sz sz' : Nat} {e e' : TypeId} {A A' : Option Addr} {xs xs' : List Value} (h : Ow w base e sz A n c xs) (h' : Ow w base' e' sz' A' n' c' xs') (hne : e ≠ e') : blk A = none ∨ blk A ≠ blk A' := by
  rcases h.2 with ⟨rfl, _⟩ | ⟨g, cur, rfl, _, hg, _⟩
  · exact .inl rfl
  · rcases h'.2 with ⟨rfl, _⟩ | ⟨g', cur', rfl, _, hg', _⟩
    · right; simp
    · right
      intro he
      simp at he
      subst he
      rw [hg] at hg'
      injection hg' with hg'
      injection hg' with _ ht
      exact hne ht
section
variable {w : World} {ops : Array Oper} {rest : List Oper} {o : Oper} {a : Act} {Q : Exit → Act → World → Prop}
theorem app_bsO (hw : Region.wanted o (yielded ops a.tmps) = true) (s x : Operand)
    (ho : o.op = .call { callee := .builtin .append, args := #[s, x], argTypes := #[23, 23] })
    (base : Nat) (A0 : Option Addr) (c0 n : Nat) (l : List Value) (hs : a.eval s = .slice A0 n c0) (hown : Ow w base 22 1 A0 n c0 l)
    (A : Option Addr) (m c : Nat) (k : List Value) (hx : a.eval x = .slice A m c) (hr : Rd w 1 A m c k) (h1 : ∀ u ∈ k, u.oneCell' = true)
    (h63 : (n + m) * 24 ≤ 140737488355328) (hbase : base ≤ w.heap.size)
    (h : ∀ A' c' w', Ow w' base 22 1 A' (n + m) c' (l ++ k) → w.grownBy w' (blk A0) → (A' = A0 ∨ A' = some ⟨w.heap.size, 0, none⟩) → wpList Try.prog ops Q rest (a.put o.dst (.slice A' (n + m) c')) w') :
    wpList Try.prog ops Q (o :: rest) a w := by
  obtain ⟨i0, hi, hz0, hz1, hz2⟩ := info_parts info_bs
  exact wpList_ow w hw s x _ ho base _ i0 _ 1 24 Try.underlying23 hi hz0 hz1 hz2 rfl (by omega) A0 c0 n l hs hown A m c k hx hr h1 (by omega) h63 hbase h
end
theorem Rd.litS (W : World) (p : Addr) (u : Value) (t : TypeId) (v : Value) : Rd ((W.setCell p u).alloc (.cells #[v] t)) 1 (some ⟨W.heap.size, 0, none⟩) 1 1 [v] := by
  have h := Rd.lit (W.setCell p u) 1 1 #[v] t (0, 0) rfl (by simp [maxLen])
  rwa [show (W.setCell p u).heap.size = W.heap.size by simp [World.setCell]] at h
theorem sl_one (Al : Option Addr) (m c : Nat) : ∀ u ∈ [Value.slice Al m c], u.oneCell' = true := by
  intro u hu; rw [List.mem_singleton] at hu; subst hu; rfl
structure FrS (W0 : World) (pn pp : Nat) (hs : List (Option Addr × Nat × List UInt8)) (A : Option Addr) (c T : Nat) (W : World) : Prop where
  n : Boxed W pn 3 (.int .i64 (T : Nat))
  p : Boxed W pp 23 (.slice A hs.length c)
  out : Ow W W0.heap.size 22 1 A hs.length c (hs.map hvb)
  row : ∀ h ∈ hs, Ow W W0.heap.size 5 1 h.1 h.2.2.length h.2.1 (bv h.2.2)
  only : Only (fun k => k = pn ∨ k = pp) W0 W
  ln : pn < W0.heap.size
  lp : pp < W0.heap.size
  ne : pn ≠ pp
theorem FrS.mid {W0 W w1 : World} {pn pp c T : Nat} {hs : List (Option Addr × Nat × List UInt8)} {A : Option Addr} (h : FrS W0 pn pp hs A c T W) (hb : Below W.heap.size W w1) (T' : Nat) : FrS W0 pn pp hs A c T' (w1.setCell ⟨pn, 0, none⟩ (.int .i64 (T' : Nat))) := by
  have hs0 := h.only.size
  have hpn := h.ln
  refine ⟨(boxBel h.n hb).set _, ?_, ?_, fun x hx => ?_, ?_, h.ln, h.lp, h.ne⟩
  · exact (boxBel h.p hb).kept (grownBy_setCell' _ _ _) (fun e => h.ne (by injection e with e; exact e.symm))
  · exact (h.out.below hb).setOther _ _ (fun e => by have h3 : W0.heap.size ≤ pn := (h.out.lt e).1; omega)
  · exact ((h.row x hx).below hb).setOther _ _ (fun e => by have h3 : W0.heap.size ≤ pn := ((h.row x hx).lt e).1; omega)
  · exact (h.only.trans (Only.of_below hb (fun _ => False)) (fun _ _ h => h.elim)).setCell _ _ (fun _ => .inl rfl)
theorem FrS.step {W0 W w3 : World} {pn pp c c2 T cf : Nat} {hs : List (Option Addr × Nat × List UInt8)} {A A2 Af : Option Addr} {y : List UInt8} {ob : Obj} (h : FrS W0 pn pp hs A c T W)
    (hf : Ow W W0.heap.size 5 1 Af y.length cf (bv y)) (ho : Ow w3 W0.heap.size 22 1 A2 (hs.length + 1) c2 (hs.map hvb ++ [.slice Af y.length cf])) (hg : (W.alloc ob).grownBy w3 (blk A)) :
    FrS W0 pn pp (hs ++ [(Af, cf, y)]) A2 c2 T (w3.setCell ⟨pp, 0, none⟩ (.slice A2 (hs.length + 1) c2)) := by
  have hs0 := h.only.size
  have hpn := h.ln
  have hpp := h.lp
  have hA : ∀ k, some k = blk A → W0.heap.size ≤ k := fun k e => (h.out.lt e.symm).1
  have key : ∀ {B : Option Addr} {m d : Nat} {r : List UInt8}, Ow W W0.heap.size 5 1 B m d (bv r) → Ow (w3.setCell ⟨pp, 0, none⟩ (.slice A2 (hs.length + 1) c2)) W0.heap.size 5 1 B m d (bv r) := fun hh =>
    (Ow.grown (Ow.alloc hh ob) hg (Ow.ne' hh h.out (by decide))).setOther _ _ (fun e => by have h3 : W0.heap.size ≤ pp := (hh.lt e).1; omega)
  refine ⟨?_, ?_, ?_, fun x hx => ?_, ?_, h.ln, h.lp, h.ne⟩
  · exact ((h.n.alloc ob).kept hg (fun e => by have := hA pn e; omega)).kept (grownBy_setCell' _ _ _) (fun e => h.ne (by injection e))
  · rw [List.length_append, List.length_singleton]
    exact ((h.p.alloc ob).kept hg (fun e => by have := hA pp e; omega)).set _
  · rw [List.length_append, List.length_singleton, List.map_append]
    exact ho.setOther _ _ (fun e => by have h3 : W0.heap.size ≤ pp := (ho.lt e).1; omega)
  · rcases List.mem_append.1 hx with hx | hx
    · exact key (h.row x hx)
    · rw [List.mem_singleton] at hx
      subst hx
      exact key hf
  · exact ((h.only.alloc ob).grown hg (fun g e hlt => by have := hA g e.symm; omega)).setCell _ _ (fun _ => .inr rfl)
theorem FrS.bb {W0 W : World} {pn pp c T : Nat} {hs : List (Option Addr × Nat × List UInt8)} {A : Option Addr} (h : FrS W0 pn pp hs A c T W) : BB W 0 A hs.length c (hs.map fun h => h.2.2) (hs.map hvb) := by
  refine ⟨h.out.rd, by simp, fun _ _ => Nat.zero_le _, fun i x hi => ?_⟩
  rw [List.getElem?_map] at hi
  cases hy : hs[i]? with
  | none => rw [hy] at hi; cases hi
  | some y =>
    rw [hy] at hi
    injection hi with hi
    subst hi
    exact ⟨y.1, y.2.1, by simp [hy, hvb], (h.row y (List.mem_of_getElem? hy)).rd, fun _ _ => Nat.zero_le _⟩

/-- what the second deed leaves -/
def S2P (B q : Nat) (r : Option Nat) (x : Int × DS) (pn pp : Nat) (W0 : World) (e : Ending) (W' : World) : Prop :=
  e = .returned (.int .i64 x.1) ∧ ∃ Wm, Only (fun k => k = pn ∨ k = pp) W0 Wm ∧ DStep 52 B q r x.2 Wm W'
def jSnap2 (s : DS) (ls : List (List UInt8)) : Int × DS := if 1048576 < (frs ls).length then (3, s) else dSwap s (frs ls)

set_option maxRecDepth 100000 in
set_option maxHeartbeats 2000000 in
theorem jsnap2 (W0 : World) (Bb B q : Nat) (r : Option Nat) (s : DS) (pr pn pp pd : Nat) (A : Option Addr) (n c : Nat) (ls : List (List UInt8)) (vs : List Value) (hk : Dk 52 B W0 q r s) (h1 : Boxed W0 pr 23 (.slice A n c)) (hb : BB W0 Bb A n c ls vs)
    (hpn : Boxed W0 pn 3 (.int .i64 0)) (hpp : Boxed W0 pp 23 (.slice none 0 0)) (hpd : Boxed W0 pd 26 (.pointer (some ⟨q, 0, none⟩)))
    (hne : pn ≠ pp ∧ pr ≠ pn ∧ pr ≠ pp ∧ pd ≠ pn ∧ pd ≠ pp ∧ q ≠ pn ∧ q ≠ pp ∧ r ≠ some pn ∧ r ≠ some pp) (hin : ∀ ad, A = some ad → 0 < n → ad.block ≠ pn ∧ ad.block ≠ pp) (hin2 : ∀ (i : Nat) (x : List UInt8) Ai ci, ls[i]? = some x → vs[i]? = some (.slice Ai x.length ci) → ∀ ad, Ai = some ad → 0 < x.length → ad.block ≠ pn ∧ ad.block ≠ pp) (hok : ∀ x ∈ ls, fErr x = 0) :
    Calls Try.prog 32 #[.pointer (some ⟨pr, 0, none⟩), .pointer (some ⟨pn, 0, none⟩), .pointer (some ⟨pp, 0, none⟩), .pointer (some ⟨pd, 0, none⟩)] W0 (S2P B q r (jSnap2 s ls) pn pp W0) := by
  have hc := hb.rd.cap
  have hm := hb.rd.max
  unfold maxLen at hm
  have c1 := h1.cell
  have HB : Hid (∀ W', Only (fun k => k = pn ∨ k = pp) W0 W' → Boxed W' pd 26 (.pointer (some ⟨q, 0, none⟩)) ∧ Rd W' 1 A n c vs ∧ (∀ (i : Nat) (x : List UInt8), ls[i]? = some x → ∃ Ai ci, vs[i]? = some (Value.slice Ai x.length ci) ∧ Rd W' 1 Ai x.length ci (bv x)) ∧ Dk 52 B W' q r s) := Lib.hid (fun W' ho => by
    refine ⟨boxOnly hpd ho (by omega), hb.rd.only ho (fun ad e hn hF => by have := hin ad e hn; rcases hF with hF | hF <;> omega), fun i x hx => ?_, hk.only ho (by omega) (fun g e hF => ?_)⟩
    · obtain ⟨Ai, ci, hv, hr, -⟩ := hb.row i x hx
      exact ⟨Ai, ci, hv, hr.only ho (fun ad e hn hF => by have := hin2 i x Ai ci hx hv ad e hn; rcases hF with hF | hF <;> omega)⟩
    · obtain ⟨_, _, _, _, _, _, _, g1, g2⟩ := hne
      rcases hF with rfl | rfl
      · exact g1 e
      · exact g2 e)
  have HL := Lib.hid hb.len
  have HOK := Lib.hid hok
  have HST : Hid (FrS W0 pn pp [] none 0 0 W0) := Lib.hid ⟨hpn, hpp, Ow.nil _ _ _ _, by simp, Only.refl _ _, hpn.lt, hpp.lt, hne.1⟩
  clear hk h1 hb hpn hpp hpd hin hin2 hok hne
  go_enter Try.func32, Try.ntmps32
  go_wp2_with fail
  go_loopg [11] n (fun g q11 wr => ∃ (k : Nat) (hs : List (Option Addr × Nat × List UInt8)) (Ao : Option Addr) (co T : Nat), k + g = n ∧ q11 = .int .i64 (k : Nat) ∧ Hid (FrS W0 pn pp hs Ao co T wr) ∧ Hid (hs.map (fun h => h.2.2) = (ls.take k).map frm) ∧ Hid (T = (frs (ls.take k)).length) ∧ T ≤ 1048576 ∧ Hid (hs.length = k) ∧ k ≤ T)
  case atStart => exact ⟨0, [], none, 0, 0, by omega, rfl, HST, Lib.hid rfl, Lib.hid rfl, by omega, Lib.hid rfl, Nat.le_refl _⟩
  case round =>
    obtain ⟨k, hs, Ao, co, T, hk, rfl, HS, HM, HT, hT, HHL, hkT⟩ := hrel
    cases gk with
    | zero =>
      have hkk : ¬ ((k : Int) < (n : Int)) := by omega
      have HE : Hid ((hs.map fun h => h.2.2).flatten = frs ls) := Lib.hid (by rw [HM.out, List.take_of_length_le (by rw [HL.out]; omega)]; rfl)
      have hle : (frs ls).length ≤ 1048576 := by have h1 := HT.out; rw [List.take_of_length_le (by rw [HL.out]; omega)] at h1; omega
      have HX3 : Hid (jSnap2 s ls = dSwap s (frs ls)) := Lib.hid (by unfold jSnap2; rw [if_neg (by omega)])
      have HLE := Lib.hid hle
      obtain ⟨hpd, -, -, hdk⟩ := HB.out wr HS.out.only
      have c3 := hpd.cell
      have hpc := HS.out.p.cell
      have HPD := Lib.hid hpd
      have HDK := Lib.hid hdk
      have hbb := HS.out.bb.drewN 1
      obtain ⟨y, hy⟩ : ∃ y, frs ls = y := ⟨_, rfl⟩
      have hJ : Calls Try.prog 33 #[.slice Ao hs.length co] (wr.drewN 1) (fun e w' => ∃ A c, e = .returned (.slice A y.length c) ∧ Ow w' (wr.drewN 1).heap.size 5 1 A y.length c (bv y) ∧ Below (wr.drewN 1).heap.size (wr.drewN 1) w') := by
        have := join_any (wr.drewN 1) 0 Ao hs.length co _ _ hbb (by rw [HE.out]; exact hle)
        refine this.mono fun e w' h => ?_
        unfold JoinP at h
        rw [HE.out, hy] at h
        exact h
      rw [hy] at HX3 HLE
      rw [HHL.out] at hJ hpc
      have HJ := Lib.hid hJ
      clear hk hle hpd hdk hbb hJ hT hkT c1 hy HE HM HT
      go_wp2_with fail
      go_region_with (first
        | (go_at_call 33; refine HJ.out.mono ?_; rintro e w1 ⟨A5, c5, rfl, ho5, hb5⟩; have HO5 := Lib.hid ho5; have HB5 := Lib.hid hb5; have c4 := (boxBel (W := wr.drewN 1) HPD.out hb5).cell; clear ho5 hb5)
        | (go_at_call 22; refine (dswap_any B _ q r s A5 _ c5 _ ((HDK.out.drewN 1).below HB5.out) HO5.out.rd).mono ?_; rintro e w2 ⟨rfl, hS⟩; have HS2 := Lib.hid hS; clear hS))
      all_goals
        go_wp2_with fail
        go_ret
        rw [HX3.out]
        exact ⟨rfl, wr, HS.out.only, HS2.out.pre ((below_drewN (Below.refl _ wr) 1).trans HB5.out)⟩
    | succ g =>
      have hkk : (k : Int) < (n : Int) := by omega
      obtain ⟨x, hx⟩ : ∃ x, ls[k]? = some x := ⟨_, List.getElem?_eq_getElem (by rw [HL.out]; omega)⟩
      obtain ⟨-, hrd, hrow, -⟩ := HB.out wr HS.out.only
      obtain ⟨Ai, ci, hv, hr⟩ := hrow k x hx
      obtain ⟨ad, rfl, -⟩ := hrd.addr (by omega) (by omega)
      have hcl := hrd.get hv
      have hrc := hr.cap
      have hrm := hr.max
      unfold maxLen at hrm
      have HF := Lib.hid (frame_any Ai x.length ci x wr hr)
      have H0 := Lib.hid (HOK.out x (List.mem_of_getElem? hx))
      obtain ⟨g1, g2⟩ := fErr_zero H0.out
      have hft := frs_take hx
      have HFT := Lib.hid hft
      have HX := Lib.hid hx
      clear hx hrd hrow hv hr hft
      go_wp2_with fail
      refine HF.out.mono ?_
      intro e w1 hP
      obtain ⟨hbel, A2, n2, c2, rfl, hn2, hnc2, hcm2, -, hgood⟩ := hP.out
      rw [H0.out]
      obtain ⟨rfl, hof⟩ := hgood H0.out
      have HBL := Lib.hid hbel
      have hp1 := (boxBel HS.out.n hbel).cell
      have hf1 := (boxBel HS.out.n hbel).frozen
      have hp2 := (boxBel HS.out.p hbel).cell
      have hf2 := (boxBel HS.out.p hbel).frozen
      have HMID := Lib.hid (HS.out.mid hbel (T + (x.length + 4)))
      have HOF := Lib.hid hof
      have e3 : ((T + (x.length + 4) : Nat) : Int) = (T : Int) + ((x.length : Int) + 4) := by omega
      have HZ : Hid (W0.heap.size ≤ wr.heap.size) := Lib.hid HS.out.only.size
      clear hP hbel hgood hof
      have HMID0 := HMID
      rw [e3] at HMID
      clear e3
      by_cases hbig : 1048576 < T + (x.length + 4)
      · have hbI : (1048576 : Int) < (T : Int) + ((x.length : Int) + 4) := by omega
        have HX3 : Hid (jSnap2 s ls = (3, s)) := Lib.hid (by
          unfold jSnap2
          have h1 := frs_take_le ls (k + 1)
          rw [HFT.out, List.length_append, frm_len, ← HT.out] at h1
          rw [if_pos (by omega)])
        clear hbig
        go_wp2_with fail
        go_ret
        rw [HX3.out]
        exact ⟨rfl, _, HMID.out.only, DStep.same (HB.out _ HMID.out.only).2.2.2 (Below.refl _ _)⟩
      · have hbI : decide ((1048576 : Int) < (T : Int) + ((x.length : Int) + 4)) = false := decide_eq_false (by omega)
        have HO0 := HMID.out.out
        rw [HHL.out] at HO0
        have HO1 := Lib.hid HO0
        have hsz : W0.heap.size ≤ (w1.setCell ⟨pn, 0, none⟩ (.int .i64 ((T : Int) + ((x.length : Int) + 4)))).heap.size := HMID.out.only.size
        have HSZ := Lib.hid hsz
        have hm2 := HMID.out.p.cell
        have hm3 := HMID.out.p.frozen
        have hfr := HMID.out.n.frozen
        have hmn := HMID.out.n.cell
        rw [HHL.out] at hm2
        have hlp := HMID.out.lp
        have hkb : (k + 1) * 24 ≤ 140737488355328 := by omega
        have HT4 := Lib.hid (show T + (x.length + 4) ≤ 1048576 by omega)
        have hT9 : T ≤ 1000000000 := by omega
        clear HO0 hsz hbig hT hp2 hf2
        go_wp2_with (at_builtin; refine app_bsO rfl (.tmp 26) (.tmp 28) rfl W0.heap.size Ao co k (hs.map hvb) rfl (HO1.out.alloc _) _ 1 1 [.slice A2 (x.length + 4) c2] rfl (Rd.litS w1 _ _ _ _) (sl_one _ _ _) hkb (by rw [World.size_alloc]; have := HSZ.out; omega) ?_; intro A3 c3 w3 ho3 hg3 hat3; have HO3 := Lib.hid ho3; have HG3 := Lib.hid hg3; have hx3 := (HMID.out.p.alloc (.cells #[.slice A2 (x.length + 4) c2] 22)).kept hg3 (fun e => by have h3 : W0.heap.size ≤ pp := (HO1.out.lt e.symm).1; omega); have hc3 := hx3.cell; have hf3 := hx3.frozen; clear ho3 hg3 hat3 hx3)
        go_roundg g
        case measure => omega
        case rel =>
          refine ⟨k + 1, hs ++ [(A2, c2, frm x)], A3, c3, T + (x.length + 4), by omega, by go_num, ?_, ?_, Lib.hid (by rw [HFT.out, List.length_append, frm_len, ← HT.out]), HT4.out, Lib.hid (by rw [List.length_append, HHL.out]; rfl), by omega⟩
          · have hst := FrS.step (Af := A2) (cf := c2) (y := frm x) HMID0.out (by rw [frm_len]; exact (HOF.out.le HZ.out).setOther _ _ (fun e => by have h3 : wr.heap.size ≤ pn := (HOF.out.lt e).1; have := HS.out.n.lt; omega)) (by rw [HHL.out, frm_len]; exact HO3.out) HG3.out
            rw [HHL.out] at hst
            exact Lib.hid hst
          · exact Lib.hid (by rw [List.map_append, HM.out, List.take_add_one, HX.out, List.map_append]; rfl)
end Go.Proofs.Ytckofpdhcpabnaa
