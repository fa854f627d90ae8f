/- journal.Open. -/
import Derived.Test.YtckofpdhcpabnaaJrSnap3
namespace Go.Proofs.Ytckofpdhcpabnaa
open Go.RowKit
set_option linter.unusedVariables false
set_option linter.unusedSimpArgs false

theorem BB.only {F : Nat → Prop} {w w' : World} {B n c : Nat} {A : Option Addr} {ls : List (List UInt8)} {vs : List Value} (h : BB w B A n c ls vs) (ho : Only F w w') (hF : ∀ k, B ≤ k → ¬ F k) : BB w' B A n c ls vs :=
  ⟨h.rd.only ho (fun ad e _ hf => hF _ (h.new ad e) hf), h.len, h.new, fun i x hx => by
    obtain ⟨Ai, ci, hv, hr, hn⟩ := h.row i x hx
    exact ⟨Ai, ci, hv, hr.only ho (fun ad e _ hf => hF _ (hn ad e) hf), hn⟩⟩
/-- behind the first deed of Open -/
def O1P (s : DS) (W : World) (pb : Nat) (e : Ending) (W' : World) : Prop :=
  e = .returned (.int .i64 (dstate s)) ∧ Only (fun k => k = pb) W W' ∧ (s.down = false → ∃ A c, Boxed W' pb 22 (.slice A s.b.length c) ∧ Rd W' 1 A s.b.length c (bv s.b))
set_option maxHeartbeats 1000000 in
theorem jopen1 (B : Nat) (W : World) (q : Nat) (r : Option Nat) (s : DS) (pd pb : Nat) (v : Value) (hk : Dk 52 B W q r s) (h1 : Boxed W pd 26 (.pointer (some ⟨q, 0, none⟩))) (h2 : Boxed W pb 22 v) :
    Calls Try.prog 34 #[.pointer (some ⟨pd, 0, none⟩), .pointer (some ⟨pb, 0, none⟩)] W (O1P s W pb) := by
  have c1 := h1.cell
  have H2 := Lib.hid h2
  have HF := Lib.hid (dbytes_any B W q r s hk)
  clear h1 h2 hk
  go_enter Try.func34, Try.ntmps34
  go_wp2_with fail
  refine HF.out.mono ?_
  rintro e w1 ⟨hb, hd, hu⟩
  have HB := Lib.hid hb
  have hx := boxBel H2.out hb
  have hc2 := hx.cell
  have hf2 := hx.frozen
  have HX := Lib.hid hx
  cases hs : s.down with
  | true =>
    obtain rfl := hd hs
    have HS := Lib.hid hs
    clear hb hd hu hx hs
    go_wp2_with fail
    go_ret
    exact ⟨by rw [show dstate s = 60 from by unfold dstate; rw [HS.out]; rfl]; rfl, (Only.of_below HB.out _).setCell _ _ (fun _ => rfl), fun h => by rw [HS.out] at h; cases h⟩
  | false =>
    obtain ⟨A, c, rfl, ho⟩ := hu hs
    have HO := Lib.hid ho
    have HS := Lib.hid hs
    clear hb hd hu hx hs ho
    go_wp2_with fail
    go_ret
    refine ⟨by rw [show dstate s = 0 from by unfold dstate; rw [HS.out]; rfl]; rfl, (Only.of_below HB.out _).setCell _ _ (fun _ => rfl), fun _ => ⟨A, c, HX.out.set _, ?_⟩⟩
    exact (HO.out.setOther _ _ (fun e => by have h3 : W.heap.size ≤ pb := (HO.out.lt e).1; have := H2.out.lt; omega)).rd
theorem jopen1_nil (W : World) (pd pb : Nat) (v : Value) (h1 : Boxed W pd 26 (.pointer none)) (h2 : Boxed W pb 22 v) :
    Calls Try.prog 34 #[.pointer (some ⟨pd, 0, none⟩), .pointer (some ⟨pb, 0, none⟩)] W (fun e W' => e = .returned (.int .i64 1) ∧ Only (fun k => k = pb) W W') := by
  have c1 := h1.cell
  have H2 := Lib.hid h2
  have HF := Lib.hid (nbytes (w := W))
  clear h1 h2
  go_enter Try.func34, Try.ntmps34
  go_wp2_with fail
  refine HF.out.mono ?_
  rintro e w1 ⟨rfl, hb⟩
  have HB := Lib.hid hb
  have hx := boxBel H2.out hb
  have hc2 := hx.cell
  have hf2 := hx.frozen
  clear hb hx
  go_wp2_with fail
  go_ret
  exact ⟨rfl, (Only.of_below HB.out _).setCell _ _ (fun _ => rfl)⟩

def jOpen2 (s : DS) : Int × DS := if szs (loads s.b) = s.b.length then (0, s) else dCut s (szs (loads s.b) : Nat)
def O2P (B q : Nat) (r : Option Nat) (l : List UInt8) (x : Int × DS) (prow pt : Nat) (W : World) (e : Ending) (W' : World) : Prop :=
  e = .returned (.int .i64 x.1) ∧ ∃ A c vs Wm, Only (fun k => k = prow ∨ k = pt) W Wm ∧ DStep 52 B q r x.2 Wm W' ∧ Boxed W' prow 23 (.slice A (loads l).length c) ∧
    Boxed W' pt 3 (.int .i64 ((l.length : Int) - (szs (loads l) : Int))) ∧ BB W' W.heap.size A (loads l).length c (loads l) vs ∧ (szs (loads l) = l.length → Wm = W')
set_option maxRecDepth 100000 in
set_option maxHeartbeats 1000000 in
theorem jopen2 (B : Nat) (W : World) (q : Nat) (r : Option Nat) (s : DS) (pb prow pt pd : Nat) (A : Option Addr) (c : Nat) (v1 v2 : Value) (hk : Dk 52 B W q r s) (hb : Boxed W pb 22 (.slice A s.b.length c)) (hr : Rd W 1 A s.b.length c (bv s.b))
    (h1 : Boxed W prow 23 v1) (h2 : Boxed W pt 3 v2) (hd : Boxed W pd 26 (.pointer (some ⟨q, 0, none⟩))) (hne : prow ≠ pt ∧ pb ≠ prow ∧ pb ≠ pt ∧ pd ≠ prow ∧ pd ≠ pt ∧ q ≠ prow ∧ q ≠ pt ∧ r ≠ some prow ∧ r ≠ some pt) (hq : q < W.heap.size ∧ ∀ g, r = some g → g < W.heap.size) :
    Calls Try.prog 35 #[.pointer (some ⟨pb, 0, none⟩), .pointer (some ⟨prow, 0, none⟩), .pointer (some ⟨pt, 0, none⟩), .pointer (some ⟨pd, 0, none⟩)] W (O2P B q r s.b (jOpen2 s) prow pt W) := by
  have hlen := hk.len
  have c1 := hb.cell
  have hle := loads_le _ s.b rfl
  have HF := Lib.hid (scan_any A s.b.length c s.b W hr (by omega))
  have HK := Lib.hid hk
  have HB := Lib.hid hb
  have H1 := Lib.hid h1
  have H2 := Lib.hid h2
  have HD := Lib.hid hd
  have HN := Lib.hid hne
  have HQ := Lib.hid hq
  clear hk hb hr h1 h2 hd hne hq
  go_enter Try.func35, Try.ntmps35
  go_wp2_with fail
  refine HF.out.mono ?_
  rintro e w1 ⟨A1, cc1, vs, rfl, hbb, hbel⟩
  have hx1 := boxBel H1.out hbel
  have hx2 := boxBel H2.out hbel
  have g1 := hx1.cell
  have g2 := hx1.frozen
  have hx2' := hx2.kept (grownBy_setCell' w1 prow (.slice A1 (loads s.b).length cc1)) (fun e => by have := HN.out.1; injection e with e; omega)
  have g3 := hx2'.cell
  have g4 := hx2'.frozen
  obtain ⟨W2, hW2⟩ : ∃ W2, (w1.setCell ⟨prow, 0, none⟩ (.slice A1 (loads s.b).length cc1)).setCell ⟨pt, 0, none⟩ (.int .i64 ((s.b.length : Int) - (szs (loads s.b) : Int))) = W2 := ⟨_, rfl⟩
  have hon : Only (fun k => k = prow ∨ k = pt) W W2 := by rw [← hW2]; exact ((Only.of_below hbel _).setCell _ _ (fun _ => .inl rfl)).setCell _ _ (fun _ => .inr rfl)
  have hb1 : Boxed W2 prow 23 (.slice A1 (loads s.b).length cc1) := by rw [← hW2]; exact (hx1.set _).kept (grownBy_setCell' _ _ _) (fun e => by have := HN.out.1; injection e with e; omega)
  have hb2 : Boxed W2 pt 3 (.int .i64 ((s.b.length : Int) - (szs (loads s.b) : Int))) := by rw [← hW2]; exact hx2'.set _
  have hbb2 : BB W2 W.heap.size A1 (loads s.b).length cc1 (loads s.b) vs := by
    have hl1 := H1.out.lt
    have hl2 := H2.out.lt
    refine hbb.only (F := fun k => k = prow ∨ k = pt) (w' := W2) ?_ (fun k hk hf => by rcases hf with hf | hf <;> omega)
    rw [← hW2]; exact ((Only.refl _ w1).setCell _ _ (fun _ => .inl rfl)).setCell _ _ (fun _ => .inr rfl)
  have hn := HN.out
  have c2 := hb2.cell
  have hpb2 := boxOnly HB.out hon (by omega)
  have c3 := hpb2.cell
  have hpd2 := boxOnly HD.out hon (by omega)
  have c4 := hpd2.cell
  have hdk2 := HK.out.only hon (by omega) (fun g e hf => by
    obtain ⟨_, _, _, _, _, _, _, e1, e2⟩ := HN.out
    rcases hf with rfl | rfl
    · exact e1 e
    · exact e2 e)
  have HON := Lib.hid hon
  have HB1 := Lib.hid hb1
  have HB2 := Lib.hid hb2
  have HBB := Lib.hid hbb2
  have HDK := Lib.hid hdk2
  have HLE := Lib.hid hle
  subst hW2
  clear hbel hx1 hx2 hx2' hon hb1 hb2 hbb hbb2 hpb2 hpd2 hdk2 hn hle
  obtain ⟨t, ht⟩ : ∃ t, szs (loads s.b) = t := ⟨_, rfl⟩
  rw [ht] at c2 c3 c4 HON HB1 HB2 HBB HDK HLE ⊢
  have htl : t ≤ s.b.length := HLE.out
  by_cases h0 : t = s.b.length
  · have HJ : Hid (jOpen2 s = (0, s)) := Lib.hid (by unfold jOpen2; rw [ht, if_pos h0])
    have hz : ((s.b.length : Int) - (t : Int) == 0) = true := by rw [h0]; simp
    have HT := Lib.hid ht
    clear h0 ht
    go_wp2_with fail
    go_ret
    rw [HJ.out]
    exact ⟨rfl, A1, cc1, vs, _, HON.out, DStep.same HDK.out (Below.refl _ _), HB1.out, by rw [HT.out]; exact HB2.out, HBB.out, fun _ => rfl⟩
  · have HJ : Hid (jOpen2 s = dCut s (t : Nat)) := Lib.hid (by unfold jOpen2; rw [ht, if_neg h0])
    have hz : ((s.b.length : Int) - (t : Int) == 0) = false := beq_eq_false_iff_ne.2 (by omega)
    have HT := Lib.hid ht
    have hw : (s.b.length : Int) - ((s.b.length : Int) - (t : Int)) = (t : Int) := by omega
    have H0 := Lib.hid h0
    have HC := Lib.hid (dcut_any B _ q r s (t : Int) (by omega) (by omega) HDK.out)
    clear h0 ht
    go_wp2_with fail
    refine HC.out.mono ?_
    rintro e w3 ⟨rfl, hS⟩
    have HS := Lib.hid hS
    clear hS HC
    go_wp2_with fail
    go_ret
    rw [HJ.out]
    have hn := HN.out
    obtain ⟨_, _, _, _, _, n1, n2, n3, n4⟩ := HN.out
    refine ⟨rfl, A1, cc1, vs, _, HON.out, HS.out, boxOnly HB1.out HS.out.only ?_, by rw [HT.out]; exact boxOnly HB2.out HS.out.only (fun e => e.elim (fun e => n2 e.symm) (fun e => n4 e.symm)), HBB.out.only HS.out.only ?_, fun e => by rw [HT.out] at e; exact absurd e H0.out⟩
    · exact fun e => e.elim (fun e => n1 e.symm) (fun e => n3 e.symm)
    · intro k hk e
      rcases e with e | e
      · have := HQ.out.1; omega
      · have := HQ.out.2 k e.symm; omega

theorem ent34j : ∀ args w, (callFunc 34 args).run Try.prog w = .ok (.enter 34 args) w := enters_of Try.func34 (by kernel_rfl) rfl
theorem ent35j : ∀ args w, (callFunc 35 args).run Try.prog w = .ok (.enter 35 args) w := enters_of Try.func35 (by kernel_rfl) rfl
def jOpen (s : DS) : Int × DS := if s.down = true then (60, s) else jOpen2 s
/-- what first leaves for Open -/
def OpQ (B q : Nat) (r : Option Nat) (s : DS) (w : World) (e : Ending) (W' : World) : Prop :=
  e = .returned (.int .i64 (jOpen s).1) ∧ DStep 52 B q r (jOpen s).2 w W' ∧ (∃ v1 v2, Boxed W' (w.heap.size + 1) 23 v1 ∧ Boxed W' (w.heap.size + 1 + 1) 3 v2) ∧ ((jOpen s).1 = 0 → ∃ A c vs, Boxed W' (w.heap.size + 1) 23 (.slice A (loads s.b).length c) ∧
    Boxed W' (w.heap.size + 1 + 1) 3 (.int .i64 ((s.b.length : Int) - (szs (loads s.b) : Int))) ∧ BB W' (w.heap.size + 1 + 1 + 1) A (loads s.b).length c (loads s.b) vs) ∧ (s.down = false → szs (loads s.b) = s.b.length → Below w.heap.size w W')
/-- what Open answers -/
def OpenP (B q : Nat) (r : Option Nat) (s : DS) (w : World) (e : Ending) (W' : World) : Prop :=
  DStep 52 B q r (jOpen s).2 w W' ∧ ((jOpen s).1 ≠ 0 → e = .returned (.tuple #[.slice none 0 0, .int .i64 0, .int .i64 (jOpen s).1])) ∧
  ((jOpen s).1 = 0 → ∃ A c vs, e = .returned (.tuple #[.slice A (loads s.b).length c, .int .i64 ((s.b.length : Int) - (szs (loads s.b) : Int)), .int .i64 0]) ∧ BB W' w.heap.size A (loads s.b).length c (loads s.b) vs) ∧ (s.down = false → szs (loads s.b) = s.b.length → Below w.heap.size w W')
theorem BB.le {w : World} {B B' n c : Nat} {A : Option Addr} {ls : List (List UInt8)} {vs : List Value} (h : BB w B A n c ls vs) (hb : B' ≤ B) : BB w B' A n c ls vs :=
  ⟨h.rd, h.len, fun a e => Nat.le_trans hb (h.new a e), fun i x hx => by
    obtain ⟨Ai, ci, hv, hr, hn⟩ := h.row i x hx
    exact ⟨Ai, ci, hv, hr, fun a e => Nat.le_trans hb (hn a e)⟩⟩
theorem DStep.cell {t : TypeId} {B q : Nat} {r : Option Nat} {s s' : DS} {w W : World} (h : DStep t B q r s' w W) (hk : Dk t B w q r s) {p : Nat} (hp : w.heap.size ≤ p) (hp2 : ∀ r' g, Dk t B W q r' s' → r' = some g → g ≠ p) (u : Value) : DStep t B q r s' w (W.setCell ⟨p, 0, none⟩ u) := by
  obtain ⟨⟨r', hd, hr⟩, ho⟩ := h
  have hq := hk.lt.1
  refine ⟨⟨r', hd.only (F := fun k => k = p) ((Only.refl _ W).setCell _ _ (fun _ => rfl)) (by omega) (fun g e => hp2 r' g hd e), hr⟩, ho.setCell _ _ (fun h => by simp only [] at h; omega)⟩
set_option maxHeartbeats 1000000 in
theorem jopen_first (B : Nat) (w W5 : World) (q : Nat) (r : Option Nat) (s : DS) (h : Dk 52 B w q r s) (bW : Below w.heap.size w W5) (s5 : W5.heap.size = w.heap.size + 1 + 1 + 1 + 1 + 1)
    (hpd : Boxed W5 w.heap.size 26 (.pointer (some ⟨q, 0, none⟩))) (hpr : Boxed W5 (w.heap.size + 1) 23 (.slice none 0 0)) (hpt : Boxed W5 (w.heap.size + 1 + 1) 3 (.int .i64 0)) (hpb : Boxed W5 (w.heap.size + 1 + 1 + 1) 22 (.slice none 0 0))
    (hfb : Blk W5 (w.heap.size + 1 + 1 + 1 + 1) #[fnV 34 #[.pointer (some ⟨w.heap.size, 0, none⟩), .pointer (some ⟨w.heap.size + 1 + 1 + 1, 0, none⟩)],
      fnV 35 #[.pointer (some ⟨w.heap.size + 1 + 1 + 1, 0, none⟩), .pointer (some ⟨w.heap.size + 1, 0, none⟩), .pointer (some ⟨w.heap.size + 1 + 1, 0, none⟩), .pointer (some ⟨w.heap.size, 0, none⟩)]] 44) :
    Calls Try.prog 24 #[.slice (some ⟨w.heap.size + 1 + 1 + 1 + 1, 0, none⟩) 2 2] W5 (OpQ B q r s w) := by
  have hlt := h.lt
  refine first2 W5 _ 34 35 _ _ (OpQ B q r s w) hfb ent34j ent35j
    ((jopen1 B W5 q r s _ _ _ (h.below bW) hpd hpb).mono fun e W' hA => ?_)
  obtain ⟨rfl, ho, hg⟩ := hA
  have hbw : Below w.heap.size w W' := bW.trans (ho.below (by omega) (fun i e => by omega))
  refine ⟨dstate s, rfl, ?_⟩
  cases hs : s.down with
  | true =>
    left
    have e1 : dstate s = 60 := by unfold dstate; rw [if_pos hs]
    have e2 : jOpen s = (60, s) := if_pos hs
    rw [e1]
    refine ⟨by decide, ?_⟩
    unfold OpQ
    rw [e2]
    exact ⟨rfl, DStep.same h hbw, ⟨_, _, boxOnly hpr ho (by omega), boxOnly hpt ho (by omega)⟩, (fun e => by cases e), fun e => absurd (hs.symm.trans e) (by decide)⟩
  | false =>
    right
    have e1 : dstate s = 0 := by unfold dstate; rw [hs]; rfl
    have e2 : jOpen s = jOpen2 s := if_neg (by rw [hs]; decide)
    obtain ⟨A, c, hb, hrd⟩ := hg hs
    refine ⟨e1, hfb.only ho (by omega), ?_⟩
    have hsz := ho.size
    refine (jopen2 B W' q r s _ _ _ _ A c _ _ (h.below hbw) hb hrd (boxOnly hpr ho (by omega)) (boxOnly hpt ho (by omega)) (boxOnly hpd ho (by omega))
      ⟨by omega, by omega, by omega, by omega, by omega, by omega, by omega, fun e => by have := (hlt.2 _ e).2; omega, fun e => by have := (hlt.2 _ e).2; omega⟩ ⟨by omega, fun g e => by have := (hlt.2 _ e).2; omega⟩).mono fun e2 w2 hD => ?_
    obtain ⟨rfl, A1, c1, vs, Wm, hom, hS, hx1, hx2, hbb, heq⟩ := hD
    refine ⟨_, rfl, ?_⟩
    unfold OpQ
    rw [e2]
    have hbm : Below w.heap.size w Wm := hbw.trans (hom.below (by have := hbw.size; omega) (fun i e => by omega))
    exact ⟨rfl, hS.pre hbm, ⟨_, _, hx1, hx2⟩, fun _ => ⟨A1, c1, vs, hx1, hx2, hbb.le (by have := ho.size; omega)⟩, fun _ e => by rw [← heq e]; exact hbm⟩
end Go.Proofs.Ytckofpdhcpabnaa
