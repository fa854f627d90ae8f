/- Conditions: the evaluator's parts: an equality. -/
/- Conditions: the evaluator's parts: a condition that is named. -/
/- Conditions: the evaluator's parts: and, or, not. -/
/- Conditions: the evaluator's parts. -/
import Derived.Test.YtmljdppdaaoehaaGreatDoorCn16
import Derived.WalkLawsBesides
import Derived.StillTail
import Derived.StillTailTactics
namespace Go.Proofs.YtmljdppdaaoehaaGreatDoor
open Go.RowKit
set_option linter.unusedVariables false
set_option linter.unusedSimpArgs false
theorem set8_only (W : World) (q : Nat) (b0 b1 b2 b3 b4 b5 b6 b7 : Value) : Only (fun k => k = q) W ((((((((W.setCell ⟨q, 0, none⟩ b0).setCell ⟨q, 1, none⟩ b1).setCell ⟨q, 2, none⟩ b2).setCell ⟨q, 3, none⟩ b3).setCell ⟨q, 4, none⟩ b4).setCell ⟨q, 5, none⟩ b5).setCell ⟨q, 6, none⟩ b6).setCell ⟨q, 7, none⟩ b7) :=
  ((((((((Only.of_below (Below.refl _ W) (fun k => k = q)).setCell ⟨q, 0, none⟩ b0 (fun _ => rfl)).setCell ⟨q, 1, none⟩ b1 (fun _ => rfl)).setCell ⟨q, 2, none⟩ b2 (fun _ => rfl)).setCell ⟨q, 3, none⟩ b3 (fun _ => rfl)).setCell ⟨q, 4, none⟩ b4 (fun _ => rfl)).setCell ⟨q, 5, none⟩ b5 (fun _ => rfl)).setCell ⟨q, 6, none⟩ b6 (fun _ => rfl)).setCell ⟨q, 7, none⟩ b7 (fun _ => rfl)
theorem set8_cell {W : World} {q : Nat} {b0 b1 b2 b3 b4 b5 b6 b7 : Value} {p : Addr} {v : Value} (hp : p.block ≠ q) (h : W.cell? p = some v) :
    ((((((((W.setCell ⟨q, 0, none⟩ b0).setCell ⟨q, 1, none⟩ b1).setCell ⟨q, 2, none⟩ b2).setCell ⟨q, 3, none⟩ b3).setCell ⟨q, 4, none⟩ b4).setCell ⟨q, 5, none⟩ b5).setCell ⟨q, 6, none⟩ b6).setCell ⟨q, 7, none⟩ b7).cell? p = some v := by
  have key : ∀ (W : World) (i : Nat) (b : Value), (W.setCell ⟨q, i, none⟩ b).cell? p = W.cell? p := fun W i b => World.cell?_of_block (Below.heap_setCell _ _ _ _ hp)
  rw [key, key, key, key, key, key, key, key]; exact h
set_option maxRecDepth 100000 in
set_option maxHeartbeats 8000000 in
theorem pa_eq {l : List Cd} {ps : List Gv} {eq : Vl → Vl → Bool} {G : Vl → Prop} {S : Nat → Prop} {w0 : World} {A : Option Addr} {ac : Nat} {PA : Option Addr} {pc mb mn ev kb : Nat} (hV : VOk w0) (hE : EqC G eq w0) (k : Nat)
    (c : Cd) (cs : List Value) (a : Addr) (f : ByteArray → Option Bool) (n : Nat) (w : World) (hD : Dp l ps G (k + 1) c) (hW : EvW l ps S w0 A ac PA pc mb mn ev kb w) (hM : MB w kb n f) (hK : KnOk l ps eq G f) (hn : n ≤ cntK l f) (htr : Trs.at S w c.tr cs) (hcel : Cel w a cs) (hab : a.block ≠ kb) (h0 : c.kind = 0) :
    Calls Tryz.prog 22 #[.pointer (some ⟨ev, 0, none⟩), .pointer (some a)] w (PaOut l ps eq G kb (k + 1) f (evC l ps eq (k + 1) c) w) := by
  obtain ⟨A1, n1, B1, n2, L, lc0, hcc, hls, hns, hta, htb, hxa, hxb⟩ := cd_all htr hcel
  obtain ⟨x, y, hx, hy, hgx, hgy⟩ := hD.1 h0
  have HEV : Hid (evC l ps eq (k + 1) c = if x.unknown || y.unknown then none else some (eq x.v y.v)) := Lib.hid (by
    rw [evC, if_pos h0]; unfold eqEv; rw [hx, hy])
  have HCC := Lib.hid hcc
  obtain ⟨c0, c1, c2, c3, c4, c5, c6, c7, c8, c9, c10, c11, c12, c13, c14⟩ := cel15 hcc
  have v2 := hW.box.cell 2 (v := .slice PA ps.length pc) rfl
  have HW := Lib.hid hW
  have HM := Lib.hid hM
  have HK := Lib.hid hK
  have HN := Lib.hid hn
  have HPA : Hid (∀ w', Below w.heap.size w w' → Calls Tryz.prog 10 #[.agg #[.int .i8 c.a.kind, .string c.a.text, .int .i64 c.a.num, .string c.a.name, .string c.a.attr, .slice A1 c.a.l.length n1], .slice PA ps.length pc] w' (PlSome (fun k => S k ∧ k < w.heap.size) x w')) :=
    Lib.hid (fun w' hb => by have h1 := HW.out.below hb; exact (pln_any (fun k => S k ∧ k < w.heap.size) c.a A1 n1 PA pc ps w' (hV.below h1.bel) (hxa.bound.below hb) (HW.out.pr.bound.below hb)).mono (fun e w'' h => PlainOut.some (by rw [← hx]; exact h)))
  have HPB : Hid (∀ w', Below w.heap.size w w' → Calls Tryz.prog 10 #[.agg #[.int .i8 c.b.kind, .string c.b.text, .int .i64 c.b.num, .string c.b.name, .string c.b.attr, .slice B1 c.b.l.length n2], .slice PA ps.length pc] w' (PlSome (fun k => S k ∧ k < w.heap.size) y w')) :=
    Lib.hid (fun w' hb => by have h1 := HW.out.below hb; exact (pln_any (fun k => S k ∧ k < w.heap.size) c.b B1 n2 PA pc ps w' (hV.below h1.bel) (hxb.bound.below hb) (HW.out.pr.bound.below hb)).mono (fun e w'' h => PlainOut.some (by rw [← hy]; exact h)))
  have HEQ : Hid (∀ w' xs ys, Below w.heap.size w w' → Trs.at (fun k => S k ∧ k < w.heap.size) w' x.v.tr xs → Trs.at (fun k => S k ∧ k < w.heap.size) w' y.v.tr ys → Calls Tryz.prog 47 #[.agg xs.toArray, .agg ys.toArray] w' (BoolB (eq x.v y.v) w')) :=
    Lib.hid (fun w' xs ys hb h1 h2 => hE (fun k => S k ∧ k < w.heap.size) x.v y.v xs ys w' hgx hgy (HW.out.below hb).bel h1 h2)
  have e0 : (c.kind == 0) = true := by rw [h0]; rfl
  have HB0 : Hid (Below w.heap.size w w.drew) := Lib.hid (Below.refl _ w).drew
  have HB1 : Hid (Below w.heap.size w ((w.alloc (.cells #[.string ⟨#[]⟩, .bool false, .int .i8 0, .bool false, .int .i64 0, .string ⟨#[]⟩, .slice none 0 0, .slice none 0 0] 39)).drew)) := Lib.hid ((Below.refl _ w).alloc (Nat.le_refl _) _).drew
  have HZ1 : Hid (Blk ((w.alloc (.cells #[.string ⟨#[]⟩, .bool false, .int .i8 0, .bool false, .int .i64 0, .string ⟨#[]⟩, .slice none 0 0, .slice none 0 0] 39)).drew) w.heap.size #[.string ⟨#[]⟩, .bool false, .int .i8 0, .bool false, .int .i64 0, .string ⟨#[]⟩, .slice none 0 0, .slice none 0 0] 39) := Lib.hid (Blk.new w _ _).drew
  have hal : a.block < w.heap.size := World.block_lt_of_cell? w _ c0
  have hel : ev < w.heap.size := hW.box.lt
  have hal1 : a.block ≠ w.heap.size := by omega
  have hel1 : ev ≠ w.heap.size := by omega
  clear hcc hls hta htb hxa hxb htr hcel hx hy hgx hgy hD hW hM hK hn hV hE h0
  go_enter Tryz.func22, Tryz.ntmps22
  go_upto_region 3 with fail
  go_cut [5] from 20 to 31 (fun v5 wx => ∃ (b1 : Nat) (GL : Option Addr) (lc : Nat) (GK : Option Addr) (kc : Nat), v5 = .pointer (some ⟨b1, 0, none⟩) ∧ Hid (Blk wx b1 #[.string x.name, .bool x.unknown, .int .i8 x.v.kind, .bool x.v.bool, .int .i64 x.v.num, .string x.v.text, .slice GL x.v.list.length lc, .slice GK x.v.keys.length kc] 39) ∧ Hid (Trs.at (fun k => S k ∧ k < w.heap.size) wx x.v.tr [.int .i8 x.v.kind, .bool x.v.bool, .int .i64 x.v.num, .string x.v.text, .slice GL x.v.list.length lc, .slice GK x.v.keys.length kc]) ∧ Hid (Below w.heap.size w wx))
  case first =>
    go_region_held3 (fun w' => w'.cell? ⟨a.block, a.off + 2, none⟩ = some (.int .i8 c.a.kind) ∧ w'.cell? ⟨a.block, a.off + 3, none⟩ = some (.string c.a.text) ∧ w'.cell? ⟨a.block, a.off + 4, none⟩ = some (.int .i64 c.a.num) ∧ w'.cell? ⟨a.block, a.off + 5, none⟩ = some (.string c.a.name) ∧ w'.cell? ⟨a.block, a.off + 6, none⟩ = some (.string c.a.attr) ∧ w'.cell? ⟨a.block, a.off + 7, none⟩ = some (.slice A1 c.a.l.length n1) ∧
      w'.cell? ⟨ev, 2, none⟩ = some (.slice PA ps.length pc)) (first | go_keep | exact ⟨set8_cell hal1 d2, set8_cell hal1 d3, set8_cell hal1 d4, set8_cell hal1 d5, set8_cell hal1 d6, set8_cell hal1 d7, set8_cell hel1 u2⟩)
      ((first
        | (go_at_call 10; (with_reducible refine (HPA.out ((w.alloc (.cells #[.string ⟨#[]⟩, .bool false, .int .i8 0, .bool false, .int .i64 0, .string ⟨#[]⟩, .slice none 0 0, .slice none 0 0] 39)).drew) HB1.out).mono ?_); rintro e w2 ⟨hb, GL, lc, GK, kc, rfl, ht⟩; have hb2 := HB1.out.trans (hb.mono HB1.out.size); have hz2 := HZ1.out.below hb; have HT2 := Lib.hid ht; have HB2 := Lib.hid hb2; have HZ2 := Lib.hid hz2; obtain ⟨d0, d1, d2, d3, d4, d5, d6, d7, d8, d9, d10, d11, d12, d13, d14⟩ := cel15 (HCC.out.below hb2); have u2 := (HW.out.below hb2).box.cell 2 (v := .slice PA ps.length pc) rfl; have z0 := hz2.frozen 0; have z1 := hz2.frozen 1; have z2 := hz2.frozen 2; have z3 := hz2.frozen 3; have z4 := hz2.frozen 4; have z5 := hz2.frozen 5; have z6 := hz2.frozen 6; have z7 := hz2.frozen 7; obtain ⟨q0, q1, q2, q3, q4, q5, q6, q7⟩ := blk8 hz2; clear hb ht hb2 hz2)
        | (go_at_call 10; (with_reducible refine (HPA.out w.drew HB0.out).mono ?_); rintro e w2 ⟨hb, GL, lc, GK, kc, rfl, ht⟩; have hb2 := HB0.out.trans (hb.mono HB0.out.size); have HT2 := Lib.hid ht; have HB2 := Lib.hid hb2; obtain ⟨d0, d1, d2, d3, d4, d5, d6, d7, d8, d9, d10, d11, d12, d13, d14⟩ := cel15 (HCC.out.below hb2); have u2 := (HW.out.below hb2).box.cell 2 (v := .slice PA ps.length pc) rfl; clear hb ht hb2)))
    · go_wp2_with fail
      go_meet
      exact ⟨w2.heap.size, GL, lc, GK, kc, rfl, Lib.hid (Blk.new w2 _ _), Lib.hid (HT2.out.alloc _), Lib.hid (HB2.out.alloc HB2.out.size _)⟩
    · go_wp2_with fail
      go_meet
      exact ⟨w.heap.size, GL, lc, GK, kc, rfl, Lib.hid (HZ2.out.set8 rfl _ _ _ _ _ _ _ _), Lib.hid (HT2.out.only (set8_only _ _ _ _ _ _ _ _ _ _) (fun k hk => by have := hk.2; omega)), Lib.hid ((set8_only _ _ _ _ _ _ _ _ _ _).belowB HB2.out (fun k hk => by omega))⟩
  case rest =>
    obtain ⟨b1, GL, lc, GK, kc, rfl, HX, HXT, HBW⟩ := hcut
    rename World => wd
    have HWD := Lib.hid (HW.out.below HBW.out)
    have HCD := Lib.hid (HCC.out.below HBW.out)
    have hsz := HBW.out.size
    obtain ⟨c0, c1, c2, c3, c4, c5, c6, c7, c8, c9, c10, c11, c12, c13, c14⟩ := cel15 HCD.out
    have v2 := HWD.out.box.cell 2 (v := .slice PA ps.length pc) rfl
    have hal2 : a.block ≠ wd.heap.size := by omega
    have hel2 : ev ≠ wd.heap.size := by omega
    have hbl2 : b1 < wd.heap.size := HX.out.lt
    have HB0' : Hid (Below wd.heap.size wd wd.drew) := Lib.hid (Below.refl _ wd).drew
    have HB1' : Hid (Below wd.heap.size wd ((wd.alloc (.cells #[.string ⟨#[]⟩, .bool false, .int .i8 0, .bool false, .int .i64 0, .string ⟨#[]⟩, .slice none 0 0, .slice none 0 0] 39)).drew)) := Lib.hid ((Below.refl _ wd).alloc (Nat.le_refl _) _).drew
    have HZ1' : Hid (Blk ((wd.alloc (.cells #[.string ⟨#[]⟩, .bool false, .int .i8 0, .bool false, .int .i64 0, .string ⟨#[]⟩, .slice none 0 0, .slice none 0 0] 39)).drew) wd.heap.size #[.string ⟨#[]⟩, .bool false, .int .i8 0, .bool false, .int .i64 0, .string ⟨#[]⟩, .slice none 0 0, .slice none 0 0] 39) := Lib.hid (Blk.new wd _ _).drew
    have HPB' : Hid (∀ w', Below wd.heap.size wd w' → Calls Tryz.prog 10 #[.agg #[.int .i8 c.b.kind, .string c.b.text, .int .i64 c.b.num, .string c.b.name, .string c.b.attr, .slice B1 c.b.l.length n2], .slice PA ps.length pc] w' (PlSome (fun k => S k ∧ k < w.heap.size) y w')) := Lib.hid (fun w' hb => HPB.out w' (HBW.out.trans (hb.mono hsz)))
    clear HB0 HB1 HZ1 HPA HPB hal1 hel1
    go_upto_region 4 with fail
    go_cut [5, 7] from 32 to 43 (fun v5 v7 wx => ∃ (b2 : Nat) (HL : Option Addr) (ld : Nat) (HQ : Option Addr) (kd : Nat), v5 = .pointer (some ⟨b1, 0, none⟩) ∧ v7 = .pointer (some ⟨b2, 0, none⟩) ∧ Hid (Blk wx b2 #[.string y.name, .bool y.unknown, .int .i8 y.v.kind, .bool y.v.bool, .int .i64 y.v.num, .string y.v.text, .slice HL y.v.list.length ld, .slice HQ y.v.keys.length kd] 39) ∧ Hid (Trs.at (fun k => S k ∧ k < w.heap.size) wx y.v.tr [.int .i8 y.v.kind, .bool y.v.bool, .int .i64 y.v.num, .string y.v.text, .slice HL y.v.list.length ld, .slice HQ y.v.keys.length kd]) ∧ Hid (Below wd.heap.size wd wx))
    case first =>
      go_region_held3 (fun w' => w'.cell? ⟨a.block, a.off + 8, none⟩ = some (.int .i8 c.b.kind) ∧ w'.cell? ⟨a.block, a.off + 9, none⟩ = some (.string c.b.text) ∧ w'.cell? ⟨a.block, a.off + 10, none⟩ = some (.int .i64 c.b.num) ∧ w'.cell? ⟨a.block, a.off + 11, none⟩ = some (.string c.b.name) ∧ w'.cell? ⟨a.block, a.off + 12, none⟩ = some (.string c.b.attr) ∧ w'.cell? ⟨a.block, a.off + 13, none⟩ = some (.slice B1 c.b.l.length n2) ∧
      w'.cell? ⟨ev, 2, none⟩ = some (.slice PA ps.length pc)) (first | go_keep | exact ⟨set8_cell hal2 d8, set8_cell hal2 d9, set8_cell hal2 d10, set8_cell hal2 d11, set8_cell hal2 d12, set8_cell hal2 d13, set8_cell hel2 u2⟩)
      ((first
        | (go_at_call 10; (with_reducible refine (HPB'.out ((wd.alloc (.cells #[.string ⟨#[]⟩, .bool false, .int .i8 0, .bool false, .int .i64 0, .string ⟨#[]⟩, .slice none 0 0, .slice none 0 0] 39)).drew) HB1'.out).mono ?_); rintro e w2 ⟨hb, HL, ld, HQ, kd, rfl, ht⟩; have hb2 := HB1'.out.trans (hb.mono HB1'.out.size); have hz2 := HZ1'.out.below hb; have HT2 := Lib.hid ht; have HB2 := Lib.hid hb2; have HZ2 := Lib.hid hz2; obtain ⟨d0, d1, d2, d3, d4, d5, d6, d7, d8, d9, d10, d11, d12, d13, d14⟩ := cel15 (HCD.out.below hb2); have u2 := (HWD.out.below hb2).box.cell 2 (v := .slice PA ps.length pc) rfl; have z0 := hz2.frozen 0; have z1 := hz2.frozen 1; have z2 := hz2.frozen 2; have z3 := hz2.frozen 3; have z4 := hz2.frozen 4; have z5 := hz2.frozen 5; have z6 := hz2.frozen 6; have z7 := hz2.frozen 7; obtain ⟨q0, q1, q2, q3, q4, q5, q6, q7⟩ := blk8 hz2; clear hb ht hb2 hz2)
        | (go_at_call 10; (with_reducible refine (HPB'.out wd.drew HB0'.out).mono ?_); rintro e w2 ⟨hb, HL, ld, HQ, kd, rfl, ht⟩; have hb2 := HB0'.out.trans (hb.mono HB0'.out.size); have HT2 := Lib.hid ht; have HB2 := Lib.hid hb2; obtain ⟨d0, d1, d2, d3, d4, d5, d6, d7, d8, d9, d10, d11, d12, d13, d14⟩ := cel15 (HCD.out.below hb2); have u2 := (HWD.out.below hb2).box.cell 2 (v := .slice PA ps.length pc) rfl; clear hb ht hb2)))
      · go_wp2_with fail
        go_meet
        exact ⟨w2.heap.size, HL, ld, HQ, kd, rfl, rfl, Lib.hid (Blk.new w2 _ _), Lib.hid (HT2.out.alloc _), Lib.hid (HB2.out.alloc HB2.out.size _)⟩
      · go_wp2_with fail
        go_meet
        exact ⟨wd.heap.size, HL, ld, HQ, kd, rfl, rfl, Lib.hid (HZ2.out.set8 rfl _ _ _ _ _ _ _ _), Lib.hid (HT2.out.only (set8_only _ _ _ _ _ _ _ _ _ _) (fun k hk => by have := hk.2; omega)), Lib.hid ((set8_only _ _ _ _ _ _ _ _ _ _).belowB HB2.out (fun k hk => by omega))⟩
    case rest =>
      obtain ⟨b2, HL, ld, HQ, kd, rfl, rfl, HY, HYT, HBX⟩ := hcut
      rename World => wx
      have hbw := HBW.out.trans (HBX.out.mono hsz)
      have HX2 := Lib.hid (HX.out.below HBX.out)
      have HEQ2 := Lib.hid (HEQ.out wx [.int .i8 x.v.kind, .bool x.v.bool, .int .i64 x.v.num, .string x.v.text, .slice GL x.v.list.length lc, .slice GK x.v.keys.length kc] [.int .i8 y.v.kind, .bool y.v.bool, .int .i64 y.v.num, .string y.v.text, .slice HL y.v.list.length ld, .slice HQ y.v.keys.length kd] hbw (HXT.out.below HBX.out) HYT.out)
      obtain ⟨x0, x1, x2, x3, x4, x5, x6, x7⟩ := blk8 HX2.out
      obtain ⟨y0, y1, y2, y3, y4, y5, y6, y7⟩ := blk8 HY.out
      have HBE := Lib.hid hbw
      obtain ⟨ux, hux⟩ : ∃ ux, ux = x.unknown := ⟨_, rfl⟩
      obtain ⟨uy, huy⟩ : ∃ uy, uy = y.unknown := ⟨_, rfl⟩
      rw [← hux] at x1
      rw [← huy] at y1
      rw [← hux, ← huy] at HEV
      clear hux huy hbw c0 c1 c2 c3 c4 c5 c6 c7 c8 c9 c10 c11 c12 c13 c14 HPB' HB0' HB1' HZ1' HEQ
      have HFIN : Hid (∀ w', Below w.heap.size w w' → MB w' kb n f ∧ KnOk l ps eq G f ∧ n ≤ cntK l f ∧ Only (fun k => k = kb) w w') := Lib.hid (fun w' hb => ⟨HM.out.below hb, HK.out, HN.out, Only.of_below hb _⟩)
      cases ux with
      | true =>
        go_wp2_with fail
        obtain ⟨g1, g2, g3, g4⟩ := HFIN.out _ HBE.out
        exact ⟨rfl, f, n, g1, g2, g3, g4, New.refl, by rw [HEV.out]; rfl⟩
      | false =>
        cases uy with
        | true =>
          go_wp2_with fail
          obtain ⟨g1, g2, g3, g4⟩ := HFIN.out _ HBE.out
          exact ⟨rfl, f, n, g1, g2, g3, g4, New.refl, by rw [HEV.out]; rfl⟩
        | false =>
          go_wp2_with fail
          refine HEQ2.out.mono ?_
          rintro e w5 ⟨rfl, hb5⟩
          have hb6 := HBE.out.trans (hb5.mono HBE.out.size)
          obtain ⟨g1, g2, g3, g4⟩ := HFIN.out w5 hb6
          have HG1 := Lib.hid g1
          have HG4 := Lib.hid g4
          clear hb5 hb6 g1 g4
          go_wp2_with fail
          go_ret
          exact ⟨f, n, HG1.out, g2, g3, HG4.out, New.refl, by rw [HEV.out]; rfl⟩
end Go.Proofs.YtmljdppdaaoehaaGreatDoor
namespace Go.Proofs.YtmljdppdaaoehaaGreatDoor
open Go.RowKit
set_option linter.unusedVariables false
set_option linter.unusedSimpArgs false
set_option maxRecDepth 100000 in
set_option maxHeartbeats 8000000 in
theorem pa_name {l : List Cd} {ps : List Gv} {eq : Vl → Vl → Bool} {G : Vl → Prop} {S : Nat → Prop} {w0 : World} {A : Option Addr} {ac : Nat} {PA : Option Addr} {pc mb mn ev kb : Nat} (k : Nat) (IH : ∀ j, j ≤ k → PaC l ps eq G S w0 A ac PA pc mb mn ev kb j)
    (c : Cd) (cs : List Value) (a : Addr) (f : ByteArray → Option Bool) (n : Nat) (w : World) (hD : Dp l ps G (k + 1) c) (hW : EvW l ps S w0 A ac PA pc mb mn ev kb w) (hM : MB w kb n f) (hK : KnOk l ps eq G f) (hn : n ≤ cntK l f) (htr : Trs.at S w c.tr cs) (hcel : Cel w a cs) (hab : a.block ≠ kb) (h4 : c.kind = 4) :
    Calls Tryz.prog 22 #[.pointer (some ⟨ev, 0, none⟩), .pointer (some a)] w (PaOut l ps eq G kb (k + 1) f (evC l ps eq (k + 1) c) w) := by
  obtain ⟨A1, n1, B1, n2, L, lc0, hcc, hlsc, hns, hta, htb, hxa, hxb⟩ := cd_all htr hcel
  obtain ⟨i, d, hi, hd, hDd⟩ := hD.2.1 h4
  obtain ⟨j, hj, hDj, hmin⟩ := Dp.least k hDd
  have hil : i < l.length := plAt_lt hi
  have hcap := hW.ls.cap
  have hbyt := hW.ls.bytes
  have HEV : Hid (evC l ps eq (k + 1) c = evC l ps eq j d) := Lib.hid (by
    rw [evC, if_neg (by rw [h4]; decide), if_pos h4, hi]
    simp only [hd]
    exact Dp.same hDd hDj)
  have e0 : (c.kind == 0) = false := by rw [h4]; rfl
  have e4 : (c.kind == 4) = true := by rw [h4]; rfl
  have HCC := Lib.hid hcc
  obtain ⟨c0, c1, c2, c3, c4, c5, c6, c7, c8, c9, c10, c11, c12, c13, c14⟩ := cel15 hcc
  have v0 := hW.box.cell 0 (v := .slice A l.length ac) rfl
  have v1 := hW.box.cell 1 (v := .map (some mb)) rfl
  have v3 := hW.box.cell 3 (v := .map (some kb)) rfl
  have hmx : c.name.size ≤ maxLen := by unfold maxLen; omega
  have hlk : ∀ q, (Instr.lookup 59 (.map (some kb)) (.string c.name) true).run Tryz.prog (w.drewN q) = .ok (.tuple #[.bool ((f c.name).getD false), .bool (f c.name).isSome]) (w.drewN q) := fun q => (hM.drewN q).lookok hmx
  have hpl : ∀ q, (Instr.lookup 57 (.map (some mb)) (.string c.name) false).run Tryz.prog (w.drewN q) = .ok (.int .i64 (i : Nat)) (w.drewN q) := fun q => by
    have := (hW.pl.only (w' := w.drewN q) (F := fun _ => False) ⟨rfl, rfl, rfl, Nat.le_refl _, fun _ _ _ => rfl⟩ (fun h => h)).look hmx
    rw [this, hi]; rfl
  obtain ⟨ad, cs', rfl, htd, hcd⟩ := hW.ls.elem Cd.trlen hd
  have hadk : (ad.add (i * 15)).block ≠ kb := by
    rw [block_of_add]
    exact hW.hS _ (hW.ls.blk ad rfl (by omega))
  have HW := Lib.hid hW
  have HM := Lib.hid hM
  have HK := Lib.hid hK
  have HN := Lib.hid hn
  have HVAL : Hid (∀ b, f c.name = some b → evC l ps eq j d = some b) := Lib.hid (fun b hb => hK.val hb hi hd hDj)
  have HIH : Hid (∀ w', Below w.heap.size w w' → Calls Tryz.prog 22 #[.pointer (some ⟨ev, 0, none⟩), .pointer (some (ad.add (i * 15)))] w' (PaOut l ps eq G kb j f (evC l ps eq j d) w')) := Lib.hid (fun w' hb =>
    IH j hj d cs' (ad.add (i * 15)) f n w' hDj (hW.below hb) (hM.below hb) hK hn (htd.below hb) (hcd.below hb) hadk)
  have HFI : Hid (plAt l c.name = some i ∧ l[i]? = some d ∧ Dp l ps G j d ∧ ∀ i, i < j → ¬ Dp l ps G i d) := Lib.hid ⟨hi, hd, hDj, hmin⟩
  have hii : (0 : Int) ≤ (i : Int) ∧ (i : Int) < (l.length : Int) := by omega
  have hin : ¬ ((i : Int) < 0) := by omega
  have hnev := hW.nev
  obtain ⟨o, ho⟩ : ∃ o, o = f c.name := ⟨_, rfl⟩
  have HO := Lib.hid ho
  rw [← ho] at hlk
  clear hcc hlsc hta htb hxa hxb htr hcel hD hW hM hK hn h4 hi hd hDd hDj hmin IH htd hcd ho
  go_enter Tryz.func22, Tryz.ntmps22
  cases o with
  | some b =>
    have HE : Hid (evC l ps eq (k + 1) c = some b) := Lib.hid (HEV.out.trans (HVAL.out b HO.out.symm))
    simp only [Option.getD_some, Option.isSome_some] at hlk
    clear hpl
    go_wp2_with fail
    go_quiet (fail)
    go_wp2_with fail
    go_ret
    exact ⟨f, n, HM.out.drewN _, HK.out, HN.out, (Only.of_below (Below.refl _ w) _).drewN _, New.refl, by rw [HE.out]; rfl⟩
  | none =>
    simp only [Option.getD_none, Option.isSome_none] at hlk
    go_wp2_with fail
    go_quiet (fail)
    have hbq : Below w.heap.size w (w.drewN nq) := ⟨rfl, rfl, rfl, Nat.le_refl _, fun _ _ => rfl⟩
    have HBQ := Lib.hid hbq
    have HWQ := Lib.hid (HW.out.below hbq)
    have HCQ := Lib.hid (HCC.out.below hbq)
    have HPL : Hid (MP (w.drewN nq) mb mn (plAt l)) := Lib.hid (HW.out.pl.only (F := fun _ => False) ⟨rfl, rfl, rfl, Nat.le_refl _, fun _ _ _ => rfl⟩ (fun h => h))
    generalize w.drewN nq = w1 at HBQ HWQ HCQ HPL ⊢
    clear c0 c1 c2 c3 c4 c5 c6 c7 c8 c9 c10 c11 c12 c13 c14 v0 v1 v3 hlk hpl hbq
    obtain ⟨c0, c1, c2, c3, c4, c5, c6, c7, c8, c9, c10, c11, c12, c13, c14⟩ := cel15 HCQ.out
    have v0 := HWQ.out.box.cell 0 (v := .slice (some ad) l.length ac) rfl
    have v1 := HWQ.out.box.cell 1 (v := .map (some mb)) rfl
    have hpl : (Instr.lookup 57 (.map (some mb)) (.string c.name) false).run Tryz.prog w1.drew = .ok (.int .i64 (i : Nat)) w1.drew := by
      have := (HPL.out.only (w' := w1.drew) (F := fun _ => False) ⟨rfl, rfl, rfl, Nat.le_refl _, fun _ _ _ => rfl⟩ (fun h => h)).look hmx
      rw [this, HFI.out.1]; rfl
    go_wp2_with fail
    go_still_tail 15, (by kernel_rfl)
    change wpList _ _ _ _ _ w1.drew
    have hb1 : Below w.heap.size w w1.drew := HBQ.out.drew
    have HCL := Lib.hid (HIH.out w1.drew hb1)
    have HO1 : Hid (Only (fun k => k = kb) w w1.drew) := Lib.hid (Only.of_below hb1 _)
    have HW1 := Lib.hid (HW.out.below hb1)
    have HC1 := Lib.hid (HCC.out.below hb1)
    generalize w1.drew = w3 at HCL HO1 HW1 HC1 ⊢
    obtain ⟨v, hv⟩ : ∃ v, v = evC l ps eq j d := ⟨_, rfl⟩
    rw [← hv] at HCL
    have HV := Lib.hid hv
    clear c0 c1 c2 c3 c4 c5 c6 c7 c8 c9 c10 c11 c12 c13 c14 v0 v1 hpl hb1 HBQ HWQ HCQ HPL hv
    go_wp2_with fail
    refine HCL.out.mono ?_
    rintro e w4 hpo
    cases v with
    | none =>
      obtain ⟨f2, n2, g1, g2, g3, g4, g5, rfl⟩ := hpo.panicked
      have HE : Hid (evC l ps eq (k + 1) c = none) := Lib.hid (by rw [HEV.out, ← HV.out])
      have HG := Lib.hid g1
      have HG4 := Lib.hid (HO1.out.trans g4 (fun _ _ h => h))
      have HG5 := Lib.hid (g5.mono (k' := k + 1) (by omega))
      clear g1 g4 g5 hpo
      go_wp2_with fail
      exact ⟨rfl, f2, n2, HG.out, g2, g3, HG4.out, HG5.out, by rw [HE.out]⟩
    | some b =>
      obtain ⟨f2, n2, g1, g2, g3, g4, g5, rfl⟩ := hpo.returned
      have HE : Hid (evC l ps eq (k + 1) c = some b) := Lib.hid (by rw [HEV.out, ← HV.out])
      have hnone : f2 c.name = none := g5.none HFI.out.1 HFI.out.2.1 HFI.out.2.2.2 HO.out.symm
      have hcnt := cntK_put b hnone HFI.out.1
      have hle := cntK_le l f2
      have HG := Lib.hid g1
      have HKP := Lib.hid (g2.put HFI.out.1 HFI.out.2.1 HFI.out.2.2.1 HV.out.symm)
      have HNP := Lib.hid (g5.put (k := k + 1) (b := b) HFI.out.1 HFI.out.2.1 HFI.out.2.2.1 (by omega))
      have HG4 := Lib.hid (HO1.out.trans g4 (fun _ _ h => h))
      have v3 := (HW1.out.only g4).box.cell 3 (v := .map (some kb)) rfl
      obtain ⟨c0, c1, c2, c3, c4, c5, c6, c7, c8, c9, c10, c11, c12, c13, c14⟩ := cel15 (HC1.out.only g4 hab)
      clear g1 g2 g4 g5 hpo hnone
      go_wp2_with fail
      go_still_tail 9, (by kernel_rfl)
      change wpList _ _ _ _ _ w4.drew
      have HGD := Lib.hid HG.out.drew
      have HG4D := Lib.hid HG4.out.drew
      generalize w4.drew = w5 at HGD HG4D ⊢
      clear c0 c1 c2 c3 c4 c5 c6 c7 c8 c9 c10 c11 c12 c13 c14 v3
      go_wp2_with (refine wp_put_MB rfl _ _ _ rfl kb n2 f2 rfl HGD.out (by unfold maxLen; omega) c.name hmx rfl b rfl ?_; intro w6 hm6 hg6; have HM6 := Lib.hid hm6; have HO6 := Lib.hid (Only.of_grown hg6); clear hm6 hg6)
      go_ret
      exact ⟨_, n2 + 1, HM6.out, HKP.out, by omega, HG4D.out.trans (HO6.out.mono (fun i _ h => by injection h)) (fun _ _ h => h), HNP.out, by rw [HE.out]; rfl⟩
end Go.Proofs.YtmljdppdaaoehaaGreatDoor
namespace Go.Proofs.YtmljdppdaaoehaaGreatDoor
open Go.RowKit
set_option linter.unusedVariables false
set_option linter.unusedSimpArgs false
theorem allEv_none {f : Cd → Option Bool} : ∀ {r : List Cd} {p : Cd}, p ∈ r → f p = none → allEv f r = none
  | c :: r, p, h, hp => by
    unfold allEv
    cases e : f c with
    | none => rfl
    | some b =>
      rcases List.mem_cons.1 h with rfl | h
      · rw [hp] at e; cases e
      · simp only; rw [allEv_none h hp]; rfl
theorem allEv_snoc {f : Cd → Option Bool} {p : Cd} : ∀ {r : List Cd}, allEv f (r ++ [p]) = (allEv f r).bind fun m => (f p).map fun b => m + b.toNat
  | [] => by
    simp only [List.nil_append, allEv]
    cases f p <;> simp
  | c :: r => by
    simp only [List.cons_append, allEv]
    cases f c with
    | none => rfl
    | some b =>
      simp only [allEv_snoc (r := r)]
      cases allEv f r with
      | none => rfl
      | some m => cases f p <;> simp <;> omega
theorem allEv_le {f : Cd → Option Bool} : ∀ {r : List Cd} {m : Nat}, allEv f r = some m → m ≤ r.length
  | [], m, h => by simp [allEv] at h; omega
  | c :: r, m, h => by
    unfold allEv at h
    split at h
    · cases h
    · next b hb =>
      obtain ⟨x, hx, rfl⟩ := Option.map_eq_some_iff.1 h
      have := allEv_le hx
      cases b <;> simp <;> omega
theorem info_b4 : (Tryz.prog.info? 4).map (·.size) = some 1 := by kernel_rfl
theorem run_idx4 (x y z : Bool) (w : World) : (Instr.index 85 (.agg #[.bool false, .bool x, .bool y, .bool z]) (.int .i8 1)).run Tryz.prog w = .ok (.bool x) w ∧ (Instr.index 85 (.agg #[.bool false, .bool x, .bool y, .bool z]) (.int .i8 2)).run Tryz.prog w = .ok (.bool y) w ∧
    (Instr.index 85 (.agg #[.bool false, .bool x, .bool y, .bool z]) (.int .i8 3)).run Tryz.prog w = .ok (.bool z) w := by
  obtain ⟨i, hi, hs⟩ := Option.map_eq_some_iff.1 info_b4
  unfold Instr.index
  simp [run_underlying Tryz.underlying85, run_underlying Tryz.underlying4, sizeOf, typeInfo, asIntOf, part, hi, hs, isAgg]
set_option maxRecDepth 100000 in
set_option maxHeartbeats 8000000 in
theorem pa_list {l : List Cd} {ps : List Gv} {eq : Vl → Vl → Bool} {G : Vl → Prop} {S : Nat → Prop} {w0 : World} {A : Option Addr} {ac : Nat} {PA : Option Addr} {pc mb mn ev kb : Nat} (k : Nat) (IH : PaC l ps eq G S w0 A ac PA pc mb mn ev kb k)
    (c : Cd) (cs : List Value) (a : Addr) (f : ByteArray → Option Bool) (n : Nat) (w : World) (hD : Dp l ps G (k + 1) c) (hW : EvW l ps S w0 A ac PA pc mb mn ev kb w) (hM : MB w kb n f) (hK : KnOk l ps eq G f) (hn : n ≤ cntK l f) (htr : Trs.at S w c.tr cs) (hcel : Cel w a cs) (hab : a.block ≠ kb) (h0 : c.kind ≠ 0) (h4 : c.kind ≠ 4) :
    Calls Tryz.prog 22 #[.pointer (some ⟨ev, 0, none⟩), .pointer (some a)] w (PaOut l ps eq G kb (k + 1) f (evC l ps eq (k + 1) c) w) := by
  obtain ⟨A1, n1, B1, n2, L, lc0, hcc, hls, hns, hta, htb, hxa, hxb⟩ := cd_all htr hcel
  obtain ⟨hkd, hDp⟩ := hD.2.2 h0 h4
  have hcap := hls.cap
  have hbyt := hls.bytes
  have HEV : Hid (evC l ps eq (k + 1) c = (allEv (evC l ps eq k) c.l).map (cntEv c)) := Lib.hid (by
    rw [evC, if_neg h0, if_neg h4])
  have e0 : (c.kind == 0) = false := by simpa using h0
  have e4 : (c.kind == 4) = false := by simpa using h4
  have HCC := Lib.hid hcc
  have HDP := Lib.hid hDp
  have HKD := Lib.hid hkd
  obtain ⟨c0, c1, c2, c3, c4, c5, c6, c7, c8, c9, c10, c11, c12, c13, c14⟩ := cel15 hcc
  have HLS := Lib.hid hls
  have HW := Lib.hid hW
  have HM := Lib.hid hM
  have HK := Lib.hid hK
  have HN := Lib.hid hn
  have HIH := Lib.hid IH
  clear hcc hls hta htb hxa hxb htr hcel hD hW hM hK hn IH h0 h4 hkd hDp
  go_enter Tryz.func22, Tryz.ntmps22
  go_wp2_with fail
  go_loopg [104, 12] c.l.length (fun g i v wr => ∃ (j m : Nat) (f' : ByteArray → Option Bool) (n' : Nat), j + g = c.l.length ∧ i = .int .i64 (j : Nat) ∧ v = .int .i64 (m : Nat) ∧ Hid (allEv (evC l ps eq k) (c.l.take j) = some m) ∧ Hid (MB wr kb n' f' ∧ KnOk l ps eq G f' ∧ n' ≤ cntK l f') ∧ Hid (Only (fun k => k = kb) w wr) ∧ Hid (New l ps G k f f'))
  case atStart => exact ⟨0, 0, f, n, by omega, rfl, rfl, Lib.hid (by simp [allEv]), Lib.hid ⟨HM.out, HK.out, HN.out⟩, Lib.hid (Only.of_below (Below.refl _ _) _), Lib.hid New.refl⟩
  case round =>
    obtain ⟨j, m, f', n', hj, rfl, rfl, HA, HMK, HO, HNW⟩ := hrel
    rename World => wo
    have hml := allEv_le HA.out
    rw [List.length_take] at hml
    cases gk with
    | zero =>
      have hjj : ¬ ((j : Int) < (c.l.length : Int)) := by omega
      have HE : Hid (evC l ps eq (k + 1) c = some (cntEv c m)) := Lib.hid (by
        have h1 := HA.out
        rw [List.take_of_length_le (by omega)] at h1
        rw [HEV.out, h1]; rfl)
      obtain ⟨d0, d1, d2, d3, d4, d5, d6, d7, d8, d9, d10, d11, d12, d13, d14⟩ := cel15 (HCC.out.only HO.out hab)
      clear c0 c1 c2 c3 c4 c5 c6 c7 c8 c9 c10 c11 c12 c13 c14
      rcases HKD.out with h1 | h1 | h1
      all_goals
        have HCE := Lib.hid (show cntEv c m = _ by unfold cntEv; rw [h1])
        rw [h1] at d1
        clear h1
        obtain ⟨r1, r2, r3⟩ := run_idx4 ((m : Int) == (c.l.length : Int)) (decide (0 < m)) ((m : Int) == 0) wo.drew
        go_wp2_with fail
        go_still_tail 17, (by kernel_rfl)
        go_wp2_with fail
        go_ret
        refine ⟨f', n', HMK.out.1.drew, HMK.out.2.1, HMK.out.2.2, HO.out.drew, HNW.out.mono (Nat.le_succ k), ?_⟩
        rw [HE.out, HCE.out]
        first
          | (simp; done)
          | (simp; omega)
          | (simp [Bool.beq_eq_decide_eq]; try omega)
    | succ g =>
      have hjj : (j : Int) < (c.l.length : Int) := by omega
      have hj0 : (0 : Int) ≤ (j : Int) ∧ (j : Int) < (c.l.length : Int) := by omega
      obtain ⟨p, hp⟩ := get_lt (l := c.l) (i := j) (by omega)
      have hmem := List.mem_of_getElem? hp
      have hDq := HDP.out p hmem
      have hls2 := HLS.out.only HO.out (fun q hq e => HW.out.hS q hq e)
      obtain ⟨ad, cs', rfl, htd, hcd⟩ := hls2.elem Cd.trlen hp
      have hadk : (ad.add (j * 15)).block ≠ kb := by
        rw [block_of_add]
        exact HW.out.hS _ (hls2.blk ad rfl (by omega))
      have HCL := Lib.hid (HIH.out p cs' (ad.add (j * 15)) f' n' wo hDq (HW.out.only HO.out) HMK.out.1 HMK.out.2.1 HMK.out.2.2 htd hcd hadk)
      have HTK : Hid (allEv (evC l ps eq k) (c.l.take (j + 1)) = (evC l ps eq k p).map fun b => m + b.toNat) := Lib.hid (by
        rw [List.take_add_one, hp]
        show allEv _ (_ ++ [p]) = _
        rw [allEv_snoc, HA.out]; rfl)
      have HNO : Hid (evC l ps eq k p = none → evC l ps eq (k + 1) c = none) := Lib.hid (fun h => by rw [HEV.out, allEv_none hmem h]; rfl)
      obtain ⟨d0, d1, d2, d3, d4, d5, d6, d7, d8, d9, d10, d11, d12, d13, d14⟩ := cel15 (HCC.out.only HO.out hab)
      obtain ⟨o, ho⟩ : ∃ o, o = evC l ps eq k p := ⟨_, rfl⟩
      rw [← ho] at HCL HTK HNO
      clear hp hmem hDq hls2 htd hcd ho c0 c1 c2 c3 c4 c5 c6 c7 c8 c9 c10 c11 c12 c13 c14
      go_wp2_with fail
      refine HCL.out.mono ?_
      rintro e w2 hpo
      cases o with
      | none =>
        obtain ⟨f2, n2, g1, g2, g3, g4, g5, rfl⟩ := hpo.panicked
        have HE := Lib.hid (HNO.out rfl)
        have HG := Lib.hid g1
        have HG4 := Lib.hid (HO.out.trans g4 (fun _ _ h => h))
        have HG5 := Lib.hid ((HNW.out.trans g5).mono (Nat.le_succ k))
        clear g1 g4 g5 hpo
        go_wp2_with fail
        exact ⟨rfl, f2, n2, HG.out, g2, g3, HG4.out, HG5.out, by rw [HE.out]⟩
      | some b =>
        obtain ⟨f2, n2, g1, g2, g3, g4, g5, rfl⟩ := hpo.returned
        have HG := Lib.hid (⟨g1, g2, g3⟩ : MB w2 kb n2 f2 ∧ KnOk l ps eq G f2 ∧ n2 ≤ cntK l f2)
        have HG4 := Lib.hid (HO.out.trans g4 (fun _ _ h => h))
        have HG5 := Lib.hid (HNW.out.trans g5)
        clear g1 g2 g3 g4 g5 hpo
        cases b with
        | true =>
          go_wp2_with fail
          go_roundg g
          case measure => omega
          case rel => exact ⟨j + 1, m + 1, f2, n2, by omega, by go_num, by go_num, HTK, HG, HG4, HG5⟩
        | false =>
          go_wp2_with fail
          go_roundg g
          case measure => omega
          case rel => exact ⟨j + 1, m, f2, n2, by omega, by go_num, rfl, HTK, HG, HG4, HG5⟩
end Go.Proofs.YtmljdppdaaoehaaGreatDoor
namespace Go.Proofs.YtmljdppdaaoehaaGreatDoor
open Go.RowKit
set_option linter.unusedVariables false
theorem pa_all {l : List Cd} {ps : List Gv} {eq : Vl → Vl → Bool} {G : Vl → Prop} {S : Nat → Prop} {w0 : World} {A : Option Addr} {ac : Nat} {PA : Option Addr} {pc mb mn ev kb : Nat} (hV : VOk w0) (hE : EqC G eq w0) (k : Nat) : ∀ j, j ≤ k → PaC l ps eq G S w0 A ac PA pc mb mn ev kb j := by
  induction k with
  | zero =>
    intro j hj c cs a f n w hD
    have : j = 0 := by omega
    subst this
    exact hD.elim
  | succ k ih =>
    intro j hj
    rcases Nat.lt_or_ge j (k + 1) with h | h
    · exact ih j (by omega)
    · have : j = k + 1 := by omega
      subst this
      intro c cs a f n w hD hW hM hK hn htr hcel hab
      by_cases h0 : c.kind = 0
      · exact pa_eq hV hE k c cs a f n w hD hW hM hK hn htr hcel hab h0
      · by_cases h4 : c.kind = 4
        · exact pa_name k ih c cs a f n w hD hW hM hK hn htr hcel hab h4
        · exact pa_list k (ih k (Nat.le_refl _)) c cs a f n w hD hW hM hK hn htr hcel hab h0 h4
end Go.Proofs.YtmljdppdaaoehaaGreatDoor
