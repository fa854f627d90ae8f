/- journal.Open: whole. -/
import Derived.Test.YtckofpdhcpabnaaJrOpen
import Derived.RegionTactic
import Derived.ChangeAlike
namespace Go.Proofs.Ytckofpdhcpabnaa
open Go.RowKit
set_option linter.unusedVariables false
set_option linter.unusedSimpArgs false

theorem DStep.box {t t' : TypeId} {B q p : Nat} {r : Option Nat} {s s' : DS} {w W : World} {v : Value} (h : DStep t B q r s' w W) (hk : Dk t B w q r s) (hb : Boxed W p t' v) (ht : t' ≠ 5) (hp : w.heap.size ≤ p) (u : Value) : DStep t B q r s' w (W.setCell ⟨p, 0, none⟩ u) := by
  refine h.cell hk hp (fun r' g hd e => ?_) u
  obtain ⟨A, c, _, ho, rfl⟩ := hd.blk
  intro hg
  subst hg
  exact Ow.ne_blk ho (Blk.boxed hb) ht e
theorem DStep.drew {t : TypeId} {B q : Nat} {r : Option Nat} {s' : DS} {w W : World} (h : DStep t B q r s' w W) : DStep t B q r s' w W.drew := by
  obtain ⟨⟨r', hd, hr⟩, ho⟩ := h
  exact ⟨⟨r', hd.drewN 1, hr⟩, ho.drewN 1⟩
set_option maxRecDepth 100000 in
set_option maxHeartbeats 1000000 in
theorem jopen_any (B : Nat) (w : World) (q : Nat) (r : Option Nat) (s : DS) (h : Dk 52 B w q r s) :
    Calls Try.prog 13 #[.pointer (some ⟨q, 0, none⟩)] w (OpenP B q r s w) := by
  obtain ⟨W1, hW1⟩ : ∃ W1, w.alloc (.cells #[.pointer (some ⟨q, 0, none⟩)] 26) = W1 := ⟨_, rfl⟩
  obtain ⟨W2, hW2⟩ : ∃ W2, W1.alloc (.cells #[.slice none 0 0] 23) = W2 := ⟨_, rfl⟩
  obtain ⟨W3, hW3⟩ : ∃ W3, W2.alloc (.cells #[.int .i64 0] 3) = W3 := ⟨_, rfl⟩
  obtain ⟨W4, hW4⟩ : ∃ W4, W3.alloc (.cells #[.slice none 0 0] 22) = W4 := ⟨_, rfl⟩
  obtain ⟨W5, hW5⟩ : ∃ W5, W4.alloc (.cells #[fnV 34 #[.pointer (some ⟨w.heap.size, 0, none⟩), .pointer (some ⟨w.heap.size + 1 + 1 + 1, 0, none⟩)],
      fnV 35 #[.pointer (some ⟨w.heap.size + 1 + 1 + 1, 0, none⟩), .pointer (some ⟨w.heap.size + 1, 0, none⟩), .pointer (some ⟨w.heap.size + 1 + 1, 0, none⟩), .pointer (some ⟨w.heap.size, 0, none⟩)]] 44) = W5 := ⟨_, rfl⟩
  have s1 : W1.heap.size = w.heap.size + 1 := by rw [← hW1, World.size_alloc]
  have s2 : W2.heap.size = w.heap.size + 1 + 1 := by rw [← hW2, World.size_alloc, s1]
  have s3 : W3.heap.size = w.heap.size + 1 + 1 + 1 := by rw [← hW3, World.size_alloc, s2]
  have s4 : W4.heap.size = w.heap.size + 1 + 1 + 1 + 1 := by rw [← hW4, World.size_alloc, s3]
  have s5 : W5.heap.size = w.heap.size + 1 + 1 + 1 + 1 + 1 := by rw [← hW5, World.size_alloc, s4]
  have b1 : Below w.heap.size w W1 := by rw [← hW1]; exact (Below.refl _ w).alloc (Nat.le_refl _) _
  have b2 : Below w.heap.size w W2 := by rw [← hW2]; exact b1.alloc (by rw [s1]; omega) _
  have b3 : Below w.heap.size w W3 := by rw [← hW3]; exact b2.alloc (by rw [s2]; omega) _
  have b4 : Below w.heap.size w W4 := by rw [← hW4]; exact b3.alloc (by rw [s3]; omega) _
  have bW : Below w.heap.size w W5 := by rw [← hW5]; exact b4.alloc (by rw [s4]; omega) _
  have KEY := Lib.hid (jopen_first B w W5 q r s h bW s5
    (by rw [← hW5, ← hW4, ← hW3, ← hW2, ← hW1]; exact ((((Boxed.new w _ _).alloc _).alloc _).alloc _).alloc _)
    (by rw [← s1, ← hW5, ← hW4, ← hW3, ← hW2]; exact (((Boxed.new W1 _ _).alloc _).alloc _).alloc _)
    (by rw [← s2, ← hW5, ← hW4, ← hW3]; exact ((Boxed.new W2 _ _).alloc _).alloc _)
    (by rw [← s3, ← hW5, ← hW4]; exact (Boxed.new W3 _ _).alloc _)
    (by rw [← s4, ← hW5]; exact Blk.new W4 _ _))
  clear bW b4 b3 b2 b1 s5 s4 s3 s2 s1
  have HK := Lib.hid h
  subst hW1 hW2 hW3 hW4
  rw [← hW5] at KEY
  simp only [fnV] at KEY
  clear hW5 W5 h
  go_enter Try.func13, Try.ntmps13
  go_wp2_with fail
  refine KEY.out.mono ?_
  rintro e w1 ⟨rfl, hS, ⟨v1, v2, hx1, hx2⟩, hg, hbel⟩
  have HBEL := Lib.hid hbel
  have HS := Lib.hid hS
  have HX1 := Lib.hid hx1
  have HX2 := Lib.hid hx2
  have f1 := hx1.frozen
  have f2 := hx2.frozen
  have HG := Lib.hid hg
  obtain ⟨x, hx⟩ : ∃ x, (jOpen s).1 = x := ⟨_, rfl⟩
  rw [hx] at HG ⊢
  have HX := Lib.hid hx
  clear hS hg hx1 hx2 KEY hx hbel
  by_cases h0 : x = 0
  · subst h0
    obtain ⟨A, c, vs, hy1, hy2, hbb⟩ := HG.out rfl
    have c1 := hy1.cell
    have c2 := hy2.cell
    have HY1 := Lib.hid hy1
    have HY2 := Lib.hid hy2
    have HBB := Lib.hid hbb
    clear hy1 hy2 hbb
    go_wp2_with fail
    go_region
    all_goals
      go_wp2_with fail
      have hz1 := HY1.out.set (.slice A (loads s.b).length c)
      have hz2 := HY2.out.kept (grownBy_setCell' w1 (w.heap.size + 1) (.slice A (loads s.b).length c)) (fun e => by injection e with e; omega)
      have hs9 := ((HS.out.box HK.out HY1.out (by decide) (by omega) (.slice A (loads s.b).length c)).box HK.out hz2 (by decide) (by omega) (.int .i64 ((s.b.length : Int) - (szs (loads s.b) : Int)))).drew
      have d1 := (hz1.kept (grownBy_setCell' _ (w.heap.size + 1 + 1) (.int .i64 ((s.b.length : Int) - (szs (loads s.b) : Int)))) (fun e => by injection e with e; omega)).cell
      have d2 := (hz2.set (.int .i64 ((s.b.length : Int) - (szs (loads s.b) : Int)))).cell
      have hbb : BB ((w1.setCell ⟨w.heap.size + 1, 0, none⟩ (.slice A (loads s.b).length c)).setCell ⟨w.heap.size + 1 + 1, 0, none⟩ (.int .i64 ((s.b.length : Int) - (szs (loads s.b) : Int)))).drew w.heap.size A (loads s.b).length c (loads s.b) vs := by
        refine (HBB.out.only (F := fun k => k = w.heap.size + 1 ∨ k = w.heap.size + 1 + 1) ((((Only.refl _ w1).setCell _ _ (fun _ => .inl rfl)).setCell _ _ (fun _ => .inr rfl)).drewN 1) (fun k hk e => by omega)).le (by omega)
      have hbel9 : s.down = false → szs (loads s.b) = s.b.length → Below w.heap.size w ((w1.setCell ⟨w.heap.size + 1, 0, none⟩ (.slice A (loads s.b).length c)).setCell ⟨w.heap.size + 1 + 1, 0, none⟩ (.int .i64 ((s.b.length : Int) - (szs (loads s.b) : Int)))).drew := fun h1 h2 => (((HBEL.out h1 h2).setCell (p := ⟨w.heap.size + 1, 0, none⟩) (by simp) _).setCell (p := ⟨w.heap.size + 1 + 1, 0, none⟩) (by simp; omega) _).drew
      generalize hw9 : ((w1.setCell ⟨w.heap.size + 1, 0, none⟩ (.slice A (loads s.b).length c)).setCell ⟨w.heap.size + 1 + 1, 0, none⟩ (.int .i64 ((s.b.length : Int) - (szs (loads s.b) : Int)))) = w9 at hs9 d1 d2 hbb hbel9 ⊢
      refine bodyPost_ret (v := .tuple #[.slice A (loads s.b).length c, .int .i64 ((s.b.length : Int) - (szs (loads s.b) : Int)), .int .i64 0]) ?_ rfl ⟨hs9, fun e => absurd HX.out e, fun _ => ⟨A, c, vs, rfl, hbb⟩, hbel9⟩
      clear hs9 hz1 hz2 c1 c2 hbb hw9
      simp [results, Try.results13, go_sem, d1, d2]
  · have hne : (x != 0) = true := by simp [h0]
    have H0 := Lib.hid h0
    have c1 := HX1.out.cell
    have c2 := HX2.out.cell
    clear h0
    go_wp2_with fail
    have hz1 := HX1.out.set (.slice none 0 0)
    have hz2 := HX2.out.kept (grownBy_setCell' w1 (w.heap.size + 1) (.slice none 0 0)) (fun e => by injection e with e; omega)
    have hs9 := (HS.out.box HK.out HX1.out (by decide) (by omega) (.slice none 0 0)).box HK.out hz2 (by decide) (by omega) (.int .i64 0)
    have d1 := (hz1.kept (grownBy_setCell' _ (w.heap.size + 1 + 1) (.int .i64 0)) (fun e => by injection e with e; omega)).cell
    have d2 := (hz2.set (.int .i64 0)).cell
    have hbel9 : s.down = false → szs (loads s.b) = s.b.length → Below w.heap.size w ((w1.setCell ⟨w.heap.size + 1, 0, none⟩ (.slice none 0 0)).setCell ⟨w.heap.size + 1 + 1, 0, none⟩ (.int .i64 0)) := fun h1 h2 => ((HBEL.out h1 h2).setCell (p := ⟨w.heap.size + 1, 0, none⟩) (by simp) _).setCell (p := ⟨w.heap.size + 1 + 1, 0, none⟩) (by simp; omega) _
    generalize ((w1.setCell ⟨w.heap.size + 1, 0, none⟩ (.slice none 0 0)).setCell ⟨w.heap.size + 1 + 1, 0, none⟩ (.int .i64 0)) = w9 at hs9 d1 d2 hbel9 ⊢
    refine bodyPost_ret (v := .tuple #[.slice none 0 0, .int .i64 0, .int .i64 x]) ?_ rfl ⟨hs9, fun _ => by rw [HX.out], fun e => absurd (HX.out ▸ e) H0.out, hbel9⟩
    clear hs9 hz1 hz2 c1 c2
    simp [results, Try.results13, go_sem, d1, d2]
theorem jopen_nil (w : World) : Calls Try.prog 13 #[.pointer none] w (fun e w' => e = .returned (.tuple #[.slice none 0 0, .int .i64 0, .int .i64 1]) ∧ Below w.heap.size w w') := by
  obtain ⟨W1, hW1⟩ : ∃ W1, w.alloc (.cells #[.pointer none] 26) = W1 := ⟨_, rfl⟩
  obtain ⟨W2, hW2⟩ : ∃ W2, W1.alloc (.cells #[.slice none 0 0] 23) = W2 := ⟨_, rfl⟩
  obtain ⟨W3, hW3⟩ : ∃ W3, W2.alloc (.cells #[.int .i64 0] 3) = W3 := ⟨_, rfl⟩
  obtain ⟨W4, hW4⟩ : ∃ W4, W3.alloc (.cells #[.slice none 0 0] 22) = W4 := ⟨_, rfl⟩
  obtain ⟨W5, hW5⟩ : ∃ W5, W4.alloc (.cells #[fnV 34 #[.pointer (some ⟨w.heap.size, 0, none⟩), .pointer (some ⟨w.heap.size + 1 + 1 + 1, 0, none⟩)],
      fnV 35 #[.pointer (some ⟨w.heap.size + 1 + 1 + 1, 0, none⟩), .pointer (some ⟨w.heap.size + 1, 0, none⟩), .pointer (some ⟨w.heap.size + 1 + 1, 0, none⟩), .pointer (some ⟨w.heap.size, 0, none⟩)]] 44) = W5 := ⟨_, rfl⟩
  have s1 : W1.heap.size = w.heap.size + 1 := by rw [← hW1, World.size_alloc]
  have s2 : W2.heap.size = w.heap.size + 1 + 1 := by rw [← hW2, World.size_alloc, s1]
  have s3 : W3.heap.size = w.heap.size + 1 + 1 + 1 := by rw [← hW3, World.size_alloc, s2]
  have s4 : W4.heap.size = w.heap.size + 1 + 1 + 1 + 1 := by rw [← hW4, World.size_alloc, s3]
  have s5 : W5.heap.size = w.heap.size + 1 + 1 + 1 + 1 + 1 := by rw [← hW5, World.size_alloc, s4]
  have b1 : Below w.heap.size w W1 := by rw [← hW1]; exact (Below.refl _ w).alloc (Nat.le_refl _) _
  have b2 : Below w.heap.size w W2 := by rw [← hW2]; exact b1.alloc (by rw [s1]; omega) _
  have b3 : Below w.heap.size w W3 := by rw [← hW3]; exact b2.alloc (by rw [s2]; omega) _
  have b4 : Below w.heap.size w W4 := by rw [← hW4]; exact b3.alloc (by rw [s3]; omega) _
  have bW : Below w.heap.size w W5 := by rw [← hW5]; exact b4.alloc (by rw [s4]; omega) _
  have hpd : Boxed W5 w.heap.size 26 (.pointer none) := by rw [← hW5, ← hW4, ← hW3, ← hW2, ← hW1]; exact ((((Boxed.new w _ _).alloc _).alloc _).alloc _).alloc _
  have hpr : Boxed W5 (w.heap.size + 1) 23 (.slice none 0 0) := by rw [← s1, ← hW5, ← hW4, ← hW3, ← hW2]; exact (((Boxed.new W1 _ _).alloc _).alloc _).alloc _
  have hpt : Boxed W5 (w.heap.size + 1 + 1) 3 (.int .i64 0) := by rw [← s2, ← hW5, ← hW4, ← hW3]; exact ((Boxed.new W2 _ _).alloc _).alloc _
  have hpb : Boxed W5 (w.heap.size + 1 + 1 + 1) 22 (.slice none 0 0) := by rw [← s3, ← hW5, ← hW4]; exact (Boxed.new W3 _ _).alloc _
  have hfb : Blk W5 (w.heap.size + 1 + 1 + 1 + 1) #[fnV 34 #[.pointer (some ⟨w.heap.size, 0, none⟩), .pointer (some ⟨w.heap.size + 1 + 1 + 1, 0, none⟩)],
      fnV 35 #[.pointer (some ⟨w.heap.size + 1 + 1 + 1, 0, none⟩), .pointer (some ⟨w.heap.size + 1, 0, none⟩), .pointer (some ⟨w.heap.size + 1 + 1, 0, none⟩), .pointer (some ⟨w.heap.size, 0, none⟩)]] 44 := by
    rw [← s4, ← hW5]; exact Blk.new W4 _ _
  have KEY := Lib.hid (first2 W5 _ 34 35 _ _ (fun e W' => e = .returned (.int .i64 1) ∧ Below w.heap.size w W' ∧ Boxed W' (w.heap.size + 1) 23 (.slice none 0 0) ∧ Boxed W' (w.heap.size + 1 + 1) 3 (.int .i64 0)) hfb ent34j ent35j
    ((jopen1_nil W5 _ _ _ hpd hpb).mono fun e W' hA => by
      obtain ⟨rfl, ho⟩ := hA
      exact ⟨1, rfl, .inl ⟨by decide, rfl, bW.trans (ho.below (by omega) (fun i e => by omega)), boxOnly hpr ho (by omega), boxOnly hpt ho (by omega)⟩⟩))
  clear hpd hpr hpt hpb hfb bW b4 b3 b2 b1 s5 s4 s3 s2 s1
  subst hW1 hW2 hW3 hW4
  rw [← hW5] at KEY
  simp only [fnV] at KEY
  clear hW5 W5
  go_enter Try.func13, Try.ntmps13
  go_wp2_with fail
  refine KEY.out.mono ?_
  rintro e w1 ⟨rfl, hb, hx1, hx2⟩
  have HB := Lib.hid hb
  have HX1 := Lib.hid hx1
  have HX2 := Lib.hid hx2
  have f1 := hx1.frozen
  have f2 := hx2.frozen
  have c1 := hx1.cell
  have c2 := hx2.cell
  clear hb hx1 hx2 KEY
  go_wp2_with fail
  have hz1 := HX1.out.set (.slice none 0 0)
  have hz2 := HX2.out.kept (grownBy_setCell' w1 (w.heap.size + 1) (.slice none 0 0)) (fun e => by injection e with e; omega)
  have hs9 := (HB.out.setCell (p := ⟨w.heap.size + 1, 0, none⟩) (by simp) (.slice none 0 0)).setCell (p := ⟨w.heap.size + 1 + 1, 0, none⟩) (by simp; omega) (.int .i64 0)
  have d1 := (hz1.kept (grownBy_setCell' _ (w.heap.size + 1 + 1) (.int .i64 0)) (fun e => by injection e with e; omega)).cell
  have d2 := (hz2.set (.int .i64 0)).cell
  generalize ((w1.setCell ⟨w.heap.size + 1, 0, none⟩ (.slice none 0 0)).setCell ⟨w.heap.size + 1 + 1, 0, none⟩ (.int .i64 0)) = w9 at hs9 d1 d2 ⊢
  refine bodyPost_ret (v := .tuple #[.slice none 0 0, .int .i64 0, .int .i64 1]) ?_ rfl ⟨rfl, hs9⟩
  clear hs9 hz1 hz2 c1 c2
  simp [results, Try.results13, go_sem, d1, d2]
end Go.Proofs.Ytckofpdhcpabnaa
