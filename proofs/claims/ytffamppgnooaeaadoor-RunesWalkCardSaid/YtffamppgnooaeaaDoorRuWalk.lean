/- The law RunesWalk. -/
import Derived.Test.YtffamppgnooaeaaDoorRuAll
import Derived.Test.YtffamppgnooaeaaDoorRuOneA
import Derived.Test.YtffamppgnooaeaaDoorRuWakes
import Derived.Test.YtffamppgnooaeaaDoorQuietR
import Derived.Shelf.RegionOpen
namespace Go.Proofs.YtffamppgnooaeaaDoor
open Go.RowKit Go.Lib
attribute [local go_sem] Oper.semAt_some
set_option linter.unusedVariables false
set_option linter.unusedSimpArgs false

/-- between two rounds: what lay ahead of the boxes of at and n (in the world V) lies -/
structure WkI (V : World) (l : List UInt8) (pre : List Rn) (W : World) : Prop where
  bel : Below V.heap.size V W
  pos : Boxed W V.heap.size 3 (.int .i64 (endR pre : Nat))
  n : Boxed W (V.heap.size + 1) 3 (.int .i64 (pre.length : Nat))
  val : validD l = validD (l.drop (endR pre))
  len : pre.length ≤ endR pre
/-- a round has left by a return of true -/
structure WkX (w : World) (c : Code) (W : World) : Prop where
  jump : c = .ret
  res : Boxed W (w.heap.size + 1 + 1) 4 (.bool true)
  bel : Below w.heap.size w W
theorem wkI_own (V : World) (l : List UInt8) (B : Nat) (hB : V.heap.size ≤ B) : OwnFrom B (WkI V l) := by
  intro pre W W' row h hg hr
  have hr' : ∀ r, row = some r → ∃ o : Obj, W.heap[r]? = some o ∧ o.isCells = false := fun r e => (hr r e).2
  exact ⟨h.bel.grown hg h.bel.size (fun k e => by have := (hr k e).1; omega), boxed_kept h.pos hg hr', boxed_kept h.n hg hr', h.val, h.len⟩
theorem wkX_own (w : World) (B : Nat) (hB : w.heap.size ≤ B) (c : Code) : OwnFrom B (fun (_ : List Rn) W => WkX w c W) := by
  intro pre W W' row h hg hr
  exact ⟨h.jump, boxed_kept h.res hg (fun r e => (hr r e).2), h.bel.grown hg h.bel.size (fun k e => by have := (hr k e).1; omega)⟩
/-- the world behind a round -/
def wkW (W : World) (b : Nat) (p q : Int) : World := (W.setCell ⟨b, 0, none⟩ (.int .i64 p)).setCell ⟨b + 1, 0, none⟩ (.int .i64 q)
theorem wk_step {V W : World} {l : List UInt8} {pre : List Rn} {y : Rn} {p q : Int} (h : WkI V l pre W) (hv : RnV l pre y) (hp : p = (endR (pre ++ [y]) : Nat)) (hq : q = ((pre ++ [y]).length : Nat)) (B : Nat) :
    KeepsFrom B W (wkW W V.heap.size p q) ∧ Keeps (· < V.heap.size) W (wkW W V.heap.size p q) ∧ WkI V l (pre ++ [y]) (wkW W V.heap.size p q) := by
  have hb : Below V.heap.size W (wkW W V.heap.size p q) := ((Below.refl V.heap.size W).setCell (p := ⟨V.heap.size, 0, none⟩) (Nat.le_refl _) _).setCell (p := ⟨V.heap.size + 1, 0, none⟩) (Nat.le_succ _) _
  have k1 := grownBy_setCell' W V.heap.size (.int .i64 p)
  have k2 := grownBy_setCell' (W.setCell ⟨V.heap.size, 0, none⟩ (.int .i64 p)) (V.heap.size + 1) (.int .i64 q)
  refine ⟨((KeepsOthers.setCell W _ _).trans (KeepsOthers.setCell _ _ _)).from B, ⟨hb.os, hb.tape, hb.output, hb.size, fun k hk => hb.block k hk⟩, h.bel.trans hb, ?_, ?_, ?_, ?_⟩
  · subst hp
    exact (h.pos.set (.int .i64 (endR (pre ++ [y]) : Nat))).kept k2 (by simp)
  · subst hq
    exact (Boxed.kept (W := W) h.n k1 (by simp)).set (.int .i64 ((pre ++ [y]).length : Nat))
  · rw [h.val, endR_snoc, ← hv.pos]
    have h1 : 1 ≤ (oneL (l.drop y.pos)).2 := by rw [hv.one]; exact hv.n1
    have h2 : (l.drop y.pos).drop (oneL (l.drop y.pos)).2 = l.drop (y.pos + y.n) := by rw [List.drop_drop, hv.one]
    rcases hd : validD (l.drop (y.pos + y.n)) with _ | _
    · rcases hd2 : validD (l.drop y.pos) with _ | _
      · rfl
      · have hne : l.drop y.pos ≠ [] := by intro e; rw [e] at h1; simp [oneL, oneN] at h1
        have := (valid_head hne hd2).2
        rw [h2, hd] at this
        exact this.symm
    · exact valid_of_one h1 (by rw [h2]; exact hd)
  · rw [endR_snoc, List.length_append, List.length_singleton]
    have := h.len
    have := hv.n1
    omega
set_option maxRecDepth 100000 in
set_option maxHeartbeats 8000000 in
theorem runesWalk_walk (w : World) (hv : Vars w) (s : ByteArray) (hs : s.size ≤ 9223372036854775807) (x : Int) (hx1 : -9223372036854775808 ≤ x) (hx2 : x ≤ 9223372036854775807) :
    Calls Tryd.prog 6 #[.string s, .int .i64 x] w (Yes w) := by
  obtain ⟨W1, hW1⟩ : ∃ W1, w.alloc (.cells #[.string s] 9) = W1 := ⟨_, rfl⟩
  obtain ⟨W2, hW2⟩ : ∃ W2, W1.alloc (.cells #[.int .i64 x] 3) = W2 := ⟨_, rfl⟩
  obtain ⟨W3, hW3⟩ : ∃ W3, W2.alloc (.cells #[.bool false] 4) = W3 := ⟨_, rfl⟩
  obtain ⟨V, hV⟩ : ∃ V, W3.alloc (.cells #[.string s] 9) = V := ⟨_, rfl⟩
  have s1 : W1.heap.size = w.heap.size + 1 := by rw [← hW1, World.size_alloc]
  have s2 : W2.heap.size = w.heap.size + 1 + 1 := by rw [← hW2, World.size_alloc, s1]
  have s3 : W3.heap.size = w.heap.size + 1 + 1 + 1 := by rw [← hW3, World.size_alloc, s2]
  have s4 : V.heap.size = w.heap.size + 1 + 1 + 1 + 1 := by rw [← hV, World.size_alloc, s3]
  have b1 : Below w.heap.size w W1 := by rw [← hW1]; exact (Below.refl _ w).alloc (Nat.le_refl _) _
  have b2 : Below w.heap.size w W2 := by rw [← hW2]; exact b1.alloc (by omega) _
  have b3 : Below w.heap.size w W3 := by rw [← hW3]; exact b2.alloc (by omega) _
  have b4 : Below w.heap.size w V := by rw [← hV]; exact b3.alloc (by omega) _
  have X0 : Boxed V w.heap.size 9 (.string s) := by rw [← hV, ← hW3, ← hW2, ← hW1]; exact (((Boxed.new w _ _).alloc _).alloc _).alloc _
  have X1 : Boxed V (w.heap.size + 1) 3 (.int .i64 x) := by rw [← s1, ← hV, ← hW3, ← hW2]; exact ((Boxed.new W1 _ _).alloc _).alloc _
  have X2 : Boxed V (w.heap.size + 1 + 1) 4 (.bool false) := by rw [← s2, ← hV, ← hW3]; exact (Boxed.new W2 _ _).alloc _
  have X3 : Boxed V (w.heap.size + 1 + 1 + 1) 9 (.string s) := by rw [← s3, ← hV]; exact Boxed.new W3 _ _
  have Y2 : Boxed W3 (w.heap.size + 1 + 1) 4 (.bool false) := by rw [← s2, ← hW3]; exact Boxed.new W2 _ _
  have HX0 := Lib.hid X0
  have HX1 := Lib.hid X1
  have HX2 := Lib.hid X2
  have HX3 := Lib.hid X3
  have HY2 := Lib.hid Y2
  have HB3 := Lib.hid b3
  have HBV := Lib.hid b4
  have HS3 := Lib.hid s3
  have HSV := Lib.hid s4
  have HVR := Lib.hid hv
  have HWW3 := Lib.hid (show (((w.alloc (.cells #[.string s] 9)).alloc (.cells #[.int .i64 x] 3)).alloc (.cells #[.bool false] 4)) = W3 by rw [hW1, hW2, hW3])
  have HWV := Lib.hid hV
  clear X0 X1 X2 X3 Y2 b1 b2 b3 b4 s1 s2 s3 s4 hW1 hW2 hW3 hV W1 W2 hv
  refine (callsIn_wide (n := 3)).1 ?_
  refine callsIn_of_wp_marks Tryd.func6 rfl trivial ?_
  simp only [Tryd.ntmps6, List.size_toArray, List.length_cons, List.length_nil, Nat.reduceAdd, Nat.reduceSub, Array.replicate_succ, Array.replicate_zero, List.push_toArray, List.append_toArray, List.nil_append, List.cons_append]
  by_cases hbig : 2000 < s.size
  · gi_wp2_with fail
    rw [HWW3.out]
    refine ⟨trivial, (callsIn_wide.2 (wakes_any W3 (HVR.out.below HB3.out))).mono ?_⟩
    rintro e w1 ⟨rfl, HB⟩
    have y1 : Boxed w1 (w.heap.size + 1 + 1) 4 (.bool false) := boxBel HY2.out HB
    have hc1 := y1.cell
    have hf1 := y1.frozen
    have HY := Lib.hid y1
    have HB1 := Lib.hid (HB3.out.trans (HB.mono HB3.out.size))
    clear HB y1
    gi_wp2
    have q1 := (HY.out.set (.bool true)).cell
    refine ⟨.bool true, ?_, rfl, HB1.out.setCell (p := ⟨w.heap.size + 1 + 1, 0, none⟩) (by show w.heap.size ≤ w.heap.size + 1 + 1; omega) _⟩
    clear hc1 hf1
    generalize w1.setCell ⟨w.heap.size + 1 + 1, 0, none⟩ (.bool true) = W at q1 ⊢
    simp [results, Tryd.results6, go_sem, q1]
  have hsz : s.size ≤ 2000 := by omega
  clear hbig hs
  gi_wp2_with fail
  rw [HWW3.out]
  refine ⟨trivial, (callsIn_wide.2 (all_any s W3)).mono ?_⟩
  rintro e w' ⟨rfl, rfl⟩
  rw [HWV.out, HS3.out]
  have hq := fun W => run_eql_func_nil (P := Tryd.prog) W Tryd.underlying32 (.func 22) #[] #[.pointer (some ⟨w.heap.size + 1 + 1 + 1, 0, none⟩)]
  gi_wp2_with fail
  clear hq
  obtain ⟨W0, hW0⟩ : ∃ W0, (V.alloc (.cells #[.int .i64 0] 3)).alloc (.cells #[.int .i64 0] 3) = W0 := ⟨_, rfl⟩
  have a1 : Boxed W0 V.heap.size 3 (.int .i64 0) := by rw [← hW0]; exact (Boxed.new V _ _).alloc _
  have a2 : Boxed W0 (V.heap.size + 1) 3 (.int .i64 0) := by
    rw [← hW0]; have := Boxed.new (V.alloc (.cells #[.int .i64 0] 3)) 3 (.int .i64 0); rwa [World.size_alloc] at this
  have hz0 : W0.heap.size = V.heap.size + 2 := by rw [← hW0]; simp
  have hB0 : Below V.heap.size V W0 := by rw [← hW0]; exact ((Below.refl _ V).alloc (Nat.le_refl _) _).alloc (by simp) _
  have hi0 : WkI V s.data.toList [] W0 := ⟨hB0, a1, a2, rfl, Nat.le_refl _⟩
  rw [hW0]
  have HI0 := Lib.hid hi0
  have HZ0 := Lib.hid hz0
  have HB0 := Lib.hid hB0
  have HSZ := Lib.hid (Lib.size_eq s)
  have hbel0 : Below w.heap.size w W0 := HBV.out.trans (hB0.mono HBV.out.size)
  have HBEL0 := Lib.hid hbel0
  have HSW := Lib.hid hbel0.size
  clear hW0 a1 a2 hz0 hB0 hi0
  refine wpIn_range (gf := 22) (lb := #[.pointer (some ⟨w.heap.size + 1 + 1 + 1, 0, none⟩)]) rfl (enters_of Tryd.func22 (by kernel_rfl) rfl)
    (all_iter (w.heap.size + 1 + 1 + 1) s hsz W0 V.heap.size HB0.out.size (boxBel HX3.out HB0.out) (by rw [HSV.out]; omega) w HBV.out.size hbel0 HVR.out.u8)
    (fun q hq => by rw [HZ0.out]; omega) (Below.refl _ _) (fun _ => rfl) (fun _ _ _ _ h _ _ => h) (WkI V s.data.toList) (fun ch _ W => WkX w ch W) (wkI_own V _ _ HB0.out.size) (fun ch => wkX_own w _ hbel0.size ch)
    HI0.out
    (fun y => { tmps := #[.string s, .int .i64 x, .pointer (some ⟨w.heap.size, 0, none⟩), .pointer (some ⟨w.heap.size + 1, 0, none⟩), .pointer (some ⟨w.heap.size + 1 + 1, 0, none⟩), .func (.func 22) #[] #[.pointer (some ⟨w.heap.size + 1 + 1 + 1, 0, none⟩)], .pointer (some ⟨V.heap.size, 0, none⟩), .pointer (some ⟨V.heap.size + 1, 0, none⟩), .int .i64 y.pos, .int .i64 y.r, undef, undef, undef, undef, .string s, .int .i64 s.size, .bool (decide (2000 < (s.size : Int))), undef, .string s, .func (.func 22) #[] #[.pointer (some ⟨w.heap.size + 1 + 1 + 1, 0, none⟩)], .func (.func 22) #[] #[.pointer (some ⟨w.heap.size + 1 + 1 + 1, 0, none⟩)], .bool false, .func (.func 22) #[] #[.pointer (some ⟨w.heap.size + 1 + 1 + 1, 0, none⟩)], .int .i64 y.pos, .int .i64 y.r, undef, undef, undef, undef, undef, undef, undef, undef, undef, undef, undef, undef, undef, undef, undef, undef, undef, undef, undef, undef, undef, undef, undef, undef, undef, undef, undef, undef, undef, undef, undef, undef, undef, undef, undef, undef, undef, undef, undef, undef, undef, undef, undef, undef, undef, undef, undef], defers := [] }) ?assign ?body ?done ?stop
  case assign =>
    intro lp y W K hK
    dsimp only [Rn.enc]
    gi_wp2
    exact hK
  case stop =>
    rintro D ch pre W hD _ hx hK
    obtain rfl := hx.jump
    have hr2 := hx.res.kept (grownBy_putObj' W D (.deferred none)) (by have h1 := HZ0.out; have h2 := HSV.out; simp; omega)
    have q1 := hr2.cell
    have hb2 := hx.bel.grown (grownBy_putObj' W D (.deferred none)) hx.bel.size (fun k e => by cases e; have := HBEL0.out.size; omega)
    clear hbel0
    gi_wp2
    refine ⟨by simp, .inl ⟨_, _, rfl, run_takeDeferred hK, ?_⟩⟩
    refine ⟨.bool true, ?_, rfl, hb2⟩
    clear hr2 hb2
    generalize W.putObj D (.deferred none) = W9 at q1 ⊢
    simp [results, Tryd.results6, go_sem, q1]
  case body =>
    rintro lp pre y W hi hv hle
    clear hbel0
    have hV := HSV.out
    have wx : Boxed W w.heap.size 9 (.string s) := (hi.bel.block _ (by omega)).trans HX0.out
    have wl : Boxed W (w.heap.size + 1) 3 (.int .i64 x) := (hi.bel.block _ (by omega)).trans HX1.out
    have wr' : Boxed W (w.heap.size + 1 + 1) 4 (.bool false) := (hi.bel.block _ (by omega)).trans HX2.out
    have hc0 := wx.cell
    have hc1 := wl.cell
    have hc2 := wr'.cell
    have hf2 := wr'.frozen
    have hc3 := hi.pos.cell
    have hf3 := hi.pos.frozen
    have hc4 := hi.n.cell
    have hf4 := hi.n.frozen
    obtain ⟨z, hz⟩ : ∃ z, endR pre = z := ⟨_, rfl⟩
    have hpos : y.pos = z := by rw [hv.pos, hz]
    have hle2 : z + y.n ≤ s.size := by have := hv.le; have := HSZ.out; omega
    have hn1 := hv.n1
    have hpl : pre.length ≤ 2000 := by have := hi.len; omega
    have hy0 : ((y.n : Int) == 0) = false := by simp; omega
    have HONE := Lib.hid (one_any s z (by omega) (by omega) W)
    have HOR := Lib.hid (show oneL (s.data.toList.drop z) = (y.r, y.n) by rw [← hpos]; exact hv.one)
    have HI := Lib.hid hi
    have HV := Lib.hid hv
    have HZ := Lib.hid hz
    rw [hz] at hc3
    rw [hpos]
    obtain ⟨yr, hyr⟩ : ∃ yr, y.r = yr := ⟨_, rfl⟩
    obtain ⟨yn, hyn⟩ : ∃ yn, y.n = yn := ⟨_, rfl⟩
    have HYN := Lib.hid hyn
    rw [hyr, hyn] at HOR
    rw [hyn] at hle2 hn1 hy0
    rw [hyr]
    have HPE := Lib.hid (show ((z : Int) + (yn : Int)) = (endR (pre ++ [y]) : Nat) by rw [endR_snoc, hz, hyn]; omega)
    clear hi hv hz hpos hyr hyn wx wl wr' hV
    gi_wp2_with fail
    refine ⟨trivial, (CallsIn.inRound lp (callsIn_wide.2 HONE.out)).mono ?_⟩
    rintro e w4 ⟨rfl, rfl⟩
    rw [HOR.out]
    simp only
    clear HONE
    have hne : V.heap.size ≠ w.heap.size := by have := HSV.out; omega
    have hne1 : V.heap.size ≠ w.heap.size + 1 := by have := HSV.out; omega
    have hne2 : V.heap.size ≠ w.heap.size + 1 + 1 := by have := HSV.out; omega
    have hne3 : V.heap.size + 1 ≠ w.heap.size := by have := HSV.out; omega
    have hne4 : V.heap.size + 1 ≠ w.heap.size + 1 := by have := HSV.out; omega
    have hne5 : V.heap.size + 1 ≠ w.heap.size + 1 + 1 := by have := HSV.out; omega
    by_cases hst : (pre.length : Int) + 1 = x
    · have hq : ((pre.length : Int) + 1 == x) = true := by simp [hst]
      clear hst
      have HST := Lib.hid hq
      gi_wp2_with fail
      obtain ⟨k1, -, k3⟩ := wk_step HI.out HV.out HPE.out (q := (pre.length : Int) + 1) (by simp) W0.heap.size
      have hb5 : Below w.heap.size w (wkW w4 V.heap.size ((z : Int) + (yn : Int)) ((pre.length : Int) + 1)) := HBV.out.trans (k3.bel.mono HBV.out.size)
      refine ⟨trivial, (CallsIn.inRound lp (callsIn_wide.2 (wakes_any _ (HVR.out.below hb5)))).mono ?_⟩
      rintro e w6 ⟨rfl, HB6⟩
      have hS : Below (wkW w4 V.heap.size ((z : Int) + (yn : Int)) ((pre.length : Int) + 1)).heap.size (wkW w4 V.heap.size ((z : Int) + (yn : Int)) ((pre.length : Int) + 1)) w6 := HB6
      have y1 : Boxed w6 (w.heap.size + 1 + 1) 4 (.bool false) := (hS.block _ (Nat.lt_of_lt_of_le (by have := HSV.out; omega) k3.bel.size)).trans ((k3.bel.block _ (by have := HSV.out; omega)).trans HX2.out)
      have kf : KeepsFrom W0.heap.size w4 w6 := ⟨Nat.le_trans k1.size hS.size, fun k o hk h1 h2 => by
        have h3 := k1.same k o hk h1 h2
        exact (hS.block k (Array.getElem?_eq_some_iff.1 h3).1).trans h3⟩
      have hb6 : Below w.heap.size w w6 := hb5.trans (hS.mono hb5.size)
      clear hc0 hc1 hc2 hf2 hc3 hf3 hc4 hf4
      have hc2 := y1.cell
      have hf2 := y1.frozen
      have HKF := Lib.hid kf
      have HY1 := Lib.hid y1
      have HB7 := Lib.hid hb6
      clear k1 k3 hS y1 kf hb6 HB6 hb5
      gi_wp2
      exact ⟨⟨by simpa using HKF.out.size, fun k o hk h1 h2 => (KeepsOthers.setCell w6 _ _).same k o (HKF.out.same k o hk h1 h2) h2⟩, rfl, HY1.out.set _, HB7.out.setCell (p := ⟨w.heap.size + 1 + 1, 0, none⟩) (by show w.heap.size ≤ w.heap.size + 1 + 1; omega) _⟩
    · have hq : ((pre.length : Int) + 1 == x) = false := by simp [hst]
      clear hst
      gi_wp2_with fail
      obtain ⟨k1, k2, k3⟩ := wk_step HI.out HV.out HPE.out (q := (pre.length : Int) + 1) (by simp) W0.heap.size
      exact ⟨k1, k2, k3⟩
  case done =>
    rintro D xs W hD hS hi hK
    clear hbel0
    have hV := HSV.out
    have wx : Boxed W w.heap.size 9 (.string s) := (hi.bel.block _ (by omega)).trans HX0.out
    have wr' : Boxed W (w.heap.size + 1 + 1) 4 (.bool false) := (hi.bel.block _ (by omega)).trans HX2.out
    have hbW : Below w.heap.size w W := HBV.out.trans (hi.bel.mono HBV.out.size)
    have hc0 := wx.cell
    have hc2 := wr'.cell
    have hf2 := wr'.frozen
    have hc3 := hi.pos.cell
    obtain ⟨z, hz⟩ : ∃ z, endR xs = z := ⟨_, rfl⟩
    have hval := hi.val
    rw [hz] at hc3 hS hval
    have hzs := hS.1
    have HONE := Lib.hid (one_any s z hS.1 (by omega) W)
    obtain ⟨r1, hor⟩ : ∃ r1, oneL (s.data.toList.drop z) = (r1, 0) := ⟨_, Prod.ext rfl hS.2⟩
    have HOR := Lib.hid hor
    obtain ⟨vb, hvb1, hvb2⟩ : ∃ vb : Bool, validD s.data.toList = vb ∧ ((z : Int) == (s.size : Int)) = vb := by
      by_cases hzz : z = s.size
      · exact ⟨true, by rw [hval, List.drop_of_length_le (by have := HSZ.out; omega)]; rfl, by simp [hzz]⟩
      · refine ⟨false, ?_, by simp; omega⟩
        rw [hval]
        rcases hd : validD (s.data.toList.drop z) with _ | _
        · rfl
        · have := (valid_head (drop_ne (by have := HSZ.out; omega)) hd).1
          rw [hor] at this
          simp at this
    have HVB := Lib.hid hvb1
    have HBW := Lib.hid hbW
    have HWR := Lib.hid wr'
    have HWX := Lib.hid wx
    have HPOS := Lib.hid (show Boxed W V.heap.size 3 (.int .i64 z) by rw [← hz]; exact hi.pos)
    have HKD := Lib.hid hK
    clear hi hS hz hval wx wr' hbW hvb1 hor hK hV
    gi_wp2_with fail
    refine ⟨trivial, (callsIn_wide.2 HONE.out).mono ?_⟩
    rintro e w4 ⟨rfl, rfl⟩
    rw [HOR.out]
    simp only
    clear HONE
    gi_wp2_with fail
    have hmix : Tryd.prog.follows .mixedOrders = true := by kernel_rfl
    have HMIX := Lib.hid hmix
    have HWXd := Lib.hid (show Boxed w4.drew w.heap.size 9 (.string s) from HWX.out)
    have HWRd := Lib.hid (show Boxed w4.drew (w.heap.size + 1 + 1) 4 (.bool false) from HWR.out)
    have HPOSd := Lib.hid (show Boxed w4.drew V.heap.size 3 (.int .i64 z) from HPOS.out)
    have HKDd := Lib.hid (show w4.drew.heap[D]? = some (.deferred (some [])) from HKD.out)
    rename_i K0 hK0
    refine wpIn_mono (show Code.wpIn _ _ _ _ (Exit.then K0 (fun _ _ _ => False)) _ _ from ?_) (by
      intro e a w' h
      cases e with
      | normal => exact h
      | _ => exact h.elim)
    gi_region_with_o (first
      | (refine ⟨trivial, (callsIn_wide.2 (rvalid_any s _ (by omega) (HVR.out.below HBW.out.drew).u8)).mono ?_⟩
         rintro e w5 ⟨rfl, hb5⟩
         rw [HVB.out]
         have hd0 := (boxBel HWXd.out hb5).cell
         have hd2 := (boxBel HWRd.out hb5).cell
         have hg2 := (boxBel HWRd.out hb5).frozen
         have hd3 := (boxBel HPOSd.out hb5).cell
         have HWR5 := Lib.hid (boxBel HWRd.out hb5)
         have HB5 := Lib.hid (HBW.out.drew.trans (hb5.mono HBW.out.drew.size))
         have HKD5 := Lib.hid ((hb5.block D (Array.getElem?_eq_some_iff.1 HKDd.out).1).trans HKDd.out)
         clear hb5)
      | (refine ⟨trivial, (callsIn_wide.2 (wakes_any _ (HVR.out.below HB5.out))).mono ?_⟩
         rintro e w6 ⟨rfl, hb6⟩
         have he2 := (boxBel HWR5.out hb6).cell
         have hh2 := (boxBel HWR5.out hb6).frozen
         have HWR6 := Lib.hid (boxBel HWR5.out hb6)
         have HB6 := Lib.hid (HB5.out.trans (hb6.mono HB5.out.size))
         have HKD6 := Lib.hid ((hb6.block D (Array.getElem?_eq_some_iff.1 HKD5.out).1).trans HKD5.out)
         clear hb6)
      | fail)
    all_goals
      refine hK0 _ _ ?_
      clear hc0 hc2 hf2 hc3 hd0 hd2 hg2 hd3 he2 hh2
      have HY := Lib.hid ((HWR6.out.set (.bool true)).kept (grownBy_putObj' _ D (.deferred none)) (by have h1 := HZ0.out; have h3 := HSV.out; simp; omega))
      have HK7 := Lib.hid (show (w6.setCell ⟨w.heap.size + 1 + 1, 0, none⟩ (.bool true)).heap[D]? = some (.deferred (some [])) from (KeepsOthers.setCell w6 _ _).same D _ HKD6.out rfl)
      have HB7 := Lib.hid (HB6.out.setCell (p := ⟨w.heap.size + 1 + 1, 0, none⟩) (by show w.heap.size ≤ w.heap.size + 1 + 1; omega) (.bool true))
      gi_wp2
      refine ⟨by simp, .inl ⟨_, _, rfl, run_takeDeferred HK7.out, ?_⟩⟩
      have q1 := HY.out.cell
      refine ⟨.bool true, ?_, rfl, HB7.out.grown (grownBy_putObj' _ D (.deferred none)) HB7.out.size (fun k e => by cases e; have := HBEL0.out.size; omega)⟩
      generalize (w6.setCell ⟨w.heap.size + 1 + 1, 0, none⟩ (.bool true)).putObj D (.deferred none) = W9 at q1 ⊢
      simp [results, Tryd.results6, go_sem, q1]
end Go.Proofs.YtffamppgnooaeaaDoor
