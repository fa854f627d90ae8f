/- The law FrameScans. -/
import Derived.Test.YtdfompaenclhnaaFrJoin
import Derived.Test.YtdfompaenclhnaaQuietR
namespace Go.Proofs.Ytdfompaenclhnaa
open Go.RowKit
attribute [local go_sem] Oper.semAt_some
set_option linter.unusedVariables false

theorem BB.own {w w' : World} {B n c : Nat} {A : Option Addr} {ls : List (List UInt8)} {vs : List Value} {row : Option Nat} (h : BB w B A n c ls vs) (hg : w.grownBy w' row) (hr : ∀ r, row = some r → ∃ o : Obj, w.heap[r]? = some o ∧ o.isCells = false) : BB w' B A n c ls vs :=
  ⟨h.rd.own hg hr, h.len, h.new, fun i x hx => by obtain ⟨Ai, ci, a, b, c⟩ := h.row i x hx; exact ⟨Ai, ci, a, b.own hg hr, c⟩⟩

theorem run_eql_func_nil {P : Program} (w : World) {t : TypeId} {as' rs : Array TypeId} {b : Bool} (h : P.underlying t = some (.func as' rs b)) (f : Fn) (x y : Array Value) :
    (binOp .eql t (.func f x y) .nilFunc).run P w = .ok (.bool false) w := by
  have h1 : ∀ d : Nat, (Op.equalIn (d + 1) t (.func f x y) .nilFunc).run P w = .ok false w := fun d => by simp [Op.equalIn, run_underlying h]
  simp only [binOp]
  simp [Op.equal, Op.maxDepth, h1 9999]

/-- between two rounds: what lay ahead of the iterator's box (in the world V) lies; the boxes of at and n -/
structure ScansI (V : World) (pre : List Ld) (W : World) : Prop where
  bel : Below V.heap.size V W
  pos : Boxed W (V.heap.size + 1) 3 (.int .i64 (szs (lb pre) : Nat))
  n : Boxed W (V.heap.size + 2) 3 (.int .i64 (pre.length : Nat))

/-- a round has left by a return of true -/
structure ScansX (w : World) (c : Code) (W : World) : Prop where
  jump : c = .ret
  res : Boxed W (w.heap.size + 1) 4 (.bool true)
  bel : Below w.heap.size w W

theorem scansI_own (V : World) (B : Nat) (hB : V.heap.size ≤ B) : OwnFrom B (ScansI V) := by
  intro pre W W' row h hg hr
  have hr' : ∀ r, row = some r → ∃ o : Obj, W.heap[r]? = some o ∧ o.isCells = false := fun r e => (hr r e).2
  exact ⟨h.bel.grown hg h.bel.size (fun k e => by have := (hr k e).1; omega), boxed_kept h.pos hg hr', boxed_kept h.n hg hr'⟩
theorem scansX_own (w : World) (B : Nat) (hB : w.heap.size ≤ B) (c : Code) : OwnFrom B (fun (_ : List Ld) W => ScansX w c W) := by
  intro pre W W' row h hg hr
  exact ⟨h.jump, boxed_kept h.res hg (fun r e => (hr r e).2), h.bel.grown hg h.bel.size (fun k e => by have := (hr k e).1; omega)⟩

theorem ScansI.drewN {V W : World} {pre : List Ld} (h : ScansI V pre W) (k : Nat) : ScansI V pre (W.drewN k) := ⟨below_drewN h.bel k, h.pos, h.n⟩
/-- the world behind a round -/
def scansW (W : World) (b : Nat) (p q : Int) : World := ((W.setCell ⟨b + 1, 0, none⟩ (.int .i64 p)).setCell ⟨b + 1 + 1, 0, none⟩ (.int .i64 q)).drew
theorem scans_step {V W : World} {pre : List Ld} {y : Ld} {p q : Int} {A : Option Addr} {n : Nat} (h : ScansI V pre W) (hp : p = (szs (lb (pre ++ [y])) : Nat)) (hq : q = ((pre ++ [y]).length : Nat)) (hA : ∀ ad, A = some ad → 0 < n → ad.block < V.heap.size) (B : Nat) :
    KeepsFrom B W (scansW W V.heap.size p q) ∧ Keeps (AllK V.heap.size A n) W (scansW W V.heap.size p q) ∧ ScansI V (pre ++ [y]) (scansW W V.heap.size p q) := by
  have hb : Below V.heap.size W (scansW W V.heap.size p q) := (((Below.refl V.heap.size W).setCell (p := ⟨V.heap.size + 1, 0, none⟩) (Nat.le_succ _) _).setCell (p := ⟨V.heap.size + 1 + 1, 0, none⟩) (by simp only; omega) _).drew
  have k1 := grownBy_setCell' W (V.heap.size + 1) (.int .i64 p)
  have k2 := grownBy_setCell' (W.setCell ⟨V.heap.size + 1, 0, none⟩ (.int .i64 p)) (V.heap.size + 1 + 1) (.int .i64 q)
  refine ⟨((KeepsOthers.setCell W _ _).trans ((KeepsOthers.setCell _ _ _).trans (KeepsOthers.drew _))).from B, ⟨hb.os, hb.tape, hb.output, hb.size, ?_⟩, h.bel.trans hb, ?_, ?_⟩
  · rintro k (rfl | ⟨ad, e, h0, rfl⟩)
    · exact (Below.heap_setCell _ _ _ _ (by simp only; omega)).trans (Below.heap_setCell _ _ _ _ (by simp only; omega))
    · exact hb.block _ (hA ad e h0)
  · subst hp
    have h2 := (h.pos.set (.int .i64 (szs (lb (pre ++ [y])) : Nat))).kept k2 (by simp)
    exact h2
  · subst hq
    have h2 := (Boxed.kept (W := W) h.n k1 (by simp)).set (.int .i64 ((pre ++ [y]).length : Nat))
    exact h2

set_option maxRecDepth 100000 in
set_option maxHeartbeats 4000000 in
theorem frameScans_walk (w : World) (A : Option Addr) (n c : Nat) (l : List UInt8) (hr : Rd w 1 A n c (bv l)) (x : Int) (hx1 : -9223372036854775808 ≤ x) (hx2 : x ≤ 9223372036854775807) :
    Calls Try.prog 5 #[.slice A n c, .int .i64 x] w (Yes w) := by
  have hc := hr.cap
  have hm := hr.max
  unfold maxLen at hm
  have HL := Lib.hid hr.blen
  refine (callsIn_wide (n := 3)).1 ?_
  refine callsIn_of_wp_marks Try.func5 rfl trivial ?_
  simp only [Try.ntmps5, List.size_toArray, List.length_cons, List.length_nil, Nat.reduceAdd, Nat.reduceSub, Array.replicate_succ, Array.replicate_zero, List.push_toArray, List.append_toArray, List.nil_append, List.cons_append]
  by_cases h0 : 3000 < n
  · gi_wp2_with fail
    refine ⟨trivial, (callsIn_wide.2 (wakes_any _)).mono ?_⟩
    rintro e w1 ⟨rfl, HB⟩
    have b0 : Boxed ((w.alloc (.cells #[.int .i64 x] 3)).alloc (.cells #[.bool false] 4)) (w.heap.size + 1) 4 (.bool false) := by
      have := Boxed.new (w.alloc (.cells #[.int .i64 x] 3)) 4 (.bool false); rwa [World.size_alloc] at this
    have b1 : Boxed w1 (w.heap.size + 1) 4 (.bool false) := (HB.block _ (by simp)).trans b0
    have hc1 := b1.cell
    have hf1 := b1.frozen
    have HB1 : Below w.heap.size w w1 := (((Below.refl _ w).alloc (Nat.le_refl _) _).alloc (by simp) _).trans (HB.mono (by simp; omega))
    gi_wp2
    have q1 := (b1.set (.bool true)).cell
    refine ⟨.bool true, ?_, rfl, HB1.setCell (p := ⟨w.heap.size + 1, 0, none⟩) (Nat.le_succ _) _⟩
    clear b0 b1 hc1 hf1
    generalize w1.setCell ⟨w.heap.size + 1, 0, none⟩ (.bool true) = W at q1 ⊢
    simp [results, Try.results5, go_sem, q1]
  gi_wp2_with fail
  refine ⟨trivial, (callsIn_wide.2 (scan_any _ _ _ l _ ((hr.alloc _).alloc _) (by omega))).mono ?_⟩
  rintro e w1 ⟨A1, c1, vs1, rfl, hbb1, HB1⟩
  have hr1 := ((hr.alloc (.cells #[.int .i64 x] 3)).alloc (.cells #[.bool false] 4)).below HB1
  gi_wp2_with fail
  refine ⟨trivial, (callsIn_wide.2 (rscan_any _ _ _ l _ hr1 (by omega))).mono ?_⟩
  rintro e w2 ⟨A2, c2, vs2, rfl, hbb2, HB2⟩
  have bb1 := hbb1.below HB2
  have bb1' := bb1.below ((Below.refl w2.heap.size w2).alloc (Nat.le_refl _) (.cells #[.slice A2 (loads l).length c2] 29))
  have bb2' := hbb2.below ((Below.refl w2.heap.size w2).alloc (Nat.le_refl _) (.cells #[.slice A2 (loads l).length c2] 29))
  have s0 : Boxed ((w.alloc (.cells #[.int .i64 x] 3)).alloc (.cells #[.bool false] 4)) w.heap.size 3 (.int .i64 x) := (Boxed.new w _ _).alloc _
  have r0 : Boxed ((w.alloc (.cells #[.int .i64 x] 3)).alloc (.cells #[.bool false] 4)) (w.heap.size + 1) 4 (.bool false) := by
    have := Boxed.new (w.alloc (.cells #[.int .i64 x] 3)) 4 (.bool false); rwa [World.size_alloc] at this
  have hz1 := HB1.size
  have hz2 := HB2.size
  simp only [World.size_alloc] at hz1 bb1' 
  have s2 : Boxed w2 w.heap.size 3 (.int .i64 x) := (HB2.block _ (by omega)).trans ((HB1.block _ (by simp; omega)).trans s0)
  have r2 : Boxed w2 (w.heap.size + 1) 4 (.bool false) := (HB2.block _ (by omega)).trans ((HB1.block _ (by simp)).trans r0)
  have hbel2 : Below w.heap.size w w2 := (((((Below.refl _ w).alloc (Nat.le_refl _) _).alloc (by simp) _).trans (HB1.mono (by simp; omega)))).trans (HB2.mono (by omega))
  gi_wp2_with fail
  refine ⟨trivial, (callsIn_wide.2 (same_any _ _ _ _ _ _ _ _ _ _ _ bb1' bb2')).mono ?_⟩
  rintro e w3 ⟨rfl, j, rfl⟩
  have s3 : Boxed ((w2.alloc (.cells #[.slice A2 (loads l).length c2] 29)).drewN j) w.heap.size 3 (.int .i64 x) := s2.alloc _
  have r3 : Boxed ((w2.alloc (.cells #[.slice A2 (loads l).length c2] 29)).drewN j) (w.heap.size + 1) 4 (.bool false) := r2.alloc _
  have m3 : Boxed ((w2.alloc (.cells #[.slice A2 (loads l).length c2] 29)).drewN j) w2.heap.size 29 (.slice A2 (loads l).length c2) := Boxed.new w2 _ _
  have hz3 : ((w2.alloc (.cells #[.slice A2 (loads l).length c2] 29)).drewN j).heap.size = w2.heap.size + 1 := World.size_alloc ..
  have hbel3 : Below w.heap.size w ((w2.alloc (.cells #[.slice A2 (loads l).length c2] 29)).drewN j) := below_drewN (hbel2.alloc hbel2.size _) j
  have bb3 := (bb2'.drewN j).le (show w.heap.size + 2 ≤ w1.heap.size by omega)
  generalize (w2.alloc (.cells #[.slice A2 (loads l).length c2] 29)).drewN j = W3 at s3 r3 m3 hz3 hbel3 bb3 ⊢
  have HZ3 := Lib.hid hz3
  clear hz3 s2 r2 s0 r0 bb1 bb1' bb2' hbb1 hbb2 hr1 HB1 HB2
  gi_wp2_with fail
  refine ⟨trivial, (callsIn_wide.2 (all_any _ _ _ _)).mono ?_⟩
  rintro e w' ⟨rfl, rfl⟩
  have hq := fun W => run_eql_func_nil (P := Try.prog) W Try.underlying35 (.func 18) #[] #[.pointer (some ⟨W3.heap.size, 0, none⟩)]
  gi_wp2_with fail
  obtain ⟨W0, hW0⟩ : ∃ W0, (((W3.alloc (.cells #[.slice A n c] 22)).alloc (.cells #[.int .i64 0] 3)).alloc (.cells #[.int .i64 0] 3)) = W0 := ⟨_, rfl⟩
  have a0 : Boxed W0 W3.heap.size 22 (.slice A n c) := by rw [← hW0]; exact ((Boxed.new W3 _ _).alloc _).alloc _
  have a1 : Boxed W0 (W3.heap.size + 1) 3 (.int .i64 0) := by
    rw [← hW0]; have := (Boxed.new (W3.alloc (.cells #[.slice A n c] 22)) 3 (.int .i64 0)).alloc (.cells #[.int .i64 0] 3); rwa [World.size_alloc] at this
  have a2 : Boxed W0 (W3.heap.size + 2) 3 (.int .i64 0) := by
    rw [← hW0]; have := (Boxed.new ((W3.alloc (.cells #[.slice A n c] 22)).alloc (.cells #[.int .i64 0] 3)) 3 (.int .i64 0)); rwa [World.size_alloc, World.size_alloc] at this
  have hsz : W0.heap.size = W3.heap.size + 3 := by rw [← hW0]; simp
  have hB0 : Below W3.heap.size W3 W0 := by rw [← hW0]; exact (((Below.refl _ W3).alloc (Nat.le_refl _) _).alloc (by simp) _).alloc (by simp; omega) _
  rw [hW0]
  clear hW0
  have hle : w.heap.size + 2 ≤ w2.heap.size := by omega
  have hle3 : W3.heap.size = w2.heap.size + 1 := HZ3.out
  have hbel0 : Below w.heap.size w W0 := hbel3.trans (hB0.mono hbel3.size)
  have hAd : ∀ ad, A = some ad → 0 < n → ad.block < w.heap.size := by
    rintro ad rfl h0
    exact hr.lt (by rw [bv_length, HL.out]; exact h0)
  have hrd : Rd W0 1 A n c (bv l) := hr.below hbel0
  have hi0 : ScansI W3 [] W0 := ⟨hB0, a1, a2⟩
  have HI0 := Lib.hid hi0
  have HZ0 := Lib.hid hsz
  have HS3 := Lib.hid s3
  have HR3 := Lib.hid r3
  have HM3 := Lib.hid m3
  have HBB3 := Lib.hid bb3
  have HBEL3 := Lib.hid hbel3
  clear hi0 s3 r3 m3 a1 a2 hbel3 hbel2 bb3 hle3 hq
  refine wpIn_range (gf := 18) (lb := #[.pointer (some ⟨W3.heap.size, 0, none⟩)]) rfl (enters_of Try.func18 (by kernel_rfl) rfl)
    (all_iter W3.heap.size A n c l W0 a0 hrd (by omega)) ?hK (Below.refl _ _) (fun _ => rfl) (ldV_own l _ _) (ScansI W3) (fun ch _ W => ScansX w ch W) (scansI_own W3 _ hB0.size) (fun ch => scansX_own w _ hbel0.size ch)
    HI0.out
    (fun y => { tmps := #[.slice A n c, .int .i64 x, undef, .pointer (some ⟨w.heap.size, 0, none⟩), .pointer (some ⟨w.heap.size + 1, 0, none⟩), .slice A1 (loads l).length c1, .int .i64 ((l.length : Int) - (szs (loads l) : Int)), .pointer (some ⟨w2.heap.size, 0, none⟩), .int .i64 ((l.length : Int) - (szs (loads l) : Int)),
      .func (.func 18) #[] #[.pointer (some ⟨W3.heap.size, 0, none⟩)], .pointer (some ⟨W3.heap.size + 1, 0, none⟩), .pointer (some ⟨W3.heap.size + 1 + 1, 0, none⟩), .int .i64 y.pos, .slice y.ad y.b.length y.c, .slice A n c, .int .i64 n, .bool (decide (3000 < (n : Int))), undef,
      .tuple #[.slice A1 (loads l).length c1, .int .i64 ((l.length : Int) - (szs (loads l) : Int))], .slice A n c, .tuple #[.slice A1 (loads l).length c1, .int .i64 ((l.length : Int) - (szs (loads l) : Int))], .slice A1 (loads l).length c1, .int .i64 ((l.length : Int) - (szs (loads l) : Int)),
      .tuple #[.slice A2 (loads l).length c2, .int .i64 ((l.length : Int) - (szs (loads l) : Int))], .slice A n c, .tuple #[.slice A2 (loads l).length c2, .int .i64 ((l.length : Int) - (szs (loads l) : Int))], .slice A2 (loads l).length c2, .int .i64 ((l.length : Int) - (szs (loads l) : Int)),
      .int .i64 ((l.length : Int) - (szs (loads l) : Int)), .int .i64 ((l.length : Int) - (szs (loads l) : Int)), .bool false, .bool false, .slice A1 (loads l).length c1, .slice A2 (loads l).length c2, .bool true, .bool false, .bool false, .slice A n c, .func (.func 18) #[] #[.pointer (some ⟨W3.heap.size, 0, none⟩)],
      .func (.func 18) #[] #[.pointer (some ⟨W3.heap.size, 0, none⟩)], .bool false, .func (.func 18) #[] #[.pointer (some ⟨W3.heap.size, 0, none⟩)], .int .i64 y.pos, .slice y.ad y.b.length y.c, undef, undef, undef, undef, undef, undef, undef, undef, undef, undef, undef, undef, undef, undef, undef, undef, undef, undef, undef, undef, undef, undef, undef, undef, undef, undef, undef, undef, undef, undef, undef, undef, undef, undef, undef, undef, undef, undef, undef, undef], defers := [] }) ?assign ?body ?done ?stop
  case assign =>
    intro lp y W K hK
    dsimp only [Ld.enc]
    gi_wp2
    exact hK
  case hK =>
    rintro k (rfl | ⟨ad, e, h0, rfl⟩)
    · rw [HZ0.out]; omega
    · have h1 := hAd ad e h0; have h2 := HZ3.out; rw [HZ0.out]; omega
  case body =>
    rintro lp pre y W hi hv hle
    have hW3 : W3.heap.size = w2.heap.size + 1 := HZ3.out
    have ws : Boxed W w.heap.size 3 (.int .i64 x) := (hi.bel.block _ (by omega)).trans HS3.out
    have wr' : Boxed W (w.heap.size + 1) 4 (.bool false) := (hi.bel.block _ (by omega)).trans HR3.out
    have wm : Boxed W w2.heap.size 29 (.slice A2 (loads l).length c2) := (hi.bel.block _ (by omega)).trans HM3.out
    have wbb := HBB3.out.below hi.bel
    have hc0 := ws.cell
    have hc1 := wr'.cell
    have hf1 := wr'.frozen
    have hc2 := wm.cell
    have hc3 := hi.pos.cell
    have hf3 := hi.pos.frozen
    have hc4 := hi.n.cell
    have hf4 := hi.n.frozen
    have hlen := wbb.len
    obtain ⟨r, hrr⟩ := hv.pre
    have hpl : pre.length < (loads l).length := by rw [hrr]; simp [lb]
    have hget : (loads l)[pre.length]? = some y.b := by rw [hrr]; simp [lb]
    obtain ⟨Ai, ci, v1, r1, _⟩ := wbb.row _ _ hget
    obtain ⟨ad, rfl, _⟩ := wbb.rd.addr (by omega) (by omega)
    have hcl := wbb.rd.get v1
    have hs1 := fun j => run_str (P := Try.prog) (W.drewN j) 22 5 9 Try.underlying22 Try.underlying5 Try.underlying9 (r1.drewN j)
    have hs2 := fun j => run_str (P := Try.prog) (W.drewN j) 22 5 9 Try.underlying22 Try.underlying5 Try.underlying9 ((Rd.of_own hv.own).drewN j)
    have hpos := hv.pos
    have HPOS := Lib.hid hpos
    have HV := Lib.hid hv
    have HI := Lib.hid hi
    have hmix : Try.prog.follows .mixedOrders = true := by kernel_rfl
    rw [hpos]
    have hws1 := fun j => (show Boxed (W.drewN j) w.heap.size 3 (.int .i64 x) from ws)
    have hwr1 := fun j => (show Boxed (W.drewN j) (w.heap.size + 1) 4 (.bool false) from wr')
    have hwm1 := fun j => (show Boxed (W.drewN j) w2.heap.size 29 (.slice (some ad) (loads l).length c2) from wm)
    have HWS := Lib.hid hws1
    have HWR := Lib.hid hwr1
    have HWM := Lib.hid hwm1
    clear hpos hv hi hget v1 r1 hrr hlen hW3 ws wr' wm wbb hws1 hwr1 hwm1
    gi_wp2_with fail
    have t1 : decide ((loads l).length ≤ pre.length) = false := by rw [decide_eq_false_iff_not]; omega
    refine wpIn_region_quiet_round (F := Fence.wide) rfl (by kernel_rfl) (by kernel_rfl) rfl ?_
    repeat (gi_big_quiet_step (fail))
    refine wpQuietIn_nil ?_
    intro _ hw'
    obtain ⟨nq, hw''⟩ := hw'
    subst hw''
    have HI1 := Lib.hid (HI.out.drewN nq)
    have hK1 : KeepsFrom W0.heap.size W (W.drewN nq) := ⟨Nat.le_refl _, fun _ _ _ h _ => h⟩
    have hK2 : Keeps (AllK W3.heap.size A n) W (W.drewN nq) := ⟨rfl, rfl, rfl, Nat.le_refl _, fun _ _ => rfl⟩
    have hsz1 : (W.drewN nq).heap.size = W.heap.size := rfl
    have hcl1 : (W.drewN nq).cell? (ad.add pre.length) = some (.slice Ai y.b.length ci) := hcl
    have zs := HWS.out nq
    have zr := HWR.out nq
    have zm := HWM.out nq
    generalize W.drewN nq = W1 at zs zr zm HI1 hK1 hK2 hsz1 hcl1 ⊢
    have HK1 := Lib.hid hK1
    have HK2 := Lib.hid hK2
    have HS1 := Lib.hid hsz1
    clear hK1 hK2 hsz1 hc0 hc1 hf1 hc2 hc3 hf3 hc4 hf4 hcl hs1 hs2 t1
    have hc0 := zs.cell
    have hc1 := zr.cell
    have hf1 := zr.frozen
    have hc2 := zm.cell
    have HZR := Lib.hid zr
    clear zs zr zm
    have hc3 := HI1.out.pos.cell
    have hf3 := HI1.out.pos.frozen
    have hc4 := HI1.out.n.cell
    have hf4 := HI1.out.n.frozen
    have hb1 := HV.out.lo
    have hb2 := HV.out.hi
    have hb3 : szs (lb pre) + (y.b.length + 4) ≤ n := by have := HV.out.le; have := HL.out; omega
    have hw1 : IntKind.i64.wrap (4 + (y.b.length : Int)) = 4 + (y.b.length : Int) := by rw [IntKind.wrap_i64]; omega
    have hw2 : IntKind.i64.wrap ((szs (lb pre) : Int) + (4 + (y.b.length : Int))) = (szs (lb pre) : Int) + (4 + (y.b.length : Int)) := by rw [IntKind.wrap_i64]; omega
    have hlt3 : w.heap.size + 2 < W3.heap.size := by have := HZ3.out; omega
    have hpn : pre.length ≤ 3000 := by have h1 := length_le_szs (lb pre); simp [lb] at h1 hb3; omega
    by_cases hst : (pre.length : Int) + 1 = x
    · have hq : ((pre.length : Int) + 1 == x) = true := by simp [hst]
      have HST := Lib.hid hst
      clear hst
      gi_wp2_with fail
      gi_region_o
      all_goals
        gi_wp2_with fail
        refine ⟨trivial, (CallsIn.inRound lp (callsIn_wide.2 (wakes_any _))).mono ?_⟩
        rintro e w6 ⟨rfl, HB6⟩
        obtain ⟨k1, -, k3⟩ := scans_step (y := y) (A := A) (n := n) HI1.out (p := (szs (lb pre) : Int) + (4 + (y.b.length : Int))) (q := (pre.length : Int) + 1) (by rw [lb_snoc, szs_snoc]; omega) (by simp) (fun ad e h0 => by have := hAd ad e h0; omega) W0.heap.size
        have hS : Below (scansW W1 W3.heap.size ((szs (lb pre) : Int) + (4 + (y.b.length : Int))) ((pre.length : Int) + 1)).heap.size (scansW W1 W3.heap.size ((szs (lb pre) : Int) + (4 + (y.b.length : Int))) ((pre.length : Int) + 1)) w6 := HB6
        have y1 : Boxed w6 (w.heap.size + 1) 4 (.bool false) := (hS.block _ (Nat.lt_of_lt_of_le (by omega) k3.bel.size)).trans ((k3.bel.block _ (by omega)).trans HR3.out)
        have kf : KeepsFrom W0.heap.size W w6 := ⟨Nat.le_trans (by rw [HS1.out]; exact Nat.le_refl _) (Nat.le_trans k1.size hS.size), fun k o hk h1 h2 => by
          have h3 := k1.same k o hk (HK1.out.same k o hk h1 h2) h2
          exact (hS.block k (Array.getElem?_eq_some_iff.1 h3).1).trans h3⟩
        have hb6 : Below w.heap.size w w6 := (HBEL3.out.trans (k3.bel.mono HBEL3.out.size)).trans (hS.mono (Nat.le_trans HBEL3.out.size k3.bel.size))
        have hc1 := y1.cell
        have hf1 := y1.frozen
        have HKF := Lib.hid kf
        have HY1 := Lib.hid y1
        have HB7 := Lib.hid hb6
        clear k1 k3 hS y1 kf hb6 HB6
        gi_wp2
        exact ⟨⟨by simpa using HKF.out.size, fun k o hk h1 h2 => (KeepsOthers.setCell w6 _ _).same k o (HKF.out.same k o hk h1 h2) h2⟩, rfl, HY1.out.set _, HB7.out.setCell (p := ⟨w.heap.size + 1, 0, none⟩) (Nat.le_succ _) _⟩
    · have hq : ((pre.length : Int) + 1 == x) = false := by simp [hst]
      clear hst
      gi_wp2_with fail
      gi_region_o
      all_goals
        gi_wp2_with fail
        obtain ⟨k1, k2, k3⟩ := scans_step (y := y) (A := A) (n := n) HI1.out (p := (szs (lb pre) : Int) + (4 + (y.b.length : Int))) (q := (pre.length : Int) + 1) (by rw [lb_snoc, szs_snoc]; omega) (by simp) (fun ad e h0 => by have := hAd ad e h0; omega) W0.heap.size
        exact ⟨⟨Nat.le_trans (by rw [HS1.out]; exact Nat.le_refl _) k1.size, fun k o hk h1 h2 => k1.same k o hk (HK1.out.same k o hk h1 h2) h2⟩, HK2.out.trans k2, k3⟩
  case stop =>
    rintro D ch pre W hD _ hx hK
    obtain rfl := hx.jump
    have hr2 := hx.res.kept (grownBy_putObj' W D (.deferred none)) (by have h1 := HZ0.out; have h2 := HZ3.out; simp; omega)
    have q1 := hr2.cell
    have hb2 := hx.bel.grown (grownBy_putObj' W D (.deferred none)) hx.bel.size (fun k e => by cases e; have := hbel0.size; omega)
    gi_wp2
    refine ⟨by simp, .inl ⟨_, _, rfl, run_takeDeferred hK, ?_⟩⟩
    refine ⟨.bool true, ?_, rfl, hb2⟩
    clear hr2 hb2
    generalize W.putObj D (.deferred none) = W9 at q1 ⊢
    simp [results, Try.results5, go_sem, q1]
  case done =>
    rintro D xs W hD hS hi hK
    have h2 := HZ3.out
    have h1 := HZ0.out
    have wr' : Boxed W (w.heap.size + 1) 4 (.bool false) := (hi.bel.block _ (by omega)).trans HR3.out
    have wm : Boxed W w2.heap.size 29 (.slice A2 (loads l).length c2) := (hi.bel.block _ (by omega)).trans HM3.out
    have hc1 := wr'.cell
    have hf1 := wr'.frozen
    have hc2 := wm.cell
    have hc4 : W.cell? ⟨W3.heap.size + 1 + 1, 0, none⟩ = some (.int .i64 (xs.length : Nat)) := hi.n.cell
    have hlen : (loads l).length = xs.length := by rw [← hS]; simp [lb]
    have hq : ((xs.length : Int) == ((loads l).length : Int)) = true := by rw [hlen]; simp
    have hq2 : (xs.length == (loads l).length) = true := by rw [hlen]; simp
    have hq3 : decide (xs.length = (loads l).length) = true := by rw [hlen]; simp
    have hbW : Below w.heap.size w W := HBEL3.out.trans (hi.bel.mono HBEL3.out.size)
    have HBW := Lib.hid hbW
    have HWR := Lib.hid wr'
    clear hS hlen hi wm wr' hbW h1 h2
    gi_wp2_with fail
    refine ⟨trivial, (callsIn_wide.2 (wakes_any _)).mono ?_⟩
    rintro e w6 ⟨rfl, HB6⟩
    have y1 : Boxed w6 (w.heap.size + 1) 4 (.bool false) := (HB6.block _ HWR.out.lt).trans HWR.out
    have hK6 : (w6.setCell ⟨w.heap.size + 1, 0, none⟩ (.bool true)).heap[D]? = some (.deferred (some [])) := (KeepsOthers.setCell w6 _ _).same D _ ((HB6.block D (Array.getElem?_eq_some_iff.1 hK).1).trans hK) rfl
    have hb6 : Below w.heap.size w w6 := HBW.out.trans (HB6.mono HBW.out.size)
    have hc1 := y1.cell
    have hf1 := y1.frozen
    have HK6 := Lib.hid hK6
    have HB7 := Lib.hid (hb6.setCell (p := ⟨w.heap.size + 1, 0, none⟩) (Nat.le_succ _) (.bool true))
    have HY := Lib.hid ((y1.set (.bool true)).kept (grownBy_putObj' _ D (.deferred none)) (by have h1 := HZ0.out; have h3 := HZ3.out; simp; omega))
    clear y1 hK6 hb6 HB6
    gi_wp2
    refine ⟨by simp, .inl ⟨_, _, rfl, run_takeDeferred HK6.out, ?_⟩⟩
    have q1 := HY.out.cell
    refine ⟨.bool true, ?_, rfl, HB7.out.grown (grownBy_putObj' _ D (.deferred none)) HB7.out.size (fun k e => by cases e; have := HZ0.out; have := hbel0.size; omega)⟩
    clear hc1 hf1 hc2 hc4 hq hq2 hq3
    generalize (w6.setCell ⟨w.heap.size + 1, 0, none⟩ (.bool true)).putObj D (.deferred none) = W9 at q1 ⊢
    simp [results, Try.results5, go_sem, q1]
end Go.Proofs.Ytdfompaenclhnaa
