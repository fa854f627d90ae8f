/- hoardinglaw31.wakes: change.Leans of the work. -/
import Derived.Test.YtfjhomegjceilaaJw4
import Derived.Shelf.Abstract
import Derived.Deep.OwnRows
import Derived.WalkSpells
namespace Go.Proofs.Ytfjhomegjceilaa
open Go.RowKit
set_option linter.unusedVariables false
set_option linter.unusedSimpArgs false
attribute [local go_sem] Oper.semAt_some
theorem info_intsW : (Try.prog.info? 59).map (fun i => (i.zero, i.size, i.bytes)) = some (some (Value.slice none 0 0), 1, 24) := by kernel_rfl
theorem info_intW : (Try.prog.info? 3).map (fun i => (i.zero, i.size, i.bytes)) = some (some (.int .i64 0), 1, 8) := by kernel_rfl
theorem make_LLW (w : World) : (Instr.makeSlice 57 (.int .i64 2) (.int .i64 2)).run Try.prog w = .ok (.slice (some ⟨w.heap.size, 0, none⟩) 2 2) (w.alloc (.cells #[.slice none 0 0, .slice none 0 0] 59)) := by
  have := run_make_row' (P := Try.prog) 57 59 (Value.slice none 0 0) 24 Try.underlying57 info_intsW rfl .i64 .i64 2 (by omega) (by omega) w
  rw [show madeCells #[Value.slice none 0 0] 2 = #[.slice none 0 0, .slice none 0 0] from by
    apply Array.ext
    · simp [madeCells]
    · intro i h1 h2
      have : i = 0 ∨ i = 1 := by simp at h2; omega
      rcases this with rfl | rfl <;> simp [madeCells]] at this
  exact this
theorem run_slice_mm (w : World) (g c m : Nat) (hc : m ≤ c) : (Instr.slice 59 (.slice (some ⟨g, 0, none⟩) m c) none (some (.int .i64 (m : Int))) (some (.int .i64 (m : Int)))).run Try.prog w = .ok (.slice (some ⟨g, 0, none⟩) m m) w := by
  obtain ⟨i, hi, _, hs, _⟩ := info_partsW info_intW
  simp [Instr.slice, run_underlying Try.underlying59, Instr.sliceBounds, run_sliceBound, sizeOf, typeInfo, hi, hs, hc, Addr.add]
def ixB : Bool → Nat
  | true => 1
  | false => 0
def nmB : Bool → ByteArray
  | true => ⟨#[66]⟩
  | false => ⟨#[65]⟩
def csB (ql : Nat) : Bool → Array Value
  | true => #[.string ⟨#[66]⟩, .int .i8 1, .string ⟨#[68, 105, 115, 107]⟩, .slice none 0 0, .bool false, .int .i64 0, .bool false, .slice (some ⟨ql, 0, none⟩) 1 1]
  | false => #[.string ⟨#[65]⟩, .int .i8 1, .string ⟨#[68, 105, 115, 107]⟩, .slice none 0 0, .bool false, .int .i64 0, .bool false, .slice none 0 0]
theorem bEnc_eq (ql : Nat) (x : Bool) : bEnc ql x = #[.int .i64 (ixB x : Nat), .agg (csB ql x)] := by cases x <;> rfl
/-- the map that comes while one goes backward -/
def mOf (xs : List Bool) : ByteArray → Option Nat := xs.foldl (fun f x s => if s = nmB x then some (ixB x) else f s) (fun _ => none)
theorem mOf_snoc (xs : List Bool) (x : Bool) : mOf (xs ++ [x]) = fun s => if s = nmB x then some (ixB x) else mOf xs s := by unfold mOf; rw [List.foldl_append]; rfl
/-- what change.Leans keeps while it goes backward -/
structure LI (w : World) (qc ql c qt : Nat) (xs : List Bool) (W : World) : Prop where
  bel : Below w.heap.size w W
  wk : Blk W w.heap.size #[.int .i8 0, .int .i64 2, .slice none 0 0, .slice none 0 0, .slice none 0 0, .slice none 0 0, .string ⟨#[]⟩, .slice none 0 0, .int .i64 0, .int .i8 0, .slice none 0 0, .slice none 0 0, .string ⟨#[]⟩, .slice none 0 0, .slice (some ⟨qc, 0, none⟩) 2 c, .slice (some ⟨qt, 0, none⟩) 2 2, .int .i8 0, .int .i8 0] 44
  mp : MP W (w.heap.size + 1) xs.length (mOf xs)
  bx : Boxed W (w.heap.size + 1 + 1) 78 (.map (some (w.heap.size + 1)))
  le : w.heap.size + 4 ≤ W.heap.size
theorem LI.own {w : World} {qc ql c qt B : Nat} (hB : w.heap.size + 3 ≤ B) : OwnFrom B (LI w qc ql c qt) := by
  intro xs W W' row h hg hr
  have hne : ∀ k, row = some k → B ≤ k := fun k e => (hr k e).1
  refine ⟨h.bel.grown hg h.bel.size (fun k e => by have := hne k e; omega), h.wk.grown hg (fun e => by have := hne _ e; omega), h.mp.only (Only.of_grown hg) (fun e => by have := hne _ e.symm; omega), h.bx.kept hg (fun e => by have := hne _ e.symm; omega), Nat.le_trans h.le hg.size⟩
set_option maxRecDepth 100000 in
set_option maxHeartbeats 16000000 in
theorem leansF_any (w : World) (qc ql c qt : Nat) (h2 : 2 ≤ c) (h : Hc w qc ql) : Calls Try.prog 11 #[.agg #[.int .i8 0, .int .i64 2, .slice none 0 0, .slice none 0 0, .slice none 0 0, .slice none 0 0, .string ⟨#[]⟩, .slice none 0 0, .int .i64 0, .int .i8 0, .slice none 0 0, .slice none 0 0, .string ⟨#[]⟩, .slice none 0 0, .slice (some ⟨qc, 0, none⟩) 2 c, .slice (some ⟨qt, 0, none⟩) 2 2, .int .i8 0, .int .i8 0], .bool false] w fun e w' => ∃ q q', e = .returned (.slice (some ⟨q, 0, none⟩) 2 2) ∧ w'.cell? ⟨q, 0, none⟩ = some (.slice none 0 0) ∧ w'.cell? ⟨q, 1, none⟩ = some (.slice (some ⟨q', 0, none⟩) 1 1) ∧ w'.cell? ⟨q', 0, none⟩ = some (.int .i64 0) ∧ Below w.heap.size w w' := by
  have HC := Lib.hid h
  have hmm := @run_makeMap Try.prog
  clear h
  refine (callsIn_wide (n := 3)).1 ?_
  refine callsIn_of_wp_marks Try.func11 rfl trivial ?_
  simp only [Try.ntmps11, List.size_toArray, List.length_cons, List.length_nil, Nat.reduceAdd, Nat.reduceSub, Array.replicate_succ, Array.replicate_zero, List.push_toArray, List.append_toArray, List.nil_append, List.cons_append]
  refine wpIn_wide.2 ?_
  go_wp2_with fail
  clear hmm
  refine (backw_any _ _ _ _).mono ?_
  rintro e w5 ⟨rfl, hw5⟩
  obtain ⟨Wa, hWa⟩ : ∃ Wa, Wa = ((w.alloc (.cells #[.int .i8 0, .int .i64 2, .slice none 0 0, .slice none 0 0, .slice none 0 0, .slice none 0 0, .string ⟨#[]⟩, .slice none 0 0, .int .i64 0, .int .i8 0, .slice none 0 0, .slice none 0 0, .string ⟨#[]⟩, .slice none 0 0, .slice (some ⟨qc, 0, none⟩) 2 c, .slice (some ⟨qt, 0, none⟩) 2 2, .int .i8 0, .int .i8 0] 44)).alloc (.map #[] 0)).alloc (.cells #[.map (some (w.heap.size + 1))] 78) := ⟨_, rfl⟩
  have ha1 : Blk Wa w.heap.size #[.int .i8 0, .int .i64 2, .slice none 0 0, .slice none 0 0, .slice none 0 0, .slice none 0 0, .string ⟨#[]⟩, .slice none 0 0, .int .i64 0, .int .i8 0, .slice none 0 0, .slice none 0 0, .string ⟨#[]⟩, .slice none 0 0, .slice (some ⟨qc, 0, none⟩) 2 c, .slice (some ⟨qt, 0, none⟩) 2 2, .int .i8 0, .int .i8 0] 44 := by rw [hWa]; exact ((Blk.new w _ _).alloc _).alloc _
  have ha2 : MP Wa (w.heap.size + 1) 0 (fun _ => none) := by
    rw [hWa]
    have := MP.new (w.alloc (.cells #[.int .i8 0, .int .i64 2, .slice none 0 0, .slice none 0 0, .slice none 0 0, .slice none 0 0, .string ⟨#[]⟩, .slice none 0 0, .int .i64 0, .int .i8 0, .slice none 0 0, .slice none 0 0, .string ⟨#[]⟩, .slice none 0 0, .slice (some ⟨qc, 0, none⟩) 2 c, .slice (some ⟨qt, 0, none⟩) 2 2, .int .i8 0, .int .i8 0] 44))
    rw [World.size_alloc] at this
    exact this.below ((Below.refl _ _).alloc (Nat.le_refl _) _)
  have ha3 : Boxed Wa (w.heap.size + 1 + 1) 78 (.map (some (w.heap.size + 1))) := by
    rw [hWa]
    have := Boxed.new ((w.alloc (.cells #[.int .i8 0, .int .i64 2, .slice none 0 0, .slice none 0 0, .slice none 0 0, .slice none 0 0, .string ⟨#[]⟩, .slice none 0 0, .int .i64 0, .int .i8 0, .slice none 0 0, .slice none 0 0, .string ⟨#[]⟩, .slice none 0 0, .slice (some ⟨qc, 0, none⟩) 2 c, .slice (some ⟨qt, 0, none⟩) 2 2, .int .i8 0, .int .i8 0] 44)).alloc (.map #[] 0)) 78 (.map (some (w.heap.size + 1)))
    rw [World.size_alloc, World.size_alloc] at this
    exact this
  have ha4 : Below w.heap.size w Wa := by rw [hWa]; exact (((Below.refl _ _).alloc (Nat.le_refl _) _).alloc (by simp) _).alloc (by simp; omega) _
  have ha5 : Wa.heap.size = w.heap.size + 1 + 1 + 1 := by rw [hWa]; simp
  rw [← hWa] at hw5
  have hb5 : Below Wa.heap.size Wa w5 := by rw [hw5]; exact (Below.refl _ _).alloc (Nat.le_refl _) _
  have hx5 : Boxed w5 (w.heap.size + 1 + 1 + 1) 34 (.slice (some ⟨qc, 0, none⟩) 2 c) := by
    have := Boxed.new Wa 34 (.slice (some ⟨qc, 0, none⟩) 2 c)
    rw [ha5] at this
    rw [hw5]; exact this
  have hs5 : w5.heap.size = w.heap.size + 1 + 1 + 1 + 1 := by rw [hw5, World.size_alloc, ha5]
  have hli : LI w qc ql c qt [] w5 := ⟨ha4.trans (hb5.mono ha4.size), ha1.below hb5, ha2.below hb5, (hb5.block _ ha3.lt).trans ha3, by omega⟩
  have HLI := Lib.hid hli
  have HX5 := Lib.hid hx5
  have HS5 := Lib.hid hs5
  clear hWa ha1 ha2 ha3 ha4 ha5 hw5 hb5 hx5 hs5 hli
  simp only [World.size_alloc] at *
  go_wp2_with fail
  refine wpIn_wide.1 (wpIn_rangeA (n := 3) (csB ql) 33 (gf := 41) (lb := #[.pointer (some ⟨w.heap.size + 1 + 1 + 1, 0, none⟩)]) rfl (enters_of Try.func41 (by kernel_rfl) rfl)
    (back_iter w5 (w.heap.size + 1 + 1 + 1) qc ql c h2 (HC.out.below HLI.out.bel) HX5.out) (fun k hk => by have := HS5.out; have := HC.out.lt; have := HC.out.ltl; rcases hk with rfl | rfl | rfl <;> omega) (Below.refl _ _) (fun x => by rw [bEnc_eq]; rfl) (fun _ _ _ _ h _ _ => h)
    (LI w qc ql c qt) (fun _ _ _ => False) (LI.own (by have := HS5.out; omega)) (fun _ _ _ _ _ hs _ _ => hs) HLI.out
    (fun x b => { tmps := #[.agg #[.int .i8 0, .int .i64 2, .slice none 0 0, .slice none 0 0, .slice none 0 0, .slice none 0 0, .string ⟨#[]⟩, .slice none 0 0, .int .i64 0, .int .i8 0, .slice none 0 0, .slice none 0 0, .string ⟨#[]⟩, .slice none 0 0, .slice (some ⟨qc, 0, none⟩) 2 c, .slice (some ⟨qt, 0, none⟩) 2 2, .int .i8 0, .int .i8 0], .bool false, .pointer (some ⟨w.heap.size, 0, none⟩), undef, .slice none 0 0, .pointer (some ⟨w.heap.size + 1 + 1, 0, none⟩), .int .i64 (ixB x : Nat), .pointer (some ⟨b, 0, none⟩), undef, undef, undef, undef, undef, undef, undef, undef, undef, undef, undef, .map (some (w.heap.size + 1)), .pointer (some ⟨w.heap.size, 14, none⟩), .slice (some ⟨qc, 0, none⟩) 2 c, .func (.func 41) #[] #[.pointer (some ⟨w.heap.size + 1 + 1 + 1, 0, none⟩)], .int .i64 (ixB x : Nat), .agg (csB ql x), undef, undef, undef, undef, undef, undef, undef, undef, undef, undef, undef, undef, undef, undef, undef, undef, undef, undef, undef, undef, undef, undef, undef, undef, undef, undef, undef, undef, undef, undef, undef, undef, undef, undef, undef, undef, undef, undef, undef, undef, undef, undef, undef, undef, undef, undef, undef, undef, undef, undef, undef, undef, undef, undef, undef, undef, undef, undef, undef, undef, undef, undef, undef, undef, undef, undef, undef, undef, undef, undef, undef, undef, undef, undef], defers := [] }) ?assign ?body ?done (fun _ _ _ _ _ _ h _ => h.elim))
  case assign =>
    intro lp x W K hK
    cases x
    all_goals
      dsimp only [bEnc]
      gi_wp2
      exact hK
  case body =>
    intro lp pre x b W hi hv hb hbk
    have hbx := hi.bx.cell
    have hnm : W.cell? ⟨b, 0, none⟩ = some (.string (nmB x)) := hbk.cell 0 (by cases x <;> rfl)
    have HI := Lib.hid hi
    have HPL := Lib.hid hv
    have HNM : Hid ((nmB x).size ≤ maxLen) := Lib.hid (by cases x <;> simp [nmB, maxLen, ByteArray.size])
    have HIX : Hid (ixB x ≤ 1) := Lib.hid (by cases x <;> simp [ixB])
    clear hi hb hbk hv
    gi_wp2_with (refine putIn_MP rfl _ _ _ rfl (w.heap.size + 1) pre.length (mOf pre) rfl HI.out.mp (by have := HPL.out; unfold maxLen; omega) (nmB x) HNM.out rfl (ixB x) (by have := HIX.out; omega) rfl ?_; intro w6 hm6 hg6; have HM6 := Lib.hid hm6; have HG6 := Lib.hid hg6; clear hm6 hg6)
    have hg := HG6.out
    have hq1 := HS5.out
    refine ⟨⟨hg.size, fun k o hk h1 _ => (hg.block k (Array.getElem?_eq_some_iff.1 h1).1 (fun e => by injection e with e; omega)).trans h1⟩, Keeps.grown hg (fun k hk => ?_) (fun k e hk => ?_), ⟨HI.out.bel.grown hg HI.out.bel.size (fun k e => by injection e with e; omega), HI.out.wk.grown hg (fun e => by injection e with e; omega), ?_, HI.out.bx.kept hg (fun e => by injection e with e; omega), Nat.le_trans HI.out.le hg.size⟩⟩
    · have := HI.out.bel.size
      have := HC.out.lt
      have := HC.out.ltl
      have := HI.out.le
      rcases hk with rfl | rfl | rfl
      · omega
      · omega
      · omega
    · injection e with e
      have := HC.out.lt
      have := HC.out.ltl
      rcases hk with rfl | rfl | rfl <;> omega
    · rw [List.length_append, mOf_snoc]; exact HM6.out
  case done =>
    rintro D xs W hD rfl hi hK
    have hwk := hi.wk.cell 14 rfl
    have hwb := hi.bx.cell
    have hch := HC.out.below hi.bel
    have hms : (Instr.makeSlice 57 (.int .i64 2) (.int .i64 2)).run Try.prog W = _ := make_LLW W
    have f0 := hch.cell 0 _ rfl
    have f1 := hch.cell 1 _ rfl
    have f2 := hch.cell 2 _ rfl
    have f3 := hch.cell 3 _ rfl
    have f4 := hch.cell 4 _ rfl
    have f5 := hch.cell 5 _ rfl
    have f6 := hch.cell 6 _ rfl
    have f7 := hch.cell 7 _ rfl
    have HI := Lib.hid hi
    have HK := Lib.hid hK
    clear hi hK hch
    go_upto_region 7 with fail
    obtain ⟨W1, hW1⟩ : ∃ W1, W1 = W.alloc (.cells #[.slice none 0 0, .slice none 0 0] 59) := ⟨_, rfl⟩
    have hb1 : Below W.heap.size W W1 := by rw [hW1]; exact (Below.refl _ _).alloc (Nat.le_refl _) _
    have hr1 : Blk W1 W.heap.size #[.slice none 0 0, .slice none 0 0] 59 := by rw [hW1]; exact Blk.new W _ _
    rw [← hW1]
    have HB1 := Lib.hid hb1
    have HR1 := Lib.hid hr1
    have hwk1 := (HI.out.wk.below hb1).cell 14 rfl
    have hch1 := (HC.out.below HI.out.bel).below hb1
    clear hW1 hb1 hr1 hwk hwb hms f0 f1 f2 f3 f4 f5 f6 f7
    have f0 := hch1.cell 0 _ rfl
    have f1 := hch1.cell 1 _ rfl
    have f2 := hch1.cell 2 _ rfl
    have f3 := hch1.cell 3 _ rfl
    have f4 := hch1.cell 4 _ rfl
    have f5 := hch1.cell 5 _ rfl
    have f6 := hch1.cell 6 _ rfl
    have f7 := hch1.cell 7 _ rfl
    clear hch1
    go_wp2_with fail
    refine wp_loop_rounds 3 ?_
    rw [rounds_succ]
    go_wp2_with fail
    obtain ⟨W2, hW2⟩ : ∃ W2, W2 = W1.alloc (.cells #[.string ⟨#[65]⟩, .int .i8 1, .string ⟨#[68, 105, 115, 107]⟩, .slice none 0 0, .bool false, .int .i64 0, .bool false, .slice none 0 0] 33) := ⟨_, rfl⟩
    have hb2 : Below W1.heap.size W1 W2 := by rw [hW2]; exact (Below.refl _ _).alloc (Nat.le_refl _) _
    rw [← hW2]
    have HR2 := Lib.hid (HR1.out.below hb2)
    have HB2 := Lib.hid (HB1.out.trans (hb2.mono HB1.out.size))
    have c0 := HR2.out.cell 0 rfl
    have c1 := HR2.out.cell 1 rfl
    have z0 := HR2.out.frozen 0
    clear hW2 hb2 hwk1 f0 f1 f2 f3 f4 f5 f6 f7
    refine wp_loop_rounds 1 ?_
    rw [rounds_succ]
    go_wp2_with fail
    refine (sorti_any none 0 0 (by omega) W2).mono ?_
    rintro e w9 ⟨rfl, hw9⟩
    obtain rfl := hw9.symm
    go_wp2_with fail
    refine (compact1i_any none 0 0 (by omega) _).mono ?_
    rintro e w9 ⟨rfl, hw9⟩
    obtain rfl := hw9.symm
    go_wp2_with fail
    obtain ⟨W3, hW3⟩ : ∃ W3, W3 = W2.setCell ⟨W.heap.size, 0, none⟩ (.slice none 0 0) := ⟨_, rfl⟩
    have hr3 : Blk W3 W.heap.size #[.slice none 0 0, .slice none 0 0] 59 := by rw [hW3]; exact (HR2.out.set 0 (.slice none 0 0)).eq rfl
    have hb3 : Below W.heap.size W W3 := by rw [hW3]; exact HB2.out.setCell (p := ⟨W.heap.size, 0, none⟩) (Nat.le_refl _) _
    rw [← hW3]
    have HR3 := Lib.hid hr3
    have HB3 := Lib.hid hb3
    clear hW3 c0 c1 z0
    have hwk3 := (HI.out.wk.below hb3).cell 14 rfl
    have hch3 := (HC.out.below HI.out.bel).below hb3
    clear hr3 hb3
    have f8 := hch3.cell 8 _ rfl
    have f9 := hch3.cell 9 _ rfl
    have f10 := hch3.cell 10 _ rfl
    have f11 := hch3.cell 11 _ rfl
    have f12 := hch3.cell 12 _ rfl
    have f13 := hch3.cell 13 _ rfl
    have f14 := hch3.cell 14 _ rfl
    have f15 := hch3.cell 15 _ rfl
    clear hch3
    rw [rounds_succ]
    go_wp2_with fail
    obtain ⟨W4, hW4⟩ : ∃ W4, W4 = W3.alloc (.cells #[.string ⟨#[66]⟩, .int .i8 1, .string ⟨#[68, 105, 115, 107]⟩, .slice none 0 0, .bool false, .int .i64 0, .bool false, .slice (some ⟨ql, 0, none⟩) 1 1] 33) := ⟨_, rfl⟩
    have hb4 : Below W3.heap.size W3 W4 := by rw [hW4]; exact (Below.refl _ _).alloc (Nat.le_refl _) _
    rw [← hW4]
    have HR4 := Lib.hid (HR3.out.below hb4)
    have HB4 := Lib.hid (HB3.out.trans (hb4.mono HB3.out.size))
    clear hW4 hb4 hwk3 f8 f9 f10 f11 f12 f13 f14 f15
    have c0 := HR4.out.cell 0 rfl
    have c1 := HR4.out.cell 1 rfl
    have nm4 := ((HC.out.below HI.out.bel).below HB4.out).nm
    have bx4 : W4.cell? ⟨w.heap.size + 1 + 1, 0, none⟩ = some (.map (some (w.heap.size + 1))) := Boxed.cell ((HB4.out.block _ HI.out.bx.lt).trans HI.out.bx)
    have hlk : (Instr.lookup 78 (.map (some (w.heap.size + 1))) (.string ⟨#[65]⟩) true).run Try.prog W4 = .ok (.tuple #[.int .i64 0, .bool true]) W4 := (HI.out.mp.below HB4.out).lookok (by simp [maxLen, ByteArray.size])
    obtain ⟨i0, hi0, hz0, hz1, hz2⟩ := info_partsW info_intW
    have HI0 := Lib.hid hi0
    have HZ0 := Lib.hid hz0
    have HZ1 := Lib.hid hz1
    have HZ2 := Lib.hid hz2
    clear hi0 hz0 hz1 hz2
    refine wp_loop_rounds 2 ?_
    rw [rounds_succ]
    go_wp2_with (at_builtin; refine wpList_app _ rfl (.tmp 72) (.tmp 74) 59 rfl W4.heap.size 3 i0 _ 1 8 Try.underlying59 HI0.out HZ0.out HZ1.out HZ2.out rfl (by omega) none 0 0 [] rfl (World.ownsRow_nil _ _ _ _) _ 1 1 [.int .i64 0] rfl (Rd.lit W4 1 1 #[.int .i64 0] _ _ rfl (by simp [maxLen])) (by simp [Value.oneCell']) (by omega) (by omega) (by simp) ?_; intro A1 c1 w6 ho6 hg6 hat6 hn6; have hr6 := (HR4.out.alloc (.cells #[.int .i64 0] 3)).grown hg6 (by simp [Value.ownBlock]); have x0 := hr6.cell 0 rfl; have x1 := hr6.cell 1 rfl; have y1 := hr6.frozen 1; have HR6 := Lib.hid hr6; have HO6 := Lib.hid ho6; have HG6 := Lib.hid hg6; have HA6 := Lib.hid hat6; have HN6 := Lib.hid hn6; clear ho6 hg6 hat6 hn6 hr6)
    have ho6 := HO6.out
    simp only [Nat.zero_add, List.nil_append] at ho6
    have hq6 : ∃ g, A1 = some ⟨g, 0, none⟩ ∧ W4.heap.size ≤ g := by
      rcases HA6.out with e | e
      · exact absurd (HN6.out.1 e).2 (by omega)
      · exact ⟨_, e, by simp⟩
    obtain ⟨g, rfl, hg6⟩ := hq6
    have hrd6 := Rd.of_own ho6
    have hcap := hrd6.cap
    have hmx := hrd6.max
    have hgc : w6.cell? ⟨g, 0, none⟩ = some (.int .i64 0) := hrd6.get (j := 0) rfl
    obtain ⟨W7, hW7⟩ : ∃ W7, W7 = w6.setCell ⟨W.heap.size, 1, none⟩ (.slice (some ⟨g, 0, none⟩) 1 c1) := ⟨_, rfl⟩
    have hgW : W.heap.size < g := Nat.lt_of_lt_of_le HR4.out.lt hg6
    have hr7 : Blk W7 W.heap.size #[.slice none 0 0, .slice (some ⟨g, 0, none⟩) 1 c1] 59 := by rw [hW7]; exact (HR6.out.set 1 (.slice (some ⟨g, 0, none⟩) 1 c1)).eq rfl
    have hb7 : Below W.heap.size W W7 := by
      rw [hW7]
      exact ((HB4.out.alloc HB4.out.size _).grown HG6.out (by have := HB4.out.size; rw [World.size_alloc]; omega) (fun k e => by cases e)).setCell (p := ⟨W.heap.size, 1, none⟩) (Nat.le_refl _) _
    have hgc7 : W7.cell? ⟨g, 0, none⟩ = some (.int .i64 0) := by rw [hW7]; exact (World.cell?_setCell_other w6 _ _ _ (by intro e; injection e with e1 e2; omega)).trans hgc
    rw [← hW7]
    have HR7 := Lib.hid hr7
    have HB7 := Lib.hid hb7
    have HGC7 := Lib.hid hgc7
    have HGW := Lib.hid hgW
    clear hW7 hr7 hb7 hgc7 hgc hrd6 ho6 c0 x0 x1 y1 nm4 bx4 hlk HI0 HZ0 HZ1 HZ2 hgW hg6
    have c0 := HR7.out.cell 0 rfl
    have c1' := HR7.out.cell 1 rfl
    have y1 := HR7.out.frozen 1
    have hsl : ∀ W', (Instr.slice 59 (.slice (some ⟨g, 0, none⟩) 1 c1) none (some (.int .i64 1)) (some (.int .i64 1))).run Try.prog W' = .ok (.slice (some ⟨g, 0, none⟩) 1 1) W' := fun W' => run_slice_mm W' g c1 1 hcap
    rw [rounds_succ]
    go_wp2_with fail
    refine (sorti_any (some ⟨g, 0, none⟩) 1 c1 (by omega) W7).mono ?_
    rintro e w9 ⟨rfl, hw9⟩
    obtain rfl := hw9.symm
    go_wp2_with fail
    refine (compact1i_any (some ⟨g, 0, none⟩) 1 c1 (by omega) _).mono ?_
    rintro e w9 ⟨rfl, hw9⟩
    obtain rfl := hw9.symm
    go_wp2_with fail
    rw [rounds_succ]
    go_wp2_with fail
    obtain ⟨W8, hW8⟩ : ∃ W8, W8 = W7.setCell ⟨W.heap.size, 1, none⟩ (.slice (some ⟨g, 0, none⟩) 1 1) := ⟨_, rfl⟩
    have hr8 : Blk W8 W.heap.size #[.slice none 0 0, .slice (some ⟨g, 0, none⟩) 1 1] 59 := by rw [hW8]; exact (HR7.out.set 1 (.slice (some ⟨g, 0, none⟩) 1 1)).eq rfl
    have hb8 : Below W.heap.size W W8 := by rw [hW8]; exact HB7.out.setCell (p := ⟨W.heap.size, 1, none⟩) (Nat.le_refl _) _
    have hgc8 : W8.cell? ⟨g, 0, none⟩ = some (.int .i64 0) := by rw [hW8]; exact (World.cell?_setCell_other W7 _ _ _ (by have := HGW.out; intro e; injection e with e1 e2; omega)).trans HGC7.out
    rw [← hW8]
    have hDl : D < W.heap.size := (Array.getElem?_eq_some_iff.1 HK.out).1
    have hK8 : W8.heap[D]? = some (.deferred (some [])) := (hb8.block _ hDl).trans HK.out
    refine ⟨by simp, .inl ⟨_, _, rfl, run_takeDeferred hK8, ?_⟩⟩
    have hgw := HGW.out
    have hg9 := grownBy_putObj' W8 D (.deferred none)
    have hr9 := hr8.grown hg9 (fun e => by injection e with e; omega)
    have hc9 := cell_kept hgc8 hg9 (fun r e => by injection e with e; exact ⟨_, by rw [← e]; exact hK8, rfl⟩)
    have hD5 := HS5.out
    have hb9 := (HI.out.bel.trans (hb8.mono HI.out.bel.size)).grown hg9 (Nat.le_trans HI.out.bel.size hb8.size) (fun k e => by injection e with e; omega)
    refine ⟨.slice (some ⟨W.heap.size, 0, none⟩) 2 2, ?_, W.heap.size, g, rfl, hr9.cell 0 rfl, hr9.cell 1 rfl, hc9, hb9⟩
    simp [results, Try.results11, go_sem]
set_option maxRecDepth 100000 in
set_option maxHeartbeats 16000000 in
theorem leansT_any (w : World) (qc ql c qt : Nat) (h2 : 2 ≤ c) (h : Hc w qc ql) : Calls Try.prog 11 #[.agg #[.int .i8 0, .int .i64 2, .slice none 0 0, .slice none 0 0, .slice none 0 0, .slice none 0 0, .string ⟨#[]⟩, .slice none 0 0, .int .i64 0, .int .i8 0, .slice none 0 0, .slice none 0 0, .string ⟨#[]⟩, .slice none 0 0, .slice (some ⟨qc, 0, none⟩) 2 c, .slice (some ⟨qt, 0, none⟩) 2 2, .int .i8 0, .int .i8 0], .bool true] w fun e w' => ∃ q, e = .returned (.slice (some ⟨q, 0, none⟩) 2 2) ∧ w'.cell? ⟨q, 0, none⟩ = some (.slice none 0 0) ∧ w'.cell? ⟨q, 1, none⟩ = some (.slice none 0 0) ∧ Below w.heap.size w w' := by
  have HC := Lib.hid h
  have hmm := @run_makeMap Try.prog
  clear h
  refine (callsIn_wide (n := 3)).1 ?_
  refine callsIn_of_wp_marks Try.func11 rfl trivial ?_
  simp only [Try.ntmps11, List.size_toArray, List.length_cons, List.length_nil, Nat.reduceAdd, Nat.reduceSub, Array.replicate_succ, Array.replicate_zero, List.push_toArray, List.append_toArray, List.nil_append, List.cons_append]
  refine wpIn_wide.2 ?_
  go_wp2_with fail
  clear hmm
  refine (backw_any _ _ _ _).mono ?_
  rintro e w5 ⟨rfl, hw5⟩
  obtain ⟨Wa, hWa⟩ : ∃ Wa, Wa = ((w.alloc (.cells #[.int .i8 0, .int .i64 2, .slice none 0 0, .slice none 0 0, .slice none 0 0, .slice none 0 0, .string ⟨#[]⟩, .slice none 0 0, .int .i64 0, .int .i8 0, .slice none 0 0, .slice none 0 0, .string ⟨#[]⟩, .slice none 0 0, .slice (some ⟨qc, 0, none⟩) 2 c, .slice (some ⟨qt, 0, none⟩) 2 2, .int .i8 0, .int .i8 0] 44)).alloc (.map #[] 0)).alloc (.cells #[.map (some (w.heap.size + 1))] 78) := ⟨_, rfl⟩
  have ha1 : Blk Wa w.heap.size #[.int .i8 0, .int .i64 2, .slice none 0 0, .slice none 0 0, .slice none 0 0, .slice none 0 0, .string ⟨#[]⟩, .slice none 0 0, .int .i64 0, .int .i8 0, .slice none 0 0, .slice none 0 0, .string ⟨#[]⟩, .slice none 0 0, .slice (some ⟨qc, 0, none⟩) 2 c, .slice (some ⟨qt, 0, none⟩) 2 2, .int .i8 0, .int .i8 0] 44 := by rw [hWa]; exact ((Blk.new w _ _).alloc _).alloc _
  have ha2 : MP Wa (w.heap.size + 1) 0 (fun _ => none) := by
    rw [hWa]
    have := MP.new (w.alloc (.cells #[.int .i8 0, .int .i64 2, .slice none 0 0, .slice none 0 0, .slice none 0 0, .slice none 0 0, .string ⟨#[]⟩, .slice none 0 0, .int .i64 0, .int .i8 0, .slice none 0 0, .slice none 0 0, .string ⟨#[]⟩, .slice none 0 0, .slice (some ⟨qc, 0, none⟩) 2 c, .slice (some ⟨qt, 0, none⟩) 2 2, .int .i8 0, .int .i8 0] 44))
    rw [World.size_alloc] at this
    exact this.below ((Below.refl _ _).alloc (Nat.le_refl _) _)
  have ha3 : Boxed Wa (w.heap.size + 1 + 1) 78 (.map (some (w.heap.size + 1))) := by
    rw [hWa]
    have := Boxed.new ((w.alloc (.cells #[.int .i8 0, .int .i64 2, .slice none 0 0, .slice none 0 0, .slice none 0 0, .slice none 0 0, .string ⟨#[]⟩, .slice none 0 0, .int .i64 0, .int .i8 0, .slice none 0 0, .slice none 0 0, .string ⟨#[]⟩, .slice none 0 0, .slice (some ⟨qc, 0, none⟩) 2 c, .slice (some ⟨qt, 0, none⟩) 2 2, .int .i8 0, .int .i8 0] 44)).alloc (.map #[] 0)) 78 (.map (some (w.heap.size + 1)))
    rw [World.size_alloc, World.size_alloc] at this
    exact this
  have ha4 : Below w.heap.size w Wa := by rw [hWa]; exact (((Below.refl _ _).alloc (Nat.le_refl _) _).alloc (by simp) _).alloc (by simp; omega) _
  have ha5 : Wa.heap.size = w.heap.size + 1 + 1 + 1 := by rw [hWa]; simp
  rw [← hWa] at hw5
  have hb5 : Below Wa.heap.size Wa w5 := by rw [hw5]; exact (Below.refl _ _).alloc (Nat.le_refl _) _
  have hx5 : Boxed w5 (w.heap.size + 1 + 1 + 1) 34 (.slice (some ⟨qc, 0, none⟩) 2 c) := by
    have := Boxed.new Wa 34 (.slice (some ⟨qc, 0, none⟩) 2 c)
    rw [ha5] at this
    rw [hw5]; exact this
  have hs5 : w5.heap.size = w.heap.size + 1 + 1 + 1 + 1 := by rw [hw5, World.size_alloc, ha5]
  have hli : LI w qc ql c qt [] w5 := ⟨ha4.trans (hb5.mono ha4.size), ha1.below hb5, ha2.below hb5, (hb5.block _ ha3.lt).trans ha3, by omega⟩
  have HLI := Lib.hid hli
  have HX5 := Lib.hid hx5
  have HS5 := Lib.hid hs5
  clear hWa ha1 ha2 ha3 ha4 ha5 hw5 hb5 hx5 hs5 hli
  simp only [World.size_alloc] at *
  go_wp2_with fail
  refine wpIn_wide.1 (wpIn_rangeA (n := 3) (csB ql) 33 (gf := 41) (lb := #[.pointer (some ⟨w.heap.size + 1 + 1 + 1, 0, none⟩)]) rfl (enters_of Try.func41 (by kernel_rfl) rfl)
    (back_iter w5 (w.heap.size + 1 + 1 + 1) qc ql c h2 (HC.out.below HLI.out.bel) HX5.out) (fun k hk => by have := HS5.out; have := HC.out.lt; have := HC.out.ltl; rcases hk with rfl | rfl | rfl <;> omega) (Below.refl _ _) (fun x => by rw [bEnc_eq]; rfl) (fun _ _ _ _ h _ _ => h)
    (LI w qc ql c qt) (fun _ _ _ => False) (LI.own (by have := HS5.out; omega)) (fun _ _ _ _ _ hs _ _ => hs) HLI.out
    (fun x b => { tmps := #[.agg #[.int .i8 0, .int .i64 2, .slice none 0 0, .slice none 0 0, .slice none 0 0, .slice none 0 0, .string ⟨#[]⟩, .slice none 0 0, .int .i64 0, .int .i8 0, .slice none 0 0, .slice none 0 0, .string ⟨#[]⟩, .slice none 0 0, .slice (some ⟨qc, 0, none⟩) 2 c, .slice (some ⟨qt, 0, none⟩) 2 2, .int .i8 0, .int .i8 0], .bool true, .pointer (some ⟨w.heap.size, 0, none⟩), undef, .slice none 0 0, .pointer (some ⟨w.heap.size + 1 + 1, 0, none⟩), .int .i64 (ixB x : Nat), .pointer (some ⟨b, 0, none⟩), undef, undef, undef, undef, undef, undef, undef, undef, undef, undef, undef, .map (some (w.heap.size + 1)), .pointer (some ⟨w.heap.size, 14, none⟩), .slice (some ⟨qc, 0, none⟩) 2 c, .func (.func 41) #[] #[.pointer (some ⟨w.heap.size + 1 + 1 + 1, 0, none⟩)], .int .i64 (ixB x : Nat), .agg (csB ql x), undef, undef, undef, undef, undef, undef, undef, undef, undef, undef, undef, undef, undef, undef, undef, undef, undef, undef, undef, undef, undef, undef, undef, undef, undef, undef, undef, undef, undef, undef, undef, undef, undef, undef, undef, undef, undef, undef, undef, undef, undef, undef, undef, undef, undef, undef, undef, undef, undef, undef, undef, undef, undef, undef, undef, undef, undef, undef, undef, undef, undef, undef, undef, undef, undef, undef, undef, undef, undef, undef, undef, undef, undef, undef], defers := [] }) ?assign ?body ?done (fun _ _ _ _ _ _ h _ => h.elim))
  case assign =>
    intro lp x W K hK
    cases x
    all_goals
      dsimp only [bEnc]
      gi_wp2
      exact hK
  case body =>
    intro lp pre x b W hi hv hb hbk
    have hbx := hi.bx.cell
    have hnm : W.cell? ⟨b, 0, none⟩ = some (.string (nmB x)) := hbk.cell 0 (by cases x <;> rfl)
    have HI := Lib.hid hi
    have HPL := Lib.hid hv
    have HNM : Hid ((nmB x).size ≤ maxLen) := Lib.hid (by cases x <;> simp [nmB, maxLen, ByteArray.size])
    have HIX : Hid (ixB x ≤ 1) := Lib.hid (by cases x <;> simp [ixB])
    clear hi hb hbk hv
    gi_wp2_with (refine putIn_MP rfl _ _ _ rfl (w.heap.size + 1) pre.length (mOf pre) rfl HI.out.mp (by have := HPL.out; unfold maxLen; omega) (nmB x) HNM.out rfl (ixB x) (by have := HIX.out; omega) rfl ?_; intro w6 hm6 hg6; have HM6 := Lib.hid hm6; have HG6 := Lib.hid hg6; clear hm6 hg6)
    have hg := HG6.out
    have hq1 := HS5.out
    refine ⟨⟨hg.size, fun k o hk h1 _ => (hg.block k (Array.getElem?_eq_some_iff.1 h1).1 (fun e => by injection e with e; omega)).trans h1⟩, Keeps.grown hg (fun k hk => ?_) (fun k e hk => ?_), ⟨HI.out.bel.grown hg HI.out.bel.size (fun k e => by injection e with e; omega), HI.out.wk.grown hg (fun e => by injection e with e; omega), ?_, HI.out.bx.kept hg (fun e => by injection e with e; omega), Nat.le_trans HI.out.le hg.size⟩⟩
    · have := HI.out.bel.size
      have := HC.out.lt
      have := HC.out.ltl
      have := HI.out.le
      rcases hk with rfl | rfl | rfl
      · omega
      · omega
      · omega
    · injection e with e
      have := HC.out.lt
      have := HC.out.ltl
      rcases hk with rfl | rfl | rfl <;> omega
    · rw [List.length_append, mOf_snoc]; exact HM6.out
  case done =>
    rintro D xs W hD rfl hi hK
    have hwk := hi.wk.cell 14 rfl
    have hwb := hi.bx.cell
    have hch := HC.out.below hi.bel
    have hms : (Instr.makeSlice 57 (.int .i64 2) (.int .i64 2)).run Try.prog W = _ := make_LLW W
    have HI := Lib.hid hi
    have HK := Lib.hid hK
    clear hi hK hch
    go_upto_region 7 with fail
    obtain ⟨W1, hW1⟩ : ∃ W1, W1 = W.alloc (.cells #[.slice none 0 0, .slice none 0 0] 59) := ⟨_, rfl⟩
    have hb1 : Below W.heap.size W W1 := by rw [hW1]; exact (Below.refl _ _).alloc (Nat.le_refl _) _
    have hr1 : Blk W1 W.heap.size #[.slice none 0 0, .slice none 0 0] 59 := by rw [hW1]; exact Blk.new W _ _
    rw [← hW1]
    have HB1 := Lib.hid hb1
    have HR1 := Lib.hid hr1
    clear hW1 hb1 hr1 hwk hwb hms
    have k14 := (HI.out.wk.below HB1.out).cell 14 rfl
    go_upto_region 8 with fail
    refine wp_loop_rounds 3 ?_
    have k14 := (HI.out.wk.below HB1.out).cell 14 rfl
    have hch := (HC.out.below HI.out.bel).below HB1.out
    have f0 := hch.cell 0 _ rfl
    have f1 := hch.cell 1 _ rfl
    have f2 := hch.cell 2 _ rfl
    have f3 := hch.cell 3 _ rfl
    have f4 := hch.cell 4 _ rfl
    have f5 := hch.cell 5 _ rfl
    have f6 := hch.cell 6 _ rfl
    have f7 := hch.cell 7 _ rfl
    clear hch
    rw [rounds_succ]
    go_upto_region 12 with fail
    obtain ⟨W2, hw⟩ : ∃ W2, W2 = W1.alloc (.cells #[.string ⟨#[65]⟩, .int .i8 1, .string ⟨#[68, 105, 115, 107]⟩, .slice none 0 0, .bool false, .int .i64 0, .bool false, .slice none 0 0] 33) := ⟨_, rfl⟩
    have hb : Below W1.heap.size W1 W2 := by rw [hw]; exact (Below.refl _ _).alloc (Nat.le_refl _) _
    have hn : Blk W2 W1.heap.size #[.string ⟨#[65]⟩, .int .i8 1, .string ⟨#[68, 105, 115, 107]⟩, .slice none 0 0, .bool false, .int .i64 0, .bool false, .slice none 0 0] 33 := by rw [hw]; exact Blk.new W1 _ _
    rw [← hw]
    have HR2 := Lib.hid (HR1.out.below hb)
    have HB2 := Lib.hid (HB1.out.trans (hb.mono HB1.out.size))
    have n0 := hn.cell 0 rfl
    clear hw hb hn k14 f0 f1 f2 f3 f4 f5 f6 f7
    have k2 := (HI.out.wk.below HB2.out).cell 2 rfl
    have k3 := (HI.out.wk.below HB2.out).cell 3 rfl
    have k4 := (HI.out.wk.below HB2.out).cell 4 rfl
    have k5 := (HI.out.wk.below HB2.out).cell 5 rfl
    have k6 := (HI.out.wk.below HB2.out).cell 6 rfl
    have k7 := (HI.out.wk.below HB2.out).cell 7 rfl
    have k8 := (HI.out.wk.below HB2.out).cell 8 rfl
    have k9 := (HI.out.wk.below HB2.out).cell 9 rfl
    go_wp2_with fail
    refine (own0_any _ _).mono ?_
    rintro e W3 ⟨rfl, hb⟩
    have HR3 := Lib.hid (HR2.out.below hb)
    have HB3 := Lib.hid (HB2.out.trans (hb.mono HB2.out.size))
    clear hb n0 k2 k3 k4 k5 k6 k7 k8 k9
    go_wp2_with fail
    obtain ⟨W4, hw⟩ : ∃ WW, WW = W3.alloc (.cells #[.string ⟨#[]⟩, .string ⟨#[]⟩, .string ⟨#[]⟩, .slice none 0 0, .bool false, .slice none 0 0] 83) := ⟨_, rfl⟩
    have hb : Below W3.heap.size W3 W4 := by rw [hw]; exact (Below.refl _ _).alloc (Nat.le_refl _) _
    rw [← hw]
    have HR4 := Lib.hid (HR3.out.below hb)
    have HB4 := Lib.hid (HB3.out.trans (hb.mono HB3.out.size))
    clear hw hb
    have c0 := HR4.out.cell 0 rfl
    have c1 := HR4.out.cell 1 rfl
    have z0 := HR4.out.frozen 0
    refine wp_loop_rounds 1 ?_
    rw [rounds_succ]
    go_wp2_with fail
    refine (sorti_any none 0 0 (by omega) W4).mono ?_
    rintro e w9 ⟨rfl, hw9⟩
    obtain rfl := hw9.symm
    go_wp2_with fail
    refine (compact1i_any none 0 0 (by omega) _).mono ?_
    rintro e w9 ⟨rfl, hw9⟩
    obtain rfl := hw9.symm
    go_wp2_with fail
    obtain ⟨W5, hw⟩ : ∃ WW, WW = W4.setCell ⟨W.heap.size, 0, none⟩ (.slice none 0 0) := ⟨_, rfl⟩
    have hr : Blk W5 W.heap.size #[.slice none 0 0, .slice none 0 0] 59 := by rw [hw]; exact (HR4.out.set 0 (.slice none 0 0)).eq rfl
    have hb : Below W.heap.size W W5 := by rw [hw]; exact HB4.out.setCell (p := ⟨W.heap.size, 0, none⟩) (Nat.le_refl _) _
    rw [← hw]
    have HR5 := Lib.hid hr
    have HB5 := Lib.hid hb
    clear hw hr hb c0 c1 z0
    have k14 := (HI.out.wk.below HB5.out).cell 14 rfl
    have hch := (HC.out.below HI.out.bel).below HB5.out
    have f0 := hch.cell 8 _ rfl
    have f1 := hch.cell 9 _ rfl
    have f2 := hch.cell 10 _ rfl
    have f3 := hch.cell 11 _ rfl
    have f4 := hch.cell 12 _ rfl
    have f5 := hch.cell 13 _ rfl
    have f6 := hch.cell 14 _ rfl
    have f7 := hch.cell 15 _ rfl
    clear hch
    rw [rounds_succ]
    go_upto_region 12 with fail
    obtain ⟨W6, hw⟩ : ∃ W6, W6 = W5.alloc (.cells #[.string ⟨#[66]⟩, .int .i8 1, .string ⟨#[68, 105, 115, 107]⟩, .slice none 0 0, .bool false, .int .i64 0, .bool false, .slice (some ⟨ql, 0, none⟩) 1 1] 33) := ⟨_, rfl⟩
    have hb : Below W5.heap.size W5 W6 := by rw [hw]; exact (Below.refl _ _).alloc (Nat.le_refl _) _
    have hn : Blk W6 W5.heap.size #[.string ⟨#[66]⟩, .int .i8 1, .string ⟨#[68, 105, 115, 107]⟩, .slice none 0 0, .bool false, .int .i64 0, .bool false, .slice (some ⟨ql, 0, none⟩) 1 1] 33 := by rw [hw]; exact Blk.new W5 _ _
    rw [← hw]
    have HR6 := Lib.hid (HR5.out.below hb)
    have HB6 := Lib.hid (HB5.out.trans (hb.mono HB5.out.size))
    have n0 := hn.cell 0 rfl
    clear hw hb hn k14 f0 f1 f2 f3 f4 f5 f6 f7
    have k2 := (HI.out.wk.below HB6.out).cell 2 rfl
    have k3 := (HI.out.wk.below HB6.out).cell 3 rfl
    have k4 := (HI.out.wk.below HB6.out).cell 4 rfl
    have k5 := (HI.out.wk.below HB6.out).cell 5 rfl
    have k6 := (HI.out.wk.below HB6.out).cell 6 rfl
    have k7 := (HI.out.wk.below HB6.out).cell 7 rfl
    have k8 := (HI.out.wk.below HB6.out).cell 8 rfl
    have k9 := (HI.out.wk.below HB6.out).cell 9 rfl
    go_wp2_with fail
    refine (own0_any _ _).mono ?_
    rintro e W7 ⟨rfl, hb⟩
    have HR7 := Lib.hid (HR6.out.below hb)
    have HB7 := Lib.hid (HB6.out.trans (hb.mono HB6.out.size))
    clear hb n0 k2 k3 k4 k5 k6 k7 k8 k9
    go_wp2_with fail
    obtain ⟨W8, hw⟩ : ∃ WW, WW = W7.alloc (.cells #[.string ⟨#[]⟩, .string ⟨#[]⟩, .string ⟨#[]⟩, .slice none 0 0, .bool false, .slice none 0 0] 83) := ⟨_, rfl⟩
    have hb : Below W7.heap.size W7 W8 := by rw [hw]; exact (Below.refl _ _).alloc (Nat.le_refl _) _
    rw [← hw]
    have HR8 := Lib.hid (HR7.out.below hb)
    have HB8 := Lib.hid (HB7.out.trans (hb.mono HB7.out.size))
    clear hw hb
    have c0 := HR8.out.cell 0 rfl
    have c1 := HR8.out.cell 1 rfl
    have z0 := HR8.out.frozen 1
    refine wp_loop_rounds 1 ?_
    rw [rounds_succ]
    go_wp2_with fail
    refine (sorti_any none 0 0 (by omega) W8).mono ?_
    rintro e w9 ⟨rfl, hw9⟩
    obtain rfl := hw9.symm
    go_wp2_with fail
    refine (compact1i_any none 0 0 (by omega) _).mono ?_
    rintro e w9 ⟨rfl, hw9⟩
    obtain rfl := hw9.symm
    go_wp2_with fail
    obtain ⟨W9, hw⟩ : ∃ WW, WW = W8.setCell ⟨W.heap.size, 1, none⟩ (.slice none 0 0) := ⟨_, rfl⟩
    have hr : Blk W9 W.heap.size #[.slice none 0 0, .slice none 0 0] 59 := by rw [hw]; exact (HR8.out.set 1 (.slice none 0 0)).eq rfl
    have hb : Below W.heap.size W W9 := by rw [hw]; exact HB8.out.setCell (p := ⟨W.heap.size, 1, none⟩) (Nat.le_refl _) _
    rw [← hw]
    have HR9 := Lib.hid hr
    have HB9 := Lib.hid hb
    clear hw hr hb c0 c1 z0
    rw [rounds_succ]
    go_wp2_with fail
    have hr8 := HR9.out
    have hb8 := HB9.out
    have hDl : D < W.heap.size := (Array.getElem?_eq_some_iff.1 HK.out).1
    have hK8 : W9.heap[D]? = some (.deferred (some [])) := (hb8.block _ hDl).trans HK.out
    refine ⟨by simp, .inl ⟨_, _, rfl, run_takeDeferred hK8, ?_⟩⟩
    have hg9 := grownBy_putObj' W9 D (.deferred none)
    have hr9 := hr8.grown hg9 (fun e => by injection e with e; omega)
    have hD5 := HS5.out
    have hb9 := (HI.out.bel.trans (hb8.mono HI.out.bel.size)).grown hg9 (Nat.le_trans HI.out.bel.size hb8.size) (fun k e => by injection e with e; omega)
    refine ⟨.slice (some ⟨W.heap.size, 0, none⟩) 2 2, ?_, W.heap.size, rfl, hr9.cell 0 rfl, hr9.cell 1 rfl, hb9⟩
    simp [results, Try.results11, go_sem]
end Go.Proofs.Ytfjhomegjceilaa
