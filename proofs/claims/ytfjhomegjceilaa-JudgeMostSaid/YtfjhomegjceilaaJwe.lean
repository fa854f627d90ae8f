/- hoardinglaw31.wakes: two regions of judge.Order's round, in whatever order. -/
import Derived.Test.YtfjhomegjceilaaJwd
import Derived.Test.YtfjhomegjceilaaRgJ
namespace Go.Proofs.Ytfjhomegjceilaa
open Go.RowKit Go.Maps
set_option linter.unusedVariables false
set_option linter.unusedSimpArgs false
attribute [local go_sem] Oper.semAt_some
structure O15 (V : World) (qk qm bk : Nat) (tok : Int) (Lf : Array Value) (L : Nat → Bool) (v10 v54 v55 v56 v57 v58 v59 v60 : Value) (w : World) : Prop where
  bel : Below V.heap.size V w
  h0 : L 0 = true → v54 = .pointer (some ⟨qk, 0, none⟩)
  h1 : L 1 = true → v55 = .pointer (some ⟨qk, 0, none⟩)
  h2 : L 2 = true → v56 = .pointer (some ⟨qk, 1, none⟩)
  h3 : L 3 = true → v57 = .map (some qm)
  h4 : L 4 = true → v58 = .pointer (some ⟨bk, 0, none⟩)
  h5 : L 5 = true → v59 = .int .i64 tok
  h6 : L 6 = true → v60 = .agg Lf
  h7 : L 7 = true → ∃ q, v10 = .pointer (some ⟨q, 0, none⟩) ∧ V.heap.size ≤ q ∧ (L 8 = false → Blk w q #[.int .i64 0, .int .i64 0, .int .i64 0, .int .i64 0, .bool false] 67) ∧ (L 8 = true → Blk w q Lf 67)
  c8 : L 8 = true → L 7 = true
theorem O15.mono {V : World} {qk qm bk : Nat} {tok : Int} {Lf : Array Value} {L : Nat → Bool} {v10 v54 v55 v56 v57 v58 v59 v60 : Value} {w w' : World} (h : O15 V qk qm bk tok Lf L v10 v54 v55 v56 v57 v58 v59 v60 w) (hb : Below w.heap.size w w') : O15 V qk qm bk tok Lf L v10 v54 v55 v56 v57 v58 v59 v60 w' :=
  { h with
    bel := h.bel.trans (hb.mono h.bel.size)
    h7 := fun l => by obtain ⟨q, a, b, d, e⟩ := h.h7 l; exact ⟨q, a, b, fun x => (d x).below hb, fun x => (e x).below hb⟩ }
set_option maxRecDepth 100000 in
set_option maxHeartbeats 32000000 in
theorem breg15 {ops : Array Oper} {b : Bool} (hops : (Try.f7.body.bind fun c => regOps c 15) = some (ops, b)) (V : World) (lp n : Nat) (qb qk qm bk : Nat) (tok n0 n1 n2 n3 : Int) (n4 : Bool) (HCB : Hid (Boxed V qb 54 (.pointer (some ⟨qk, 0, none⟩)))) (HKM : Hid (V.cell? ⟨qk, 1, none⟩ = some (.map (some qm)))) (HTK : Hid (V.cell? ⟨bk, 0, none⟩ = some (.int .i64 tok))) (HLK : Hid (∀ w', Below V.heap.size V w' → (Instr.lookup 56 (.map (some qm)) (.int .i64 tok) false).run Try.prog w' = .ok (.agg #[.int .i64 n0, .int .i64 n1, .int .i64 n2, .int .i64 n3, .bool n4]) w')) {s0 s1 s2 s3 s4 s5 s6 s8 s11 s12 s13 s14 s15 s16 s17 s18 s19 s20 s21 s22 s23 s24 s25 s26 s27 s28 s29 s30 s31 s32 s33 s34 s35 s36 s37 s38 s39 s40 s41 s42 s43 s44 s45 s46 s47 s48 s49 s50 s51 s52 s53 s61 s62 s63 s64 s65 s66 s67 s68 s69 s70 s71 s72 s73 s74 s75 s76 s77 s78 s79 s80 s81 s82 s83 s84 s85 s86 s87 s88 s89 s90 s91 s92 s93 s94 s95 s96 s97 s98 s99 s100 s101 s102 s103 s104 s105 s106 s107 s108 s109 s110 s111 s112 s113 s114 s115 s116 s117 s118 s119 s120 s121 s122 s123 s124 s125 s126 s127 s128 s129 s130 s131 s132 s133 s134 s135 s136 s137 s138 s139 s140 s141 u10 u54 u55 u56 u57 u58 u59 u60 : Value} {ds : List Deferred} {Q : Exit → Act → World → Prop}
    (hQ : ∀ (v10 v54 v55 v56 v57 v58 v59 v60 : Value) (wx : World), (∃ lb, v10 = .pointer (some ⟨lb, 0, none⟩) ∧ V.heap.size ≤ lb ∧ Blk wx lb #[.int .i64 n0, .int .i64 n1, .int .i64 n2, .int .i64 n3, .bool n4] 67) ∧ Below V.heap.size V wx → Q .normal ⟨#[s0, s1, s2, s3, s4, s5, s6, .pointer (some ⟨qb, 0, none⟩), s8, .pointer (some ⟨bk, 0, none⟩), v10, s11, s12, s13, s14, s15, s16, s17, s18, s19, s20, s21, s22, s23, s24, s25, s26, s27, s28, s29, s30, s31, s32, s33, s34, s35, s36, s37, s38, s39, s40, s41, s42, s43, s44, s45, s46, s47, s48, s49, s50, s51, s52, s53, v54, v55, v56, v57, v58, v59, v60, s61, s62, s63, s64, s65, s66, s67, s68, s69, s70, s71, s72, s73, s74, s75, s76, s77, s78, s79, s80, s81, s82, s83, s84, s85, s86, s87, s88, s89, s90, s91, s92, s93, s94, s95, s96, s97, s98, s99, s100, s101, s102, s103, s104, s105, s106, s107, s108, s109, s110, s111, s112, s113, s114, s115, s116, s117, s118, s119, s120, s121, s122, s123, s124, s125, s126, s127, s128, s129, s130, s131, s132, s133, s134, s135, s136, s137, s138, s139, s140, s141], ds⟩ wx) :
    (Code.region 15 ops b).wpIn (Fence.wide.inRound lp) n Try.prog Q ⟨#[s0, s1, s2, s3, s4, s5, s6, .pointer (some ⟨qb, 0, none⟩), s8, .pointer (some ⟨bk, 0, none⟩), u10, s11, s12, s13, s14, s15, s16, s17, s18, s19, s20, s21, s22, s23, s24, s25, s26, s27, s28, s29, s30, s31, s32, s33, s34, s35, s36, s37, s38, s39, s40, s41, s42, s43, s44, s45, s46, s47, s48, s49, s50, s51, s52, s53, u54, u55, u56, u57, u58, u59, u60, s61, s62, s63, s64, s65, s66, s67, s68, s69, s70, s71, s72, s73, s74, s75, s76, s77, s78, s79, s80, s81, s82, s83, s84, s85, s86, s87, s88, s89, s90, s91, s92, s93, s94, s95, s96, s97, s98, s99, s100, s101, s102, s103, s104, s105, s106, s107, s108, s109, s110, s111, s112, s113, s114, s115, s116, s117, s118, s119, s120, s121, s122, s123, s124, s125, s126, s127, s128, s129, s130, s131, s132, s133, s134, s135, s136, s137, s138, s139, s140, s141], ds⟩ V := by
  obtain ⟨rfl, rfl⟩ := regOps_eq hops rfl
  refine wpIn_region_inv (by kernel_rfl) (by kernel_rfl) (fun L a w => ∃ v10 v54 v55 v56 v57 v58 v59 v60 : Value, a = ⟨#[s0, s1, s2, s3, s4, s5, s6, .pointer (some ⟨qb, 0, none⟩), s8, .pointer (some ⟨bk, 0, none⟩), v10, s11, s12, s13, s14, s15, s16, s17, s18, s19, s20, s21, s22, s23, s24, s25, s26, s27, s28, s29, s30, s31, s32, s33, s34, s35, s36, s37, s38, s39, s40, s41, s42, s43, s44, s45, s46, s47, s48, s49, s50, s51, s52, s53, v54, v55, v56, v57, v58, v59, v60, s61, s62, s63, s64, s65, s66, s67, s68, s69, s70, s71, s72, s73, s74, s75, s76, s77, s78, s79, s80, s81, s82, s83, s84, s85, s86, s87, s88, s89, s90, s91, s92, s93, s94, s95, s96, s97, s98, s99, s100, s101, s102, s103, s104, s105, s106, s107, s108, s109, s110, s111, s112, s113, s114, s115, s116, s117, s118, s119, s120, s121, s122, s123, s124, s125, s126, s127, s128, s129, s130, s131, s132, s133, s134, s135, s136, s137, s138, s139, s140, s141], ds⟩ ∧ O15 V qk qm bk tok #[.int .i64 n0, .int .i64 n1, .int .i64 n2, .int .i64 n3, .bool n4] L v10 v54 v55 v56 v57 v58 v59 v60 w) ⟨u10, u54, u55, u56, u57, u58, u59, u60, rfl, ⟨⟨rfl, rfl, rfl, Nat.le_refl _, fun _ _ => rfl⟩, fun h => (by cases h), fun h => (by cases h), fun h => (by cases h), fun h => (by cases h), fun h => (by cases h), fun h => (by cases h), fun h => (by cases h), fun h => (by cases h), fun h => (by cases h)⟩⟩ ?_ ?_
  · rintro L a w i o ⟨v10, v54, v55, v56, v57, v58, v59, v60, rfl, hI⟩ hL ho hall K' hK
    have hi : i < 9 := (List.getElem?_eq_some_iff.1 ho).1
    have HI := Lib.hid hI
    clear hI
    have hi' : i = 0 ∨ i = 1 ∨ i = 2 ∨ i = 3 ∨ i = 4 ∨ i = 5 ∨ i = 6 ∨ i = 7 ∨ i = 8 := by omega
    rcases hi' with rfl | rfl | rfl | rfl | rfl | rfl | rfl | rfl | rfl
    · obtain rfl := Option.some.inj ho
      clear hall ho hi
      refine ⟨rfl, ?_⟩
      have c := Boxed.cell (t := 54) ((HI.out.bel.block _ HCB.out.lt).trans HCB.out)
      go_simp
      have hm := HI.out
      refine hK.out _ _ ⟨_, _, _, _, _, _, _, _, rfl, ?_⟩
      exact ⟨hm.bel, fun l => rfl, fun l => hm.h1 (by simpa using l), fun l => hm.h2 (by simpa using l), fun l => hm.h3 (by simpa using l), fun l => hm.h4 (by simpa using l), fun l => hm.h5 (by simpa using l), fun l => hm.h6 (by simpa using l), fun l => by obtain ⟨q, e1, e2, e3, e4⟩ := hm.h7 (by simpa using l); exact ⟨q, e1, e2, fun x => e3 (by simpa using x), fun x => e4 (by simpa using x)⟩, fun l => by have h := hm.c8 (by simpa using l); simp [h]⟩
    · obtain rfl := Option.some.inj ho
      have d0 : L 0 = true := hall { on := 0, ground := .data } (by simp) rfl
      clear hall ho hi
      refine ⟨rfl, ?_⟩
      have e := HI.out.h0 d0
      subst e
      go_simp
      have hm := HI.out
      refine hK.out _ _ ⟨_, _, _, _, _, _, _, _, rfl, ?_⟩
      exact ⟨hm.bel, fun l => hm.h0 (by simpa using l), fun l => rfl, fun l => hm.h2 (by simpa using l), fun l => hm.h3 (by simpa using l), fun l => hm.h4 (by simpa using l), fun l => hm.h5 (by simpa using l), fun l => hm.h6 (by simpa using l), fun l => by obtain ⟨q, e1, e2, e3, e4⟩ := hm.h7 (by simpa using l); exact ⟨q, e1, e2, fun x => e3 (by simpa using x), fun x => e4 (by simpa using x)⟩, fun l => by have h := hm.c8 (by simpa using l); simp [h]⟩
    · obtain rfl := Option.some.inj ho
      have d1 : L 1 = true := hall { on := 1, ground := .data } (by simp) rfl
      clear hall ho hi
      refine ⟨rfl, ?_⟩
      have e := HI.out.h1 d1
      subst e
      go_simp
      have hm := HI.out
      refine hK.out _ _ ⟨_, _, _, _, _, _, _, _, rfl, ?_⟩
      exact ⟨hm.bel, fun l => hm.h0 (by simpa using l), fun l => hm.h1 (by simpa using l), fun l => rfl, fun l => hm.h3 (by simpa using l), fun l => hm.h4 (by simpa using l), fun l => hm.h5 (by simpa using l), fun l => hm.h6 (by simpa using l), fun l => by obtain ⟨q, e1, e2, e3, e4⟩ := hm.h7 (by simpa using l); exact ⟨q, e1, e2, fun x => e3 (by simpa using x), fun x => e4 (by simpa using x)⟩, fun l => by have h := hm.c8 (by simpa using l); simp [h]⟩
    · obtain rfl := Option.some.inj ho
      have d2 : L 2 = true := hall { on := 2, ground := .data } (by simp) rfl
      clear hall ho hi
      refine ⟨rfl, ?_⟩
      have e := HI.out.h2 d2
      subst e
      have c := (HI.out.bel.cell (World.block_lt_of_cell? V _ HKM.out)).trans HKM.out
      go_simp
      have hm := HI.out
      refine hK.out _ _ ⟨_, _, _, _, _, _, _, _, rfl, ?_⟩
      exact ⟨hm.bel, fun l => hm.h0 (by simpa using l), fun l => hm.h1 (by simpa using l), fun l => hm.h2 (by simpa using l), fun l => rfl, fun l => hm.h4 (by simpa using l), fun l => hm.h5 (by simpa using l), fun l => hm.h6 (by simpa using l), fun l => by obtain ⟨q, e1, e2, e3, e4⟩ := hm.h7 (by simpa using l); exact ⟨q, e1, e2, fun x => e3 (by simpa using x), fun x => e4 (by simpa using x)⟩, fun l => by have h := hm.c8 (by simpa using l); simp [h]⟩
    · obtain rfl := Option.some.inj ho
      clear hall ho hi
      refine ⟨rfl, ?_⟩
      go_simp
      have hm := HI.out
      refine hK.out _ _ ⟨_, _, _, _, _, _, _, _, rfl, ?_⟩
      exact ⟨hm.bel, fun l => hm.h0 (by simpa using l), fun l => hm.h1 (by simpa using l), fun l => hm.h2 (by simpa using l), fun l => hm.h3 (by simpa using l), fun l => rfl, fun l => hm.h5 (by simpa using l), fun l => hm.h6 (by simpa using l), fun l => by obtain ⟨q, e1, e2, e3, e4⟩ := hm.h7 (by simpa using l); exact ⟨q, e1, e2, fun x => e3 (by simpa using x), fun x => e4 (by simpa using x)⟩, fun l => by have h := hm.c8 (by simpa using l); simp [h]⟩
    · obtain rfl := Option.some.inj ho
      have d4 : L 4 = true := hall { on := 4, ground := .data } (by simp) rfl
      clear hall ho hi
      refine ⟨rfl, ?_⟩
      have e := HI.out.h4 d4
      subst e
      have c := (HI.out.bel.cell (World.block_lt_of_cell? V _ HTK.out)).trans HTK.out
      go_simp
      have hm := HI.out
      refine hK.out _ _ ⟨_, _, _, _, _, _, _, _, rfl, ?_⟩
      exact ⟨hm.bel, fun l => hm.h0 (by simpa using l), fun l => hm.h1 (by simpa using l), fun l => hm.h2 (by simpa using l), fun l => hm.h3 (by simpa using l), fun l => hm.h4 (by simpa using l), fun l => rfl, fun l => hm.h6 (by simpa using l), fun l => by obtain ⟨q, e1, e2, e3, e4⟩ := hm.h7 (by simpa using l); exact ⟨q, e1, e2, fun x => e3 (by simpa using x), fun x => e4 (by simpa using x)⟩, fun l => by have h := hm.c8 (by simpa using l); simp [h]⟩
    · obtain rfl := Option.some.inj ho
      have d3 : L 3 = true := hall { on := 3, ground := .data } (by simp) rfl
      have d5 : L 5 = true := hall { on := 5, ground := .data } (by simp) rfl
      clear hall ho hi
      refine ⟨rfl, ?_⟩
      have e := HI.out.h3 d3
      subst e
      have e := HI.out.h5 d5
      subst e
      have hlk := HLK.out w HI.out.bel
      go_simp
      have hm := HI.out
      refine hK.out _ _ ⟨_, _, _, _, _, _, _, _, rfl, ?_⟩
      exact ⟨hm.bel, fun l => hm.h0 (by simpa using l), fun l => hm.h1 (by simpa using l), fun l => hm.h2 (by simpa using l), fun l => hm.h3 (by simpa using l), fun l => hm.h4 (by simpa using l), fun l => hm.h5 (by simpa using l), fun l => rfl, fun l => by obtain ⟨q, e1, e2, e3, e4⟩ := hm.h7 (by simpa using l); exact ⟨q, e1, e2, fun x => e3 (by simpa using x), fun x => e4 (by simpa using x)⟩, fun l => by have h := hm.c8 (by simpa using l); simp [h]⟩
    · obtain rfl := Option.some.inj ho
      clear hall ho hi
      refine ⟨rfl, ?_⟩
      go_simp
      have hm := HI.out.mono (w' := w.alloc (.cells #[.int .i64 0, .int .i64 0, .int .i64 0, .int .i64 0, .bool false] 67)) ((Below.refl _ _).alloc (Nat.le_refl _) _)
      refine hK.out _ _ ⟨_, _, _, _, _, _, _, _, rfl, ?_⟩
      exact ⟨hm.bel, fun l => hm.h0 (by simpa using l), fun l => hm.h1 (by simpa using l), fun l => hm.h2 (by simpa using l), fun l => hm.h3 (by simpa using l), fun l => hm.h4 (by simpa using l), fun l => hm.h5 (by simpa using l), fun l => hm.h6 (by simpa using l), fun l => ⟨w.heap.size, rfl, HI.out.bel.size, fun _ => Blk.new w _ _, fun x => absurd (hm.c8 (by simpa using x)) (by simp [hL])⟩, fun l => by have h := hm.c8 (by simpa using l); simp [h]⟩
    · obtain rfl := Option.some.inj ho
      have d7 : L 7 = true := hall { on := 7, ground := .data } (by simp) rfl
      have d6 : L 6 = true := hall { on := 6, ground := .data } (by simp) rfl
      clear hall ho hi
      refine ⟨rfl, ?_⟩
      obtain ⟨q, e10, hq, hz, _⟩ := HI.out.h7 d7
      subst e10
      have e60 := HI.out.h6 d6
      subst e60
      have hz := hz hL
      have y0 := hz.cell 0 rfl
      have y1 := hz.cell 1 rfl
      have y2 := hz.cell 2 rfl
      have y3 := hz.cell 3 rfl
      have y4 := hz.cell 4 rfl
      have z0 := hz.frozen 0
      have z1 := hz.frozen 1
      have z2 := hz.frozen 2
      have z3 := hz.frozen 3
      have z4 := hz.frozen 4
      have HZ := Lib.hid hz
      have HQ0 := Lib.hid hq
      clear hz hq
      go_simp
      have hm := HI.out
      have hbel := HI.out.bel
      refine hK.out _ _ ⟨_, _, _, _, _, _, _, _, rfl, ?_⟩
      refine ⟨?_, fun l => hm.h0 (by simpa using l), fun l => hm.h1 (by simpa using l), fun l => hm.h2 (by simpa using l), fun l => hm.h3 (by simpa using l), fun l => hm.h4 (by simpa using l), fun l => hm.h5 (by simpa using l), fun l => rfl, fun l => ⟨q, rfl, HQ0.out, fun x => absurd x (by simp), fun _ => ?_⟩, fun l => by simp [d7]⟩
      · exact ((((hbel.setCell (p := ⟨q, 0, none⟩) HQ0.out _).setCell (p := ⟨q, 1, none⟩) HQ0.out _).setCell (p := ⟨q, 2, none⟩) HQ0.out _).setCell (p := ⟨q, 3, none⟩) HQ0.out _).setCell (p := ⟨q, 4, none⟩) HQ0.out _
      · exact ((((((HZ.out.set 0 _).set 1 _).set 2 _).set 3 _).set 4 _)).eq rfl
  · rintro L a w ⟨v10, v54, v55, v56, v57, v58, v59, v60, rfl, hI⟩ hall
    obtain ⟨q, e1, e2, _, e4⟩ := hI.h7 (hall 7 (by decide))
    exact hQ _ _ _ _ _ _ _ _ w ⟨⟨q, e1, e2, e4 (hall 8 (by decide))⟩, hI.bel⟩
structure O17 (V : World) (bk lb : Nat) (at_ n0 n1 n2 n3 : Int) (n4 ok : Bool) (L : Nat → Bool) (v63 v64 v65 v66 v67 : Value) (w : World) : Prop where
  bel : Below lb V w
  h0 : L 0 = true → v63 = .int .i64 at_
  h1 : L 1 = true → v64 = .pointer (some ⟨bk, 2, none⟩)
  h2 : L 2 = true → v65 = .bool ok
  h3 : L 3 = true → v66 = .pointer (some ⟨lb, 1, none⟩)
  h5 : L 5 = true → v67 = .pointer (some ⟨lb, 4, none⟩)
  blk : Blk w lb #[.int .i64 n0, .int .i64 (if L 4 then at_ else n1), .int .i64 n2, .int .i64 n3, .bool (if L 6 then ok else n4)] 67
set_option maxRecDepth 100000 in
set_option maxHeartbeats 32000000 in
theorem breg17 {ops : Array Oper} {b : Bool} (hops : (Try.f7.body.bind fun c => regOps c 17) = some (ops, b)) (V : World) (lp n : Nat) (qat bk lb : Nat) (at_ n0 n1 n2 n3 : Int) (n4 ok : Bool) (LA : Hid (qat < lb)) (LK : Hid (bk < lb)) (HAT : Hid (Boxed V qat 3 (.int .i64 at_))) (HOK : Hid (V.cell? ⟨bk, 2, none⟩ = some (.bool ok))) (HLB : Hid (Blk V lb #[.int .i64 n0, .int .i64 n1, .int .i64 n2, .int .i64 n3, .bool n4] 67)) {s0 s1 s2 s3 s4 s5 s6 s7 s11 s12 s13 s14 s15 s16 s17 s18 s19 s20 s21 s22 s23 s24 s25 s26 s27 s28 s29 s30 s31 s32 s33 s34 s35 s36 s37 s38 s39 s40 s41 s42 s43 s44 s45 s46 s47 s48 s49 s50 s51 s52 s53 s54 s55 s56 s57 s58 s59 s60 s61 s62 s68 s69 s70 s71 s72 s73 s74 s75 s76 s77 s78 s79 s80 s81 s82 s83 s84 s85 s86 s87 s88 s89 s90 s91 s92 s93 s94 s95 s96 s97 s98 s99 s100 s101 s102 s103 s104 s105 s106 s107 s108 s109 s110 s111 s112 s113 s114 s115 s116 s117 s118 s119 s120 s121 s122 s123 s124 s125 s126 s127 s128 s129 s130 s131 s132 s133 s134 s135 s136 s137 s138 s139 s140 s141 u63 u64 u65 u66 u67 : Value} {ds : List Deferred} {Q : Exit → Act → World → Prop}
    (hQ : ∀ (v63 v64 v65 v66 v67 : Value) (wx : World), Below lb V wx ∧ Blk wx lb #[.int .i64 n0, .int .i64 at_, .int .i64 n2, .int .i64 n3, .bool ok] 67 → Q .normal ⟨#[s0, s1, s2, s3, s4, s5, s6, s7, .pointer (some ⟨qat, 0, none⟩), .pointer (some ⟨bk, 0, none⟩), .pointer (some ⟨lb, 0, none⟩), s11, s12, s13, s14, s15, s16, s17, s18, s19, s20, s21, s22, s23, s24, s25, s26, s27, s28, s29, s30, s31, s32, s33, s34, s35, s36, s37, s38, s39, s40, s41, s42, s43, s44, s45, s46, s47, s48, s49, s50, s51, s52, s53, s54, s55, s56, s57, s58, s59, s60, s61, s62, v63, v64, v65, v66, v67, s68, s69, s70, s71, s72, s73, s74, s75, s76, s77, s78, s79, s80, s81, s82, s83, s84, s85, s86, s87, s88, s89, s90, s91, s92, s93, s94, s95, s96, s97, s98, s99, s100, s101, s102, s103, s104, s105, s106, s107, s108, s109, s110, s111, s112, s113, s114, s115, s116, s117, s118, s119, s120, s121, s122, s123, s124, s125, s126, s127, s128, s129, s130, s131, s132, s133, s134, s135, s136, s137, s138, s139, s140, s141], ds⟩ wx) :
    (Code.region 17 ops b).wpIn (Fence.wide.inRound lp) n Try.prog Q ⟨#[s0, s1, s2, s3, s4, s5, s6, s7, .pointer (some ⟨qat, 0, none⟩), .pointer (some ⟨bk, 0, none⟩), .pointer (some ⟨lb, 0, none⟩), s11, s12, s13, s14, s15, s16, s17, s18, s19, s20, s21, s22, s23, s24, s25, s26, s27, s28, s29, s30, s31, s32, s33, s34, s35, s36, s37, s38, s39, s40, s41, s42, s43, s44, s45, s46, s47, s48, s49, s50, s51, s52, s53, s54, s55, s56, s57, s58, s59, s60, s61, s62, u63, u64, u65, u66, u67, s68, s69, s70, s71, s72, s73, s74, s75, s76, s77, s78, s79, s80, s81, s82, s83, s84, s85, s86, s87, s88, s89, s90, s91, s92, s93, s94, s95, s96, s97, s98, s99, s100, s101, s102, s103, s104, s105, s106, s107, s108, s109, s110, s111, s112, s113, s114, s115, s116, s117, s118, s119, s120, s121, s122, s123, s124, s125, s126, s127, s128, s129, s130, s131, s132, s133, s134, s135, s136, s137, s138, s139, s140, s141], ds⟩ V := by
  obtain ⟨rfl, rfl⟩ := regOps_eq hops rfl
  refine wpIn_region_inv (by kernel_rfl) (by kernel_rfl) (fun L a w => ∃ v63 v64 v65 v66 v67 : Value, a = ⟨#[s0, s1, s2, s3, s4, s5, s6, s7, .pointer (some ⟨qat, 0, none⟩), .pointer (some ⟨bk, 0, none⟩), .pointer (some ⟨lb, 0, none⟩), s11, s12, s13, s14, s15, s16, s17, s18, s19, s20, s21, s22, s23, s24, s25, s26, s27, s28, s29, s30, s31, s32, s33, s34, s35, s36, s37, s38, s39, s40, s41, s42, s43, s44, s45, s46, s47, s48, s49, s50, s51, s52, s53, s54, s55, s56, s57, s58, s59, s60, s61, s62, v63, v64, v65, v66, v67, s68, s69, s70, s71, s72, s73, s74, s75, s76, s77, s78, s79, s80, s81, s82, s83, s84, s85, s86, s87, s88, s89, s90, s91, s92, s93, s94, s95, s96, s97, s98, s99, s100, s101, s102, s103, s104, s105, s106, s107, s108, s109, s110, s111, s112, s113, s114, s115, s116, s117, s118, s119, s120, s121, s122, s123, s124, s125, s126, s127, s128, s129, s130, s131, s132, s133, s134, s135, s136, s137, s138, s139, s140, s141], ds⟩ ∧ O17 V bk lb at_ n0 n1 n2 n3 n4 ok L v63 v64 v65 v66 v67 w) ⟨u63, u64, u65, u66, u67, rfl, ⟨⟨rfl, rfl, rfl, Nat.le_refl _, fun _ _ => rfl⟩, fun h => (by cases h), fun h => (by cases h), fun h => (by cases h), fun h => (by cases h), fun h => (by cases h), HLB.out⟩⟩ ?_ ?_
  · rintro L a w i o ⟨v63, v64, v65, v66, v67, rfl, hI⟩ hL ho hall K' hK
    have hi : i < 7 := (List.getElem?_eq_some_iff.1 ho).1
    have HI := Lib.hid hI
    clear hI
    have hi' : i = 0 ∨ i = 1 ∨ i = 2 ∨ i = 3 ∨ i = 4 ∨ i = 5 ∨ i = 6 := by omega
    rcases hi' with rfl | rfl | rfl | rfl | rfl | rfl | rfl
    · obtain rfl := Option.some.inj ho
      clear hall ho hi
      refine ⟨rfl, ?_⟩
      have c := Boxed.cell (t := 3) ((HI.out.bel.block _ LA.out).trans HAT.out)
      go_simp
      have hm := HI.out
      refine hK.out _ _ ⟨_, _, _, _, _, rfl, ?_⟩
      exact ⟨hm.bel, fun l => rfl, fun l => hm.h1 (by simpa using l), fun l => hm.h2 (by simpa using l), fun l => hm.h3 (by simpa using l), fun l => hm.h5 (by simpa using l), by simpa using hm.blk⟩
    · obtain rfl := Option.some.inj ho
      clear hall ho hi
      refine ⟨rfl, ?_⟩
      go_simp
      have hm := HI.out
      refine hK.out _ _ ⟨_, _, _, _, _, rfl, ?_⟩
      exact ⟨hm.bel, fun l => hm.h0 (by simpa using l), fun l => rfl, fun l => hm.h2 (by simpa using l), fun l => hm.h3 (by simpa using l), fun l => hm.h5 (by simpa using l), by simpa using hm.blk⟩
    · obtain rfl := Option.some.inj ho
      have d1 : L 1 = true := hall { on := 1, ground := .data } (by simp) rfl
      clear hall ho hi
      refine ⟨rfl, ?_⟩
      have e := HI.out.h1 d1
      subst e
      have c := (HI.out.bel.cell (p := ⟨bk, 2, none⟩) LK.out).trans HOK.out
      go_simp
      have hm := HI.out
      refine hK.out _ _ ⟨_, _, _, _, _, rfl, ?_⟩
      exact ⟨hm.bel, fun l => hm.h0 (by simpa using l), fun l => hm.h1 (by simpa using l), fun l => rfl, fun l => hm.h3 (by simpa using l), fun l => hm.h5 (by simpa using l), by simpa using hm.blk⟩
    · obtain rfl := Option.some.inj ho
      clear hall ho hi
      refine ⟨rfl, ?_⟩
      go_simp
      have hm := HI.out
      refine hK.out _ _ ⟨_, _, _, _, _, rfl, ?_⟩
      exact ⟨hm.bel, fun l => hm.h0 (by simpa using l), fun l => hm.h1 (by simpa using l), fun l => hm.h2 (by simpa using l), fun l => rfl, fun l => hm.h5 (by simpa using l), by simpa using hm.blk⟩
    · obtain rfl := Option.some.inj ho
      have d3 : L 3 = true := hall { on := 3, ground := .data } (by simp) rfl
      have d0 : L 0 = true := hall { on := 0, ground := .data } (by simp) rfl
      clear hall ho hi
      refine ⟨rfl, ?_⟩
      have e := HI.out.h3 d3
      subst e
      have e := HI.out.h0 d0
      subst e
      have hk := HI.out.blk
      have y := hk.cell 1 rfl
      have z := hk.frozen 1
      have HKK := Lib.hid hk
      clear hk
      go_simp
      have hm := HI.out
      refine hK.out _ _ ⟨_, _, _, _, _, rfl, ?_⟩
      refine ⟨HI.out.bel.setCell (p := ⟨lb, 1, none⟩) (Nat.le_refl _) _, fun l => hm.h0 (by simpa using l), fun l => hm.h1 (by simpa using l), fun l => hm.h2 (by simpa using l), fun l => hm.h3 (by simpa using l), fun l => hm.h5 (by simpa using l), ?_⟩
      have hs := HKK.out.set 1 (.int .i64 at_)
      simpa [hL] using hs
    · obtain rfl := Option.some.inj ho
      clear hall ho hi
      refine ⟨rfl, ?_⟩
      go_simp
      have hm := HI.out
      refine hK.out _ _ ⟨_, _, _, _, _, rfl, ?_⟩
      exact ⟨hm.bel, fun l => hm.h0 (by simpa using l), fun l => hm.h1 (by simpa using l), fun l => hm.h2 (by simpa using l), fun l => hm.h3 (by simpa using l), fun l => rfl, by simpa using hm.blk⟩
    · obtain rfl := Option.some.inj ho
      have d5 : L 5 = true := hall { on := 5, ground := .data } (by simp) rfl
      have d2 : L 2 = true := hall { on := 2, ground := .data } (by simp) rfl
      clear hall ho hi
      refine ⟨rfl, ?_⟩
      have e := HI.out.h5 d5
      subst e
      have e := HI.out.h2 d2
      subst e
      have hk := HI.out.blk
      have y := hk.cell 4 rfl
      have z := hk.frozen 4
      have HKK := Lib.hid hk
      clear hk
      go_simp
      have hm := HI.out
      refine hK.out _ _ ⟨_, _, _, _, _, rfl, ?_⟩
      refine ⟨HI.out.bel.setCell (p := ⟨lb, 4, none⟩) (Nat.le_refl _) _, fun l => hm.h0 (by simpa using l), fun l => hm.h1 (by simpa using l), fun l => hm.h2 (by simpa using l), fun l => hm.h3 (by simpa using l), fun l => hm.h5 (by simpa using l), ?_⟩
      have hs := HKK.out.set 4 (.bool ok)
      simpa [hL] using hs
  · rintro L a w ⟨v63, v64, v65, v66, v67, rfl, hI⟩ hall
    have hb := hI.blk
    rw [hall 4 (by decide), hall 6 (by decide)] at hb
    exact hQ _ _ _ _ _ w ⟨hI.bel, hb⟩
structure O27 (V : World) (qk qm bk : Nat) (tok : Int) (Lf : Array Value) (L : Nat → Bool) (v14 v101 v102 v103 v104 v105 v106 v107 v108 : Value) (w : World) : Prop where
  bel : Below V.heap.size V w
  h0 : L 0 = true → v101 = .pointer (some ⟨qk, 0, none⟩)
  h1 : L 1 = true → v102 = .pointer (some ⟨qk, 0, none⟩)
  h2 : L 2 = true → v103 = .pointer (some ⟨qk, 1, none⟩)
  h3 : L 3 = true → v104 = .map (some qm)
  h4 : L 4 = true → v105 = .pointer (some ⟨bk, 2, none⟩)
  h5 : L 5 = true → v106 = .pointer (some ⟨bk, 2, none⟩)
  h6 : L 6 = true → v107 = .int .i64 tok
  h7 : L 7 = true → v108 = .agg Lf
  h8 : L 8 = true → ∃ q, v14 = .pointer (some ⟨q, 0, none⟩) ∧ V.heap.size ≤ q ∧ (L 9 = false → Blk w q #[.int .i64 0, .int .i64 0, .int .i64 0, .int .i64 0, .bool false] 67) ∧ (L 9 = true → Blk w q Lf 67)
  c9 : L 9 = true → L 8 = true
theorem O27.mono {V : World} {qk qm bk : Nat} {tok : Int} {Lf : Array Value} {L : Nat → Bool} {v14 v101 v102 v103 v104 v105 v106 v107 v108 : Value} {w w' : World} (h : O27 V qk qm bk tok Lf L v14 v101 v102 v103 v104 v105 v106 v107 v108 w) (hb : Below w.heap.size w w') : O27 V qk qm bk tok Lf L v14 v101 v102 v103 v104 v105 v106 v107 v108 w' :=
  { h with
    bel := h.bel.trans (hb.mono h.bel.size)
    h8 := fun l => by obtain ⟨q, a, b, d, e⟩ := h.h8 l; exact ⟨q, a, b, fun x => (d x).below hb, fun x => (e x).below hb⟩ }
set_option maxRecDepth 100000 in
set_option maxHeartbeats 32000000 in
theorem breg27 {ops : Array Oper} {b : Bool} (hops : (Try.f7.body.bind fun c => regOps c 27) = some (ops, b)) (V : World) (lp n : Nat) (qb qk qm bk : Nat) (tok n0 n1 n2 n3 : Int) (n4 : Bool) (HCB : Hid (Boxed V qb 54 (.pointer (some ⟨qk, 0, none⟩)))) (HKM : Hid (V.cell? ⟨qk, 1, none⟩ = some (.map (some qm)))) (HTK : Hid (V.cell? ⟨bk, 2, none⟩ = some (.int .i64 tok))) (HLK : Hid (∀ w', Below V.heap.size V w' → (Instr.lookup 56 (.map (some qm)) (.int .i64 tok) false).run Try.prog w' = .ok (.agg #[.int .i64 n0, .int .i64 n1, .int .i64 n2, .int .i64 n3, .bool n4]) w')) {s0 s1 s2 s3 s4 s5 s6 s8 s9 s10 s11 s12 s15 s16 s17 s18 s19 s20 s21 s22 s23 s24 s25 s26 s27 s28 s29 s30 s31 s32 s33 s34 s35 s36 s37 s38 s39 s40 s41 s42 s43 s44 s45 s46 s47 s48 s49 s50 s51 s52 s53 s54 s55 s56 s57 s58 s59 s60 s61 s62 s63 s64 s65 s66 s67 s68 s69 s70 s71 s72 s73 s74 s75 s76 s77 s78 s79 s80 s81 s82 s83 s84 s85 s86 s87 s88 s89 s90 s91 s92 s93 s94 s95 s96 s97 s98 s99 s100 s109 s110 s111 s112 s113 s114 s115 s116 s117 s118 s119 s120 s121 s122 s123 s124 s125 s126 s127 s128 s129 s130 s131 s132 s133 s134 s135 s136 s137 s138 s139 s140 s141 u14 u101 u102 u103 u104 u105 u106 u107 u108 : Value} {ds : List Deferred} {Q : Exit → Act → World → Prop}
    (hQ : ∀ (v14 v101 v102 v103 v104 v105 v106 v107 v108 : Value) (wx : World), (∃ lb, v14 = .pointer (some ⟨lb, 0, none⟩) ∧ V.heap.size ≤ lb ∧ Blk wx lb #[.int .i64 n0, .int .i64 n1, .int .i64 n2, .int .i64 n3, .bool n4] 67) ∧ Below V.heap.size V wx → Q .normal ⟨#[s0, s1, s2, s3, s4, s5, s6, .pointer (some ⟨qb, 0, none⟩), s8, s9, s10, s11, s12, .pointer (some ⟨bk, 0, none⟩), v14, s15, s16, s17, s18, s19, s20, s21, s22, s23, s24, s25, s26, s27, s28, s29, s30, s31, s32, s33, s34, s35, s36, s37, s38, s39, s40, s41, s42, s43, s44, s45, s46, s47, s48, s49, s50, s51, s52, s53, s54, s55, s56, s57, s58, s59, s60, s61, s62, s63, s64, s65, s66, s67, s68, s69, s70, s71, s72, s73, s74, s75, s76, s77, s78, s79, s80, s81, s82, s83, s84, s85, s86, s87, s88, s89, s90, s91, s92, s93, s94, s95, s96, s97, s98, s99, s100, v101, v102, v103, v104, v105, v106, v107, v108, s109, s110, s111, s112, s113, s114, s115, s116, s117, s118, s119, s120, s121, s122, s123, s124, s125, s126, s127, s128, s129, s130, s131, s132, s133, s134, s135, s136, s137, s138, s139, s140, s141], ds⟩ wx) :
    (Code.region 27 ops b).wpIn Fence.wide n Try.prog Q ⟨#[s0, s1, s2, s3, s4, s5, s6, .pointer (some ⟨qb, 0, none⟩), s8, s9, s10, s11, s12, .pointer (some ⟨bk, 0, none⟩), u14, s15, s16, s17, s18, s19, s20, s21, s22, s23, s24, s25, s26, s27, s28, s29, s30, s31, s32, s33, s34, s35, s36, s37, s38, s39, s40, s41, s42, s43, s44, s45, s46, s47, s48, s49, s50, s51, s52, s53, s54, s55, s56, s57, s58, s59, s60, s61, s62, s63, s64, s65, s66, s67, s68, s69, s70, s71, s72, s73, s74, s75, s76, s77, s78, s79, s80, s81, s82, s83, s84, s85, s86, s87, s88, s89, s90, s91, s92, s93, s94, s95, s96, s97, s98, s99, s100, u101, u102, u103, u104, u105, u106, u107, u108, s109, s110, s111, s112, s113, s114, s115, s116, s117, s118, s119, s120, s121, s122, s123, s124, s125, s126, s127, s128, s129, s130, s131, s132, s133, s134, s135, s136, s137, s138, s139, s140, s141], ds⟩ V := by
  obtain ⟨rfl, rfl⟩ := regOps_eq hops rfl
  refine wpIn_region_inv (by kernel_rfl) (by kernel_rfl) (fun L a w => ∃ v14 v101 v102 v103 v104 v105 v106 v107 v108 : Value, a = ⟨#[s0, s1, s2, s3, s4, s5, s6, .pointer (some ⟨qb, 0, none⟩), s8, s9, s10, s11, s12, .pointer (some ⟨bk, 0, none⟩), v14, s15, s16, s17, s18, s19, s20, s21, s22, s23, s24, s25, s26, s27, s28, s29, s30, s31, s32, s33, s34, s35, s36, s37, s38, s39, s40, s41, s42, s43, s44, s45, s46, s47, s48, s49, s50, s51, s52, s53, s54, s55, s56, s57, s58, s59, s60, s61, s62, s63, s64, s65, s66, s67, s68, s69, s70, s71, s72, s73, s74, s75, s76, s77, s78, s79, s80, s81, s82, s83, s84, s85, s86, s87, s88, s89, s90, s91, s92, s93, s94, s95, s96, s97, s98, s99, s100, v101, v102, v103, v104, v105, v106, v107, v108, s109, s110, s111, s112, s113, s114, s115, s116, s117, s118, s119, s120, s121, s122, s123, s124, s125, s126, s127, s128, s129, s130, s131, s132, s133, s134, s135, s136, s137, s138, s139, s140, s141], ds⟩ ∧ O27 V qk qm bk tok #[.int .i64 n0, .int .i64 n1, .int .i64 n2, .int .i64 n3, .bool n4] L v14 v101 v102 v103 v104 v105 v106 v107 v108 w) ⟨u14, u101, u102, u103, u104, u105, u106, u107, u108, rfl, ⟨⟨rfl, rfl, rfl, Nat.le_refl _, fun _ _ => rfl⟩, fun h => (by cases h), fun h => (by cases h), fun h => (by cases h), fun h => (by cases h), fun h => (by cases h), fun h => (by cases h), fun h => (by cases h), fun h => (by cases h), fun h => (by cases h), fun h => (by cases h)⟩⟩ ?_ ?_
  · rintro L a w i o ⟨v14, v101, v102, v103, v104, v105, v106, v107, v108, rfl, hI⟩ hL ho hall K' hK
    have hi : i < 10 := (List.getElem?_eq_some_iff.1 ho).1
    have HI := Lib.hid hI
    clear hI
    have hi' : i = 0 ∨ i = 1 ∨ i = 2 ∨ i = 3 ∨ i = 4 ∨ i = 5 ∨ i = 6 ∨ i = 7 ∨ i = 8 ∨ i = 9 := by omega
    rcases hi' with rfl | rfl | rfl | rfl | rfl | rfl | rfl | rfl | rfl | rfl
    · obtain rfl := Option.some.inj ho
      clear hall ho hi
      refine ⟨rfl, ?_⟩
      have c := Boxed.cell (t := 54) ((HI.out.bel.block _ HCB.out.lt).trans HCB.out)
      go_simp
      have hm := HI.out
      refine hK.out _ _ ⟨_, _, _, _, _, _, _, _, _, rfl, ?_⟩
      exact ⟨hm.bel, fun l => rfl, fun l => hm.h1 (by simpa using l), fun l => hm.h2 (by simpa using l), fun l => hm.h3 (by simpa using l), fun l => hm.h4 (by simpa using l), fun l => hm.h5 (by simpa using l), fun l => hm.h6 (by simpa using l), fun l => hm.h7 (by simpa using l), fun l => by obtain ⟨q, e1, e2, e3, e4⟩ := hm.h8 (by simpa using l); exact ⟨q, e1, e2, fun x => e3 (by simpa using x), fun x => e4 (by simpa using x)⟩, fun l => by have h := hm.c9 (by simpa using l); simp [h]⟩
    · obtain rfl := Option.some.inj ho
      have d0 : L 0 = true := hall { on := 0, ground := .data } (by simp) rfl
      clear hall ho hi
      refine ⟨rfl, ?_⟩
      have e := HI.out.h0 d0
      subst e
      go_simp
      have hm := HI.out
      refine hK.out _ _ ⟨_, _, _, _, _, _, _, _, _, rfl, ?_⟩
      exact ⟨hm.bel, fun l => hm.h0 (by simpa using l), fun l => rfl, fun l => hm.h2 (by simpa using l), fun l => hm.h3 (by simpa using l), fun l => hm.h4 (by simpa using l), fun l => hm.h5 (by simpa using l), fun l => hm.h6 (by simpa using l), fun l => hm.h7 (by simpa using l), fun l => by obtain ⟨q, e1, e2, e3, e4⟩ := hm.h8 (by simpa using l); exact ⟨q, e1, e2, fun x => e3 (by simpa using x), fun x => e4 (by simpa using x)⟩, fun l => by have h := hm.c9 (by simpa using l); simp [h]⟩
    · obtain rfl := Option.some.inj ho
      have d1 : L 1 = true := hall { on := 1, ground := .data } (by simp) rfl
      clear hall ho hi
      refine ⟨rfl, ?_⟩
      have e := HI.out.h1 d1
      subst e
      go_simp
      have hm := HI.out
      refine hK.out _ _ ⟨_, _, _, _, _, _, _, _, _, rfl, ?_⟩
      exact ⟨hm.bel, fun l => hm.h0 (by simpa using l), fun l => hm.h1 (by simpa using l), fun l => rfl, fun l => hm.h3 (by simpa using l), fun l => hm.h4 (by simpa using l), fun l => hm.h5 (by simpa using l), fun l => hm.h6 (by simpa using l), fun l => hm.h7 (by simpa using l), fun l => by obtain ⟨q, e1, e2, e3, e4⟩ := hm.h8 (by simpa using l); exact ⟨q, e1, e2, fun x => e3 (by simpa using x), fun x => e4 (by simpa using x)⟩, fun l => by have h := hm.c9 (by simpa using l); simp [h]⟩
    · obtain rfl := Option.some.inj ho
      have d2 : L 2 = true := hall { on := 2, ground := .data } (by simp) rfl
      clear hall ho hi
      refine ⟨rfl, ?_⟩
      have e := HI.out.h2 d2
      subst e
      have c := (HI.out.bel.cell (World.block_lt_of_cell? V _ HKM.out)).trans HKM.out
      go_simp
      have hm := HI.out
      refine hK.out _ _ ⟨_, _, _, _, _, _, _, _, _, rfl, ?_⟩
      exact ⟨hm.bel, fun l => hm.h0 (by simpa using l), fun l => hm.h1 (by simpa using l), fun l => hm.h2 (by simpa using l), fun l => rfl, fun l => hm.h4 (by simpa using l), fun l => hm.h5 (by simpa using l), fun l => hm.h6 (by simpa using l), fun l => hm.h7 (by simpa using l), fun l => by obtain ⟨q, e1, e2, e3, e4⟩ := hm.h8 (by simpa using l); exact ⟨q, e1, e2, fun x => e3 (by simpa using x), fun x => e4 (by simpa using x)⟩, fun l => by have h := hm.c9 (by simpa using l); simp [h]⟩
    · obtain rfl := Option.some.inj ho
      clear hall ho hi
      refine ⟨rfl, ?_⟩
      go_simp
      have hm := HI.out
      refine hK.out _ _ ⟨_, _, _, _, _, _, _, _, _, rfl, ?_⟩
      exact ⟨hm.bel, fun l => hm.h0 (by simpa using l), fun l => hm.h1 (by simpa using l), fun l => hm.h2 (by simpa using l), fun l => hm.h3 (by simpa using l), fun l => rfl, fun l => hm.h5 (by simpa using l), fun l => hm.h6 (by simpa using l), fun l => hm.h7 (by simpa using l), fun l => by obtain ⟨q, e1, e2, e3, e4⟩ := hm.h8 (by simpa using l); exact ⟨q, e1, e2, fun x => e3 (by simpa using x), fun x => e4 (by simpa using x)⟩, fun l => by have h := hm.c9 (by simpa using l); simp [h]⟩
    · obtain rfl := Option.some.inj ho
      have d4 : L 4 = true := hall { on := 4, ground := .data } (by simp) rfl
      clear hall ho hi
      refine ⟨rfl, ?_⟩
      have e := HI.out.h4 d4
      subst e
      go_simp
      have hm := HI.out
      refine hK.out _ _ ⟨_, _, _, _, _, _, _, _, _, rfl, ?_⟩
      exact ⟨hm.bel, fun l => hm.h0 (by simpa using l), fun l => hm.h1 (by simpa using l), fun l => hm.h2 (by simpa using l), fun l => hm.h3 (by simpa using l), fun l => hm.h4 (by simpa using l), fun l => rfl, fun l => hm.h6 (by simpa using l), fun l => hm.h7 (by simpa using l), fun l => by obtain ⟨q, e1, e2, e3, e4⟩ := hm.h8 (by simpa using l); exact ⟨q, e1, e2, fun x => e3 (by simpa using x), fun x => e4 (by simpa using x)⟩, fun l => by have h := hm.c9 (by simpa using l); simp [h]⟩
    · obtain rfl := Option.some.inj ho
      have d5 : L 5 = true := hall { on := 5, ground := .data } (by simp) rfl
      clear hall ho hi
      refine ⟨rfl, ?_⟩
      have e := HI.out.h5 d5
      subst e
      have c := (HI.out.bel.cell (World.block_lt_of_cell? V _ HTK.out)).trans HTK.out
      go_simp
      have hm := HI.out
      refine hK.out _ _ ⟨_, _, _, _, _, _, _, _, _, rfl, ?_⟩
      exact ⟨hm.bel, fun l => hm.h0 (by simpa using l), fun l => hm.h1 (by simpa using l), fun l => hm.h2 (by simpa using l), fun l => hm.h3 (by simpa using l), fun l => hm.h4 (by simpa using l), fun l => hm.h5 (by simpa using l), fun l => rfl, fun l => hm.h7 (by simpa using l), fun l => by obtain ⟨q, e1, e2, e3, e4⟩ := hm.h8 (by simpa using l); exact ⟨q, e1, e2, fun x => e3 (by simpa using x), fun x => e4 (by simpa using x)⟩, fun l => by have h := hm.c9 (by simpa using l); simp [h]⟩
    · obtain rfl := Option.some.inj ho
      have d3 : L 3 = true := hall { on := 3, ground := .data } (by simp) rfl
      have d6 : L 6 = true := hall { on := 6, ground := .data } (by simp) rfl
      clear hall ho hi
      refine ⟨rfl, ?_⟩
      have e := HI.out.h3 d3
      subst e
      have e := HI.out.h6 d6
      subst e
      have hlk := HLK.out w HI.out.bel
      go_simp
      have hm := HI.out
      refine hK.out _ _ ⟨_, _, _, _, _, _, _, _, _, rfl, ?_⟩
      exact ⟨hm.bel, fun l => hm.h0 (by simpa using l), fun l => hm.h1 (by simpa using l), fun l => hm.h2 (by simpa using l), fun l => hm.h3 (by simpa using l), fun l => hm.h4 (by simpa using l), fun l => hm.h5 (by simpa using l), fun l => hm.h6 (by simpa using l), fun l => rfl, fun l => by obtain ⟨q, e1, e2, e3, e4⟩ := hm.h8 (by simpa using l); exact ⟨q, e1, e2, fun x => e3 (by simpa using x), fun x => e4 (by simpa using x)⟩, fun l => by have h := hm.c9 (by simpa using l); simp [h]⟩
    · obtain rfl := Option.some.inj ho
      clear hall ho hi
      refine ⟨rfl, ?_⟩
      go_simp
      have hm := HI.out.mono (w' := w.alloc (.cells #[.int .i64 0, .int .i64 0, .int .i64 0, .int .i64 0, .bool false] 67)) ((Below.refl _ _).alloc (Nat.le_refl _) _)
      refine hK.out _ _ ⟨_, _, _, _, _, _, _, _, _, rfl, ?_⟩
      exact ⟨hm.bel, fun l => hm.h0 (by simpa using l), fun l => hm.h1 (by simpa using l), fun l => hm.h2 (by simpa using l), fun l => hm.h3 (by simpa using l), fun l => hm.h4 (by simpa using l), fun l => hm.h5 (by simpa using l), fun l => hm.h6 (by simpa using l), fun l => hm.h7 (by simpa using l), fun l => ⟨w.heap.size, rfl, HI.out.bel.size, fun _ => Blk.new w _ _, fun x => absurd (hm.c9 (by simpa using x)) (by simp [hL])⟩, fun l => by have h := hm.c9 (by simpa using l); simp [h]⟩
    · obtain rfl := Option.some.inj ho
      have d8 : L 8 = true := hall { on := 8, ground := .data } (by simp) rfl
      have d7 : L 7 = true := hall { on := 7, ground := .data } (by simp) rfl
      clear hall ho hi
      refine ⟨rfl, ?_⟩
      obtain ⟨q, e14, hq, hz, _⟩ := HI.out.h8 d8
      subst e14
      have e108 := HI.out.h7 d7
      subst e108
      have hz := hz hL
      have y0 := hz.cell 0 rfl
      have y1 := hz.cell 1 rfl
      have y2 := hz.cell 2 rfl
      have y3 := hz.cell 3 rfl
      have y4 := hz.cell 4 rfl
      have z0 := hz.frozen 0
      have z1 := hz.frozen 1
      have z2 := hz.frozen 2
      have z3 := hz.frozen 3
      have z4 := hz.frozen 4
      have HZ := Lib.hid hz
      have HQ0 := Lib.hid hq
      clear hz hq
      go_simp
      have hm := HI.out
      have hbel := HI.out.bel
      refine hK.out _ _ ⟨_, _, _, _, _, _, _, _, _, rfl, ?_⟩
      refine ⟨?_, fun l => hm.h0 (by simpa using l), fun l => hm.h1 (by simpa using l), fun l => hm.h2 (by simpa using l), fun l => hm.h3 (by simpa using l), fun l => hm.h4 (by simpa using l), fun l => hm.h5 (by simpa using l), fun l => hm.h6 (by simpa using l), fun l => rfl, fun l => ⟨q, rfl, HQ0.out, fun x => absurd x (by simp), fun _ => ?_⟩, fun l => by simp [d8]⟩
      · exact ((((hbel.setCell (p := ⟨q, 0, none⟩) HQ0.out _).setCell (p := ⟨q, 1, none⟩) HQ0.out _).setCell (p := ⟨q, 2, none⟩) HQ0.out _).setCell (p := ⟨q, 3, none⟩) HQ0.out _).setCell (p := ⟨q, 4, none⟩) HQ0.out _
      · exact ((((((HZ.out.set 0 _).set 1 _).set 2 _).set 3 _).set 4 _)).eq rfl
  · rintro L a w ⟨v14, v101, v102, v103, v104, v105, v106, v107, v108, rfl, hI⟩ hall
    obtain ⟨q, e1, e2, _, e4⟩ := hI.h8 (hall 8 (by decide))
    exact hQ _ _ _ _ _ _ _ _ _ w ⟨⟨q, e1, e2, e4 (hall 9 (by decide))⟩, hI.bel⟩
end Go.Proofs.Ytfjhomegjceilaa
