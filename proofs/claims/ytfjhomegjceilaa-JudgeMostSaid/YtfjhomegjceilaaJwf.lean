/- hoardinglaw31.wakes: judge.Order's region 28: the guards, the call of the rule. -/
import Derived.Test.YtfjhomegjceilaaJwd
import Derived.StillTail
import Derived.StillTailTactics
namespace Go.Proofs.Ytfjhomegjceilaa
open Go.RowKit Go.Maps
set_option linter.unusedVariables false
set_option linter.unusedSimpArgs false
attribute [local go_sem] Oper.semAt_some
/-- wpStill under a name that nothing unfolds (a guarded operation that does not come makes the elaborator reckon on and on) -/
@[irreducible] def WS (P : Program) (ops : Array Oper) (w : World) (Q : Act → Prop) (l : List Oper) (a : Act) : Prop := wpStill P ops w Q l a
theorem WS.to {P : Program} {ops : Array Oper} {w : World} {Q : Act → Prop} {l : List Oper} {a : Act} (h : WS P ops w Q l a) : wpStill P ops w Q l a := by unfold WS at h; exact h
theorem WS.step {P : Program} {ops : Array Oper} {w : World} {Q : Act → Prop} {a : Act} {o : Oper} {rest : List Oper}
    (h : ∀ K : Act → Prop, (∀ a, WS P ops w Q rest a → K a) → if Region.wanted o (yielded ops a.tmps) then o.still P a w K else K (a.put o.dst undef)) : WS P ops w Q (o :: rest) a := by
  unfold WS at *
  exact wpStill_step h
theorem WS.nil {P : Program} {ops : Array Oper} {w : World} {Q : Act → Prop} {a : Act} (h : Q a) : WS P ops w Q [] a := by unfold WS; exact h
set_option maxRecDepth 100000 in
set_option maxHeartbeats 32000000 in
theorem oreg28_0 {ops : Array Oper} {b : Bool} (hops : (Try.f7.body.bind fun c => regOps c 28) = some (ops, b)) (V : World) (lb tb rb qk : Nat) (n0 n1 ch : Int) (res : Bool) (S : World → Prop) (l0 : V.cell? ⟨lb, 0, none⟩ = some (.int .i64 n0)) (l1 : V.cell? ⟨lb, 1, none⟩ = some (.int .i64 n1)) (l2 : V.cell? ⟨lb, 2, none⟩ = some (.int .i64 1)) (l3 : V.cell? ⟨lb, 3, none⟩ = some (.int .i64 0)) (t0 : V.cell? ⟨tb, 0, none⟩ = some (.int .i64 ch)) (t1 : V.cell? ⟨tb, 1, none⟩ = some (.int .i8 0)) (r0 : V.cell? ⟨rb, 0, none⟩ = some (.func (.func 14) #[.pointer (some ⟨qk, 0, none⟩)] #[]))
    (hcall : Calls Try.prog 14 #[.pointer (some ⟨qk, 0, none⟩), .int .i64 ch, .int .i64 n0] V.drew fun e w' => e = .returned (.bool res) ∧ S w')
    {s0 s1 s2 s3 s4 s5 s6 s7 s8 s9 s10 s12 s15 s16 s17 s18 s19 s20 s21 s22 s23 s24 s25 s26 s27 s28 s29 s30 s31 s32 s33 s34 s35 s36 s37 s38 s39 s40 s41 s42 s43 s44 s45 s46 s47 s48 s49 s50 s51 s52 s53 s54 s55 s56 s57 s58 s59 s60 s61 s62 s63 s64 s65 s66 s67 s68 s69 s70 s71 s72 s73 s74 s75 s76 s77 s78 s79 s80 s81 s82 s83 s84 s85 s86 s87 s88 s89 s90 s91 s92 s93 s94 s95 s96 s97 s98 s99 s100 s101 s102 s103 s104 s105 s106 s107 s108 s141 u109 u110 u111 u112 u113 u114 u115 u116 u117 u118 u119 u120 u121 u122 u123 u124 u125 u126 u127 u128 u129 u130 u131 u132 u133 u134 u135 u136 u137 u138 u139 u140 : Value} {ds : List Deferred} {Q : Exit → Act → World → Prop}
    (hQ : ∀ (v109 v110 v111 v112 v113 v114 v115 v116 v117 v118 v119 v120 v121 v122 v123 v124 v125 v126 v127 v128 v129 v130 v131 v132 v133 v134 v135 v136 v137 v138 v139 : Value) (wx : World), S wx → Q .normal ⟨#[s0, s1, s2, s3, s4, s5, s6, s7, s8, s9, s10, .pointer (some ⟨rb, 0, none⟩), s12, .pointer (some ⟨tb, 0, none⟩), .pointer (some ⟨lb, 0, none⟩), s15, s16, s17, s18, s19, s20, s21, s22, s23, s24, s25, s26, s27, s28, s29, s30, s31, s32, s33, s34, s35, s36, s37, s38, s39, s40, s41, s42, s43, s44, s45, s46, s47, s48, s49, s50, s51, s52, s53, s54, s55, s56, s57, s58, s59, s60, s61, s62, s63, s64, s65, s66, s67, s68, s69, s70, s71, s72, s73, s74, s75, s76, s77, s78, s79, s80, s81, s82, s83, s84, s85, s86, s87, s88, s89, s90, s91, s92, s93, s94, s95, s96, s97, s98, s99, s100, s101, s102, s103, s104, s105, s106, s107, s108, v109, v110, v111, v112, v113, v114, v115, v116, v117, v118, v119, v120, v121, v122, v123, v124, v125, v126, v127, v128, v129, v130, v131, v132, v133, v134, v135, v136, v137, v138, v139, .bool (!res), s141], ds⟩ wx) :
    (Code.region 28 ops b).wp Try.prog Q ⟨#[s0, s1, s2, s3, s4, s5, s6, s7, s8, s9, s10, .pointer (some ⟨rb, 0, none⟩), s12, .pointer (some ⟨tb, 0, none⟩), .pointer (some ⟨lb, 0, none⟩), s15, s16, s17, s18, s19, s20, s21, s22, s23, s24, s25, s26, s27, s28, s29, s30, s31, s32, s33, s34, s35, s36, s37, s38, s39, s40, s41, s42, s43, s44, s45, s46, s47, s48, s49, s50, s51, s52, s53, s54, s55, s56, s57, s58, s59, s60, s61, s62, s63, s64, s65, s66, s67, s68, s69, s70, s71, s72, s73, s74, s75, s76, s77, s78, s79, s80, s81, s82, s83, s84, s85, s86, s87, s88, s89, s90, s91, s92, s93, s94, s95, s96, s97, s98, s99, s100, s101, s102, s103, s104, s105, s106, s107, s108, u109, u110, u111, u112, u113, u114, u115, u116, u117, u118, u119, u120, u121, u122, u123, u124, u125, u126, u127, u128, u129, u130, u131, u132, u133, u134, u135, u136, u137, u138, u139, u140, s141], ds⟩ V := by
  obtain ⟨rfl, rfl⟩ := regOps_eq hops rfl
  have HC := Lib.hid hcall
  have HQ := Lib.hid hQ
  have L0 := Lib.hid l0
  have L1 := Lib.hid l1
  have L2 := Lib.hid l2
  have L3 := Lib.hid l3
  have T0 := Lib.hid t0
  have T1 := Lib.hid t1
  have R0 := Lib.hid r0
  clear hcall hQ hops l0 l1 l2 l3 t0 t1 r0
  refine wp_region_still_tail 29 (by kernel_rfl) (by kernel_rfl) (WS.to ?_)
  simp only [List.take_succ_cons, List.take_zero, List.drop_succ_cons, List.drop_zero]
  refine WS.step (fun K hK => ?_)
  have HKK := Lib.hid hK
  clear hK
  rw [if_pos (by rfl)]
  go_simp
  refine HKK.out _ ?_
  clear HKK K
  refine WS.step (fun K hK => ?_)
  have HKK := Lib.hid hK
  clear hK
  rw [if_pos (by rfl)]
  have c := L2.out
  go_simp
  clear c
  refine HKK.out _ ?_
  clear HKK K
  refine WS.step (fun K hK => ?_)
  have HKK := Lib.hid hK
  clear hK
  rw [if_pos (by rfl)]
  go_simp
  refine HKK.out _ ?_
  clear HKK K
  refine WS.step (fun K hK => ?_)
  have HKK := Lib.hid hK
  clear hK
  rw [if_pos (by rfl)]
  go_simp
  refine HKK.out _ ?_
  clear HKK K
  refine WS.step (fun K hK => ?_)
  have HKK := Lib.hid hK
  clear hK
  rw [if_pos (by rfl)]
  go_simp
  refine HKK.out _ ?_
  clear HKK K
  refine WS.step (fun K hK => ?_)
  have HKK := Lib.hid hK
  clear hK
  rw [if_pos (by rfl)]
  have c := L3.out
  go_simp
  clear c
  refine HKK.out _ ?_
  clear HKK K
  refine WS.step (fun K hK => ?_)
  have HKK := Lib.hid hK
  clear hK
  rw [if_pos (by rfl)]
  go_simp
  refine HKK.out _ ?_
  clear HKK K
  refine WS.step (fun K hK => ?_)
  have HKK := Lib.hid hK
  clear hK
  rw [if_pos (by rfl)]
  go_simp
  refine HKK.out _ ?_
  clear HKK K
  refine WS.step (fun K hK => ?_)
  have HKK := Lib.hid hK
  clear hK
  rw [if_pos (by rfl)]
  go_simp
  refine HKK.out _ ?_
  clear HKK K
  refine WS.step (fun K hK => ?_)
  have HKK := Lib.hid hK
  clear hK
  rw [if_pos (by rfl)]
  go_simp
  refine HKK.out _ ?_
  clear HKK K
  refine WS.step (fun K hK => ?_)
  have HKK := Lib.hid hK
  clear hK
  rw [if_pos (by rfl)]
  have c := L3.out
  go_simp
  clear c
  refine HKK.out _ ?_
  clear HKK K
  refine WS.step (fun K hK => ?_)
  have HKK := Lib.hid hK
  clear hK
  rw [if_pos (by rfl)]
  go_simp
  refine HKK.out _ ?_
  clear HKK K
  refine WS.step (fun K hK => ?_)
  have HKK := Lib.hid hK
  clear hK
  rw [if_pos (by rfl)]
  go_simp
  refine HKK.out _ ?_
  clear HKK K
  refine WS.step (fun K hK => ?_)
  have HKK := Lib.hid hK
  clear hK
  rw [if_neg (Bool.eq_false_iff.1 (by rfl))]
  simp only [Act.put, List.setIfInBounds_toArray, List.set_cons_zero, List.set_cons_succ]
  refine HKK.out _ ?_
  clear HKK K
  refine WS.step (fun K hK => ?_)
  have HKK := Lib.hid hK
  clear hK
  rw [if_neg (Bool.eq_false_iff.1 (by rfl))]
  simp only [Act.put, List.setIfInBounds_toArray, List.set_cons_zero, List.set_cons_succ]
  refine HKK.out _ ?_
  clear HKK K
  refine WS.step (fun K hK => ?_)
  have HKK := Lib.hid hK
  clear hK
  rw [if_neg (Bool.eq_false_iff.1 (by rfl))]
  simp only [Act.put, List.setIfInBounds_toArray, List.set_cons_zero, List.set_cons_succ]
  refine HKK.out _ ?_
  clear HKK K
  refine WS.step (fun K hK => ?_)
  have HKK := Lib.hid hK
  clear hK
  rw [if_neg (Bool.eq_false_iff.1 (by rfl))]
  simp only [Act.put, List.setIfInBounds_toArray, List.set_cons_zero, List.set_cons_succ]
  refine HKK.out _ ?_
  clear HKK K
  refine WS.step (fun K hK => ?_)
  have HKK := Lib.hid hK
  clear hK
  rw [if_neg (Bool.eq_false_iff.1 (by rfl))]
  simp only [Act.put, List.setIfInBounds_toArray, List.set_cons_zero, List.set_cons_succ]
  refine HKK.out _ ?_
  clear HKK K
  refine WS.step (fun K hK => ?_)
  have HKK := Lib.hid hK
  clear hK
  rw [if_pos (by rfl)]
  go_simp
  refine HKK.out _ ?_
  clear HKK K
  refine WS.step (fun K hK => ?_)
  have HKK := Lib.hid hK
  clear hK
  rw [if_pos (by rfl)]
  go_simp
  refine HKK.out _ ?_
  clear HKK K
  refine WS.step (fun K hK => ?_)
  have HKK := Lib.hid hK
  clear hK
  rw [if_pos (by rfl)]
  go_simp
  refine HKK.out _ ?_
  clear HKK K
  refine WS.step (fun K hK => ?_)
  have HKK := Lib.hid hK
  clear hK
  rw [if_pos (by rfl)]
  go_simp
  refine HKK.out _ ?_
  clear HKK K
  refine WS.step (fun K hK => ?_)
  have HKK := Lib.hid hK
  clear hK
  rw [if_pos (by rfl)]
  have c := T1.out
  go_simp
  clear c
  refine HKK.out _ ?_
  clear HKK K
  refine WS.step (fun K hK => ?_)
  have HKK := Lib.hid hK
  clear hK
  rw [if_pos (by rfl)]
  go_simp
  refine HKK.out _ ?_
  clear HKK K
  refine WS.step (fun K hK => ?_)
  have HKK := Lib.hid hK
  clear hK
  rw [if_pos (by rfl)]
  have c := R0.out
  go_simp
  clear c
  refine HKK.out _ ?_
  clear HKK K
  refine WS.step (fun K hK => ?_)
  have HKK := Lib.hid hK
  clear hK
  rw [if_pos (by rfl)]
  go_simp
  refine HKK.out _ ?_
  clear HKK K
  refine WS.step (fun K hK => ?_)
  have HKK := Lib.hid hK
  clear hK
  rw [if_pos (by rfl)]
  have c := T0.out
  go_simp
  clear c
  refine HKK.out _ ?_
  clear HKK K
  refine WS.step (fun K hK => ?_)
  have HKK := Lib.hid hK
  clear hK
  rw [if_pos (by rfl)]
  go_simp
  refine HKK.out _ ?_
  clear HKK K
  refine WS.step (fun K hK => ?_)
  have HKK := Lib.hid hK
  clear hK
  rw [if_pos (by rfl)]
  have c := L0.out
  go_simp
  clear c
  refine HKK.out _ ?_
  clear HKK K
  refine WS.nil ?_
  change wpList _ _ _ _ _ V.drew
  go_wp2_with fail
  refine HC.out.mono ?_
  rintro e wx ⟨rfl, hS⟩
  have HS := Lib.hid hS
  clear hS HC L0 L1 L2 L3 T0 T1 R0
  go_wp2_with fail
  exact HQ.out _ _ _ _ _ _ _ _ _ _ _ _ _ _ _ _ _ _ _ _ _ _ _ _ _ _ _ _ _ _ _ _ HS.out
set_option maxRecDepth 100000 in
set_option maxHeartbeats 32000000 in
theorem oreg28_1 {ops : Array Oper} {b : Bool} (hops : (Try.f7.body.bind fun c => regOps c 28) = some (ops, b)) (V : World) (lb tb rb qk : Nat) (n0 n1 ch : Int) (res : Bool) (S : World → Prop) (hd : decide (n1 < n0) = false) (l0 : V.cell? ⟨lb, 0, none⟩ = some (.int .i64 n0)) (l1 : V.cell? ⟨lb, 1, none⟩ = some (.int .i64 n1)) (l2 : V.cell? ⟨lb, 2, none⟩ = some (.int .i64 1)) (l3 : V.cell? ⟨lb, 3, none⟩ = some (.int .i64 1)) (t0 : V.cell? ⟨tb, 0, none⟩ = some (.int .i64 ch)) (t1 : V.cell? ⟨tb, 1, none⟩ = some (.int .i8 0)) (r0 : V.cell? ⟨rb, 0, none⟩ = some (.func (.func 14) #[.pointer (some ⟨qk, 0, none⟩)] #[]))
    (hcall : Calls Try.prog 14 #[.pointer (some ⟨qk, 0, none⟩), .int .i64 ch, .int .i64 n0] V.drew fun e w' => e = .returned (.bool res) ∧ S w')
    {s0 s1 s2 s3 s4 s5 s6 s7 s8 s9 s10 s12 s15 s16 s17 s18 s19 s20 s21 s22 s23 s24 s25 s26 s27 s28 s29 s30 s31 s32 s33 s34 s35 s36 s37 s38 s39 s40 s41 s42 s43 s44 s45 s46 s47 s48 s49 s50 s51 s52 s53 s54 s55 s56 s57 s58 s59 s60 s61 s62 s63 s64 s65 s66 s67 s68 s69 s70 s71 s72 s73 s74 s75 s76 s77 s78 s79 s80 s81 s82 s83 s84 s85 s86 s87 s88 s89 s90 s91 s92 s93 s94 s95 s96 s97 s98 s99 s100 s101 s102 s103 s104 s105 s106 s107 s108 s141 u109 u110 u111 u112 u113 u114 u115 u116 u117 u118 u119 u120 u121 u122 u123 u124 u125 u126 u127 u128 u129 u130 u131 u132 u133 u134 u135 u136 u137 u138 u139 u140 : Value} {ds : List Deferred} {Q : Exit → Act → World → Prop}
    (hQ : ∀ (v109 v110 v111 v112 v113 v114 v115 v116 v117 v118 v119 v120 v121 v122 v123 v124 v125 v126 v127 v128 v129 v130 v131 v132 v133 v134 v135 v136 v137 v138 v139 : Value) (wx : World), S wx → Q .normal ⟨#[s0, s1, s2, s3, s4, s5, s6, s7, s8, s9, s10, .pointer (some ⟨rb, 0, none⟩), s12, .pointer (some ⟨tb, 0, none⟩), .pointer (some ⟨lb, 0, none⟩), s15, s16, s17, s18, s19, s20, s21, s22, s23, s24, s25, s26, s27, s28, s29, s30, s31, s32, s33, s34, s35, s36, s37, s38, s39, s40, s41, s42, s43, s44, s45, s46, s47, s48, s49, s50, s51, s52, s53, s54, s55, s56, s57, s58, s59, s60, s61, s62, s63, s64, s65, s66, s67, s68, s69, s70, s71, s72, s73, s74, s75, s76, s77, s78, s79, s80, s81, s82, s83, s84, s85, s86, s87, s88, s89, s90, s91, s92, s93, s94, s95, s96, s97, s98, s99, s100, s101, s102, s103, s104, s105, s106, s107, s108, v109, v110, v111, v112, v113, v114, v115, v116, v117, v118, v119, v120, v121, v122, v123, v124, v125, v126, v127, v128, v129, v130, v131, v132, v133, v134, v135, v136, v137, v138, v139, .bool (!res), s141], ds⟩ wx) :
    (Code.region 28 ops b).wp Try.prog Q ⟨#[s0, s1, s2, s3, s4, s5, s6, s7, s8, s9, s10, .pointer (some ⟨rb, 0, none⟩), s12, .pointer (some ⟨tb, 0, none⟩), .pointer (some ⟨lb, 0, none⟩), s15, s16, s17, s18, s19, s20, s21, s22, s23, s24, s25, s26, s27, s28, s29, s30, s31, s32, s33, s34, s35, s36, s37, s38, s39, s40, s41, s42, s43, s44, s45, s46, s47, s48, s49, s50, s51, s52, s53, s54, s55, s56, s57, s58, s59, s60, s61, s62, s63, s64, s65, s66, s67, s68, s69, s70, s71, s72, s73, s74, s75, s76, s77, s78, s79, s80, s81, s82, s83, s84, s85, s86, s87, s88, s89, s90, s91, s92, s93, s94, s95, s96, s97, s98, s99, s100, s101, s102, s103, s104, s105, s106, s107, s108, u109, u110, u111, u112, u113, u114, u115, u116, u117, u118, u119, u120, u121, u122, u123, u124, u125, u126, u127, u128, u129, u130, u131, u132, u133, u134, u135, u136, u137, u138, u139, u140, s141], ds⟩ V := by
  obtain ⟨rfl, rfl⟩ := regOps_eq hops rfl
  have HC := Lib.hid hcall
  have HQ := Lib.hid hQ
  have L0 := Lib.hid l0
  have L1 := Lib.hid l1
  have L2 := Lib.hid l2
  have L3 := Lib.hid l3
  have T0 := Lib.hid t0
  have T1 := Lib.hid t1
  have R0 := Lib.hid r0
  clear hcall hQ hops l0 l1 l2 l3 t0 t1 r0
  refine wp_region_still_tail 29 (by kernel_rfl) (by kernel_rfl) (WS.to ?_)
  simp only [List.take_succ_cons, List.take_zero, List.drop_succ_cons, List.drop_zero]
  refine WS.step (fun K hK => ?_)
  have HKK := Lib.hid hK
  clear hK
  rw [if_pos (by rfl)]
  go_simp
  refine HKK.out _ ?_
  clear HKK K
  refine WS.step (fun K hK => ?_)
  have HKK := Lib.hid hK
  clear hK
  rw [if_pos (by rfl)]
  have c := L2.out
  go_simp
  clear c
  refine HKK.out _ ?_
  clear HKK K
  refine WS.step (fun K hK => ?_)
  have HKK := Lib.hid hK
  clear hK
  rw [if_pos (by rfl)]
  go_simp
  refine HKK.out _ ?_
  clear HKK K
  refine WS.step (fun K hK => ?_)
  have HKK := Lib.hid hK
  clear hK
  rw [if_pos (by rfl)]
  go_simp
  refine HKK.out _ ?_
  clear HKK K
  refine WS.step (fun K hK => ?_)
  have HKK := Lib.hid hK
  clear hK
  rw [if_pos (by rfl)]
  go_simp
  refine HKK.out _ ?_
  clear HKK K
  refine WS.step (fun K hK => ?_)
  have HKK := Lib.hid hK
  clear hK
  rw [if_pos (by rfl)]
  have c := L3.out
  go_simp
  clear c
  refine HKK.out _ ?_
  clear HKK K
  refine WS.step (fun K hK => ?_)
  have HKK := Lib.hid hK
  clear hK
  rw [if_pos (by rfl)]
  go_simp
  refine HKK.out _ ?_
  clear HKK K
  refine WS.step (fun K hK => ?_)
  have HKK := Lib.hid hK
  clear hK
  rw [if_pos (by rfl)]
  go_simp
  refine HKK.out _ ?_
  clear HKK K
  refine WS.step (fun K hK => ?_)
  have HKK := Lib.hid hK
  clear hK
  rw [if_pos (by rfl)]
  go_simp
  refine HKK.out _ ?_
  clear HKK K
  refine WS.step (fun K hK => ?_)
  have HKK := Lib.hid hK
  clear hK
  rw [if_pos (by rfl)]
  go_simp
  refine HKK.out _ ?_
  clear HKK K
  refine WS.step (fun K hK => ?_)
  have HKK := Lib.hid hK
  clear hK
  rw [if_pos (by rfl)]
  have c := L3.out
  go_simp
  clear c
  refine HKK.out _ ?_
  clear HKK K
  refine WS.step (fun K hK => ?_)
  have HKK := Lib.hid hK
  clear hK
  rw [if_pos (by rfl)]
  go_simp
  refine HKK.out _ ?_
  clear HKK K
  refine WS.step (fun K hK => ?_)
  have HKK := Lib.hid hK
  clear hK
  rw [if_pos (by rfl)]
  go_simp
  refine HKK.out _ ?_
  clear HKK K
  refine WS.step (fun K hK => ?_)
  have HKK := Lib.hid hK
  clear hK
  rw [if_pos (by rfl)]
  go_simp
  refine HKK.out _ ?_
  clear HKK K
  refine WS.step (fun K hK => ?_)
  have HKK := Lib.hid hK
  clear hK
  rw [if_pos (by rfl)]
  have c := L1.out
  go_simp
  clear c
  refine HKK.out _ ?_
  clear HKK K
  refine WS.step (fun K hK => ?_)
  have HKK := Lib.hid hK
  clear hK
  rw [if_pos (by rfl)]
  go_simp
  refine HKK.out _ ?_
  clear HKK K
  refine WS.step (fun K hK => ?_)
  have HKK := Lib.hid hK
  clear hK
  rw [if_pos (by rfl)]
  have c := L0.out
  go_simp
  clear c
  refine HKK.out _ ?_
  clear HKK K
  refine WS.step (fun K hK => ?_)
  have HKK := Lib.hid hK
  clear hK
  rw [if_pos (by rfl)]
  go_simp
  refine HKK.out _ ?_
  clear HKK K
  refine WS.step (fun K hK => ?_)
  have HKK := Lib.hid hK
  clear hK
  rw [if_pos (by rfl)]
  go_simp
  refine HKK.out _ ?_
  clear HKK K
  refine WS.step (fun K hK => ?_)
  have HKK := Lib.hid hK
  clear hK
  rw [if_pos (by rfl)]
  go_simp
  refine HKK.out _ ?_
  clear HKK K
  refine WS.step (fun K hK => ?_)
  have HKK := Lib.hid hK
  clear hK
  rw [if_pos (by rfl)]
  go_simp
  refine HKK.out _ ?_
  clear HKK K
  refine WS.step (fun K hK => ?_)
  have HKK := Lib.hid hK
  clear hK
  rw [if_pos (by rfl)]
  go_simp
  refine HKK.out _ ?_
  clear HKK K
  refine WS.step (fun K hK => ?_)
  have HKK := Lib.hid hK
  clear hK
  rw [if_pos (by rfl)]
  have c := T1.out
  go_simp
  clear c
  refine HKK.out _ ?_
  clear HKK K
  refine WS.step (fun K hK => ?_)
  have HKK := Lib.hid hK
  clear hK
  rw [if_pos (by rfl)]
  go_simp
  refine HKK.out _ ?_
  clear HKK K
  refine WS.step (fun K hK => ?_)
  have HKK := Lib.hid hK
  clear hK
  rw [if_pos (by rfl)]
  have c := R0.out
  go_simp
  clear c
  refine HKK.out _ ?_
  clear HKK K
  refine WS.step (fun K hK => ?_)
  have HKK := Lib.hid hK
  clear hK
  rw [if_pos (by rfl)]
  go_simp
  refine HKK.out _ ?_
  clear HKK K
  refine WS.step (fun K hK => ?_)
  have HKK := Lib.hid hK
  clear hK
  rw [if_pos (by rfl)]
  have c := T0.out
  go_simp
  clear c
  refine HKK.out _ ?_
  clear HKK K
  refine WS.step (fun K hK => ?_)
  have HKK := Lib.hid hK
  clear hK
  rw [if_pos (by rfl)]
  go_simp
  refine HKK.out _ ?_
  clear HKK K
  refine WS.step (fun K hK => ?_)
  have HKK := Lib.hid hK
  clear hK
  rw [if_pos (by rfl)]
  have c := L0.out
  go_simp
  clear c
  refine HKK.out _ ?_
  clear HKK K
  refine WS.nil ?_
  change wpList _ _ _ _ _ V.drew
  go_wp2_with fail
  refine HC.out.mono ?_
  rintro e wx ⟨rfl, hS⟩
  have HS := Lib.hid hS
  clear hS HC L0 L1 L2 L3 T0 T1 R0
  go_wp2_with fail
  exact HQ.out _ _ _ _ _ _ _ _ _ _ _ _ _ _ _ _ _ _ _ _ _ _ _ _ _ _ _ _ _ _ _ _ HS.out
end Go.Proofs.Ytfjhomegjceilaa
