/- CondsMorgan: what the last statement asks. -/
import Derived.Test.YtmljdppdaaoehaaDoorCm2
import Derived.StillTail
import Derived.StillTailTactics
namespace Go.Proofs.YtmljdppdaaoehaaDoor
open Go.RowKit
set_option linter.unusedVariables false
set_option linter.unusedSimpArgs false
set_option maxRecDepth 100000 in
set_option maxHeartbeats 16000000 in
theorem reg33 {ops : Array Oper} {b : Bool} (hops : (Tryd.f4.body.bind fun c => regOps c 33) = some (ops, b)) (V : World) (bd : Addr) (n m bc n0 n1 n2 n3 : Nat) (x y b1 b2 : Bool) (hn : n ≤ 1000) (hm : m = n + 4) (e0 : n0 = n) (e1 : n1 = n + 1) (e2 : n2 = n + 2) (e3 : n3 = n + 3)
    (c0 : V.cell? ⟨(bd.add (n0 * 8)).block, (bd.add (n0 * 8)).off + 3, none⟩ = some (.bool b1)) (c1 : V.cell? ⟨(bd.add (n1 * 8)).block, (bd.add (n1 * 8)).off + 3, none⟩ = some (.bool b1)) (c2 : V.cell? ⟨(bd.add (n2 * 8)).block, (bd.add (n2 * 8)).off + 3, none⟩ = some (.bool b2)) (c3 : V.cell? ⟨(bd.add (n3 * 8)).block, (bd.add (n3 * 8)).off + 3, none⟩ = some (.bool b2)) (hb1 : b1 = !(x && y)) (hb2 : b2 = !(x || y)) (HW : Hid (Calls Tryd.prog 8 #[] V.drew (BoolB true V.drew)))
    {s0 s1 s2 s3 s4 s5 s6 s7 s8 s10 s11 s12 s13 s14 s15 s16 s17 s18 s19 s21 s22 s23 s26 s27 s28 s29 s30 s31 s32 s33 s34 s35 s36 s37 s38 s39 s40 s41 s42 s43 s44 s45 s46 s47 s48 s49 s50 s51 s52 s53 s54 s55 s56 s57 s58 s59 s60 s61 s62 s63 s64 s65 s66 s67 s68 s69 s70 s71 s72 s73 s74 s75 s76 s77 s78 s79 s80 s81 s82 s83 s84 s85 s86 s87 s88 s89 s90 s91 s92 s93 s94 s95 s96 s97 s98 s99 s100 s101 s102 s103 s104 s105 s106 s107 s108 s109 s110 s111 s112 s113 s114 s115 s116 s117 s118 s119 s120 s121 s122 s123 s124 s125 s126 s127 s128 s129 s130 s131 s132 s133 s134 s135 s136 s137 s138 s139 s140 s141 s142 s143 s144 s145 s146 s147 s148 s149 s150 s151 s152 s153 s154 s155 s156 s157 s158 s159 s160 s161 s162 s163 s164 s165 s166 s167 s168 s169 s170 s171 s172 s173 s174 s175 s176 s177 s178 s179 s180 s181 s182 s183 s184 s185 s186 s187 s188 s189 s190 s191 s192 s193 s194 s195 s196 s197 s198 s199 s200 s201 s202 s203 s204 s205 s206 s207 s208 s209 s210 s211 s212 s213 s214 s215 s216 s217 s218 s219 s220 s221 s222 s223 s224 s225 s226 s227 s228 s229 s230 s231 s232 s233 s234 s235 s236 : Value} {Q : Exit → Act → World → Prop}
    (hQ : ∀ (v174 v175 v176 v177 v178 v179 v180 v181 v182 v183 v184 v185 v186 v187 v188 v189 v190 v191 v192 v193 v194 v195 v196 v197 v198 v199 v200 v201 v202 v203 v204 v205 v206 v207 v208 v209 v210 v211 v212 v213 v214 v215 v216 v217 v218 v219 v220 v221 v222 v223 v224 v225 v226 v227 v228 v229 v230 v231 v232 v233 v234 v235 v236 : Value) (wx : World), Below V.heap.size V wx → Q .normal ⟨#[s0, s1, s2, s3, s4, s5, s6, s7, .bool true, .int .i64 (n : Nat), s10, s11, s12, s13, s14, s15, s16, s17, s18, s19, .slice (some bd) m bc, s21, s22, s23, .bool x, .bool y, s26, s27, s28, s29, s30, s31, s32, s33, s34, s35, s36, s37, s38, s39, s40, s41, s42, s43, s44, s45, s46, s47, s48, s49, s50, s51, s52, s53, s54, s55, s56, s57, s58, s59, s60, s61, s62, s63, s64, s65, s66, s67, s68, s69, s70, s71, s72, s73, s74, s75, s76, s77, s78, s79, s80, s81, s82, s83, s84, s85, s86, s87, s88, s89, s90, s91, s92, s93, s94, s95, s96, s97, s98, s99, s100, s101, s102, s103, s104, s105, s106, s107, s108, s109, s110, s111, s112, s113, s114, s115, s116, s117, s118, s119, s120, s121, s122, s123, s124, s125, s126, s127, s128, s129, s130, s131, s132, s133, s134, s135, s136, s137, s138, s139, s140, s141, s142, s143, s144, s145, s146, s147, s148, s149, s150, s151, s152, s153, s154, s155, s156, s157, s158, s159, s160, s161, s162, s163, s164, s165, s166, s167, s168, s169, s170, s171, s172, s173, v174, v175, v176, v177, v178, v179, v180, v181, v182, v183, v184, v185, v186, v187, v188, v189, v190, v191, v192, v193, v194, v195, v196, v197, v198, v199, v200, v201, v202, v203, v204, v205, v206, v207, v208, v209, v210, v211, v212, v213, v214, v215, v216, v217, v218, v219, v220, v221, v222, v223, v224, v225, v226, v227, v228, v229, v230, v231, v232, v233, v234, v235, v236], []⟩ wx) :
    (Code.region 33 ops b).wp Tryd.prog Q ⟨#[s0, s1, s2, s3, s4, s5, s6, s7, s8, .int .i64 (n : Nat), s10, s11, s12, s13, s14, s15, s16, s17, s18, s19, .slice (some bd) m bc, s21, s22, s23, .bool x, .bool y, s26, s27, s28, s29, s30, s31, s32, s33, s34, s35, s36, s37, s38, s39, s40, s41, s42, s43, s44, s45, s46, s47, s48, s49, s50, s51, s52, s53, s54, s55, s56, s57, s58, s59, s60, s61, s62, s63, s64, s65, s66, s67, s68, s69, s70, s71, s72, s73, s74, s75, s76, s77, s78, s79, s80, s81, s82, s83, s84, s85, s86, s87, s88, s89, s90, s91, s92, s93, s94, s95, s96, s97, s98, s99, s100, s101, s102, s103, s104, s105, s106, s107, s108, s109, s110, s111, s112, s113, s114, s115, s116, s117, s118, s119, s120, s121, s122, s123, s124, s125, s126, s127, s128, s129, s130, s131, s132, s133, s134, s135, s136, s137, s138, s139, s140, s141, s142, s143, s144, s145, s146, s147, s148, s149, s150, s151, s152, s153, s154, s155, s156, s157, s158, s159, s160, s161, s162, s163, s164, s165, s166, s167, s168, s169, s170, s171, s172, s173, s174, s175, s176, s177, s178, s179, s180, s181, s182, s183, s184, s185, s186, s187, s188, s189, s190, s191, s192, s193, s194, s195, s196, s197, s198, s199, s200, s201, s202, s203, s204, s205, s206, s207, s208, s209, s210, s211, s212, s213, s214, s215, s216, s217, s218, s219, s220, s221, s222, s223, s224, s225, s226, s227, s228, s229, s230, s231, s232, s233, s234, s235, s236], []⟩ V := by
  obtain ⟨rfl, rfl⟩ := regOps_eq hops rfl
  subst e0
  have w1 : IntKind.i64.wrap ((n0 : Int) + 1) = (n1 : Int) := by rw [IntWalk.i64_in _ (by omega)]; omega
  have w2 : IntKind.i64.wrap ((n0 : Int) + 2) = (n2 : Int) := by rw [IntWalk.i64_in _ (by omega)]; omega
  have w3 : IntKind.i64.wrap ((n0 : Int) + 3) = (n3 : Int) := by rw [IntWalk.i64_in _ (by omega)]; omega
  have h0 : (0 : Int) ≤ (n0 : Int) ∧ (n0 : Int) < (m : Int) := by omega
  have h1 : (0 : Int) ≤ (n1 : Int) ∧ (n1 : Int) < (m : Int) := by omega
  have h2 : (0 : Int) ≤ (n2 : Int) ∧ (n2 : Int) < (m : Int) := by omega
  have h3 : (0 : Int) ≤ (n3 : Int) ∧ (n3 : Int) < (m : Int) := by omega
  clear e1 e2 e3 hm
  cases x <;> cases y <;>
    (simp only [Bool.and_true, Bool.and_false, Bool.true_and, Bool.false_and, Bool.or_true, Bool.or_false, Bool.true_or, Bool.false_or, Bool.not_true, Bool.not_false] at hb1 hb2
     subst hb1
     subst hb2
     go_still_tail 61, (by kernel_rfl)
     change wpList _ _ _ _ _ V.drew
     go_wp2_with fail
     refine HW.out.mono ?_
     rintro e w5 ⟨rfl, hb5⟩
     go_wp2_with fail
     exact (Below.refl _ V).drew.trans hb5)
end Go.Proofs.YtmljdppdaaoehaaDoor
