/- hoardinglaw31.wakes: judge.Order's court is made (region 11: three calls, in whatever order). -/
import Derived.Test.YtfjhomegjceilaaJwb
import Derived.Test.YtfjhomegjceilaaRgI
namespace Go.Proofs.Ytfjhomegjceilaa
open Go.RowKit Go.Maps
set_option linter.unusedVariables false
set_option linter.unusedSimpArgs false
/-- the operations of a region of a code -/
def regOps : Code → Nat → Option (Array Oper × Bool)
  | .region i ops d, n => if i = n then some (ops, d) else none
  | .seq a b, n => (regOps a n).or (regOps b n)
  | .scope b, n => regOps b n
  | .block _ b, n => regOps b n
  | .loop b, n => regOps b n
  | .rangeFunc _ _ a b, n => (regOps a n).or (regOps b n)
  | .cond _ a b, n => (regOps a n).or (regOps b n)
  | _, _ => none
theorem regOps_eq {x : Option (Array Oper × Bool)} {ops ops' : Array Oper} {b b' : Bool} (h : x = some (ops, b)) (h' : x = some (ops', b')) : ops = ops' ∧ b = b' := by
  rw [h] at h'
  injection h' with h'
  injection h' with h1 h2
  exact ⟨h1, h2⟩
/-- what holds by what has been listed -/
structure Oi (V : World) (q0 q5 q c' qc c qt : Nat) (L : Nat → Bool) (v7 v42 v43 v44 v45 v46 v47 v48 v49 v50 : Value) (w : World) : Prop where
  bel : Below V.heap.size V w
  h0 : L 0 = true → ∃ qm, v42 = .map (some qm) ∧ V.heap.size ≤ qm ∧ ML w qm 0 (fun _ => life0)
  h1 : L 1 = true → v43 = .agg #[.int .i8 0, .int .i64 2, .slice none 0 0, .slice none 0 0, .slice none 0 0, .slice none 0 0, .string ⟨#[]⟩, .slice none 0 0, .int .i64 0, .int .i8 0, .slice none 0 0, .slice none 0 0, .string ⟨#[]⟩, .slice none 0 0, .slice (some ⟨q, 0, none⟩) 2 c', .slice (some ⟨qt, 0, none⟩) 2 2, .int .i8 0, .int .i8 0]
  h2 : L 2 = true → ∃ g g', v44 = .slice (some ⟨g, 0, none⟩) 2 2 ∧ w.cell? ⟨g, 0, none⟩ = some (.slice none 0 0) ∧ w.cell? ⟨g, 1, none⟩ = some (.slice (some ⟨g', 0, none⟩) 1 1) ∧ w.cell? ⟨g', 0, none⟩ = some (.int .i64 0)
  h3 : L 3 = true → v45 = .agg #[.int .i8 0, .int .i64 2, .slice none 0 0, .slice none 0 0, .slice none 0 0, .slice none 0 0, .string ⟨#[]⟩, .slice none 0 0, .int .i64 0, .int .i8 0, .slice none 0 0, .slice none 0 0, .string ⟨#[]⟩, .slice none 0 0, .slice (some ⟨qc, 0, none⟩) 2 c, .slice (some ⟨qt, 0, none⟩) 2 2, .int .i8 0, .int .i8 0]
  h4 : L 4 = true → ∃ o, v46 = .slice (some ⟨o, 0, none⟩) 2 2
  h5 : L 5 = true → v47 = .agg #[.int .i8 0, .int .i64 2, .slice none 0 0, .slice none 0 0, .slice none 0 0, .slice none 0 0, .string ⟨#[]⟩, .slice none 0 0, .int .i64 0, .int .i8 0, .slice none 0 0, .slice none 0 0, .string ⟨#[]⟩, .slice none 0 0, .slice (some ⟨qc, 0, none⟩) 2 c, .slice (some ⟨qt, 0, none⟩) 2 2, .int .i8 0, .int .i8 0]
  h6 : L 6 = true → v48 = .slice none 0 0
  h7 : L 7 = true → v49 = .agg #[.pointer (some ⟨q0, 0, none⟩), v42, v44, v46, v48]
  h8 : L 8 = true → ∃ qk, v50 = .pointer (some ⟨qk, 0, none⟩) ∧ Blk w qk #[.pointer (some ⟨q0, 0, none⟩), v42, v44, v46, v48] 62
  h9 : L 9 = true → ∃ qb, v7 = .pointer (some ⟨qb, 0, none⟩) ∧ V.heap.size ≤ qb ∧ (L 10 = false → Boxed w qb 54 (.pointer none)) ∧ (L 10 = true → Boxed w qb 54 v50)
  c7 : L 7 = true → L 0 = true ∧ L 2 = true ∧ L 4 = true ∧ L 6 = true
  c8 : L 8 = true → L 7 = true
  c10 : L 10 = true → L 8 = true ∧ L 9 = true
theorem Oi.mono {V : World} {q0 q5 q c' qc c qt : Nat} {L : Nat → Bool} {v7 v42 v43 v44 v45 v46 v47 v48 v49 v50 : Value} {w w' : World} (h : Oi V q0 q5 q c' qc c qt L v7 v42 v43 v44 v45 v46 v47 v48 v49 v50 w) (hb : Below w.heap.size w w') : Oi V q0 q5 q c' qc c qt L v7 v42 v43 v44 v45 v46 v47 v48 v49 v50 w' :=
  { h with
    bel := h.bel.trans (hb.mono h.bel.size)
    h0 := fun l => by obtain ⟨qm, a, b, d⟩ := h.h0 l; exact ⟨qm, a, b, d.below hb⟩
    h2 := fun l => by
      obtain ⟨g, g', a, b, d, e⟩ := h.h2 l
      exact ⟨g, g', a, (hb.cell (World.block_lt_of_cell? w _ b)).trans b, (hb.cell (World.block_lt_of_cell? w _ d)).trans d, (hb.cell (World.block_lt_of_cell? w _ e)).trans e⟩
    h8 := fun l => by obtain ⟨qk, a, b⟩ := h.h8 l; exact ⟨qk, a, b.below hb⟩
    h9 := fun l => by
      obtain ⟨qb, a, b, d, e⟩ := h.h9 l
      exact ⟨qb, a, b, fun x => (hb.block _ (d x).lt).trans (d x), fun x => (hb.block _ (e x).lt).trans (e x)⟩ }
set_option maxRecDepth 100000 in
set_option maxHeartbeats 32000000 in
theorem oreg11 {ops : Array Oper} {b : Bool} (hops : (Try.f7.body.bind fun c => regOps c 11) = some (ops, b)) (V : World) (q0 q5 q c' qc ql c qt : Nat) (h2 : 2 ≤ c) (hm : c ≤ maxLen) (h2' : 2 ≤ c') (HK0 : Hid (Blk V q0 #[.int .i8 0, .int .i64 2, .slice none 0 0, .slice none 0 0, .slice none 0 0, .slice none 0 0, .string ⟨#[]⟩, .slice none 0 0, .int .i64 0, .int .i8 0, .slice none 0 0, .slice none 0 0, .string ⟨#[]⟩, .slice none 0 0, .slice (some ⟨qc, 0, none⟩) 2 c, .slice (some ⟨qt, 0, none⟩) 2 2, .int .i8 0, .int .i8 0] 44)) (HK5 : Hid (Blk V q5 #[.int .i8 0, .int .i64 2, .slice none 0 0, .slice none 0 0, .slice none 0 0, .slice none 0 0, .string ⟨#[]⟩, .slice none 0 0, .int .i64 0, .int .i8 0, .slice none 0 0, .slice none 0 0, .string ⟨#[]⟩, .slice none 0 0, .slice (some ⟨q, 0, none⟩) 2 c', .slice (some ⟨qt, 0, none⟩) 2 2, .int .i8 0, .int .i8 0] 44)) (HC : Hid (Hc V qc ql)) (HC' : Hid (Hc V q ql)) (HT : Hid (Ht V qt)) {s0 s1 s3 s4 s6 s8 s9 s10 s11 s12 s13 s14 s15 s16 s17 s18 s19 s20 s21 s22 s23 s24 s25 s26 s27 s28 s29 s30 s31 s32 s33 s34 s35 s36 s37 s38 s39 s40 s41 s51 s52 s53 s54 s55 s56 s57 s58 s59 s60 s61 s62 s63 s64 s65 s66 s67 s68 s69 s70 s71 s72 s73 s74 s75 s76 s77 s78 s79 s80 s81 s82 s83 s84 s85 s86 s87 s88 s89 s90 s91 s92 s93 s94 s95 s96 s97 s98 s99 s100 s101 s102 s103 s104 s105 s106 s107 s108 s109 s110 s111 s112 s113 s114 s115 s116 s117 s118 s119 s120 s121 s122 s123 s124 s125 s126 s127 s128 s129 s130 s131 s132 s133 s134 s135 s136 s137 s138 s139 s140 s141 u7 u42 u43 u44 u45 u46 u47 u48 u49 u50 : Value} {ds : List Deferred} {Q : Exit → Act → World → Prop}
    (hQ : ∀ (qm g g' o qk qb : Nat) (v7 v42 v43 v44 v45 v46 v47 v48 v49 v50 : Value) (wx : World), v7 = .pointer (some ⟨qb, 0, none⟩) → Below V.heap.size V wx → Ct wx qk q0 qm qc ql c qt g g' o 0 (fun _ => life0) → Boxed wx qb 54 (.pointer (some ⟨qk, 0, none⟩)) → V.heap.size ≤ qm → V.heap.size ≤ qb → Q .normal ⟨#[s0, s1, .pointer (some ⟨q0, 0, none⟩), s3, s4, .pointer (some ⟨q5, 0, none⟩), s6, v7, s8, s9, s10, s11, s12, s13, s14, s15, s16, s17, s18, s19, s20, s21, s22, s23, s24, s25, s26, s27, s28, s29, s30, s31, s32, s33, s34, s35, s36, s37, s38, s39, s40, s41, v42, v43, v44, v45, v46, v47, v48, v49, v50, s51, s52, s53, s54, s55, s56, s57, s58, s59, s60, s61, s62, s63, s64, s65, s66, s67, s68, s69, s70, s71, s72, s73, s74, s75, s76, s77, s78, s79, s80, s81, s82, s83, s84, s85, s86, s87, s88, s89, s90, s91, s92, s93, s94, s95, s96, s97, s98, s99, s100, s101, s102, s103, s104, s105, s106, s107, s108, s109, s110, s111, s112, s113, s114, s115, s116, s117, s118, s119, s120, s121, s122, s123, s124, s125, s126, s127, s128, s129, s130, s131, s132, s133, s134, s135, s136, s137, s138, s139, s140, s141], ds⟩ wx) :
    (Code.region 11 ops b).wp Try.prog Q ⟨#[s0, s1, .pointer (some ⟨q0, 0, none⟩), s3, s4, .pointer (some ⟨q5, 0, none⟩), s6, u7, s8, s9, s10, s11, s12, s13, s14, s15, s16, s17, s18, s19, s20, s21, s22, s23, s24, s25, s26, s27, s28, s29, s30, s31, s32, s33, s34, s35, s36, s37, s38, s39, s40, s41, u42, u43, u44, u45, u46, u47, u48, u49, u50, s51, s52, s53, s54, s55, s56, s57, s58, s59, s60, s61, s62, s63, s64, s65, s66, s67, s68, s69, s70, s71, s72, s73, s74, s75, s76, s77, s78, s79, s80, s81, s82, s83, s84, s85, s86, s87, s88, s89, s90, s91, s92, s93, s94, s95, s96, s97, s98, s99, s100, s101, s102, s103, s104, s105, s106, s107, s108, s109, s110, s111, s112, s113, s114, s115, s116, s117, s118, s119, s120, s121, s122, s123, s124, s125, s126, s127, s128, s129, s130, s131, s132, s133, s134, s135, s136, s137, s138, s139, s140, s141], ds⟩ V := by
  obtain ⟨rfl, rfl⟩ := regOps_eq hops rfl
  refine wp_region_inv (by kernel_rfl) (by kernel_rfl) (fun L a w => ∃ v7 v42 v43 v44 v45 v46 v47 v48 v49 v50 : Value, a = ⟨#[s0, s1, .pointer (some ⟨q0, 0, none⟩), s3, s4, .pointer (some ⟨q5, 0, none⟩), s6, v7, s8, s9, s10, s11, s12, s13, s14, s15, s16, s17, s18, s19, s20, s21, s22, s23, s24, s25, s26, s27, s28, s29, s30, s31, s32, s33, s34, s35, s36, s37, s38, s39, s40, s41, v42, v43, v44, v45, v46, v47, v48, v49, v50, s51, s52, s53, s54, s55, s56, s57, s58, s59, s60, s61, s62, s63, s64, s65, s66, s67, s68, s69, s70, s71, s72, s73, s74, s75, s76, s77, s78, s79, s80, s81, s82, s83, s84, s85, s86, s87, s88, s89, s90, s91, s92, s93, s94, s95, s96, s97, s98, s99, s100, s101, s102, s103, s104, s105, s106, s107, s108, s109, s110, s111, s112, s113, s114, s115, s116, s117, s118, s119, s120, s121, s122, s123, s124, s125, s126, s127, s128, s129, s130, s131, s132, s133, s134, s135, s136, s137, s138, s139, s140, s141], ds⟩ ∧ Oi V q0 q5 q c' qc c qt L v7 v42 v43 v44 v45 v46 v47 v48 v49 v50 w) ⟨u7, u42, u43, u44, u45, u46, u47, u48, u49, u50, rfl, ⟨⟨rfl, rfl, rfl, Nat.le_refl _, fun _ _ => rfl⟩, fun h => (by cases h), fun h => (by cases h), fun h => (by cases h), fun h => (by cases h), fun h => (by cases h), fun h => (by cases h), fun h => (by cases h), fun h => (by cases h), fun h => (by cases h), fun h => (by cases h), fun h => (by cases h), fun h => (by cases h), fun h => (by cases h)⟩⟩ ?_ ?_
  · rintro L a w i o ⟨v7, v42, v43, v44, v45, v46, v47, v48, v49, v50, rfl, hI⟩ hL ho hall K' hK
    have hi : i < 11 := (List.getElem?_eq_some_iff.1 ho).1
    have HI := Lib.hid hI
    clear hI
    have hi' : i = 0 ∨ i = 1 ∨ i = 2 ∨ i = 3 ∨ i = 4 ∨ i = 5 ∨ i = 6 ∨ i = 7 ∨ i = 8 ∨ i = 9 ∨ i = 10 := by omega
    rcases hi' with rfl | rfl | rfl | rfl | rfl | rfl | rfl | rfl | rfl | rfl | rfl
    · obtain rfl := Option.some.inj ho
      clear hall ho hi
      have hmm := @run_makeMap Try.prog
      go_simp
      have hm := HI.out.mono (w' := w.alloc (.map #[] 0)) ((Below.refl _ _).alloc (Nat.le_refl _) _)
      refine hK.out _ _ ⟨_, _, _, _, _, _, _, _, _, _, rfl, ?_⟩
      exact ⟨hm.bel, fun l => ⟨w.heap.size, rfl, HI.out.bel.size, ML.new w⟩, fun l => hm.h1 (by simpa using l), fun l => hm.h2 (by simpa using l), fun l => hm.h3 (by simpa using l), fun l => hm.h4 (by simpa using l), fun l => hm.h5 (by simpa using l), fun l => hm.h6 (by simpa using l), fun l => absurd ((hm.c7 (by simpa using l)).1) (by simp [hL]), fun l => absurd ((hm.c7 (hm.c8 (by simpa using l))).1) (by simp [hL]), fun l => by obtain ⟨qb, e1, e2, e3, e4⟩ := hm.h9 (by simpa using l); exact ⟨qb, e1, e2, fun x => e3 (by simpa using x), fun x => e4 (by simpa using x)⟩, fun l => by have h := hm.c7 (by simpa using l); simp [h], fun l => by have h := hm.c8 (by simpa using l); simp [h], fun l => by have h := hm.c10 (by simpa using l); simp [h]⟩
    · obtain rfl := Option.some.inj ho
      clear hall ho hi
      rw [if_pos (by rfl)]
      refine wp_load_row 44 (.tmp 5) rfl q5 rfl _ _ (0, 0) _ (HK5.out.below HI.out.bel) Try.underlying44 rfl sz_work ?_
      have hm := HI.out
      refine hK.out _ _ ⟨_, _, _, _, _, _, _, _, _, _, rfl, ?_⟩
      exact ⟨hm.bel, fun l => hm.h0 (by simpa using l), fun l => rfl, fun l => hm.h2 (by simpa using l), fun l => hm.h3 (by simpa using l), fun l => hm.h4 (by simpa using l), fun l => hm.h5 (by simpa using l), fun l => hm.h6 (by simpa using l), fun l => hm.h7 (by simpa using l), fun l => hm.h8 (by simpa using l), fun l => by obtain ⟨qb, e1, e2, e3, e4⟩ := hm.h9 (by simpa using l); exact ⟨qb, e1, e2, fun x => e3 (by simpa using x), fun x => e4 (by simpa using x)⟩, fun l => by have h := hm.c7 (by simpa using l); simp [h], fun l => by have h := hm.c8 (by simpa using l); simp [h], fun l => by have h := hm.c10 (by simpa using l); simp [h]⟩
    · obtain rfl := Option.some.inj ho
      have d1 : L 1 = true := hall { on := 1, ground := .data } (by simp) rfl
      clear hall ho hi
      have e := HI.out.h1 d1
      subst e
      go_simp
      (with_reducible refine (leansF_any w q ql c' qt h2' (HC'.out.below HI.out.bel)).mono ?_)
      rintro e w2 ⟨g, g', rfl, r1, r2, r3, hb⟩
      have hm := HI.out.mono hb
      have HH := Lib.hid (And.intro hm (And.intro r1 (And.intro r2 r3)))
      clear hm r1 r2 r3 hb
      go_simp
      obtain ⟨hm, r1, r2, r3⟩ := HH.out
      refine hK.out _ _ ⟨_, _, _, _, _, _, _, _, _, _, rfl, ?_⟩
      exact ⟨hm.bel, fun l => hm.h0 (by simpa using l), fun l => hm.h1 (by simpa using l), fun l => ⟨g, g', rfl, r1, r2, r3⟩, fun l => hm.h3 (by simpa using l), fun l => hm.h4 (by simpa using l), fun l => hm.h5 (by simpa using l), fun l => hm.h6 (by simpa using l), fun l => absurd ((hm.c7 (by simpa using l)).2.1) (by simp [hL]), fun l => absurd ((hm.c7 (hm.c8 (by simpa using l))).2.1) (by simp [hL]), fun l => by obtain ⟨qb, e1, e2, e3, e4⟩ := hm.h9 (by simpa using l); exact ⟨qb, e1, e2, fun x => e3 (by simpa using x), fun x => e4 (by simpa using x)⟩, fun l => by have h := hm.c7 (by simpa using l); simp [h], fun l => by have h := hm.c8 (by simpa using l); simp [h], fun l => by have h := hm.c10 (by simpa using l); simp [h]⟩
    · obtain rfl := Option.some.inj ho
      clear hall ho hi
      rw [if_pos (by rfl)]
      refine wp_load_row 44 (.tmp 2) rfl q0 rfl _ _ (0, 0) _ (HK0.out.below HI.out.bel) Try.underlying44 rfl sz_work ?_
      have hm := HI.out
      refine hK.out _ _ ⟨_, _, _, _, _, _, _, _, _, _, rfl, ?_⟩
      exact ⟨hm.bel, fun l => hm.h0 (by simpa using l), fun l => hm.h1 (by simpa using l), fun l => hm.h2 (by simpa using l), fun l => rfl, fun l => hm.h4 (by simpa using l), fun l => hm.h5 (by simpa using l), fun l => hm.h6 (by simpa using l), fun l => hm.h7 (by simpa using l), fun l => hm.h8 (by simpa using l), fun l => by obtain ⟨qb, e1, e2, e3, e4⟩ := hm.h9 (by simpa using l); exact ⟨qb, e1, e2, fun x => e3 (by simpa using x), fun x => e4 (by simpa using x)⟩, fun l => by have h := hm.c7 (by simpa using l); simp [h], fun l => by have h := hm.c8 (by simpa using l); simp [h], fun l => by have h := hm.c10 (by simpa using l); simp [h]⟩
    · obtain rfl := Option.some.inj ho
      have d3 : L 3 = true := hall { on := 3, ground := .data } (by simp) rfl
      have d2 : L 2 = true := hall { on := 2, ground := .chain } (by simp) rfl
      clear hall ho hi
      have e := HI.out.h3 d3
      subst e
      go_simp
      (with_reducible refine (leansT_any w qc ql c qt h2 (HC.out.below HI.out.bel)).mono ?_)
      rintro e w2 ⟨o, rfl, r1, r2, hb⟩
      have HH := Lib.hid (HI.out.mono hb)
      clear r1 r2 hb
      go_simp
      have hm := HH.out
      refine hK.out _ _ ⟨_, _, _, _, _, _, _, _, _, _, rfl, ?_⟩
      exact ⟨hm.bel, fun l => hm.h0 (by simpa using l), fun l => hm.h1 (by simpa using l), fun l => hm.h2 (by simpa using l), fun l => hm.h3 (by simpa using l), fun l => ⟨o, rfl⟩, fun l => hm.h5 (by simpa using l), fun l => hm.h6 (by simpa using l), fun l => absurd ((hm.c7 (by simpa using l)).2.2.1) (by simp [hL]), fun l => absurd ((hm.c7 (hm.c8 (by simpa using l))).2.2.1) (by simp [hL]), fun l => by obtain ⟨qb, e1, e2, e3, e4⟩ := hm.h9 (by simpa using l); exact ⟨qb, e1, e2, fun x => e3 (by simpa using x), fun x => e4 (by simpa using x)⟩, fun l => by have h := hm.c7 (by simpa using l); simp [h], fun l => by have h := hm.c8 (by simpa using l); simp [h], fun l => by have h := hm.c10 (by simpa using l); simp [h]⟩
    · obtain rfl := Option.some.inj ho
      clear hall ho hi
      rw [if_pos (by rfl)]
      refine wp_load_row 44 (.tmp 2) rfl q0 rfl _ _ (0, 0) _ (HK0.out.below HI.out.bel) Try.underlying44 rfl sz_work ?_
      have hm := HI.out
      refine hK.out _ _ ⟨_, _, _, _, _, _, _, _, _, _, rfl, ?_⟩
      exact ⟨hm.bel, fun l => hm.h0 (by simpa using l), fun l => hm.h1 (by simpa using l), fun l => hm.h2 (by simpa using l), fun l => hm.h3 (by simpa using l), fun l => hm.h4 (by simpa using l), fun l => rfl, fun l => hm.h6 (by simpa using l), fun l => hm.h7 (by simpa using l), fun l => hm.h8 (by simpa using l), fun l => by obtain ⟨qb, e1, e2, e3, e4⟩ := hm.h9 (by simpa using l); exact ⟨qb, e1, e2, fun x => e3 (by simpa using x), fun x => e4 (by simpa using x)⟩, fun l => by have h := hm.c7 (by simpa using l); simp [h], fun l => by have h := hm.c8 (by simpa using l); simp [h], fun l => by have h := hm.c10 (by simpa using l); simp [h]⟩
    · obtain rfl := Option.some.inj ho
      have d5 : L 5 = true := hall { on := 5, ground := .data } (by simp) rfl
      have d4 : L 4 = true := hall { on := 4, ground := .chain } (by simp) rfl
      clear hall ho hi
      have e := HI.out.h5 d5
      subst e
      go_simp
      (with_reducible refine (goes_any w qc ql c qt h2 hm (HC.out.below HI.out.bel) (HT.out.below HI.out.bel)).mono ?_)
      rintro e w2 ⟨rfl, hb⟩
      have HH := Lib.hid (HI.out.mono hb)
      clear hb
      go_simp
      have hm := HH.out
      refine hK.out _ _ ⟨_, _, _, _, _, _, _, _, _, _, rfl, ?_⟩
      exact ⟨hm.bel, fun l => hm.h0 (by simpa using l), fun l => hm.h1 (by simpa using l), fun l => hm.h2 (by simpa using l), fun l => hm.h3 (by simpa using l), fun l => hm.h4 (by simpa using l), fun l => hm.h5 (by simpa using l), fun l => rfl, fun l => absurd ((hm.c7 (by simpa using l)).2.2.2) (by simp [hL]), fun l => absurd ((hm.c7 (hm.c8 (by simpa using l))).2.2.2) (by simp [hL]), fun l => by obtain ⟨qb, e1, e2, e3, e4⟩ := hm.h9 (by simpa using l); exact ⟨qb, e1, e2, fun x => e3 (by simpa using x), fun x => e4 (by simpa using x)⟩, fun l => by have h := hm.c7 (by simpa using l); simp [h], fun l => by have h := hm.c8 (by simpa using l); simp [h], fun l => by have h := hm.c10 (by simpa using l); simp [h]⟩
    · obtain rfl := Option.some.inj ho
      have d0 : L 0 = true := hall { on := 0, ground := .data } (by simp) rfl
      have d2 : L 2 = true := hall { on := 2, ground := .data } (by simp) rfl
      have d4 : L 4 = true := hall { on := 4, ground := .data } (by simp) rfl
      have d6 : L 6 = true := hall { on := 6, ground := .data } (by simp) rfl
      clear hall ho hi
      obtain ⟨qm, rfl, p1, p2⟩ := HI.out.h0 d0
      obtain ⟨g, g', rfl, p3, p4, p5⟩ := HI.out.h2 d2
      obtain ⟨o, rfl⟩ := HI.out.h4 d4
      have e6 := HI.out.h6 d6
      subst e6
      clear p1 p2 p3 p4 p5
      go_simp
      have hm := HI.out
      refine hK.out _ _ ⟨_, _, _, _, _, _, _, _, _, _, rfl, ?_⟩
      exact ⟨hm.bel, fun l => hm.h0 (by simpa using l), fun l => hm.h1 (by simpa using l), fun l => hm.h2 (by simpa using l), fun l => hm.h3 (by simpa using l), fun l => hm.h4 (by simpa using l), fun l => hm.h5 (by simpa using l), fun l => hm.h6 (by simpa using l), fun l => rfl, fun l => hm.h8 (by simpa using l), fun l => by obtain ⟨qb, e1, e2, e3, e4⟩ := hm.h9 (by simpa using l); exact ⟨qb, e1, e2, fun x => e3 (by simpa using x), fun x => e4 (by simpa using x)⟩, fun l => by simp [d0, d2, d4, d6], fun l => by have h := hm.c8 (by simpa using l); simp [h], fun l => by have h := hm.c10 (by simpa using l); simp [h]⟩
    · obtain rfl := Option.some.inj ho
      have d7 : L 7 = true := hall { on := 7, ground := .data } (by simp) rfl
      clear hall ho hi
      obtain ⟨d0, d2, d4, d6⟩ := HI.out.c7 d7
      obtain ⟨qm, rfl, p1, p2⟩ := HI.out.h0 d0
      obtain ⟨g, g', rfl, p3, p4, p5⟩ := HI.out.h2 d2
      obtain ⟨o, rfl⟩ := HI.out.h4 d4
      have e6 := HI.out.h6 d6
      subst e6
      clear p1 p2 p3 p4 p5
      have e := HI.out.h7 d7
      subst e
      go_simp
      have hm := HI.out.mono (w' := w.alloc (.cells #[.pointer (some ⟨q0, 0, none⟩), .map (some qm), .slice (some ⟨g, 0, none⟩) 2 2, .slice (some ⟨o, 0, none⟩) 2 2, .slice none 0 0] 62)) ((Below.refl _ _).alloc (Nat.le_refl _) _)
      refine hK.out _ _ ⟨_, _, _, _, _, _, _, _, _, _, rfl, ?_⟩
      exact ⟨hm.bel, fun l => hm.h0 (by simpa using l), fun l => hm.h1 (by simpa using l), fun l => hm.h2 (by simpa using l), fun l => hm.h3 (by simpa using l), fun l => hm.h4 (by simpa using l), fun l => hm.h5 (by simpa using l), fun l => hm.h6 (by simpa using l), fun l => hm.h7 (by simpa using l), fun l => ⟨w.heap.size, rfl, Blk.new w _ _⟩, fun l => by obtain ⟨qb, e1, e2, e3, e4⟩ := hm.h9 (by simpa using l); exact ⟨qb, e1, e2, fun x => e3 (by simpa using x), fun x => absurd (hm.c10 (by simpa using x)).1 (by simp [hL])⟩, fun l => by have h := hm.c7 (by simpa using l); simp [h], fun l => by simp [d7], fun l => by have h := hm.c10 (by simpa using l); simp [h]⟩
    · obtain rfl := Option.some.inj ho
      clear hall ho hi
      go_simp
      have hm := HI.out.mono (w' := w.alloc (.cells #[.pointer none] 54)) ((Below.refl _ _).alloc (Nat.le_refl _) _)
      refine hK.out _ _ ⟨_, _, _, _, _, _, _, _, _, _, rfl, ?_⟩
      exact ⟨hm.bel, fun l => hm.h0 (by simpa using l), fun l => hm.h1 (by simpa using l), fun l => hm.h2 (by simpa using l), fun l => hm.h3 (by simpa using l), fun l => hm.h4 (by simpa using l), fun l => hm.h5 (by simpa using l), fun l => hm.h6 (by simpa using l), fun l => hm.h7 (by simpa using l), fun l => hm.h8 (by simpa using l), fun l => ⟨w.heap.size, rfl, HI.out.bel.size, fun _ => Boxed.new w _ _, fun x => absurd (hm.c10 (by simpa using x)).2 (by simp [hL])⟩, fun l => by have h := hm.c7 (by simpa using l); simp [h], fun l => by have h := hm.c8 (by simpa using l); simp [h], fun l => by have h := hm.c10 (by simpa using l); simp [h]⟩
    · obtain rfl := Option.some.inj ho
      have d9 : L 9 = true := hall { on := 9, ground := .data } (by simp) rfl
      have d8 : L 8 = true := hall { on := 8, ground := .data } (by simp) rfl
      clear hall ho hi
      have d7 := HI.out.c8 d8
      obtain ⟨d0, d2, d4, d6⟩ := HI.out.c7 d7
      obtain ⟨qb, rfl, hqb, hbx, _⟩ := HI.out.h9 d9
      have hbx := hbx hL
      obtain ⟨qk, rfl, hk⟩ := HI.out.h8 d8
      have b0 := hbx.cell
      have z0 := hbx.frozen
      have HH := Lib.hid (And.intro hbx (And.intro hk hqb))
      clear hbx hk hqb
      go_simp
      obtain ⟨hbx, hk, hqb⟩ := HH.out
      have hne : ∀ k v, w.cell? ⟨k, 0, none⟩ = some v → v ≠ .pointer none → k ≠ qb := fun k v h1 h2 e => by
        subst e
        rw [hbx.cell] at h1
        injection h1 with h1
        exact h2 h1.symm
      obtain ⟨qm, e42, p1, p2⟩ := HI.out.h0 d0
      obtain ⟨g, g', e44, p3, p4, p5⟩ := HI.out.h2 d2
      have hg := hne g _ p3 (fun e => by cases e)
      have hg' := hne g' _ p5 (fun e => by cases e)
      have hqk := hne qk _ (hk.cell 0 rfl) (fun e => by cases e)
      have hqm : qm ≠ qb := fun e => by
        obtain ⟨D, ⟨es, k, hx, _⟩, _⟩ := p2
        rw [e, show w.heap[qb]? = _ from hbx] at hx
        cases hx
      have hp2 : ML (w.setCell ⟨qb, 0, none⟩ (.pointer (some ⟨qk, 0, none⟩))) qm 0 (fun _ => life0) := by
        obtain ⟨D, x1, x2, x3⟩ := p2
        exact ⟨D, ownsMap_same x1 (Below.heap_setCell _ _ _ _ hqm), x2, x3⟩
      have hk2 := hk.setOther ⟨qb, 0, none⟩ (.pointer (some ⟨qk, 0, none⟩)) hqk
      have hm := HI.out
      have hbel : Below V.heap.size V (w.setCell ⟨qb, 0, none⟩ (.pointer (some ⟨qk, 0, none⟩))) := HI.out.bel.setCell (p := ⟨qb, 0, none⟩) hqb _
      have hbx2 : Boxed (w.setCell ⟨qb, 0, none⟩ (.pointer (some ⟨qk, 0, none⟩))) qb 54 (.pointer (some ⟨qk, 0, none⟩)) := hbx.set _
      refine hK.out _ _ ⟨_, _, _, _, _, _, _, _, _, _, rfl, ?_⟩
      exact ⟨hbel, fun l => ⟨qm, e42, p1, hp2⟩, fun l => hm.h1 (by simpa using l), fun l => ⟨g, g', e44, (World.cell?_setCell_other w _ _ _ (by intro e; injection e with e1 e2; exact hg e1.symm)).trans p3, (World.cell?_setCell_other w _ _ _ (by intro e; injection e with e1 e2; exact hg e1.symm)).trans p4, (World.cell?_setCell_other w _ _ _ (by intro e; injection e with e1 e2; exact hg' e1.symm)).trans p5⟩, fun l => hm.h3 (by simpa using l), fun l => hm.h4 (by simpa using l), fun l => hm.h5 (by simpa using l), fun l => hm.h6 (by simpa using l), fun l => hm.h7 (by simpa using l), fun l => ⟨qk, rfl, hk2⟩, fun l => ⟨qb, rfl, hqb, fun x => absurd x (by simp), fun _ => hbx2⟩, fun l => by have h := hm.c7 (by simpa using l); simp [h], fun l => by have h := hm.c8 (by simpa using l); simp [h], fun l => by simp [d8, d9]⟩
  · rintro L a w ⟨v7, v42, v43, v44, v45, v46, v47, v48, v49, v50, rfl, hI⟩ hall
    obtain ⟨qm, rfl, hqm, hml⟩ := hI.h0 (hall 0 (by decide))
    obtain ⟨g, g', rfl, g0, g1, gi⟩ := hI.h2 (hall 2 (by decide))
    obtain ⟨o, rfl⟩ := hI.h4 (hall 4 (by decide))
    obtain ⟨qk, rfl, hk⟩ := hI.h8 (hall 8 (by decide))
    obtain ⟨qb, e7, hqb, _, hb⟩ := hI.h9 (hall 9 (by decide))
    have e48 := hI.h6 (hall 6 (by decide))
    rw [e48] at hk
    exact hQ qm g g' o qk qb _ _ _ _ _ _ _ _ _ _ w e7 hI.bel ⟨hk, HK0.out.below hI.bel, hml, HC.out.below hI.bel, HT.out.below hI.bel, g0, g1, gi⟩ (hb (hall 10 (by decide))) hqm hqb
end Go.Proofs.Ytfjhomegjceilaa
