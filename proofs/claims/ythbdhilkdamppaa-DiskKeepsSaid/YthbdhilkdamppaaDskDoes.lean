/- does, alike: two disks that read as one state. -/
import Derived.Test.YthbdhilkdamppaaDskRef3
import Derived.Test.YthbdhilkdamppaaOpenAct
import Derived.Test.YthbdhilkdamppaaDskNil
namespace Go.Proofs.Ythbdhilkdamppaa
open Go.RowKit
set_option linter.unusedVariables false
set_option linter.unusedSimpArgs false

/-- an act on a state -/
def dDo (s : DS) (x : AV) : Int × DS :=
  if x.d = 0 then dAppend s x.b else if x.d = 1 then dSwap s x.b else if x.d = 2 then dCut s x.n else if x.d = 3 then dArm s x.n else if x.d = 4 then dCrash s else dUp s

/-- the footprint of a disk -/
def Ft (q : Nat) (r : Option Nat) (k : Nat) : Prop := k = q ∨ some k = r
/-- two disks lie apart -/
structure Apart (qa : Nat) (ra : Option Nat) (qb : Nat) (rb : Option Nat) : Prop where
  q : qa ≠ qb
  r : ∀ g, ra = some g → rb ≠ some g
  ab : ra ≠ some qb
  ba : rb ≠ some qa
theorem Apart.symm {qa : Nat} {ra : Option Nat} {qb : Nat} {rb : Option Nat} (h : Apart qa ra qb rb) : Apart qb rb qa ra := ⟨h.q.symm, fun g h1 h2 => h.r g h2 h1, h.ba, h.ab⟩
theorem Apart.keep {t t' : TypeId} {B : Nat} {W W' : World} {qa : Nat} {ra : Option Nat} {qb : Nat} {rb : Option Nat} {s s' : DS} (h : Apart qa ra qb rb) (hk : Dk t B W qb rb s) (hS : DStep t' B qa ra s' W W') : Dk t B W' qb rb s :=
  hk.only hS.only (fun hf => by rcases hf with hf | hf; · exact h.q hf.symm
                                exact h.ab hf.symm) (fun g hg hf => by
    rcases hf with hf | hf
    · exact h.ba (by rw [hg, hf])
    · exact h.r g hf.symm hg)
theorem Apart.step {t : TypeId} {B : Nat} {W : World} {qa : Nat} {ra ra' : Option Nat} {qb : Nat} {rb : Option Nat} {s : DS} (h : Apart qa ra qb rb) (hk : Dk t B W qb rb s) (hr : ∀ g, ra' = some g → ra = some g ∨ W.heap.size ≤ g) : Apart qa ra' qb rb :=
  ⟨h.q, fun g h1 h2 => by
    rcases hr g h1 with h3 | h3
    · exact h.r g h3 h2
    · have := (hk.lt.2 g h2).2; omega, fun h1 => by
    rcases hr _ h1 with h3 | h3
    · exact h.ab h3
    · have := hk.lt.1; omega, h.ba⟩

/-- two disks read as one state -/
structure Two (B : Nat) (W : World) (qa : Nat) (ra : Option Nat) (qb : Nat) (rb : Option Nat) (s : DS) : Prop where
  a : Dk 44 B W qa ra s
  b : Dk 49 B W qb rb s
  ap : Apart qa ra qb rb
def Ft2 (qa : Nat) (ra : Option Nat) (qb : Nat) (rb : Option Nat) (k : Nat) : Prop := Ft qa ra k ∨ Ft qb rb k
theorem Two.only {B : Nat} {W W' : World} {qa : Nat} {ra : Option Nat} {qb : Nat} {rb : Option Nat} {s : DS} {F : Nat → Prop} (h : Two B W qa ra qb rb s) (ho : Only F W W') (hF : ∀ k, Ft2 qa ra qb rb k → ¬ F k) : Two B W' qa ra qb rb s :=
  ⟨h.a.only ho (hF _ (.inl (.inl rfl))) (fun g hg => hF g (.inl (.inr hg.symm))), h.b.only ho (hF _ (.inr (.inl rfl))) (fun g hg => hF g (.inr (.inr hg.symm))), h.ap⟩
theorem Two.below {B : Nat} {W W' : World} {qa : Nat} {ra : Option Nat} {qb : Nat} {rb : Option Nat} {s : DS} (h : Two B W qa ra qb rb s) (hb : Below W.heap.size W W') : Two B W' qa ra qb rb s := ⟨h.a.below hb, h.b.below hb, h.ap⟩
theorem Two.drew {B : Nat} {W : World} {qa : Nat} {ra : Option Nat} {qb : Nat} {rb : Option Nat} {s : DS} (h : Two B W qa ra qb rb s) : Two B W.drew qa ra qb rb s := ⟨h.a.drewN 1, h.b.drewN 1, h.ap⟩

/-- a step of both -/
structure TStep (B qa : Nat) (ra : Option Nat) (qb : Nat) (rb : Option Nat) (s' : DS) (W W' : World) : Prop where
  two : ∃ ra' rb', Two B W' qa ra' qb rb' s' ∧ (∀ g, ra' = some g → ra = some g ∨ W.heap.size ≤ g) ∧ (∀ g, rb' = some g → rb = some g ∨ W.heap.size ≤ g)
  only : Only (Ft2 qa ra qb rb) W W'
theorem TStep.mk2 {B qa : Nat} {ra : Option Nat} {qb : Nat} {rb : Option Nat} {s s' : DS} {W W1 W2 : World} (h : Two B W qa ra qb rb s) (h1 : DStep 44 B qa ra s' W W1) (h2 : DStep 49 B qb rb s' W1 W2) : TStep B qa ra qb rb s' W W2 := by
  have hb1 := h.ap.keep h.b h1
  obtain ⟨⟨ra', ka, hra⟩, oa⟩ := h1
  have ap1 := h.ap.step h.b hra
  have ap1' : Apart qb rb qa ra' := ap1.symm
  have ka2 := ap1'.keep ka h2
  obtain ⟨⟨rb', kb, hrb⟩, ob⟩ := h2
  have ap2 := (ap1'.step ka hrb).symm
  refine ⟨⟨ra', rb', ⟨ka2, kb, ap2⟩, hra, fun g hg => (hrb g hg).imp id (fun h => Nat.le_trans oa.size h)⟩, (oa.mono (fun i _ h => .inl h)).trans ob (fun i _ h => .inr h)⟩
theorem TStep.pre {B qa : Nat} {ra : Option Nat} {qb : Nat} {rb : Option Nat} {s' : DS} {W W1 W2 : World} (hb : Below W.heap.size W W1) (h : TStep B qa ra qb rb s' W1 W2) : TStep B qa ra qb rb s' W W2 := by
  obtain ⟨⟨ra', rb', hT, h1, h2⟩, ho⟩ := h
  exact ⟨⟨ra', rb', hT, fun g hg => (h1 g hg).imp id (fun h => Nat.le_trans hb.size h), fun g hg => (h2 g hg).imp id (fun h => Nat.le_trans hb.size h)⟩, (Only.of_below hb _).trans ho (fun _ _ h => h)⟩
theorem TStep.below {B qa : Nat} {ra : Option Nat} {qb : Nat} {rb : Option Nat} {s s' : DS} {W W' : World} (hT : Two B W qa ra qb rb s) (h : TStep B qa ra qb rb s' W W') : Below B W W' := by
  have h1 := hT.a.lt
  have h2 := hT.b.lt
  have h3 := hT.a.q
  have h4 := hT.b.q
  refine h.only.below (by omega) (fun i hi => ?_)
  rcases hi with (rfl | hi) | (rfl | hi)
  · exact h3
  · exact (h1.2 i hi.symm).1
  · exact h4
  · exact (h2.2 i hi.symm).1

def DoesP (B qa : Nat) (ra : Option Nat) (qb : Nat) (rb : Option Nat) (s' : DS) (w : World) (e : Ending) (w' : World) : Prop := e = .returned (.bool true) ∧ TStep B qa ra qb rb s' w w'

set_option maxHeartbeats 4000000 in
theorem does_any (B : Nat) (w : World) (qa : Nat) (ra : Option Nat) (qb : Nat) (rb : Option Nat) (s : DS) (x : AV) (hT : Two B w qa ra qb rb s) (hx : AVFits w x) (hsep : ∀ ad, x.A = some ad → 0 < x.b.length → ad.block < B) :
    Calls Try.prog 22 #[.pointer (some ⟨qa, 0, none⟩), .pointer (some ⟨qb, 0, none⟩), .agg x.cs] w (DoesP B qa ra qb rb (dDo s x).2 w) := by
  obtain ⟨d, X, cx, b, n⟩ := x
  obtain ⟨hr, hd1, hd2, hn1, hn2⟩ := hx
  simp only at hr hd1 hd2 hn1 hn2 hsep
  simp only [AV.cs]
  obtain ⟨m, hm⟩ : ∃ m, b.length = m := ⟨_, rfl⟩
  rw [hm] at hr hsep ⊢
  have hbw : Below w.heap.size w (w.alloc (.cells #[.int .i64 d, .slice X m cx, .int .i64 n] 25)) := (Below.refl _ w).alloc (Nat.le_refl _) _
  have hT1 := hT.below hbw
  have hr1 := hr.below hbw
  have hk1 := Blk.new w #[.int .i64 d, .slice X m cx, .int .i64 n] 25
  have hq4 := hT.b.q
  have hxn : ¬ Ft2 qa ra qb rb w.heap.size := by
    rintro ((h | h) | (h | h))
    · have := hT.a.lt.1; omega
    · have := (hT.a.lt.2 _ h.symm).2; omega
    · have := hT.b.lt.1; omega
    · have := (hT.b.lt.2 _ h.symm).2; omega
  -- an Only step keeps the box
  have keepA : ∀ (W W' : World) (s' : DS), Blk W w.heap.size #[.int .i64 d, .slice X m cx, .int .i64 n] 25 → DStep 44 B qa ra s' W W' → Blk W' w.heap.size #[.int .i64 d, .slice X m cx, .int .i64 n] 25 := fun _ _ _ h hS => h.only hS.only (fun h => hxn (.inl h))
  have keepB : ∀ (W W' : World) (s' : DS), Blk W w.heap.size #[.int .i64 d, .slice X m cx, .int .i64 n] 25 → DStep 49 B qb rb s' W W' → Blk W' w.heap.size #[.int .i64 d, .slice X m cx, .int .i64 n] 25 := fun _ _ _ h hS => h.only hS.only (fun h => hxn (.inr h))
  have KB := Lib.hid keepB
  have HBW := Lib.hid hbw
  have keepR : ∀ (W W' : World) (s' : DS), Rd W 1 X m cx (bv b) → DStep 44 B qa ra s' W W' → Dk 44 B W qa ra s → Rd W' 1 X m cx (bv b) := fun _ _ _ h hS hk => h.only hS.only (fun ad e h0 hf => by
    have := hsep ad e h0
    rcases hf with hf | hf
    · have := hk.q; omega
    · have := (hk.lt.2 _ hf.symm).1; omega)
  have KA := Lib.hid keepA
  have KR := Lib.hid keepR
  have HT := Lib.hid hT1
  have HR := Lib.hid hr1
  have HK := Lib.hid hk1
  have HM := Lib.hid hm
  clear hT hT1 hr hr1 hk1 hm keepA keepR keepB hxn hbw
  by_cases h0 : d = 0
  · rw [show dDo s ⟨d, X, cx, b, n⟩ = dAppend s b from by unfold dDo; rw [if_pos h0]]
    subst h0
    go_enter Try.func22, Try.ntmps22
    go_wp2_with fail
    go_region_held3 (fun w' => w'.cell? ⟨w.heap.size, 1, none⟩ = some (.slice X m cx)) (go_keep)
      ((first
        | (go_at_call 10; refine (dappend_any B _ qa ra s X m cx b HT.out.drew.a HR.out.drew).mono ?_; rintro e w1 ⟨rfl, hS⟩; have hk1 := KA.out _ _ _ HK.out.drew hS; have k1 := hk1.cell 1 rfl; have HK1 := Lib.hid hk1; have HR1 := Lib.hid (KR.out _ _ _ HR.out.drew hS HT.out.drew.a); have HB1 := Lib.hid (HT.out.drew.ap.keep HT.out.drew.b hS); have HS := Lib.hid hS; clear hS hk1)
        | (go_at_call 39; refine (rappend_any B _ qb rb s X m cx b HB1.out HR1.out (fun ad e h0 => by have := hsep ad e h0; omega)).mono ?_; rintro e w2 ⟨rfl, hS⟩; have k2 := (KB.out _ _ _ HK1.out hS).cell 1 rfl; have HS2 := Lib.hid hS; clear hS)))
    all_goals
      go_wp2_with fail
      go_ret
      exact ⟨by simp, (TStep.mk2 HT.out.drew HS.out HS2.out).pre (HBW.out.drew)⟩
  by_cases h1 : d = 1
  · rw [show dDo s ⟨d, X, cx, b, n⟩ = dSwap s b from by unfold dDo; rw [if_neg h0, if_pos h1]]
    clear h0
    subst h1
    go_enter Try.func22, Try.ntmps22
    go_wp2_with fail
    go_region_held3 (fun w' => w'.cell? ⟨w.heap.size, 1, none⟩ = some (.slice X m cx)) (go_keep)
      ((first
        | (go_at_call 11; refine (dswap_any B _ qa ra s X m cx b HT.out.drew.a HR.out.drew).mono ?_; rintro e w1 ⟨rfl, hS⟩; have hk1 := KA.out _ _ _ HK.out.drew hS; have k1 := hk1.cell 1 rfl; have HK1 := Lib.hid hk1; have HR1 := Lib.hid (KR.out _ _ _ HR.out.drew hS HT.out.drew.a); have HB1 := Lib.hid (HT.out.drew.ap.keep HT.out.drew.b hS); have HS := Lib.hid hS; clear hS hk1)
        | (go_at_call 40; refine (rswap_any B _ qb rb s X m cx b HB1.out HR1.out).mono ?_; rintro e w2 ⟨rfl, hS⟩; have k2 := (KB.out _ _ _ HK1.out hS).cell 1 rfl; have HS2 := Lib.hid hS; clear hS)))
    all_goals
      go_wp2_with fail
      go_ret
      exact ⟨by simp, (TStep.mk2 HT.out.drew HS.out HS2.out).pre (HBW.out.drew)⟩
  by_cases h2 : d = 2
  · rw [show dDo s ⟨d, X, cx, b, n⟩ = dCut s n from by unfold dDo; rw [if_neg h0, if_neg h1, if_pos h2]]
    clear h0 h1
    subst h2
    go_enter Try.func22, Try.ntmps22
    go_wp2_with fail
    go_region_held3 (fun w' => w'.cell? ⟨w.heap.size, 2, none⟩ = some (.int .i64 n)) (go_keep)
      ((first
        | (go_at_call 12; refine (dcut_any B _ qa ra s n hn1 hn2 HT.out.drew.a).mono ?_; rintro e w1 ⟨rfl, hS⟩; have hk1 := KA.out _ _ _ HK.out.drew hS; have k1 := hk1.cell 2 rfl; have HK1 := Lib.hid hk1; have HR1 := Lib.hid (KR.out _ _ _ HR.out.drew hS HT.out.drew.a); have HB1 := Lib.hid (HT.out.drew.ap.keep HT.out.drew.b hS); have HS := Lib.hid hS; clear hS hk1)
        | (go_at_call 41; refine (rcut_any B _ qb rb s n hn1 hn2 HB1.out).mono ?_; rintro e w2 ⟨rfl, hS⟩; have k2 := (KB.out _ _ _ HK1.out hS).cell 2 rfl; have HS2 := Lib.hid hS; clear hS)))
    all_goals
      go_wp2_with fail
      go_ret
      exact ⟨by simp, (TStep.mk2 HT.out.drew HS.out HS2.out).pre (HBW.out.drew)⟩
  by_cases h3 : d = 3
  · rw [show dDo s ⟨d, X, cx, b, n⟩ = dArm s n from by unfold dDo; rw [if_neg h0, if_neg h1, if_neg h2, if_pos h3]]
    clear h0 h1 h2
    subst h3
    go_enter Try.func22, Try.ntmps22
    go_wp2_with fail
    go_region_held3 (fun w' => w'.cell? ⟨w.heap.size, 2, none⟩ = some (.int .i64 n)) (go_keep)
      ((first
        | (go_at_call 13; refine (darm_any B _ qa ra s n hn2 HT.out.drew.a).mono ?_; rintro e w1 ⟨rfl, hS⟩; have hk1 := KA.out _ _ _ HK.out.drew hS; have k1 := hk1.cell 2 rfl; have HK1 := Lib.hid hk1; have HR1 := Lib.hid (KR.out _ _ _ HR.out.drew hS HT.out.drew.a); have HB1 := Lib.hid (HT.out.drew.ap.keep HT.out.drew.b hS); have HS := Lib.hid hS; clear hS hk1)
        | (go_at_call 42; refine (rarm_any B _ qb rb s n hn2 HB1.out).mono ?_; rintro e w2 ⟨rfl, hS⟩; have k2 := (KB.out _ _ _ HK1.out hS).cell 2 rfl; have HS2 := Lib.hid hS; clear hS)))
    all_goals
      go_wp2_with fail
      go_ret
      exact ⟨by simp, (TStep.mk2 HT.out.drew HS.out HS2.out).pre (HBW.out.drew)⟩
  by_cases h4 : d = 4
  · rw [show dDo s ⟨d, X, cx, b, n⟩ = dCrash s from by unfold dDo; rw [if_neg h0, if_neg h1, if_neg h2, if_neg h3, if_pos h4]]
    clear h0 h1 h2 h3
    subst h4
    go_enter Try.func22, Try.ntmps22
    go_wp2_with fail
    refine (dcrash_any B _ qa ra s HT.out.a).mono ?_
    rintro e w1 ⟨rfl, hS⟩
    have HB1 := Lib.hid (HT.out.ap.keep HT.out.b hS)
    have HS := Lib.hid hS
    clear hS
    go_wp2_with fail
    refine (rcrash_any B _ qb rb s HB1.out).mono ?_
    rintro e w2 ⟨rfl, hS⟩
    have HS2 := Lib.hid hS
    clear hS
    go_wp2_with fail
    go_ret
    exact ⟨by simp, (TStep.mk2 HT.out HS.out HS2.out).pre HBW.out⟩
  · rw [show dDo s ⟨d, X, cx, b, n⟩ = dUp s from by unfold dDo; rw [if_neg h0, if_neg h1, if_neg h2, if_neg h3, if_neg h4]]
    have b0 : (d == 0) = false := by simp [h0]
    have b1 : (d == 1) = false := by simp [h1]
    have b2 : (d == 2) = false := by simp [h2]
    have b3 : (d == 3) = false := by simp [h3]
    have b4 : (d == 4) = false := by simp [h4]
    clear h0 h1 h2 h3 h4
    go_enter Try.func22, Try.ntmps22
    go_wp2_with fail
    refine (dup_any B _ qa ra s HT.out.a).mono ?_
    rintro e w1 ⟨rfl, hS⟩
    have HB1 := Lib.hid (HT.out.ap.keep HT.out.b hS)
    have HS := Lib.hid hS
    clear hS
    go_wp2_with fail
    refine (rup_any B _ qb rb s HB1.out).mono ?_
    rintro e w2 ⟨rfl, hS⟩
    have HS2 := Lib.hid hS
    clear hS
    go_wp2_with fail
    go_ret
    exact ⟨by simp, (TStep.mk2 HT.out HS.out HS2.out).pre HBW.out⟩

def AlikeP (w : World) (e : Ending) (w' : World) : Prop := e = .returned (.bool true) ∧ Below w.heap.size w w'
set_option maxHeartbeats 2000000 in
theorem alike_any (B : Nat) (w : World) (qa : Nat) (ra : Option Nat) (qb : Nat) (rb : Option Nat) (s : DS) (hT : Two B w qa ra qb rb s) :
    Calls Try.prog 21 #[.pointer (some ⟨qa, 0, none⟩), .pointer (some ⟨qb, 0, none⟩)] w (AlikeP w) := by
  have HT := Lib.hid hT
  clear hT
  cases hd : s.down with
  | true =>
    have HD := Lib.hid hd
    clear hd
    go_enter Try.func21, Try.ntmps21
    go_wp2_with fail
    refine (dbytes_any B _ qa ra s HT.out.a).mono ?_
    rintro e w1 ⟨hb1, h1, -⟩
    obtain rfl := h1 HD.out
    have HT1 := Lib.hid (HT.out.below hb1)
    have HB1 := Lib.hid hb1
    clear h1 hb1
    go_wp2_with fail
    refine (rbytes_any B _ qb rb s HT1.out.b).mono ?_
    rintro e w2 ⟨hb2, h2, -⟩
    obtain rfl := h2 HD.out
    have HT2 := Lib.hid (HT1.out.below hb2)
    have HB2 := Lib.hid (HB1.out.trans (hb2.mono HB1.out.size))
    clear h2 hb2
    have hs := run_str (P := Try.prog) w2 23 5 9 Try.underlying23 Try.underlying5 Try.underlying9 (show Rd w2 1 none 0 0 (bv []) from Rd.nil w2 1)
    go_wp2_with (first
      | (go_at_call 9; refine (ddown_any B _ qa ra s HT2.out.a).mono ?_; rintro e w' ⟨rfl, rfl⟩)
      | (go_at_call 37; refine (rdown_any B _ qb rb s HT2.out.b).mono ?_; rintro e w' ⟨rfl, rfl⟩)
      | (go_at_call 17; refine (dlen_any B _ qa ra s HT2.out.a).mono ?_; rintro e w' ⟨rfl, rfl⟩)
      | (go_at_call 38; refine (rlen_any B _ qb rb s HT2.out.b).mono ?_; rintro e w' ⟨rfl, rfl⟩))
    go_ret
    exact ⟨rfl, HB2.out⟩
  | false =>
    have HD := Lib.hid hd
    clear hd
    go_enter Try.func21, Try.ntmps21
    go_wp2_with fail
    refine (dbytes_any B _ qa ra s HT.out.a).mono ?_
    rintro e w1 ⟨hb1, -, h1⟩
    obtain ⟨A1, c1, rfl, ho1⟩ := h1 HD.out
    have HT1 := Lib.hid (HT.out.below hb1)
    have HB1 := Lib.hid hb1
    have HO1 := Lib.hid ho1
    clear h1 hb1 ho1
    go_wp2_with fail
    refine (rbytes_any B _ qb rb s HT1.out.b).mono ?_
    rintro e w2 ⟨hb2, -, h2⟩
    obtain ⟨A2, c2, rfl, ho2⟩ := h2 HD.out
    have HT2 := Lib.hid (HT1.out.below hb2)
    have HB2 := Lib.hid (HB1.out.trans (hb2.mono HB1.out.size))
    have hs1 := run_str (P := Try.prog) w2 23 5 9 Try.underlying23 Try.underlying5 Try.underlying9 (HO1.out.below hb2).rd
    have hs2 := run_str (P := Try.prog) w2 23 5 9 Try.underlying23 Try.underlying5 Try.underlying9 ho2.rd
    clear h2 hb2 ho2
    go_wp2_with (first
      | (go_at_call 9; refine (ddown_any B _ qa ra s HT2.out.a).mono ?_; rintro e w' ⟨rfl, rfl⟩)
      | (go_at_call 37; refine (rdown_any B _ qb rb s HT2.out.b).mono ?_; rintro e w' ⟨rfl, rfl⟩)
      | (go_at_call 17; refine (dlen_any B _ qa ra s HT2.out.a).mono ?_; rintro e w' ⟨rfl, rfl⟩)
      | (go_at_call 38; refine (rlen_any B _ qb rb s HT2.out.b).mono ?_; rintro e w' ⟨rfl, rfl⟩))
    go_ret
    exact ⟨rfl, HB2.out⟩
end Go.Proofs.Ythbdhilkdamppaa
