/- hoardinglaw31.JudgeMost: the walk, but for wakes. -/
import Derived.Test.YtfjhomegjceilaaJm1
import Derived.Deep.CutRange
import Derived.BigRegion
namespace Go.Proofs.Ytfjhomegjceilaa
open Go.RowKit
set_option linter.unusedVariables false
set_option linter.unusedSimpArgs false

theorem tmod_inM {i : Int} {n : Nat} (hn : 0 < n) : ∃ k : Nat, k < n ∧ (Int.tmod i n + n).tmod n = k ∧ -(n : Int) < Int.tmod i n ∧ Int.tmod i n < n := by
  have h1 : -(n : Int) < Int.tmod i n := by
    have := Int.lt_tmod_of_pos i (show (0 : Int) < n by omega)
    omega
  have h2 : Int.tmod i n < n := Int.tmod_lt_of_pos i (by omega)
  have h3 : 0 ≤ (Int.tmod i n + n).tmod n := Int.tmod_nonneg _ (by omega)
  have h4 : (Int.tmod i n + n).tmod n < n := Int.tmod_lt_of_pos _ (by omega)
  exact ⟨((Int.tmod i n + n).tmod n).toNat, by omega, by omega, h1, h2⟩
theorem tc_take {S : Nat → Prop} {w : World} {A : Option Addr} {c : Nat} {l : List Tc} (h : Ls S w 3 16 Tc.tr A c l) (k : Nat) (hk : k ≤ l.length) : Ls S w 3 16 Tc.tr A c (l.take k) := by
  obtain ⟨h1, h2, h3, h4, h5, xs, h6, h7⟩ := h
  have hl : (l.take k).length = k := by rw [List.length_take]; omega
  rw [show l = l.take k ++ l.drop k by simp, List.flatMap_append] at h7
  obtain ⟨a, b, rfl, h8, h9⟩ := Trs.at.app.1 h7
  have hal : a.length = k * 3 := by
    have := h8.len
    rw [this, List.length_flatMap]
    have : ∀ m : List Tc, (m.map fun x => x.tr.length).sum = m.length * 3 := by
      intro m
      induction m with
      | nil => rfl
      | cons x m ih => rw [List.map_cons, List.sum_cons, ih, List.length_cons]; show 3 + _ = _; omega
    rw [this, hl]
  refine ⟨h1, by rw [hl]; omega, by rw [hl]; omega, h4, fun ad e hp => h5 ad e (by rw [hl] at hp; omega), a, ⟨by rw [hl]; exact hal, by rw [hl]; omega, h4, fun j u hu => ?_⟩, h8⟩
  refine h6.at_ j u ?_
  rw [List.getElem?_append_left (by have := (List.getElem?_eq_some_iff.1 hu).1; omega)]
  exact hu
theorem great_anyM (A : Option Addr) (n c : Nat) (w : World) : Calls Try.prog 4 #[.slice A n c] w fun e w' => e = .returned (.bool (decide ((200 : Int) < (n : Int)))) ∧ w' = w := by
  go_enter Try.func4, Try.ntmps4
  go_wp2_with fail
  go_ret
  exact ⟨rfl, rfl⟩
set_option maxRecDepth 100000 in
set_option maxHeartbeats 8000000 in
theorem judgeMost_walk0 (w : World) (hW : ∀ w', Below w.heap.size w w' → Calls Try.prog 5 #[] w' fun e w'' => e = .returned (.bool true) ∧ Below w'.heap.size w' w'') (A : Option Addr) (len c : Nat) (l : List Tc) (hlen : len = l.length) (h : Ls (fun k => k < w.heap.size) w 3 16 Tc.tr A c l)
    (cut : Int) (hc1 : -9223372036854775808 ≤ cut) (hc2 : cut ≤ 9223372036854775807) :
    Calls Try.prog 3 #[.slice A len c, .int .i64 cut] w fun e w' => e = .returned (.bool true) ∧ Below w.heap.size w w' := by
  subst hlen
  have hcap := h.cap
  have hmax := h.max
  unfold maxLen at hmax
  have H := Lib.hid h
  have HW := Lib.hid hW
  have HG := Lib.hid (great_anyM A l.length c w)
  clear h hW
  by_cases hbig : 200 < l.length
  · rw [show decide ((200 : Int) < (l.length : Int)) = true from decide_eq_true (by omega)] at HG
    clear hbig
    go_enter Try.func3, Try.ntmps3
    go_wp2_with fail
    refine HG.out.mono ?_
    rintro e w2 ⟨rfl, hw⟩
    obtain rfl := hw.symm
    go_wp2_with fail
    refine (HW.out w (Below.refl _ _)).mono ?_
    rintro e w3 ⟨rfl, hb3⟩
    have HB3 := Lib.hid hb3
    clear hb3
    go_wp2_with fail
    go_ret
    exact ⟨rfl, HB3.out⟩
  · rw [show decide ((200 : Int) < (l.length : Int)) = false from decide_eq_false (by omega)] at HG
    have hl : l.length ≤ 200 := by omega
    obtain ⟨N, hN⟩ : ∃ N, N = l.length + 1 := ⟨_, rfl⟩
    have hN0 : 0 < N := by omega
    obtain ⟨k, hk, hke, hka, hkb⟩ := tmod_inM (i := cut) hN0
    have k1 : ¬ (N : Int) = 0 := by omega
    have k1' : ((N : Int) == 0) = false := beq_eq_false_iff_ne.2 k1
    have wn : IntKind.i64.wrap ((l.length : Int) + 1) = (N : Int) := by rw [IntWalk.i64_in _ (by omega)]; omega
    have wk1 : IntKind.i64.wrap (Int.tmod cut (N : Int)) = Int.tmod cut (N : Int) := IntWalk.i64_in _ (by omega)
    have wk2 : IntKind.i64.wrap (Int.tmod cut (N : Int) + (N : Int)) = Int.tmod cut (N : Int) + (N : Int) := IntWalk.i64_in _ (by omega)
    have wk3 : IntKind.i64.wrap (k : Int) = (k : Int) := IntWalk.i64_in _ (by omega)
    have hkl : k ≤ l.length := by omega
    have HMA := Lib.hid (fun (w' : World) (hb : Below w.heap.size w w') => most_any (fun k => k < w.heap.size) A c l w' (H.out.below hb) hl)
    have HMB : Hid (∀ w', Below w.heap.size w w' → Calls Try.prog 6 #[.slice A k c] w' fun e w'' => e = .returned (.int .i64 (mF (l.take k)).m) ∧ Below w'.heap.size w' w'') := Lib.hid (fun w' hb => by
      have := most_any (fun k => k < w.heap.size) A c (l.take k) w' (tc_take (H.out.below hb) k hkl) (by rw [List.length_take]; omega)
      rwa [show (l.take k).length = k by rw [List.length_take]; omega] at this)
    have hok := mF_ok hl l.length (Nat.le_refl _)
    rw [List.take_length] at hok
    have hokk := mF_ok hl k hkl
    have hmono := mF_mono (l := l) (j := k) l.length hkl (Nat.le_refl _)
    rw [List.take_length] at hmono
    obtain ⟨ma, hma⟩ : ∃ ma, ma = (mF l).m := ⟨_, rfl⟩
    obtain ⟨mb, hmb⟩ : ∃ mb, mb = (mF (l.take k)).m := ⟨_, rfl⟩
    rw [← hma] at HMA hmono
    rw [← hmb] at HMB hmono
    have hms := hok.mx
    have hm0 := hok.m0
    have hb0 := hokk.m0
    rw [← hma] at hms hm0
    rw [← hmb] at hb0
    have HFI : Hid (∀ x r, l = x :: r → x.fin = false → 1 ≤ ma) := Lib.hid (fun x r e hx => by rw [hma, e]; exact mF_first hx)
    have hsl : sentF l ≤ l.length := by unfold sentF; exact List.countP_le_length
    clear hbig hN hok hokk hma hmb
    go_enter Try.func3, Try.ntmps3
    go_wp2_with fail
    refine HG.out.mono ?_
    rintro e w2 ⟨rfl, hw⟩
    obtain rfl := hw.symm
    go_wp2_with fail
    clear k1 k1' wn wk1 wk2 wk3 hke hka hkb
    go_loopg [6, 26] l.length (fun g sv i wr => ∃ j : Nat, j + g = l.length ∧ i = .int .i64 (j : Nat) ∧ sv = .int .i64 (sentF (l.take j) : Nat) ∧ Hid (Below w.heap.size w wr))
    case atStart => exact ⟨0, by omega, rfl, rfl, Lib.hid (Below.refl _ _)⟩
    case round =>
      obtain ⟨j, hj, rfl, rfl, HB⟩ := hrel
      rename World => wo
      cases gk with
      | zero =>
        have hjj : ¬ ((j : Int) < (l.length : Int)) := by omega
        rw [show l.take j = l by rw [List.take_of_length_le (by omega)]]
        obtain ⟨s, hs⟩ : ∃ s, s = sentF l := ⟨_, rfl⟩
        have HSE := Lib.hid hs
        rw [← hs] at hms hsl ⊢
        have hkc : k ≤ c := by omega
        have hki : (0 : Int) ≤ (k : Int) ∧ (k : Int) ≤ (c : Int) := by omega
        have hkj : (0 : Int) ≤ (k : Int) ∧ (k : Int) ≤ (l.length : Int) := by omega
        have HMA2 : Hid (∀ w', Below w.heap.size w w' → Calls Try.prog 6 #[.slice A l.length c] w' fun e w'' => e = .returned (.int .i64 ma) ∧ Below w.heap.size w w'') := Lib.hid (fun w' hb => (HMA.out w' hb).mono (by rintro e w'' ⟨rfl, h2⟩; exact ⟨rfl, hb.trans (h2.mono hb.size)⟩))
        have HMB2 : Hid (∀ w', Below w.heap.size w w' → Calls Try.prog 6 #[.slice A k c] w' fun e w'' => e = .returned (.int .i64 mb) ∧ Below w.heap.size w w'') := Lib.hid (fun w' hb => (HMB.out w' hb).mono (by rintro e w'' ⟨rfl, h2⟩; exact ⟨rfl, hb.trans (h2.mono hb.size)⟩))
        clear hs HMA HMB
        go_wp2_with fail
        go_cut [9, 10] from 36 to 41 (fun av bv wx => av = .int .i64 ma ∧ bv = .int .i64 mb ∧ Hid (Below w.heap.size w wx))
        case first =>
          go_region_with (go_at_call 6; first
            | ((with_reducible refine (HMA2.out _ (by first | exact HBa.out | exact HB.out.drew)).mono ?_); rintro e w7 ⟨rfl, hb7⟩; have HBa := Lib.hid hb7; clear hb7)
            | ((with_reducible refine (HMB2.out _ (by first | exact HBa.out | exact HB.out.drew)).mono ?_); rintro e w7 ⟨rfl, hb7⟩; have HBa := Lib.hid hb7; clear hb7))
          all_goals
            go_wp2_with fail
            go_meet
            exact ⟨rfl, rfl, HBa⟩
        case rest =>
          obtain ⟨rfl, rfl, HBc⟩ := hcut
          rename World => wc
          have d1 : decide (mb ≤ ma) = true := decide_eq_true hmono
          have d2 : decide (ma ≤ (s : Int)) = true := decide_eq_true hms
          have d3 : decide (0 ≤ mb) = true := decide_eq_true hb0
          have HWc := Lib.hid (HW.out wc HBc.out)
          by_cases hs0 : s = 0
          · have q1 : ((s : Int) == 0) = true := by rw [hs0]; rfl
            have q2 : (s == 0) = true := by rw [hs0]; rfl
            clear hs0
            go_wp2_with fail
            refine HWc.out.mono ?_
            rintro e w9 ⟨rfl, hb9⟩
            have HB9 := Lib.hid (HBc.out.trans (hb9.mono HBc.out.size))
            clear hb9
            go_wp2_with fail
            go_ret
            exact ⟨rfl, HB9.out⟩
          · have q1 : ((s : Int) == 0) = false := by simpa using hs0
            have q2 : (s == 0) = false := by simpa using hs0
            by_cases ha0 : 0 < ma
            · have q3 : decide (0 < ma) = true := decide_eq_true ha0
              clear hs0 ha0
              go_wp2_with fail
              refine HWc.out.mono ?_
              rintro e w9 ⟨rfl, hb9⟩
              have HB9 := Lib.hid (HBc.out.trans (hb9.mono HBc.out.size))
              clear hb9
              go_wp2_with fail
              go_ret
              exact ⟨rfl, HB9.out⟩
            · have q3 : decide (0 < ma) = false := decide_eq_false ha0
              obtain ⟨x, r, hxr⟩ : ∃ x r, l = x :: r := by
                cases hl0 : l with
                | nil => exact absurd (by rw [HSE.out, hl0]; rfl) hs0
                | cons x r => exact ⟨x, r, rfl⟩
              have hxf : x.fin = true := by
                cases hq : x.fin with
                | true => rfl
                | false => exact absurd (HFI.out x r hxr hq) (by omega)
              have hll : 0 < l.length := by rw [hxr]; simp
              obtain ⟨ad, hA, hc, -, -⟩ := tc_at (H.out.below HBc.out) (i := 0) (x := x) (by rw [hxr]; rfl)
              subst hA
              rw [show ad.add (0 * 3) = ad by simp [Addr.add], hxf] at hc
              have e1 : wc.cell? ⟨ad.block, ad.off + 1, none⟩ = some (.bool true) := hc 1 _ rfl
              clear hs0 ha0 hxr hxf hc
              go_wp2_with fail
              refine HWc.out.mono ?_
              rintro e w9 ⟨rfl, hb9⟩
              have HB9 := Lib.hid (HBc.out.trans (hb9.mono HBc.out.size))
              clear hb9
              go_wp2_with fail
              go_ret
              exact ⟨rfl, HB9.out⟩
      | succ g =>
        have hjj : (j : Int) < (l.length : Int) := by omega
        have hji : (0 : Int) ≤ (j : Int) ∧ (j : Int) < (l.length : Int) := by omega
        obtain ⟨x, hx⟩ : ∃ x, l[j]? = some x := ⟨l[j], List.getElem?_eq_getElem (by omega)⟩
        obtain ⟨ad, hA, hc, ht1, ht2⟩ := tc_at (H.out.below HB.out) hx
        subst hA
        obtain ⟨e0, e1, e2⟩ : wo.cell? (ad.add (j * 3)) = some (.int .i64 x.tok) ∧ wo.cell? ⟨(ad.add (j * 3)).block, (ad.add (j * 3)).off + 1, none⟩ = some (.bool x.fin) ∧ wo.cell? ⟨(ad.add (j * 3)).block, (ad.add (j * 3)).off + 2, none⟩ = some (.bool x.ok) := ⟨hc 0 _ rfl, hc 1 _ rfl, hc 2 _ rfl⟩
        have HS := Lib.hid (sent_take hx)
        have hsj : sentF (l.take j) ≤ j := (mF_ok hl j (by omega)).sj
        have HB1 := Lib.hid (HB.out.alloc HB.out.size (.cells #[.int .i64 x.tok, .bool x.fin, .bool x.ok] 26))
        obtain ⟨s, hs⟩ : ∃ s, s = sentF (l.take j) := ⟨_, rfl⟩
        rw [← hs] at HS hsj ⊢
        clear hx hc hs
        cases hfin : x.fin with
        | true =>
          rw [hfin] at e1 HB1 HS
          clear hfin
          go_wp2_with fail
          go_roundg g
          case measure => omega
          case rel => exact ⟨j + 1, by omega, by go_num, by rw [HS.out]; rfl, HB1⟩
        | false =>
          rw [hfin] at e1 HB1 HS
          clear hfin
          go_wp2_with fail
          go_roundg g
          case measure => omega
          case rel => exact ⟨j + 1, by omega, by go_num, by rw [HS.out]; go_num, HB1⟩
end Go.Proofs.Ytfjhomegjceilaa
