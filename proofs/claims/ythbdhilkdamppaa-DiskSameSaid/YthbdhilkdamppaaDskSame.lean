/- The law DiskSame. -/
import Derived.Test.YthbdhilkdamppaaDskPlays
namespace Go.Proofs.Ythbdhilkdamppaa
open Go.RowKit
set_option linter.unusedVariables false
set_option linter.unusedSimpArgs false

/-- acts in a row, those of 6 left out -/
def runA (s : DS) (xs : List AV) : DS := xs.foldl (fun s x => if x.d = 6 then s else (dDo s x).2) s
theorem runA_snoc (s : DS) (xs : List AV) (x : AV) : runA s (xs ++ [x]) = if x.d = 6 then runA s xs else (dDo (runA s xs) x).2 := by simp [runA, List.foldl_append]
theorem take_snoc' {xs : List AV} {k : Nat} {x : AV} (h : xs[k]? = some x) : xs.take (k + 1) = xs.take k ++ [x] := by rw [List.take_add_one, h]; rfl

/-- four disks: two that read as s1, two that read as s2 -/
structure Four (B : Nat) (W : World) (qa : Nat) (ra : Option Nat) (qr : Nat) (rr : Option Nat) (qb : Nat) (rb : Option Nat) (qq : Nat) (rq : Option Nat) (s1 s2 : DS) : Prop where
  t1 : Two B W qa ra qr rr s1
  t2 : Two B W qb rb qq rq s2
  sep : ∀ k, Ft2 qa ra qr rr k → ¬ Ft2 qb rb qq rq k
theorem Two.lt {B : Nat} {W : World} {qa : Nat} {ra : Option Nat} {qb : Nat} {rb : Option Nat} {s : DS} (h : Two B W qa ra qb rb s) : ∀ k, Ft2 qa ra qb rb k → k < W.heap.size := by
  rintro k ((rfl | hk) | (rfl | hk))
  · exact h.a.lt.1
  · exact (h.a.lt.2 _ hk.symm).2
  · exact h.b.lt.1
  · exact (h.b.lt.2 _ hk.symm).2
theorem Four.symm {B : Nat} {W : World} {qa : Nat} {ra : Option Nat} {qr : Nat} {rr : Option Nat} {qb : Nat} {rb : Option Nat} {qq : Nat} {rq : Option Nat} {s1 s2 : DS} (h : Four B W qa ra qr rr qb rb qq rq s1 s2) : Four B W qb rb qq rq qa ra qr rr s2 s1 := ⟨h.t2, h.t1, fun k h1 h2 => h.sep k h2 h1⟩
theorem Four.below {B : Nat} {W W' : World} {qa : Nat} {ra : Option Nat} {qr : Nat} {rr : Option Nat} {qb : Nat} {rb : Option Nat} {qq : Nat} {rq : Option Nat} {s1 s2 : DS} (h : Four B W qa ra qr rr qb rb qq rq s1 s2) (hb : Below W.heap.size W W') : Four B W' qa ra qr rr qb rb qq rq s1 s2 := ⟨h.t1.below hb, h.t2.below hb, h.sep⟩
theorem Four.step2 {B : Nat} {W W' : World} {qa : Nat} {ra : Option Nat} {qr : Nat} {rr : Option Nat} {qb : Nat} {rb : Option Nat} {qq : Nat} {rq : Option Nat} {s1 s2 s' : DS} (h : Four B W qa ra qr rr qb rb qq rq s1 s2) (hS : TStep B qb rb qq rq s' W W') :
    ∃ rb' rq', Four B W' qa ra qr rr qb rb' qq rq' s1 s' := by
  obtain ⟨⟨rb', rq', hT, h1, h2⟩, ho⟩ := hS
  refine ⟨rb', rq', h.t1.only ho h.sep, hT, fun k hk hk2 => ?_⟩
  have hlt := h.t1.lt k hk
  rcases hk2 with (hk2 | hk2) | (hk2 | hk2)
  · exact h.sep k hk (.inl (.inl hk2))
  · rcases h1 k hk2.symm with h3 | h3
    · exact h.sep k hk (.inl (.inr h3.symm))
    · omega
  · exact h.sep k hk (.inr (.inl hk2))
  · rcases h2 k hk2.symm with h3 | h3
    · exact h.sep k hk (.inr (.inr h3.symm))
    · omega

/-- the law's state in its later loops -/
structure SameI (w : World) (qa : Nat) (ra : Option Nat) (qr : Nat) (rr : Option Nat) (qb : Nat) (rb : Option Nat) (qq : Nat) (rq : Option Nat) (s1 s2 : DS) (W : World) : Prop where
  four : Four w.heap.size W qa ra qr rr qb rb qq rq s1 s2
  bel : Below w.heap.size w W

set_option maxRecDepth 100000 in
set_option maxHeartbeats 8000000 in
theorem diskSame_walk (w : World) (A : Option Addr) (n c : Nat) (xs : List AV) (hA : Acts w A n c xs) (A' : Option Addr) (n' c' : Nat) (ys : List AV) (hA' : Acts w A' n' c' ys) :
    Calls Try.prog 6 #[.slice A n c, .slice A' n' c'] w (Yes w) := by
  have hc := hA.cap
  have hm := hA.max
  have hc' := hA'.cap
  have hm' := hA'.max
  unfold maxLen at hm hm'
  have HL := Lib.hid hA.len
  have HBf := Lib.hid hA.before
  have HL' := Lib.hid hA'.len
  have HBf' := Lib.hid hA'.before
  have HA := Lib.hid hA
  have HA' := Lib.hid hA'
  clear hA hA'
  go_enter Try.func6, Try.ntmps6
  go_wp2_with fail
  go_loop [5, 6] (fun z i => ∃ k t : Nat, k ≤ n ∧ k ≤ 61 ∧ t ≤ k * 131072 ∧ i = .int .i64 k ∧ z = .int .i64 t) (fun _ i => n - (intOf i).toNat)
  case atStart => exact ⟨0, 0, Nat.zero_le _, Nat.zero_le _, Nat.zero_le _, rfl, rfl⟩
  case round =>
    obtain ⟨k, t, hk1, hk2, hk3, rfl, rfl⟩ := hrel
    by_cases hlt : k < n
    · by_cases h60 : k ≤ 60
      · obtain ⟨x, hx⟩ : ∃ x, xs[k]? = some x := ⟨_, List.getElem?_eq_getElem (by rw [HL.out]; exact hlt)⟩
        obtain ⟨hf, ad, rfl, -, c1, -⟩ := HA.out.row k x hx
        clear hx hf
        by_cases h4 : 131072 < x.b.length
        · go_wp2_with fail
          go_round
          case rel => exact ⟨k + 1, t + 131072, by omega, by omega, by omega, by go_num, by go_num⟩
          case measure => simp [intOf]; omega
        · go_wp2_with fail
          go_round
          case rel => exact ⟨k + 1, t + x.b.length, by omega, by omega, by omega, by go_num, by go_num⟩
          case measure => simp [intOf]; omega
      · go_wp2_with fail
        go_loop [5, 7] (fun z i => ∃ k t : Nat, k ≤ n' ∧ k ≤ 61 ∧ t ≤ 8000000 + k * 131072 ∧ i = .int .i64 k ∧ z = .int .i64 t) (fun _ i => n' - (intOf i).toNat)
        case atStart => exact ⟨0, t, Nat.zero_le _, Nat.zero_le _, by omega, rfl, rfl⟩
        case round =>
          obtain ⟨k2, t2, hq1, hq2, hq3, rfl, rfl⟩ := hrel
          by_cases hlt : k2 < n'
          · by_cases h60 : k2 ≤ 60
            · obtain ⟨x, hx⟩ : ∃ x, ys[k2]? = some x := ⟨_, List.getElem?_eq_getElem (by rw [HL'.out]; exact hlt)⟩
              obtain ⟨hf, ad, rfl, -, c1, -⟩ := HA'.out.row k2 x hx
              clear hx hf
              by_cases h4 : 131072 < x.b.length
              · go_wp2_with fail
                go_round
                case rel => exact ⟨k2 + 1, t2 + 131072, by omega, by omega, by omega, by go_num, by go_num⟩
                case measure => simp [intOf]; omega
              · go_wp2_with fail
                go_round
                case rel => exact ⟨k2 + 1, t2 + x.b.length, by omega, by omega, by omega, by go_num, by go_num⟩
                case measure => simp [intOf]; omega
            · go_wp2_with (go_at_call 7; refine (wakes_any _).mono ?_; rintro e w1 ⟨rfl, HB⟩)
              all_goals
                go_ret
                exact ⟨rfl, HB⟩
          · go_wp2_with (go_at_call 7; refine (wakes_any _).mono ?_; rintro e w1 ⟨rfl, HB⟩)
            all_goals
              go_ret
              exact ⟨rfl, HB⟩
    · go_wp2_with fail
      go_loop [5, 7] (fun z i => ∃ k t : Nat, k ≤ n' ∧ k ≤ 61 ∧ t ≤ 8000000 + k * 131072 ∧ i = .int .i64 k ∧ z = .int .i64 t) (fun _ i => n' - (intOf i).toNat)
      case atStart => exact ⟨0, t, Nat.zero_le _, Nat.zero_le _, by omega, rfl, rfl⟩
      case round =>
        obtain ⟨k2, t2, hq1, hq2, hq3, rfl, rfl⟩ := hrel
        by_cases hlt : k2 < n'
        · by_cases h60 : k2 ≤ 60
          · obtain ⟨x, hx⟩ : ∃ x, ys[k2]? = some x := ⟨_, List.getElem?_eq_getElem (by rw [HL'.out]; exact hlt)⟩
            obtain ⟨hf, ad, rfl, -, c1, -⟩ := HA'.out.row k2 x hx
            clear hx hf
            by_cases h4 : 131072 < x.b.length
            · go_wp2_with fail
              go_round
              case rel => exact ⟨k2 + 1, t2 + 131072, by omega, by omega, by omega, by go_num, by go_num⟩
              case measure => simp [intOf]; omega
            · go_wp2_with fail
              go_round
              case rel => exact ⟨k2 + 1, t2 + x.b.length, by omega, by omega, by omega, by go_num, by go_num⟩
              case measure => simp [intOf]; omega
          · go_wp2_with (go_at_call 7; refine (wakes_any _).mono ?_; rintro e w1 ⟨rfl, HB⟩)
            all_goals
              go_ret
              exact ⟨rfl, HB⟩
        · by_cases hbig : n > 60 ∨ n' > 60 ∨ t2 > 65536
          · go_wp2_with (go_at_call 7; refine (wakes_any _).mono ?_; rintro e w1 ⟨rfl, HB⟩)
            all_goals
              first
              | (exfalso; omega)
              | (go_ret; exact ⟨rfl, HB⟩)
          have g1 : ¬ 60 < n := by omega
          have g2 : ¬ 60 < n' := by omega
          have g3 : ¬ 65536 < t2 := by omega
          clear hbig hk1 hk2 hk3 hq1 hq2 hq3
          go_wp2_with fail
          refine (dnew_any _).mono ?_
          rintro e w1 ⟨rfl, hb1, hk1⟩
          have HB1 := Lib.hid hb1
          have HK1 := Lib.hid hk1
          clear hb1 hk1
          go_wp2_with fail
          refine (rnew_any _).mono ?_
          rintro e w2 ⟨rfl, hb2, hk2⟩
          have HI0 : Hid (PlayI w w.heap.size none w1.heap.size none DS.new w2) := Lib.hid ⟨⟨HK1.out.below hb2, hk2.le HB1.out.size, (Apart.fresh hk2 HK1.out).symm⟩, HB1.out.trans (hb2.mono HB1.out.size)⟩
          clear hb2 hk2
          go_wp2_with fail
          go_loopw [10] (fun i wr => ∃ (k : Nat) (ra rb : Option Nat), k ≤ n ∧ i = .int .i64 k ∧ PlayI w w.heap.size ra w1.heap.size rb (runA DS.new (xs.take k)) wr) (fun i _ => n - (intOf i).toNat)
          case atStart => exact ⟨0, none, none, Nat.zero_le _, rfl, HI0.out⟩
          case round =>
            obtain ⟨k3, ra, rb, hk, rfl, hi⟩ := hrel
            have HI := Lib.hid hi
            clear hi
            by_cases hlt : k3 < n
            · obtain ⟨x, hx⟩ : ∃ x, xs[k3]? = some x := ⟨_, List.getElem?_eq_getElem (by rw [HL.out]; exact hlt)⟩
              have HBX := Lib.hid (HBf.out x (List.mem_of_getElem? hx))
              obtain ⟨hf, ad, rfl, c0, c1, c2⟩ := (HA.out.below HI.out.bel).row k3 x hx
              have HF := Lib.hid hf
              have HTK := Lib.hid (take_snoc' hx)
              clear hx hf
              by_cases h6 : x.d = 6
              · have b6 : (x.d != 6) = false := by simp [h6]
                have HE := Lib.hid (show runA DS.new (xs.take (k3 + 1)) = runA DS.new (xs.take k3) by rw [HTK.out, runA_snoc, if_pos h6])
                clear h6 c1 c2
                go_wp2_with fail
                go_roundw
                case rel => exact ⟨k3 + 1, ra, rb, by omega, by go_num, by rw [HE.out]; exact HI.out⟩
                case measure => simp [intOf]; omega
              · have b6 : (x.d != 6) = true := by simp [h6]
                have HE := Lib.hid (show runA DS.new (xs.take (k3 + 1)) = (dDo (runA DS.new (xs.take k3)) x).2 by rw [HTK.out, runA_snoc, if_neg h6])
                clear h6
                go_wp2_with fail
                refine (does_any _ _ _ _ _ _ _ x HI.out.two HF.out HBX.out).mono ?_
                rintro e w3 ⟨rfl, hS⟩
                have hb3 := hS.below HI.out.two
                obtain ⟨⟨ra', rb', hT3, -, -⟩, -⟩ := hS
                have hN := Lib.hid (⟨hT3, HI.out.bel.trans hb3⟩ : PlayI w w.heap.size ra' w1.heap.size rb' _ w3)
                clear hT3 hb3
                go_wp2_with fail
                go_roundw
                case rel => exact ⟨k3 + 1, ra', rb', by omega, by go_num, by rw [HE.out]; exact hN.out⟩
                case measure => simp [intOf]; omega
            · obtain rfl : k3 = n := by omega
              have hall : xs.take k3 = xs := List.take_of_length_le (by rw [HL.out]; exact Nat.le_refl _)
              rw [hall] at HI
              obtain ⟨sL, hsL⟩ : ∃ s, runA DS.new xs = s := ⟨_, rfl⟩
              rw [hsL] at HI
              clear hall hsL
              go_wp2_with fail
              refine (dcopy_any _ _ _ _ _ HI.out.two.a).mono ?_
              rintro e w3 ⟨qb, rb3, rfl, hb3, hk3⟩
              have HB3 := Lib.hid hb3
              have HK3 := Lib.hid hk3
              have HT3 := Lib.hid (HI.out.two.below hb3)
              clear hb3 hk3
              go_wp2_with fail
              refine (rcopy_any _ _ _ _ _ HT3.out.b).mono ?_
              rintro e w4 ⟨qq, rq4, rfl, hb4, hk4⟩
              have h4 : SameI w w.heap.size ra w1.heap.size rb qb rb3 qq rq4 sL sL w4 := by
                have hlt1 := HI.out.two.lt
                have e1 := HK3.out.q
                have e2 := HK3.out.lt.2
                have e3 := hk4.q
                have e4 := hk4.lt.2
                have e5 := HB3.out.size
                refine ⟨⟨HT3.out.below hb4, ⟨(HK3.out.below hb4).le HI.out.bel.size, hk4.le (Nat.le_trans HI.out.bel.size e5), (Apart.fresh hk4 HK3.out).symm⟩, fun k hk hk2 => ?_⟩, (HI.out.bel.trans (HB3.out.mono HI.out.bel.size)).trans (hb4.mono (Nat.le_trans HI.out.bel.size e5))⟩
                have := hlt1 k hk
                rcases hk2 with (hk2 | hk2) | (hk2 | hk2)
                · omega
                · have := (e2 k hk2.symm).1; omega
                · omega
                · have := (e4 k hk2.symm).1; omega
              have H4 := Lib.hid h4
              clear hb4 hk4 h4
              go_wp2_with fail
              go_loopw [13] (fun i wr => ∃ (k : Nat) (rb' rq' : Option Nat), k ≤ n' ∧ i = .int .i64 k ∧ SameI w w.heap.size ra w1.heap.size rb qb rb' qq rq' sL (runA sL (ys.take k)) wr) (fun i _ => n' - (intOf i).toNat)
              case atStart => exact ⟨0, rb3, rq4, Nat.zero_le _, rfl, H4.out⟩
              case round =>
                obtain ⟨k4, rb4, rq5, hk, rfl, hi⟩ := hrel
                have HI := Lib.hid hi
                clear hi
                by_cases hlt : k4 < n'
                · obtain ⟨x, hx⟩ : ∃ x, ys[k4]? = some x := ⟨_, List.getElem?_eq_getElem (by rw [HL'.out]; exact hlt)⟩
                  have HBX := Lib.hid (HBf'.out x (List.mem_of_getElem? hx))
                  obtain ⟨hf, ad, rfl, c0, c1, c2⟩ := (HA'.out.below HI.out.bel).row k4 x hx
                  have HF := Lib.hid hf
                  have HTK := Lib.hid (take_snoc' hx)
                  clear hx hf
                  by_cases h6 : x.d = 6
                  · have b6 : (x.d == 6) = true := by simp [h6]
                    have HE := Lib.hid (show runA sL (ys.take (k4 + 1)) = runA sL (ys.take k4) by rw [HTK.out, runA_snoc, if_pos h6])
                    clear h6 c1 c2
                    go_wp2_with fail
                    go_roundw
                    case rel => exact ⟨k4 + 1, rb4, rq5, by omega, by go_num, by rw [HE.out]; exact HI.out⟩
                    case measure => simp [intOf]; omega
                  · have b6 : (x.d == 6) = false := by simp [h6]
                    have HE := Lib.hid (show runA sL (ys.take (k4 + 1)) = (dDo (runA sL (ys.take k4)) x).2 by rw [HTK.out, runA_snoc, if_neg h6])
                    clear h6
                    go_wp2_with fail
                    refine (does_any _ _ _ _ _ _ _ x HI.out.four.t2 HF.out HBX.out).mono ?_
                    rintro e w5 ⟨rfl, hS⟩
                    have hb5 := hS.below HI.out.four.t2
                    obtain ⟨rb5, rq6, h5⟩ := HI.out.four.step2 hS
                    have H5 := Lib.hid (⟨h5, HI.out.bel.trans hb5⟩ : SameI w w.heap.size ra w1.heap.size rb qb rb5 qq rq6 sL _ w5)
                    clear hb5 h5 hS
                    go_wp2_with fail
                    refine (alike_any _ _ _ _ _ _ _ H5.out.four.t1).mono ?_
                    rintro e w6 ⟨rfl, hb6⟩
                    have H6 := Lib.hid (⟨H5.out.four.below hb6, H5.out.bel.trans (hb6.mono H5.out.bel.size)⟩ : SameI w w.heap.size ra w1.heap.size rb qb rb5 qq rq6 sL _ w6)
                    clear hb6
                    go_wp2_with fail
                    refine (alike_any _ _ _ _ _ _ _ H6.out.four.t2).mono ?_
                    rintro e w7 ⟨rfl, hb7⟩
                    have H7 := Lib.hid (⟨H6.out.four.below hb7, H6.out.bel.trans (hb7.mono H6.out.bel.size)⟩ : SameI w w.heap.size ra w1.heap.size rb qb rb5 qq rq6 sL _ w7)
                    clear hb7
                    go_wp2_with fail
                    go_roundw
                    case rel => exact ⟨k4 + 1, rb5, rq6, by omega, by go_num, by rw [HE.out]; exact H7.out⟩
                    case measure => simp [intOf]; omega
                · obtain rfl : k4 = n' := by omega
                  have hall : ys.take k4 = ys := List.take_of_length_le (by rw [HL'.out]; exact Nat.le_refl _)
                  rw [hall] at HI
                  clear hall
                  go_wp2_with fail
                  go_loopw [14] (fun i wr => ∃ (k : Nat) (ra' rr' : Option Nat), k ≤ k4 ∧ i = .int .i64 k ∧ SameI w w.heap.size ra' w1.heap.size rr' qb rb4 qq rq5 (runA sL (ys.take k)) (runA sL ys) wr) (fun i _ => k4 - (intOf i).toNat)
                  case atStart => exact ⟨0, ra, rb, Nat.zero_le _, rfl, HI.out⟩
                  case round =>
                    obtain ⟨k5, ra5, rr5, hk, rfl, hi⟩ := hrel
                    have HI := Lib.hid hi
                    clear hi
                    by_cases hlt : k5 < k4
                    · obtain ⟨x, hx⟩ : ∃ x, ys[k5]? = some x := ⟨_, List.getElem?_eq_getElem (by rw [HL'.out]; exact hlt)⟩
                      have HBX := Lib.hid (HBf'.out x (List.mem_of_getElem? hx))
                      obtain ⟨hf, ad, rfl, c0, c1, c2⟩ := (HA'.out.below HI.out.bel).row k5 x hx
                      have HF := Lib.hid hf
                      have HTK := Lib.hid (take_snoc' hx)
                      clear hx hf
                      by_cases h6 : x.d = 6
                      · have b6 : (x.d != 6) = false := by simp [h6]
                        have HE := Lib.hid (show runA sL (ys.take (k5 + 1)) = runA sL (ys.take k5) by rw [HTK.out, runA_snoc, if_pos h6])
                        clear h6 c1 c2
                        go_wp2_with fail
                        go_roundw
                        case rel => exact ⟨k5 + 1, ra5, rr5, by omega, by go_num, by rw [HE.out]; exact HI.out⟩
                        case measure => simp [intOf]; omega
                      · have b6 : (x.d != 6) = true := by simp [h6]
                        have HE := Lib.hid (show runA sL (ys.take (k5 + 1)) = (dDo (runA sL (ys.take k5)) x).2 by rw [HTK.out, runA_snoc, if_neg h6])
                        clear h6
                        go_wp2_with fail
                        refine (does_any _ _ _ _ _ _ _ x HI.out.four.t1 HF.out HBX.out).mono ?_
                        rintro e w5 ⟨rfl, hS⟩
                        have hb5 := hS.below HI.out.four.t1
                        obtain ⟨ra6, rr6, h5⟩ := HI.out.four.symm.step2 hS
                        have H5 := Lib.hid (⟨h5.symm, HI.out.bel.trans hb5⟩ : SameI w w.heap.size ra6 w1.heap.size rr6 qb rb4 qq rq5 _ _ w5)
                        clear hb5 h5 hS
                        go_wp2_with fail
                        go_roundw
                        case rel => exact ⟨k5 + 1, ra6, rr6, by omega, by go_num, by rw [HE.out]; exact H5.out⟩
                        case measure => simp [intOf]; omega
                    · obtain rfl : k5 = k4 := by omega
                      have hall : ys.take k5 = ys := List.take_of_length_le (by rw [HL'.out]; exact Nat.le_refl _)
                      rw [hall] at HI
                      obtain ⟨sM, hsM⟩ : ∃ s, runA sL ys = s := ⟨_, rfl⟩
                      rw [hsM] at HI
                      clear hall hsM
                      cases hd : sM.down with
                      | true =>
                        have HD := Lib.hid hd
                        clear hd
                        go_wp2_with fail
                        refine (dbytes_any _ _ _ _ _ HI.out.four.t1.a).mono ?_
                        rintro e w5 ⟨hb5, h5, -⟩
                        obtain rfl := h5 HD.out
                        have H5 := Lib.hid (⟨HI.out.four.below hb5, HI.out.bel.trans (hb5.mono HI.out.bel.size)⟩ : SameI w _ _ _ _ _ _ _ _ _ _ w5)
                        clear h5 hb5
                        go_wp2_with fail
                        refine (dbytes_any _ _ _ _ _ H5.out.four.t2.a).mono ?_
                        rintro e w6 ⟨hb6, h6, -⟩
                        obtain rfl := h6 HD.out
                        have H6 := Lib.hid (⟨H5.out.four.below hb6, H5.out.bel.trans (hb6.mono H5.out.bel.size)⟩ : SameI w _ _ _ _ _ _ _ _ _ _ w6)
                        have hs := run_str (P := Try.prog) w6 23 5 9 Try.underlying23 Try.underlying5 Try.underlying9 (show Rd w6 1 none 0 0 (bv []) from Rd.nil w6 1)
                        clear h6 hb6
                        go_wp2_with fail
                        refine (ddown_any _ _ _ _ _ H6.out.four.t1.a).mono ?_
                        rintro e w' ⟨rfl, rfl⟩
                        go_wp2_with fail
                        refine (ddown_any _ _ _ _ _ H6.out.four.t2.a).mono ?_
                        rintro e w' ⟨rfl, rfl⟩
                        go_wp2_with (go_at_call 7; refine (wakes_any _).mono ?_; rintro e w7 ⟨rfl, HB⟩)
                        go_ret
                        exact ⟨rfl, H6.out.bel.trans (HB.mono H6.out.bel.size)⟩
                      | false =>
                        have HD := Lib.hid hd
                        clear hd
                        go_wp2_with fail
                        refine (dbytes_any _ _ _ _ _ HI.out.four.t1.a).mono ?_
                        rintro e w5 ⟨hb5, -, h5⟩
                        obtain ⟨A5, c5, rfl, ho5⟩ := h5 HD.out
                        have H5 := Lib.hid (⟨HI.out.four.below hb5, HI.out.bel.trans (hb5.mono HI.out.bel.size)⟩ : SameI w _ _ _ _ _ _ _ _ _ _ w5)
                        have HO5 := Lib.hid ho5
                        clear h5 hb5 ho5
                        go_wp2_with fail
                        refine (dbytes_any _ _ _ _ _ H5.out.four.t2.a).mono ?_
                        rintro e w6 ⟨hb6, -, h6⟩
                        obtain ⟨A6, c6, rfl, ho6⟩ := h6 HD.out
                        have H6 := Lib.hid (⟨H5.out.four.below hb6, H5.out.bel.trans (hb6.mono H5.out.bel.size)⟩ : SameI w _ _ _ _ _ _ _ _ _ _ w6)
                        have hs1 := run_str (P := Try.prog) w6 23 5 9 Try.underlying23 Try.underlying5 Try.underlying9 (HO5.out.below hb6).rd
                        have hs2 := run_str (P := Try.prog) w6 23 5 9 Try.underlying23 Try.underlying5 Try.underlying9 ho6.rd
                        clear h6 hb6 ho6
                        go_wp2_with fail
                        refine (ddown_any _ _ _ _ _ H6.out.four.t1.a).mono ?_
                        rintro e w' ⟨rfl, rfl⟩
                        go_wp2_with fail
                        refine (ddown_any _ _ _ _ _ H6.out.four.t2.a).mono ?_
                        rintro e w' ⟨rfl, rfl⟩
                        go_wp2_with (go_at_call 7; refine (wakes_any _).mono ?_; rintro e w7 ⟨rfl, HB⟩)
                        go_ret
                        exact ⟨rfl, H6.out.bel.trans (HB.mono H6.out.bel.size)⟩
end Go.Proofs.Ythbdhilkdamppaa
