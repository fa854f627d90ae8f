/- The law GraphLess. -/
import Derived.Test.YtjpljkjclamjnaaGrLess0
namespace Go.Proofs.Ytjpljkjclamjnaa
open Go.RowKit
set_option linter.unusedVariables false
set_option linter.unusedSimpArgs false

set_option maxHeartbeats 4000000 in
set_option maxRecDepth 100000 in
theorem graphLess_walk (W : World) (A : Option Addr) (n c : Nat) (ls : List (List Int)) (h : II W A n c ls) (hreach : ∀ r ∈ ls, r.length * 8 ≤ 140737488351232)
    (a : Int) (ha1 : -9223372036854775808 ≤ a) (ha2 : a ≤ 9223372036854775807) (b : Int) (hb1 : -9223372036854775808 ≤ b) (hb2 : b ≤ 9223372036854775807) :
    Calls Try.prog 4 #[.slice A n c, .int .i64 a, .int .i64 b] W (Yes W) := by
  have hc := h.cap
  have hmx := h.max
  unfold maxLen at hmx
  have H0 := Lib.hid h
  have HR := Lib.hid hreach
  clear h hreach
  go_enter Try.func4, Try.ntmps4
  go_wp2_with fail
  refine (great_any A n c ls W H0.out).mono ?_
  rintro e w' ⟨⟨b0, rfl, hb⟩, rfl⟩
  cases b0 with
  | true =>
    clear hb
    go_wp2_with (go_at_call 9; refine (wakes_any _).mono ?_; rintro e w1 ⟨rfl, HB⟩)
    go_ret
    exact ⟨rfl, HB⟩
  | false =>
    obtain ⟨h60, hsum⟩ := hb rfl
    have hn : n ≤ 60 := by have := H0.out.len; omega
    have HT : Hid ((ls.map List.length).sum * 8 ≤ 140737488355328) := Lib.hid (by
      have := few ls 17592186043904 (by omega) hsum (fun r hr => by have := HR.out r hr; omega)
      omega)
    clear h60 hsum hb
    go_wp2_with fail
    refine (rmay_any A n c ls W H0.out).mono ?_
    rintro e w' ⟨rfl, rfl⟩
    by_cases hmay : mayI ls = true
    · obtain ⟨L, rfl, hok⟩ := mayI_cast hmay
      rw [hmay]
      have hlen : L.length = n := by have := H0.out.len; simpa using this
      have HLEN := Lib.hid hlen
      have HOK := Lib.hid hok
      clear hmay hok hlen
      by_cases hn0 : n = 0
      · have hz : ((n : Int) == 0) = true := by simp [hn0]
        clear hn0
        go_wp2_with (go_at_call 9; refine (wakes_any _).mono ?_; rintro e w1 ⟨rfl, HB⟩)
        go_ret
        exact ⟨rfl, HB⟩
      · have hz : ((n : Int) == 0) = false := beq_eq_false_iff_ne.2 (by omega)
        have hn1 : 0 < n := by omega
        obtain ⟨u, hu, hu1, hu2, p, hp, hup, hup2⟩ := wrapAt a n hn1
        obtain ⟨ad0, Ap, cp, rfl, hro⟩ := H0.out.row2 (i := p) (by rw [HLEN.out]; exact hp)
        obtain ⟨hcl, hr⟩ := hro W (Below.refl _ _)
        have hlc := hr.cap
        have hlm := hr.max
        unfold maxLen at hlm
        have hrl : (lean' L p).length * 8 ≤ 140737488351232 := by have := HR.out _ (List.mem_of_getElem? (cL_get (by rw [HLEN.out]; exact hp))); rwa [cI_len] at this
        clear hn0 hro hr
        by_cases hl0 : (lean' L p).length = 0
        · have hz2 : (((lean' L p).length : Int) == 0) = true := by simp [hl0]
          clear hl0
          go_wp2_with (go_at_call 9; refine (wakes_any _).mono ?_; rintro e w1 ⟨rfl, HB⟩)
          go_ret
          exact ⟨rfl, HB⟩
        · have hz2 : (((lean' L p).length : Int) == 0) = false := beq_eq_false_iff_ne.2 (by omega)
          have hl1 : 0 < (lean' L p).length := by omega
          obtain ⟨v, hv, hv1, hv2, q, hq, hvq, hvq2⟩ := wrapAt b (lean' L p).length hl1
          have hw1 : IntKind.i64.wrap (v + ((lean' L p).length : Int)) = v + ((lean' L p).length : Int) := by rw [IntKind.wrap_i64] <;> omega
          clear hl0
          go_wp2_with fail
          go_quiet (fail)
          clear hu hup hup2 hv hvq hvq2 hw1 hz hz2 hcl hlc hlm hrl hu1 hu2 hv1 hv2
          obtain ⟨W0, hW0⟩ : ∃ W0, W.drewN nq = W0 := ⟨_, rfl⟩
          rw [hW0]
          have HB0 : Hid (Below W.heap.size W W0) := Lib.hid (hW0 ▸ (Below.refl _ _).drewN nq)
          clear hW0
          go_wp2_with fail
          go_loopg [7, 8] n (fun g q7 q8 wr => ∃ (i : Nat) (A' : Option Addr) (c' : Nat) (hs : List (Option Addr × Nat × List Int)), i + g = n ∧ q8 = .int .i64 (i : Nat) ∧ q7 = .slice A' i c' ∧ Hid (hs.length = i) ∧ Hid (LsS W0 hs A' c' wr) ∧ Hid (hs.map (fun h => h.2.2) = cL ((List.range i).map (lessRow L p q))))
          case atStart => exact ⟨0, none, 0, [], by omega, rfl, rfl, Lib.hid rfl, Lib.hid (LsS.start W0), Lib.hid rfl⟩
          case round =>
            obtain ⟨i, A', c', hs, hi, rfl, rfl, HL, HS, HM⟩ := hrel
            obtain ⟨W1, rfl⟩ : ∃ W1 : World, W1 = wr := ⟨_, rfl⟩
            cases gk with
            | zero =>
              have hk : ¬ ((i : Int) < (n : Int)) := by omega
              obtain rfl : n = i := by omega
              clear hi
              have HM' : Hid (hs.map (fun h => h.2.2) = cL (lessL L p q)) := Lib.hid (by rw [HM.out]; unfold lessL; rw [HLEN.out])
              have HOK' := Lib.hid (lessL_ok (a := p) (b := q) HOK.out)
              have HII : Hid (II W1 A' n c' (cL (lessL L p q))) := Lib.hid (by
                have := HS.out.ii HM'.out HOK'.out (by rw [lessL_len, HLEN.out]; omega)
                rwa [HL.out] at this)
              have HB1 := Lib.hid (HB0.out.past HS.out.bel)
              have hn1000 : n ≤ 1000 := by omega
              clear HM HS HL
              cases hor : orderF L with
              | none =>
                have HOR := Lib.hid hor
                clear hor
                go_wp2_with fail
                refine (order_any (some ad0) n c (cL L) W1 (H0.out.below HB1.out) hn1000).mono ?_
                rintro e w2 ⟨hB, -, h2, -⟩
                obtain rfl := h2 L rfl HOK.out HOR.out
                have HB2 := Lib.hid (HB1.out.past hB)
                clear hB h2
                go_wp2_with fail
                refine (wakes_any _).mono ?_
                rintro e w3 ⟨rfl, hB⟩
                have HB3 := Lib.hid (HB2.out.past hB)
                clear hB
                go_wp2_with fail
                go_ret
                exact ⟨rfl, HB3.out⟩
              | some O =>
                have HOR := Lib.hid hor
                have HP := Lib.hid (orderF_part hor)
                have hol : O.length = n := by rw [HP.out.2]; exact HLEN.out
                have hnw : ∀ s k, ¬ Walk (lessL L p q) s k s := fun s k hw => order_acyclic hor s k (walk_sub (fun i x hx => lessL_sub hx) hw)
                obtain ⟨O', hor'⟩ := order_some_of HOK'.out hnw
                have HOR' := Lib.hid hor'
                obtain ⟨Ds, hD⟩ : ∃ Ds : Nat → Nat → Nat, ∀ s, IsD (lessL L p q) s (Ds s) := ⟨fun s => (isD_exists _ s).choose, fun s => (isD_exists _ s).choose_spec⟩
                have HC : Hid (circF (lessL L p q) Ds = []) := Lib.hid ((circF_none (fun s _ => hD s)).2 hnw)
                have HD := Lib.hid hD
                have HIS := Lib.hid (isI_sub HOK'.out hor (lessL_len L p q) (fun i x hx => lessL_sub hx))
                have HLE : Hid (∀ i, i < n → rk (rankF (lessL L p q) O') i ≤ rk (rankF L O) i) := Lib.hid (fun i hi => rank_mono HP.out.1 HP.out.2 (rankEq_of hor) (rankEq_of hor') (lessL_len L p q) (fun i x hx => lessL_sub hx) _ i (by rw [HLEN.out]; exact hi) rfl)
                have HRL : Hid ((rankF L O).length = n ∧ (rankF (lessL L p q) O').length = n) := Lib.hid ⟨by rw [rankF_len L _ _ rfl, HLEN.out], by rw [rankF_len _ _ _ rfl, lessL_len, HLEN.out]⟩
                have HT' : Hid (((cL (lessL L p q)).map List.length).sum * 8 ≤ 140737488355328) := Lib.hid (by
                  have e1 : ∀ M : List (List Nat), (cL M).map List.length = M.map List.length := fun M => by simp [cL, Function.comp_def]
                  have h1 := HT.out
                  have h2 := lessL_sum L p q
                  rw [e1] at h1 ⊢
                  omega)
                have HOL := Lib.hid hol
                clear hor hol hnw hor' hD
                obtain ⟨L', hL'⟩ : ∃ L', lessL L p q = L' := ⟨_, rfl⟩
                have HL' : Hid (L'.length = n) := Lib.hid (by rw [← hL', lessL_len]; exact HLEN.out)
                rw [hL'] at HOR' HC HD HIS HLE HRL HT' HII HOK'
                clear hL' HM'
                go_wp2_with fail
                refine (order_any (some ad0) n c (cL L) W1 (H0.out.below HB1.out) hn1000).mono ?_
                rintro e w2 ⟨hB, -, -, h2⟩
                obtain ⟨A1, c1, rfl, ho1⟩ := h2 L O rfl HOK.out HOR.out
                rw [HOL.out] at ho1 ⊢
                have HB2 := Lib.hid (HB1.out.past hB)
                have HO1 := Lib.hid ho1.rd
                have HI2 := Lib.hid (HII.out.below hB)
                clear hB h2 ho1
                go_wp2_with fail
                refine (ranks_any (some ad0) n c (cL L) w2 (H0.out.below HB2.out) hn1000).mono ?_
                rintro e w3 ⟨hB, -, -, h2⟩
                obtain ⟨A2, c2, rfl, ho2⟩ := h2 L O rfl HOK.out HOR.out
                rw [HLEN.out] at ho2 ⊢
                have HB3 := Lib.hid (HB2.out.past hB)
                have HO1 := Lib.hid (HO1.out.below hB)
                have HO2 := Lib.hid ho2.rd
                have HI3 := Lib.hid (HI2.out.below hB)
                clear hB h2 ho2
                go_wp2_with fail
                refine (ranks_any A' n c' (cL L') w3 HI3.out hn1000).mono ?_
                rintro e w4 ⟨hB, -, -, h2⟩
                obtain ⟨A3, c3, rfl, ho3⟩ := h2 L' O' rfl HOK'.out HOR'.out
                rw [HL'.out] at ho3 ⊢
                have HB4 := Lib.hid (HB3.out.past hB)
                have HO1 := Lib.hid (HO1.out.below hB)
                have HO2 := Lib.hid (HO2.out.below hB)
                have HO3 := Lib.hid ho3.rd
                have HI4 := Lib.hid (HI3.out.below hB)
                clear hB h2 ho3
                go_wp2_with fail
                refine (circle_any A' n c' (cL L') w4 HI4.out hn1000 HT'.out).mono ?_
                rintro e w5 ⟨hB, -, h2⟩
                obtain ⟨A4, c4, rfl, -, -⟩ := h2 L' rfl HOK'.out Ds (fun s _ => HD.out s)
                rw [HC.out]
                have HB5 := Lib.hid (HB4.out.past hB)
                have HO1 := Lib.hid (HO1.out.below hB)
                have HO2 := Lib.hid (HO2.out.below hB)
                have HO3 := Lib.hid (HO3.out.below hB)
                have HI5 := Lib.hid (HI4.out.below hB)
                clear hB h2
                go_wp2_with fail
                refine (is_any A' A1 n c' n c1 (cL L') (cI O) w5 HI5.out hn1000 HO1.out (fun z hz => by
                  simp only [cI, List.mem_map] at hz
                  obtain ⟨x, hx, rfl⟩ := hz
                  have := HP.out.1.lt x hx
                  rw [HLEN.out] at this
                  omega) hn1000).mono ?_
                rintro e w6 ⟨hB, rfl⟩
                rw [HIS.out]
                have HB6 := Lib.hid (HB5.out.past hB)
                have HO2 := Lib.hid (HO2.out.below hB)
                have HO3 := Lib.hid (HO3.out.below hB)
                have hne : ((n : Int) != (n : Int)) = false := by simp
                have hr2 := HO2.out.cap
                have hr2m := HO2.out.max
                have hr3 := HO3.out.cap
                have hr3m := HO3.out.max
                unfold maxLen at hr2m hr3m
                clear hB HO1
                go_wp2_with fail
                clear hne
                go_loopg [17] n (fun g q17 wr => ∃ j : Nat, j + g = n ∧ q17 = .int .i64 (j : Nat) ∧ Hid (Below w6.heap.size w6 wr))
                case atStart => exact ⟨0, by omega, rfl, Lib.hid (Below.refl _ _)⟩
                case round =>
                  obtain ⟨j, hj, rfl, HBr⟩ := hrel
                  cases gk with
                  | zero =>
                    have hkk : ¬ ((j : Int) < (n : Int)) := by omega
                    go_wp2_with fail
                    refine (wakes_any _).mono ?_
                    rintro e w7 ⟨rfl, hB⟩
                    have HB7 := Lib.hid ((HB6.out.past HBr.out).past hB)
                    clear hB
                    go_wp2_with fail
                    go_ret
                    exact ⟨rfl, HB7.out⟩
                  | succ g =>
                    have hkk : (j : Int) < (n : Int) := by omega
                    have hle := HLE.out j (by omega)
                    have hq2 := HO2.out.below HBr.out
                    have hq3 := HO3.out.below HBr.out
                    obtain ⟨ad2, rfl, -⟩ := hq2.addr (by omega) (by omega)
                    obtain ⟨ad3, rfl, -⟩ := hq3.addr (by omega) (by omega)
                    have hx2 := hq2.icell (rk_cell (i := j) (by rw [HRL.out.1]; omega))
                    have hx3 := hq3.icell (rk_cell (i := j) (by rw [HRL.out.2]; omega))
                    obtain ⟨y2, hy2⟩ : ∃ y, rk (rankF L O) j = y := ⟨_, rfl⟩
                    obtain ⟨y3, hy3⟩ : ∃ y, rk (rankF L' O') j = y := ⟨_, rfl⟩
                    rw [hy2] at hx2 hle
                    rw [hy3] at hx3 hle
                    have hdec : decide ((y2 : Int) < (y3 : Int)) = false := by simp; omega
                    clear hq2 hq3 hy2 hy3
                    go_wp2_with fail
                    go_quiet (fail)
                    go_wp2_with fail
                    go_roundg g
                    case measure => omega
                    case rel => exact ⟨j + 1, by omega, by go_num, Lib.hid (HBr.out.drewN _)⟩
            | succ g =>
              have hk : (i : Int) < (n : Int) := by omega
              obtain ⟨ad1, Ai, ci, e1, hro⟩ := H0.out.row2 (i := i) (by rw [HLEN.out]; omega)
              obtain rfl : ad0 = ad1 := by injection e1
              have HRO := Lib.hid hro
              have hrl : (lean' L i).length * 8 ≤ 140737488351232 := by have := HR.out _ (List.mem_of_getElem? (cL_get (L := L) (i := i) (by rw [HLEN.out]; omega))); rwa [cI_len] at this
              clear hro e1
              go_wp2_with fail
              go_loopg [9, 10] (lean' L i).length (fun g2 q9 q10 wi => ∃ (k : Nat) (Al : Option Addr) (cl : Nat) (l : List Nat), k + g2 = (lean' L i).length ∧ q10 = .int .i64 (k : Nat) ∧ q9 = .slice Al l.length cl ∧ Hid (IOw wi W1.heap.size Al l.length cl (cI l)) ∧ Hid (Below W1.heap.size W1 wi) ∧ Hid (l = lessPre L p q i k))
              case atStart => exact ⟨0, none, 0, [], by omega, rfl, rfl, Lib.hid (Ow.nil _ _ _ _), Lib.hid (Below.refl _ _), Lib.hid (lessPre_zero _ _ _ _).symm⟩
              case round =>
                obtain ⟨k, Al, cl, l, hkl, rfl, rfl, HO, HB, HP⟩ := hrel
                obtain ⟨hcl, hr⟩ := HRO.out wr (HB0.out.past (HS.out.bel.past HB.out))
                cases gk with
                | zero =>
                  have hkk : ¬ ((k : Int) < ((lean' L i).length : Int)) := by omega
                  have HP' : Hid (l = lessRow L p q i) := Lib.hid (by rw [HP.out, show k = (lean' L i).length by omega]; exact lessPre_all _ _ _ _)
                  have HS1 := Lib.hid (HS.out.below HB.out)
                  have hos := HS1.out.out
                  rw [HL.out] at hos
                  have HOS := Lib.hid hos
                  have HZ : Hid (W0.heap.size ≤ W1.heap.size) := Lib.hid HS.out.bel.size
                  have HZ2 : Hid (W1.heap.size ≤ wr.heap.size) := Lib.hid HB.out.size
                  clear hkl hr hos
                  go_wp2_with (at_builtin; refine app_ints rfl (.tmp 100) (.tmp 102) rfl W0.heap.size A' c' i (hs.map hv) rfl (HOS.out.alloc _) _ 1 1 [.slice Al l.length cl] rfl (Rd.lit wr 1 1 #[.slice Al l.length cl] 25 (0, 0) rfl (by simp [maxLen])) (hv_one [] _ _ _) (by omega) (by rw [World.size_alloc]; have := HZ.out; have := HZ2.out; omega) ?_; intro A3 c3 w3 ho3 hg3 hat3; have HO3 := Lib.hid ho3; have HG3 := Lib.hid hg3; clear ho3 hg3 hat3)
                  go_roundg g
                  case measure => omega
                  case rel => exact ⟨i + 1, A3, c3, hs ++ [(Al, cl, cI l)], by omega, by go_num, rfl, Lib.hid (by rw [List.length_append, HL.out]; rfl), Lib.hid (HS1.out.put (by rw [cI_len]; exact HO.out.le HZ.out) (by rw [HL.out, cI_len]; exact HO3.out) HG3.out), Lib.hid (by rw [HP'.out]; exact lessL_map HM.out)⟩
                | succ g2 =>
                  have hkk : (k : Int) < ((lean' L i).length : Int) := by omega
                  obtain ⟨x, hx⟩ : ∃ x, (lean' L i)[k]? = some x := ⟨_, List.getElem?_eq_getElem (by omega)⟩
                  obtain ⟨adl, rfl, -⟩ := hr.addr (by omega) (by omega)
                  have hxc := hr.icell (cI_get hx)
                  have hll : l.length ≤ k := by rw [HP.out]; exact lessPre_len _ _ _ _ _
                  have HX := Lib.hid hx
                  have HZ2 : Hid (W1.heap.size ≤ wr.heap.size) := Lib.hid HB.out.size
                  clear hx hr
                  by_cases hip : i = p
                  · have hip2 : ((i : Int) != (p : Int)) = false := by simp [hip]
                    by_cases hkq : k = q
                    · have hkq2 : ((k : Int) != (q : Int)) = false := by simp [hkq]
                      have HE : Hid (lessPre L p q i (k + 1) = lessPre L p q i k) := Lib.hid (by subst hip; exact lessPre_skip HX.out hkq)
                      clear hip hkq
                      go_wp2_with fail
                      go_roundg g2
                      case measure => omega
                      case rel => exact ⟨k + 1, Al, cl, l, by omega, by go_num, rfl, HO, HB, Lib.hid (by rw [HE.out]; exact HP.out)⟩
                    · have hkq2 : ((k : Int) != (q : Int)) = true := by simp; omega
                      have HE : Hid (lessPre L p q i (k + 1) = l ++ [x]) := Lib.hid (by rw [HP.out]; exact lessPre_put HX.out (.inr hkq))
                      clear hip hkq
                      go_wp2_with (at_builtin; refine app_int rfl (.tmp 90) (.tmp 98) rfl W1.heap.size Al cl l.length (cI l) rfl (HO.out.alloc _) _ 1 1 [(x : Int)] rfl (Rd.oneI _ _ _) (by omega) (by rw [World.size_alloc]; have := HZ2.out; omega) ?_; intro A3 c3 w3 ho3 hg3 hat3; have HO3 := Lib.hid ho3; have HG3 := Lib.hid hg3; clear ho3 hg3 hat3)
                      go_roundg g2
                      case measure => omega
                      case rel => exact ⟨k + 1, A3, c3, l ++ [x], by omega, by go_num, by simp, Lib.hid (by rw [List.length_append, cI_app]; exact HO3.out), Lib.hid ((HB.out.alloc HZ2.out _).grown HG3.out (by rw [World.size_alloc]; have := HZ2.out; omega) (fun g e => (HO.out.lt e).1)), Lib.hid HE.out.symm⟩
                  · have hip2 : ((i : Int) != (p : Int)) = true := by simp; omega
                    have HE : Hid (lessPre L p q i (k + 1) = l ++ [x]) := Lib.hid (by rw [HP.out]; exact lessPre_put HX.out (.inl hip))
                    clear hip
                    go_wp2_with (at_builtin; refine app_int rfl (.tmp 90) (.tmp 98) rfl W1.heap.size Al cl l.length (cI l) rfl (HO.out.alloc _) _ 1 1 [(x : Int)] rfl (Rd.oneI _ _ _) (by omega) (by rw [World.size_alloc]; have := HZ2.out; omega) ?_; intro A3 c3 w3 ho3 hg3 hat3; have HO3 := Lib.hid ho3; have HG3 := Lib.hid hg3; clear ho3 hg3 hat3)
                    go_roundg g2
                    case measure => omega
                    case rel => exact ⟨k + 1, A3, c3, l ++ [x], by omega, by go_num, by simp, Lib.hid (by rw [List.length_append, cI_app]; exact HO3.out), Lib.hid ((HB.out.alloc HZ2.out _).grown HG3.out (by rw [World.size_alloc]; have := HZ2.out; omega) (fun g e => (HO.out.lt e).1)), Lib.hid HE.out.symm⟩
    · have hmay' : mayI ls = false := by simpa using hmay
      rw [hmay']
      clear hmay hmay'
      go_wp2_with (go_at_call 9; refine (wakes_any _).mono ?_; rintro e w1 ⟨rfl, HB⟩)
      go_ret
      exact ⟨rfl, HB⟩
end Go.Proofs.Ytjpljkjclamjnaa
