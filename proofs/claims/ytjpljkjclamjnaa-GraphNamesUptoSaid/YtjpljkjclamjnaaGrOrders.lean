/- The law GraphOrders. -/
import Derived.Test.YtjpljkjclamjnaaGrOn
namespace Go.Proofs.Ytjpljkjclamjnaa
open Go.RowKit
set_option linter.unusedVariables false
set_option linter.unusedSimpArgs false

theorem RowB.tk0 (w : World) (n : Nat) : RowB (w.alloc (.cells (bvB (List.replicate n false)).toArray 4)) w.heap.size (tkB [] n) := by
  rw [tkB_nil]; exact Blk.new _ _ _
structure SeS (w1 : World) (n : Nat) (T : List Nat) (W : World) : Prop where
  row : RowB W w1.heap.size (tkB T n)
  bel : Below w1.heap.size w1 W
theorem mx_bound {R l : List Nat} {n : Nat} (h : ∀ x, rk R x ≤ n) : mx (rk R) 0 l ≤ n + 1 := (mx_le l 0 (n + 1)).2 ⟨by omega, fun x _ => by have := h x; omega⟩

set_option maxHeartbeats 4000000 in
set_option maxRecDepth 100000 in
theorem graphOrders_walk (W : World) (A : Option Addr) (n c : Nat) (ls : List (List Int)) (h : II W A n c ls) (hreach : ∀ r ∈ ls, r.length * 8 ≤ 140737488351232) :
    Calls Try.prog 6 #[.slice A n c] W (Yes W) := by
  have hc := h.cap
  have hmx := h.max
  unfold maxLen at hmx
  have H0 := Lib.hid h
  have HR := Lib.hid hreach
  clear h hreach
  go_enter Try.func6, Try.ntmps6
  go_wp2_with fail
  refine (great_any A n c ls W H0.out).mono ?_
  rintro e w' ⟨⟨b, rfl, hb⟩, rfl⟩
  cases b with
  | true =>
    clear hb
    go_wp2_with (go_at_call 9; refine (wakes_any _).mono ?_; rintro e w1 ⟨rfl, HB⟩)
    go_ret
    exact ⟨rfl, HB⟩
  | false =>
    obtain ⟨h60, hsum⟩ := hb rfl
    have hn : n ≤ 1000 := by have := H0.out.len; omega
    have HT : Hid ((ls.map List.length).sum * 8 ≤ 140737488355328) := Lib.hid (by
      have := few ls 17592186043904 (by omega) hsum (fun r hr => by have := HR.out r hr; omega)
      omega)
    clear h60 hsum hb
    go_wp2_with fail
    refine (rmay_any A n c ls W H0.out).mono ?_
    rintro e w' ⟨rfl, rfl⟩
    by_cases hmay : mayI ls = true
    · obtain ⟨L, rfl, hok⟩ := mayI_cast hmay
      rw [hmay]
      have hlen : L.length = n := by have := H0.out.len; simpa using this
      obtain ⟨Ds, hD⟩ : ∃ Ds : Nat → Nat → Nat, ∀ s, IsD L s (Ds s) := ⟨fun s => (isD_exists L s).choose, fun s => (isD_exists L s).choose_spec⟩
      have HLEN := Lib.hid hlen
      have HOK := Lib.hid hok
      have HD : Hid (∀ s, s < L.length → IsD L s (Ds s)) := Lib.hid (fun s _ => hD s)
      clear hmay hok hlen hD
      cases hor : orderF L with
      | none =>
        have HOR := Lib.hid hor
        have HCN : Hid (circF L Ds ≠ []) := Lib.hid ((order_circ HOK.out HD.out).1 hor)
        have HRG := Lib.hid (circF_ring HOK.out HD.out HCN.out)
        clear hor
        go_wp2_with fail
        refine (order_any A n c (cL L) W H0.out hn).mono ?_
        rintro e w1 ⟨hB, -, h2, -⟩
        obtain rfl := h2 L rfl HOK.out HOR.out
        have HB1 := Lib.hid hB
        clear hB h2
        go_wp2_with fail
        refine (ranks_any A n c (cL L) w1 (H0.out.below HB1.out) hn).mono ?_
        rintro e w2 ⟨hB, -, h2, -⟩
        obtain rfl := h2 L rfl HOK.out HOR.out
        have HB2 := Lib.hid (HB1.out.past hB)
        clear hB h2
        go_wp2_with fail
        refine (circle_any A n c (cL L) w2 (H0.out.below HB2.out) hn HT.out).mono ?_
        rintro e w3 ⟨hB, -, h2⟩
        obtain ⟨A3, c3, rfl, ho3, hml⟩ := h2 L rfl HOK.out Ds HD.out
        have HB3 := Lib.hid (HB2.out.past hB)
        obtain ⟨C, hC⟩ : ∃ C, circF L Ds = C := ⟨_, rfl⟩
        rw [hC] at ho3 hml HRG HCN ⊢
        rw [HLEN.out] at hml
        have hm1 : 1 ≤ C.length := HRG.out.pos
        have hm1' : ((C.length : Int) == 0) = false := beq_eq_false_iff_ne.2 (by omega)
        have HC := Lib.hid ho3.rd
        have hcc := ho3.rd.cap
        have hcm := ho3.rd.max
        unfold maxLen at hcm
        clear hB h2 ho3 hC
        have hmk := make_bools n (by omega)
        go_wp2_with fail
        clear hmk hm1'
        go_loopg [9] C.length (fun g q9 wr => ∃ i : Nat, i + g = C.length ∧ q9 = .int .i64 (i : Nat) ∧ Hid (SeS w3 n (C.take i) wr))
        case atStart => exact ⟨0, by omega, rfl, Lib.hid ⟨RowB.tk0 w3 n, (Below.refl _ _).alloc (Nat.le_refl _) _⟩⟩
        case round =>
          obtain ⟨i, hi, rfl, HS⟩ := hrel
          cases gk with
          | zero =>
            have hk : ¬ ((i : Int) < (C.length : Int)) := by omega
            have HBr := Lib.hid (HB3.out.past HS.out.bel)
            go_wp2_with fail
            refine (widest_any A n c (cL L) wr (H0.out.below HBr.out) hn).mono ?_
            rintro e w5 ⟨hB, v, rfl, -, h2, -⟩
            obtain rfl := h2 L rfl HOK.out HOR.out
            have HB5 := Lib.hid (HBr.out.past hB)
            clear hB h2
            go_wp2_with fail
            refine (wakes_any _).mono ?_
            rintro e w6 ⟨rfl, hB⟩
            have HB6 := Lib.hid (HB5.out.past hB)
            clear hB
            go_wp2_with fail
            go_ret
            exact ⟨rfl, HB6.out⟩
          | succ g =>
            have hk : (i : Int) < (C.length : Int) := by omega
            have hil : i < C.length := by omega
            have hjl : (i + 1) % C.length < C.length := Nat.mod_lt _ (by omega)
            obtain ⟨x, hx⟩ : ∃ x, C[i]? = some x := ⟨_, List.getElem?_eq_getElem hil⟩
            obtain ⟨y, hy⟩ : ∃ y, C[(i + 1) % C.length]? = some y := ⟨_, List.getElem?_eq_getElem hjl⟩
            have hxn : x < n := by have := HRG.out.lt x (List.mem_of_getElem? hx); rw [HLEN.out] at this; exact this
            have hyn : y < n := by have := HRG.out.lt y (List.mem_of_getElem? hy); rw [HLEN.out] at this; exact this
            have HXY := Lib.hid (HRG.out.step i x y hx hy)
            have hsx := HRG.out.seen hx
            have hr := HC.out.below HS.out.bel
            obtain ⟨adc, rfl, -⟩ := hr.addr (by omega) (by omega)
            have hxc := hr.icell (cI_get hx)
            have hyc := hr.icell (cI_get hy)
            have hsc := HS.out.row.cell (tkB_get (T := C.take i) hxn)
            rw [hsx] at hsc
            have hsf := HS.out.row.frozen x
            have HX := Lib.hid (take_one hx)
            have HBr := Lib.hid (HB3.out.past HS.out.bel)
            have hw1 : IntKind.i64.wrap ((i : Int) + 1) = (i : Int) + 1 := by rw [IntKind.wrap_i64] <;> omega
            have hmod : ((i : Int) + 1).tmod (C.length : Int) = (((i + 1) % C.length : Nat) : Int) := by
              rw [Int.tmod_eq_emod_of_nonneg (by omega), Int.natCast_emod, Int.natCast_add]; rfl
            clear hx hy hsx hr
            obtain ⟨j, hj⟩ : ∃ j, (i + 1) % C.length = j := ⟨_, rfl⟩
            rw [hj] at hmod hyc hjl
            clear hj
            go_wp2_with fail
            go_quiet (fail)
            clear hw1 hmod
            go_wp2_with (go_at_call 22; refine (on_any A n c x y L _ ((H0.out.below HBr.out).drewN _) hxn hn HXY.out hyn).mono ?_; rintro e w' ⟨rfl, rfl⟩)
            go_roundg g
            case measure => omega
            case rel => exact ⟨i + 1, by omega, by go_num, Lib.hid (by rw [HX.out]; exact ⟨by rw [← tkB_put]; exact RowB.set (l := tkB (C.take i) n) (Blk.drewN HS.out.row _) x true, (HS.out.bel.drewN _).setCell (Nat.le_refl _) _⟩)⟩
      | some O =>
        have HOR := Lib.hid hor
        have HC0 : Hid (circF L Ds = []) := Lib.hid (by
          by_cases e : circF L Ds = []
          · exact e
          · have := (order_circ HOK.out HD.out).2 e; rw [hor] at this; cases this)
        have hol : O.length = n := by rw [(orderF_part hor).2]; exact HLEN.out
        have HP := Lib.hid (orderF_part hor).1
        have HRE := Lib.hid (rankEq_of hor)
        have HRB : Hid (∀ x, rk (rankF L O) x ≤ n) := Lib.hid (rank_bound n O hol HP.out)
        have HIS := Lib.hid (isI_order HOK.out hor)
        have HOL := Lib.hid hol
        clear hor hol
        go_wp2_with fail
        refine (order_any A n c (cL L) W H0.out hn).mono ?_
        rintro e w1 ⟨hB, -, -, h2⟩
        obtain ⟨A1, c1, rfl, ho1⟩ := h2 L O rfl HOK.out HOR.out
        rw [HOL.out] at ho1 ⊢
        have HB1 := Lib.hid hB
        have HO1 := Lib.hid ho1.rd
        clear hB h2 ho1
        go_wp2_with fail
        refine (ranks_any A n c (cL L) w1 (H0.out.below HB1.out) hn).mono ?_
        rintro e w2 ⟨hB, -, -, h2⟩
        obtain ⟨A2, c2, rfl, ho2⟩ := h2 L O rfl HOK.out HOR.out
        rw [HLEN.out] at ho2 ⊢
        have HB2 := Lib.hid (HB1.out.past hB)
        have HO1 := Lib.hid (HO1.out.below hB)
        have HO2 := Lib.hid ho2.rd
        clear hB h2 ho2
        go_wp2_with fail
        refine (circle_any A n c (cL L) w2 (H0.out.below HB2.out) hn HT.out).mono ?_
        rintro e w3 ⟨hB, -, h2⟩
        obtain ⟨A3, c3, rfl, -, -⟩ := h2 L rfl HOK.out Ds HD.out
        rw [HC0.out]
        have HB3 := Lib.hid (HB2.out.past hB)
        have HO1 := Lib.hid (HO1.out.below hB)
        have HO2 := Lib.hid (HO2.out.below hB)
        clear hB h2
        go_wp2_with fail
        refine (is_any A A1 n c n c1 (cL L) (cI O) w3 (H0.out.below HB3.out) hn HO1.out (fun z hz => by
          simp only [cI, List.mem_map] at hz
          obtain ⟨x, hx, rfl⟩ := hz
          have := HP.out.lt x hx
          rw [HLEN.out] at this
          omega) hn).mono ?_
        rintro e w4 ⟨hB, rfl⟩
        rw [HIS.out]
        have HB4 := Lib.hid (HB3.out.past hB)
        have HO1 := Lib.hid (HO1.out.below hB)
        have HO2 := Lib.hid (HO2.out.below hB)
        clear hB
        go_wp2_with fail
        refine (ris_any A A1 n c n c1 (cL L) (cI O) w4 (H0.out.below HB4.out) hn HO1.out hn).mono ?_
        rintro e w5 ⟨hB, rfl⟩
        rw [HIS.out]
        have HB5 := Lib.hid (HB4.out.past hB)
        have HO2 := Lib.hid (HO2.out.below hB)
        clear hB HO1
        have hne : ((n : Int) != (n : Int)) = false := by simp
        obtain ⟨R, hR⟩ : ∃ R, rankF L O = R := ⟨_, rfl⟩
        rw [hR] at HO2 HRE HRB
        have hrc := HO2.out.cap
        have hrm := HO2.out.max
        unfold maxLen at hrm
        clear hR
        go_wp2_with fail
        clear hne
        go_loop [12] (fun q => ∃ i : Nat, i ≤ n ∧ q = .int .i64 (i : Nat)) (fun q => n - (intOf q).toNat)
        case atStart => exact ⟨0, Nat.zero_le _, rfl⟩
        case round =>
          obtain ⟨i, hi, rfl⟩ := hrel
          by_cases hin : i < n
          · have hk : (i : Int) < (n : Int) := by omega
            obtain ⟨ad0, Ai, ci, rfl, hro⟩ := H0.out.row2 (i := i) (by rw [HLEN.out]; omega)
            obtain ⟨hcl, hr⟩ := hro w5 HB5.out
            have hlc := hr.cap
            have hlm := hr.max
            unfold maxLen at hlm
            have HRW := Lib.hid hr
            obtain ⟨adr, rfl, -⟩ := HO2.out.addr (by omega) (by omega)
            have hri := HO2.out.icell (rk_cell (R := R) (i := i) (by rw [HRE.out.1, HLEN.out]; exact hin))
            have hbi := HRB.out i
            have HEQ := Lib.hid (HRE.out.2 i (by rw [HLEN.out]; exact hin))
            have HLT : Hid (∀ x ∈ lean' L i, x < n) := Lib.hid (fun x hx => by have := HOK.out i x hx; rw [HLEN.out] at this; exact this)
            obtain ⟨l, hl⟩ : ∃ l, lean' L i = l := ⟨_, rfl⟩
            rw [hl] at HRW HEQ HLT hcl hlc
            clear hro hr hl
            go_wp2_with fail
            go_loop [13, 14] (fun q13 q14 => ∃ (k : Nat) (z : Int), k ≤ l.length ∧ q14 = .int .i64 (k : Nat) ∧ q13 = .int .i64 z ∧ Hid (z = (mx (rk R) 0 (l.take k) : Nat) - 1) ∧ -1 ≤ z ∧ z ≤ 2000) (fun _ q14 => l.length - (intOf q14).toNat)
            case atStart => exact ⟨0, -1, Nat.zero_le _, rfl, rfl, Lib.hid (by simp [mx]), by omega, by omega⟩
            case round =>
              obtain ⟨k, z, hkl, rfl, rfl, HZ, hz1, hz2⟩ := hrel
              by_cases hkk : k < l.length
              · obtain ⟨x, hx⟩ : ∃ x, l[k]? = some x := ⟨_, List.getElem?_eq_getElem hkk⟩
                have hxn := HLT.out x (List.mem_of_getElem? hx)
                obtain ⟨adl, rfl, -⟩ := HRW.out.addr (by omega) (by omega)
                have hxc := HRW.out.icell (cI_get hx)
                have hrx := HO2.out.icell (rk_cell (R := R) (i := x) (by rw [HRE.out.1, HLEN.out]; exact hxn))
                have hbx := HRB.out x
                have HM : Hid (mx (rk R) 0 (l.take (k + 1)) = max (mx (rk R) 0 (l.take k)) (rk R x + 1)) := Lib.hid (by rw [take_one hx]; exact mx_snoc _ _ _)
                obtain ⟨r, hr⟩ : ∃ r, rk R x = r := ⟨_, rfl⟩
                rw [hr] at HM hrx hbx
                clear hx hr
                by_cases hzr : z ≤ (r : Int)
                · go_wp2_with fail
                  all_goals
                    go_round
                    case rel => exact ⟨k + 1, (r : Int), by omega, by go_num, by first | rfl | (congr 1; omega), Lib.hid (by rw [HM.out]; have := HZ.out; omega), by omega, by omega⟩
                    case measure => simp [intOf]; omega
                · have hzr' : ((r : Int) < z) := by omega
                  go_wp2_with fail
                  all_goals
                    go_round
                    case rel => exact ⟨k + 1, z, by omega, by go_num, by first | rfl | (congr 1; omega), Lib.hid (by rw [HM.out]; have := HZ.out; omega), by omega, by omega⟩
                    case measure => simp [intOf]; omega
              · have hne : (((rk R i : Nat) : Int) != z + 1) = false := by
                  have h1 := HZ.out
                  have h2 := HEQ.out
                  rw [List.take_of_length_le (by omega)] at h1
                  rw [h2, h1]
                  simp
                go_wp2_with fail
                go_round
                case rel => exact ⟨i + 1, by omega, by go_num⟩
                case measure => simp [intOf]; omega
          · have hk : ¬ ((i : Int) < (n : Int)) := by omega
            go_wp2_with fail
            refine (wakes_any _).mono ?_
            rintro e w6 ⟨rfl, hB⟩
            have HB6 := Lib.hid (HB5.out.past hB)
            clear hB
            go_wp2_with fail
            go_ret
            exact ⟨rfl, HB6.out⟩
    · have hmay' : mayI ls = false := by simpa using hmay
      rw [hmay']
      clear hmay hmay'
      go_wp2_with (go_at_call 9; refine (wakes_any _).mono ?_; rintro e w1 ⟨rfl, HB⟩)
      go_ret
      exact ⟨rfl, HB⟩
end Go.Proofs.Ytjpljkjclamjnaa
