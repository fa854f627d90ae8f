/- The law GraphNames. -/
import Derived.Test.YtjpljkjclamjnaaGrTwo
import Derived.Deep.CutRange
namespace Go.Proofs.Ytjpljkjclamjnaa
open Go.RowKit
set_option linter.unusedVariables false
set_option linter.unusedSimpArgs false

section
variable {w : World} {ops : Array Oper} {o : Oper} {a : Act} {K : Act → World → Prop} {Q : Exit → Act → World → Prop} {E : Prop}
theorem step_int (hgd : o.guard = none) (s x : Operand)
    (ho : o.op = .call { callee := .builtin .append, args := #[s, x], argTypes := #[25, 25] })
    (base : Nat) (A0 : Option Addr) (c0 n : Nat) (l : List Int) (hs : a.eval s = .slice A0 n c0) (hown : IOw w base A0 n c0 l)
    (A : Option Addr) (m c : Nat) (k : List Int) (hx : a.eval x = .slice A m c) (hr : Rd w 1 A m c (ivI k))
    (h63 : (n + m) * 8 ≤ 140737488355328) (hbase : base ≤ w.heap.size)
    (h : ∀ A' c' w', IOw w' base A' (n + m) c' (l ++ k) → w.grownBy w' (blk A0) → (A' = A0 ∨ A' = some ⟨w.heap.size, 0, none⟩) → K (a.put o.dst (.slice A' (n + m) c')) w') :
    if Region.wanted o (yielded ops a.tmps) = true then Oper.wp Try.prog o a w K Q else E := by
  obtain ⟨i0, hi, hz0, hz1, hz2⟩ := info_parts info_int
  exact step_ow w hgd s x _ ho base _ i0 _ 1 8 Try.underlying25 hi hz0 hz1 hz2 rfl (by omega) A0 c0 n (ivI l) hs hown A m c (ivI k) hx hr (ivI_one k) (by omega) h63 hbase (by unfold IOw at h; rw [← ivI_app]; exact h)
end
structure TwS (w : World) (n : Nat) (V1 : Nat → Option Addr × Nat) (R1 : Nat → List Nat) (V2 : Nat → Option Addr × Nat) (R2 : Nat → List Nat) (W : World) : Prop where
  two : Two W w.heap.size (w.heap.size + 1) n V1 R1 V2 R2
  bel : Below w.heap.size w W

set_option maxHeartbeats 4000000 in
set_option maxRecDepth 100000 in
theorem graphNames_walk (W : World) (A : Option Addr) (n c : Nat) (ls : List (List Int)) (h : II W A n c ls) (hsum : (ls.map List.length).sum ≤ 1048576) :
    Calls Try.prog 3 #[.slice A n c] W (Yes W) := by
  have hc := h.cap
  have hmx := h.max
  unfold maxLen at hmx
  have H0 := Lib.hid h
  have HT := Lib.hid hsum
  clear h hsum
  go_enter Try.func3, Try.ntmps3
  go_wp2_with fail
  refine (great_any A n c ls W H0.out).mono ?_
  rintro e w' ⟨⟨b0, rfl, hb⟩, rfl⟩
  cases b0 with
  | true =>
    clear hb
    go_wp2_with (go_at_call 9; refine (wakes_any _).mono ?_; rintro e w1 ⟨rfl, HB⟩)
    go_ret
    exact ⟨rfl, HB⟩
  | false =>
    have hn : n ≤ 60 := by have := H0.out.len; have := (hb rfl).1; omega
    clear hb
    go_wp2_with fail
    refine (rmay_any A n c ls W H0.out).mono ?_
    rintro e w' ⟨rfl, rfl⟩
    by_cases hmay : mayI ls = true
    · obtain ⟨L, rfl, hok⟩ := mayI_cast hmay
      rw [hmay]
      have hlen : L.length = n := by have := H0.out.len; simpa using this
      have HLEN := Lib.hid hlen
      have HOK := Lib.hid hok
      have HRL : Hid (∀ i, (lean' L i).length ≤ 1048576) := Lib.hid (fun i => by
        have h1 := HT.out
        rw [show (cL L).map List.length = L.map List.length by simp [cL, Function.comp_def]] at h1
        rcases Nat.lt_or_ge i L.length with hi | hi
        · have h2 := tl_le L (i + 1)
          rw [tl_succ hi] at h2
          omega
        · unfold lean'; rw [List.getD_eq_getElem?_getD, List.getElem?_eq_none hi]; simp)
      clear hmay hok hlen
      have hmk := make_rows n (by omega)
      go_wp2_with fail
      clear hmk
      go_loopg [6] n (fun g q6 wr => ∃ (i : Nat) (V1 V2 : Nat → Option Addr × Nat) (R1 R2 : Nat → List Nat), i + g = n ∧ q6 = .int .i64 (i : Nat) ∧ Hid (TwS W n V1 R1 V2 R2 wr) ∧ Hid (TwI L n i 0 R1 R2))
      case atStart => exact ⟨0, _, _, _, _, by omega, rfl, Lib.hid ⟨Two.new W n, ((Below.refl _ W).alloc (Nat.le_refl _) _).alloc (by rw [World.size_alloc]; omega) _⟩, Lib.hid (TwI.start L n)⟩
      case round =>
        obtain ⟨i, V1, V2, R1, R2, hi, rfl, HS, HI⟩ := hrel
        obtain ⟨W1, rfl⟩ : ∃ W1 : World, W1 = wr := ⟨_, rfl⟩
        cases gk with
        | zero =>
          have hk : ¬ ((i : Int) < (n : Int)) := by omega
          obtain rfl : n = i := by omega
          clear hi
          obtain ⟨hR1, hR2⟩ := HI.out.done HLEN.out
          have hn1000 : n ≤ 1000 := by omega
          have HOKt := Lib.hid (tnL_ok HOK.out)
          have HOKw := Lib.hid (twL_ok HOK.out)
          have HIt : Hid (II W1 (some ⟨W.heap.size, 0, none⟩) n n (cL (tnL L))) := Lib.hid (HS.out.two.r1.ii (by rw [tnL_len, HLEN.out]) hR1 HOKt.out hn1000)
          have HIw : Hid (II W1 (some ⟨W.heap.size + 1, 0, none⟩) n n (cL (twL L))) := Lib.hid (HS.out.two.r2.ii (by rw [twL_len, HLEN.out]) hR2 HOKw.out hn1000)
          have HB1 := Lib.hid HS.out.bel
          have e1 : ∀ M : List (List Nat), (cL M).map List.length = M.map List.length := fun M => by simp [cL, Function.comp_def]
          have HT0 : Hid (((cL L).map List.length).sum * 8 ≤ 140737488355328) := Lib.hid (by have := HT.out; omega)
          have HTw : Hid (((cL (twL L)).map List.length).sum * 8 ≤ 140737488355328) := Lib.hid (by have := HT.out; rw [e1] at this ⊢; rw [twL_sum]; omega)
          have HTt : Hid (((cL (tnL L)).map List.length).sum * 8 ≤ 140737488355328) := Lib.hid (by
            rw [e1]
            have h1 := tnL_sum_le L 1048576 HRL.out
            have h2 : L.length * 1048576 ≤ 60 * 1048576 := Nat.mul_le_mul_right _ (by rw [HLEN.out]; exact hn)
            omega)
          obtain ⟨Ds, hD⟩ : ∃ Ds : Nat → Nat → Nat, ∀ s, IsD L s (Ds s) := ⟨fun s => (isD_exists L s).choose, fun s => (isD_exists L s).choose_spec⟩
          obtain ⟨Dt, hDt⟩ : ∃ Ds : Nat → Nat → Nat, ∀ s, IsD (tnL L) s (Ds s) := ⟨fun s => (isD_exists _ s).choose, fun s => (isD_exists _ s).choose_spec⟩
          obtain ⟨Dw, hDw⟩ : ∃ Ds : Nat → Nat → Nat, ∀ s, IsD (twL L) s (Ds s) := ⟨fun s => (isD_exists _ s).choose, fun s => (isD_exists _ s).choose_spec⟩
          have HD := Lib.hid hD
          have HDt := Lib.hid hDt
          have HDw := Lib.hid hDw
          have HCw : Hid (circF (twL L) Dw = circF L Ds) := Lib.hid (circF_congr (twL_len L) (twL_lean L) (fun s _ => hD s) (fun s _ => hDw s))
          have HCt : Hid (circF (tnL L) Dt = [] ↔ circF L Ds = []) := Lib.hid (tn_circ HOK.out (fun s _ => hD s) (fun s _ => hDt s))
          have hl0 : ((((circF L Ds).length : Int) == 0) == (((circF (tnL L) Dt).length : Int) == 0)) = true := by
            have h1 := HCt.out
            by_cases h2 : circF L Ds = []
            · rw [h2, h1.2 h2]; rfl
            · have h3 : circF (tnL L) Dt ≠ [] := fun e => h2 (h1.1 e)
              have h4 : (((circF L Ds).length : Int) == 0) = false := beq_eq_false_iff_ne.2 (by have := List.length_pos_iff.2 h2; omega)
              have h5 : (((circF (tnL L) Dt).length : Int) == 0) = false := beq_eq_false_iff_ne.2 (by have := List.length_pos_iff.2 h3; omega)
              rw [h4, h5]; rfl
          have HL0 := Lib.hid hl0
          have HOW : Hid (orderF (twL L) = orderF L) := Lib.hid (orderF_congr (twL_len L) (twL_lean L))
          have HSIX : Hid (∃ (l : List Int) (er : Int) (v : Nat), (∀ w e w', OrderP (cL L) w e w' → ListOut l er w e w') ∧ (∀ w e w', OrderP (cL (twL L)) w e w' → ListOut l er w e w') ∧ (∀ w e w', OrderP (cL (tnL L)) w e w' → ∃ l', ListOut l' er w e w') ∧
              (∀ w e w', WidP (cL L) w e w' → Below w.heap.size w w' ∧ e = .returned (.int .i64 (v : Int))) ∧ (∀ w e w', WidP (cL (tnL L)) w e w' → Below w.heap.size w w' ∧ e = .returned (.int .i64 (v : Int)))) := Lib.hid (by
            have ho := tn_order HOK.out
            cases hor : orderF L with
            | none =>
              have hot := ho.2 hor
              have how := HOW.out
              rw [hor] at how
              refine ⟨[], 200, 0, fun w e w' h => ?_, fun w e w' h => ?_, fun w e w' h => ⟨[], ?_⟩, fun w e w' h => ?_, fun w e w' h => ?_⟩
              · obtain ⟨h1, _, h2, _⟩ := h; obtain rfl := h2 L rfl HOK.out hor; exact .nul h1
              · obtain ⟨h1, _, h2, _⟩ := h; obtain rfl := h2 _ rfl HOKw.out how; exact .nul h1
              · obtain ⟨h1, _, h2, _⟩ := h; obtain rfl := h2 _ rfl HOKt.out hot; exact .nul h1
              · obtain ⟨h1, v, rfl, _, h2, _⟩ := h; obtain rfl := h2 L rfl HOK.out hor; exact ⟨h1, rfl⟩
              · obtain ⟨h1, v, rfl, _, h2, _⟩ := h; obtain rfl := h2 _ rfl HOKt.out hot; exact ⟨h1, rfl⟩
            | some O =>
              have how := HOW.out
              rw [hor] at how
              cases hot : orderF (tnL L) with
              | none => rw [ho.1 hot] at hor; cases hor
              | some O' =>
                have hw := tn_wid HOK.out hor hot
                refine ⟨cI O, 0, wid (rankF L O), fun w e w' h => ?_, fun w e w' h => ?_, fun w e w' h => ⟨cI O', ?_⟩, fun w e w' h => ?_, fun w e w' h => ?_⟩
                · obtain ⟨h1, _, _, h2⟩ := h; obtain ⟨A, c, rfl, h3⟩ := h2 L O rfl HOK.out hor; exact .own h1 h3 rfl
                · obtain ⟨h1, _, _, h2⟩ := h; obtain ⟨A, c, rfl, h3⟩ := h2 _ O rfl HOKw.out how; exact .own h1 h3 rfl
                · obtain ⟨h1, _, _, h2⟩ := h; obtain ⟨A, c, rfl, h3⟩ := h2 _ O' rfl HOKt.out hot; exact .own h1 h3 rfl
                · obtain ⟨h1, v, rfl, _, _, h2⟩ := h; obtain rfl := h2 L O rfl HOK.out hor; exact ⟨h1, rfl⟩
                · obtain ⟨h1, v, rfl, _, _, h2⟩ := h; obtain rfl := h2 _ O' rfl HOKt.out hot; rw [hw]; exact ⟨h1, rfl⟩)
          obtain ⟨lo, er, vw, vO, vOw, vOt, vW, vWt⟩ := HSIX.out
          have VO := Lib.hid vO
          have VOw := Lib.hid vOw
          have VOt := Lib.hid vOt
          have VW := Lib.hid vW
          have VWt := Lib.hid vWt
          clear hR1 hR2 e1 hD hDt hDw hl0 vO vOw vOt vW vWt HSIX HS HI
          go_wp2_with fail
          refine (order_any A n c (cL L) W1 (H0.out.below HB1.out) hn1000).mono ?_
          intro e w2 hP
          obtain ⟨hB, A1, c1, rfl, hr1⟩ := VO.out _ _ _ hP
          have HB2 := Lib.hid (HB1.out.past hB)
          have R1 := Lib.hid hr1
          have HIt2 := Lib.hid (HIt.out.below hB)
          have HIw2 := Lib.hid (HIw.out.below hB)
          clear hP hB hr1
          go_wp2_with fail
          refine (order_any _ n n (cL (twL L)) w2 HIw2.out hn1000).mono ?_
          intro e w3 hP
          obtain ⟨hB, A2, c2, rfl, hr2⟩ := VOw.out _ _ _ hP
          have HB3 := Lib.hid (HB2.out.past hB)
          have R1 := Lib.hid (R1.out.below hB)
          have R2 := Lib.hid hr2
          have HIt3 := Lib.hid (HIt2.out.below hB)
          have HIw3 := Lib.hid (HIw2.out.below hB)
          clear hP hB hr2
          go_wp2_with fail
          refine (order_any _ n n (cL (tnL L)) w3 HIt3.out hn1000).mono ?_
          intro e w4 hP
          obtain ⟨lt, hB, A3, c3, rfl, -⟩ := VOt.out _ _ _ hP
          have HB4 := Lib.hid (HB3.out.past hB)
          have R1 := Lib.hid (R1.out.below hB)
          have R2 := Lib.hid (R2.out.below hB)
          have HIt4 := Lib.hid (HIt3.out.below hB)
          have HIw4 := Lib.hid (HIw3.out.below hB)
          clear hP hB
          go_wp2_with fail
          refine (ints_any _ _ _ _ _ _ _ R1.out R2.out).mono ?_
          rintro e w5 ⟨rfl, hw⟩
          have HB5 : Hid (Below W.heap.size W w5) := Lib.hid (by obtain ⟨k3, rfl⟩ := hw; exact HB4.out.drewN _)
          have HIt5 : Hid (II w5 (some ⟨W.heap.size, 0, none⟩) n n (cL (tnL L))) := Lib.hid (by obtain ⟨k3, rfl⟩ := hw; exact HIt4.out.drewN _)
          have HIw5 : Hid (II w5 (some ⟨W.heap.size + 1, 0, none⟩) n n (cL (twL L))) := Lib.hid (by obtain ⟨k3, rfl⟩ := hw; exact HIw4.out.drewN _)
          clear hw R1 R2
          go_wp2_with fail
          refine (widest_any A n c (cL L) w5 (H0.out.below HB5.out) hn1000).mono ?_
          intro e w6 hP
          obtain ⟨hB, rfl⟩ := VW.out _ _ _ hP
          have HB6 := Lib.hid (HB5.out.past hB)
          have HIt6 := Lib.hid (HIt5.out.below hB)
          have HIw6 := Lib.hid (HIw5.out.below hB)
          clear hP hB
          go_wp2_with fail
          refine (widest_any _ n n (cL (tnL L)) w6 HIt6.out hn1000).mono ?_
          intro e w7 hP
          obtain ⟨hB, rfl⟩ := VWt.out _ _ _ hP
          have HB7 := Lib.hid (HB6.out.past hB)
          have HIt7 := Lib.hid (HIt6.out.below hB)
          have HIw7 := Lib.hid (HIw6.out.below hB)
          clear hP hB
          go_wp2_with fail
          refine (circle_any A n c (cL L) w7 (H0.out.below HB7.out) hn1000 HT0.out).mono ?_
          rintro e w8 ⟨hB, -, h2⟩
          obtain ⟨A8, c8, rfl, -, -⟩ := h2 L rfl HOK.out Ds (fun s _ => HD.out s)
          have HB8 := Lib.hid (HB7.out.past hB)
          have HIt8 := Lib.hid (HIt7.out.below hB)
          have HIw8 := Lib.hid (HIw7.out.below hB)
          clear hB h2
          go_wp2_with fail
          refine (circle_any _ n n (cL (tnL L)) w8 HIt8.out hn1000 HTt.out).mono ?_
          rintro e w9 ⟨hB, -, h2⟩
          obtain ⟨A9, c9, rfl, -, -⟩ := h2 (tnL L) rfl HOKt.out Dt (fun s _ => HDt.out s)
          have HB9 := Lib.hid (HB8.out.past hB)
          have HIw9 := Lib.hid (HIw8.out.below hB)
          have hl0 := HL0.out
          clear hB h2
          go_wp2_with fail
          refine (circle_any A n c (cL L) w9 (H0.out.below HB9.out) hn1000 HT0.out).mono ?_
          rintro e w10 ⟨hB, -, h2⟩
          obtain ⟨A10, c10, rfl, ho10, -⟩ := h2 L rfl HOK.out Ds (fun s _ => HD.out s)
          have HB10 := Lib.hid (HB9.out.past hB)
          have HIw10 := Lib.hid (HIw9.out.below hB)
          have R1 := Lib.hid ho10.rd
          clear hB h2 ho10 hl0
          go_wp2_with fail
          refine (circle_any _ n n (cL (twL L)) w10 HIw10.out hn1000 HTw.out).mono ?_
          rintro e w11 ⟨hB, -, h2⟩
          obtain ⟨A11, c11, rfl, ho11, -⟩ := h2 (twL L) rfl HOKw.out Dw (fun s _ => HDw.out s)
          rw [HCw.out] at ho11 ⊢
          have HB11 := Lib.hid (HB10.out.past hB)
          have R1 := Lib.hid (R1.out.below hB)
          have R2 := Lib.hid ho11.rd
          clear hB h2 ho11
          go_wp2_with fail
          refine (ints_any _ _ _ _ _ _ _ R1.out R2.out).mono ?_
          rintro e w12 ⟨rfl, hw⟩
          have HB12 : Hid (Below W.heap.size W w12) := Lib.hid (by obtain ⟨k3, rfl⟩ := hw; exact HB11.out.drewN _)
          clear hw R1 R2
          go_wp2_with fail
          refine (wakes_any _).mono ?_
          rintro e w13 ⟨rfl, hB⟩
          have HB13 := Lib.hid (HB12.out.past hB)
          clear hB
          go_wp2_with fail
          go_ret
          exact ⟨rfl, HB13.out⟩
        | succ g =>
          have hk : (i : Int) < (n : Int) := by omega
          have hin : i < n := by omega
          obtain ⟨ad0, Ai, ci, rfl, hro⟩ := H0.out.row2 (i := i) (by rw [HLEN.out]; omega)
          have HRO := Lib.hid hro
          have hrl := HRL.out i
          clear hro
          go_wp2_with fail
          go_loopg [7] (lean' L i).length (fun g2 q7 wi => ∃ (k : Nat) (V1 V2 : Nat → Option Addr × Nat) (R1 R2 : Nat → List Nat), k + g2 = (lean' L i).length ∧ q7 = .int .i64 (k : Nat) ∧ Hid (TwS W n V1 R1 V2 R2 wi) ∧ Hid (TwI L n i k R1 R2))
          case atStart => exact ⟨0, V1, V2, R1, R2, by omega, rfl, HS, HI⟩
          case round =>
            obtain ⟨k, V3, V4, R3, R4, hkl, rfl, HS3, HI3⟩ := hrel
            obtain ⟨hcl, hr⟩ := HRO.out wr HS3.out.bel
            cases gk with
            | zero =>
              have hkk : ¬ ((k : Int) < ((lean' L i).length : Int)) := by omega
              have HE : Hid (k = (lean' L i).length) := Lib.hid (by omega)
              clear hkl hr
              go_wp2_with fail
              go_roundg g
              case measure => omega
              case rel => exact ⟨i + 1, V3, V4, R3, R4, by omega, by go_num, HS3, Lib.hid (TwI.next (by rw [← HE.out]; exact HI3.out))⟩
            | succ g2 =>
              have hkk : (k : Int) < ((lean' L i).length : Int) := by omega
              obtain ⟨x, hx⟩ : ∃ x, (lean' L i)[k]? = some x := ⟨_, List.getElem?_eq_getElem (by omega)⟩
              have hxn : x < n := by have := HOK.out i x (List.mem_of_getElem? hx); rw [HLEN.out] at this; exact this
              obtain ⟨adl, rfl, -⟩ := hr.addr (by omega) (by omega)
              have hrc := hr.cap
              have hrm := hr.max
              unfold maxLen at hrm
              have hxc := hr.icell (cI_get hx)
              obtain ⟨p, hp⟩ : ∃ p, n - 1 - i = p := ⟨_, rfl⟩
              obtain ⟨y, hy⟩ : ∃ y, n - 1 - x = y := ⟨_, rfl⟩
              obtain ⟨hl1, hl2⟩ := HI3.out.len hin
              have HST := Lib.hid (HI3.out.step hin hx)
              rw [hp] at hl1 HST
              rw [hy] at HST
              have hpn : p < n := by omega
              have hc1 := HS3.out.two.r1.cell hpn
              have hf1 := HS3.out.two.r1.frozen p
              have hw1 : IntKind.i64.wrap ((n : Int) - 1) = (n : Int) - 1 := by rw [IntKind.wrap_i64] <;> omega
              have hw2 : IntKind.i64.wrap ((n : Int) - 1 - (i : Int)) = (p : Int) := by rw [IntKind.wrap_i64] <;> omega
              have hw3 : IntKind.i64.wrap ((n : Int) - 1 - (x : Int)) = (y : Int) := by rw [IntKind.wrap_i64] <;> omega
              have HX := Lib.hid hx
              have HBA : Hid (Below W.heap.size W (wr.alloc (.cells #[.int .i64 (y : Int)] 3))) := Lib.hid (HS3.out.bel.alloc HS3.out.bel.size _)
              clear hx hr hp hy
              go_wp2_with fail
              have HTA := Lib.hid (HS3.out.two.alloc (.cells #[.int .i64 (y : Int)] 3))
              have HTD := Lib.hid HTA.out.drew
              have hbas : W.heap.size + 1 ≤ (wr.alloc (.cells #[.int .i64 (y : Int)] 3)).drew.heap.size := by
                have := HS3.out.two.r1.bk.lt
                show _ ≤ (wr.alloc (.cells #[.int .i64 (y : Int)] 3)).heap.size
                rw [World.size_alloc]; omega
              go_upto_region 12 with (fail)
              go_cut [] from 33 to 89 (fun wx => ∃ (V5 : Nat → Option Addr × Nat) (R5 : Nat → List Nat), Hid (TwS W n V5 R5 V4 R4 wx) ∧ Hid (R5 = fup R3 p (R3 p ++ [y])))
              case first =>
                have hcd := HTA.out.r1.cell hpn
                go_region_law ((refine step_int rfl (.tmp 53) (.tmp 64) rfl (W.heap.size + 1) (V3 p).1 (V3 p).2 (R3 p).length (cI (R3 p)) (by simp [Act.eval, Act.put]) (HTD.out.r1.own p hpn) _ 1 1 [(y : Int)] (by simp [Act.eval, Act.put]) (Rd.oneI wr _ _).drew (by omega) hbas ?_; intro A3 c3 w3 ho3 hg3 hat3; have HO3 := Lib.hid ho3; have HG3 := Lib.hid hg3; have HA3 := Lib.hid hat3; clear ho3 hg3 hat3; have hbk3 := HTD.out.r1.bk.grown HG3.out (fun e => by have := ((HTD.out.r1.own p hpn).lt e).1; omega); have hf3 := hbk3.frozen p; have hc3 : w3.cell? ⟨W.heap.size, p, none⟩ = some (.slice (V3 p).1 (R3 p).length (V3 p).2) := hbk3.cell p (by simp [hpn, slV]); clear hbk3))
                all_goals
                  go_wp2_with fail
                  go_meet
                  exact ⟨_, _, Lib.hid ⟨HTD.out.app hpn (zs := [y]) rfl HO3.out HG3.out HA3.out, ((HBA.out.drewN 1).grown HG3.out (Nat.le_of_succ_le hbas) (fun g hg => by have := ((HTD.out.r1.own p hpn).lt hg).1; omega)).setCell (Nat.le_refl _) _⟩, Lib.hid rfl⟩
              case rest =>
                obtain ⟨V5, R5, HS5, HR5⟩ := hcut
                clear hcl hxc hc1 hf1 hw1 hw2 hw3 hbas HBA HTD HTA
                obtain ⟨hcl, hr⟩ := HRO.out wc HS5.out.bel
                have hxc := hr.icell (cI_get HX.out)
                have hc2 := HS5.out.two.r2.cell hin
                have hf2 := HS5.out.two.r2.frozen i
                have HTA := Lib.hid (HS5.out.two.alloc (.cells #[.int .i64 (x : Int), .int .i64 (x : Int)] 3))
                have HTD := Lib.hid HTA.out.drew.symm
                have HBA : Hid (Below W.heap.size W (wc.alloc (.cells #[.int .i64 (x : Int), .int .i64 (x : Int)] 3))) := Lib.hid (HS5.out.bel.alloc HS5.out.bel.size _)
                have hbas : W.heap.size + 1 + 1 ≤ (wc.alloc (.cells #[.int .i64 (x : Int), .int .i64 (x : Int)] 3)).drew.heap.size := by
                  have := HS5.out.two.r2.bk.lt
                  show _ ≤ (wc.alloc (.cells #[.int .i64 (x : Int), .int .i64 (x : Int)] 3)).heap.size
                  rw [World.size_alloc]; omega
                have hcd := HTA.out.r2.cell hin
                clear hr
                go_wp2_with fail
                go_region_law ((refine step_int rfl (.tmp 72) (.tmp 87) rfl (W.heap.size + 1 + 1) (V4 i).1 (V4 i).2 (R4 i).length (cI (R4 i)) (by simp [Act.eval, Act.put]) (HTD.out.r1.own i hin) _ 2 2 [(x : Int), (x : Int)] (by simp [Act.eval, Act.put]) (Rd.lit wc 1 2 #[.int .i64 (x : Int), .int .i64 (x : Int)] 3 (0, 0) rfl (by simp [maxLen])).drew (by omega) hbas ?_; intro A3 c3 w3 ho3 hg3 hat3; have HO3 := Lib.hid ho3; have HG3 := Lib.hid hg3; have HA3 := Lib.hid hat3; clear ho3 hg3 hat3; have hbk3 := HTD.out.r1.bk.grown HG3.out (fun e => by have := ((HTD.out.r1.own i hin).lt e).1; omega); have hf3 := hbk3.frozen i; have hc3 : w3.cell? ⟨W.heap.size + 1, i, none⟩ = some (.slice (V4 i).1 (R4 i).length (V4 i).2) := hbk3.cell i (by simp [hin, slV]); clear hbk3))
                all_goals
                  go_wp2_with fail
                  go_roundg g2
                  case measure => omega
                  case rel => exact ⟨k + 1, V5, fup V4 i (A3, c3), R5, fup R4 i (R4 i ++ [x, x]), by omega, by go_num, Lib.hid ⟨(HTD.out.app hin (zs := [x, x]) rfl HO3.out HG3.out HA3.out).symm, ((HBA.out.drewN 1).grown HG3.out (Nat.le_of_succ_le (Nat.le_of_succ_le hbas)) (fun g hg => by have := ((HTD.out.r1.own i hin).lt hg).1; omega)).setCell (Nat.le_succ _) _⟩, Lib.hid (by rw [HR5.out]; exact HST.out)⟩
    · have hmay' : mayI ls = false := by simpa using hmay
      rw [hmay']
      clear hmay hmay'
      go_wp2_with (go_at_call 9; refine (wakes_any _).mono ?_; rintro e w1 ⟨rfl, HB⟩)
      go_ret
      exact ⟨rfl, HB⟩
end Go.Proofs.Ytjpljkjclamjnaa
