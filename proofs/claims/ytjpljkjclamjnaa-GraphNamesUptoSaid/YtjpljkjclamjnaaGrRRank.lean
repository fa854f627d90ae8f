/- The reference's Ranks. -/
import Derived.Test.YtjpljkjclamjnaaGrROrd
import Derived.BigRegion
namespace Go.Proofs.Ytjpljkjclamjnaa
open Go.RowKit
set_option linter.unusedVariables false
set_option linter.unusedSimpArgs false

set_option maxHeartbeats 2000000 in
theorem rranks_any (A : Option Addr) (n c : Nat) (ls : List (List Int)) (w : World) (h : II w A n c ls) (hn : n ≤ 1000) :
    Calls Try.prog 17 #[.slice A n c] w (RanksP ls w) := by
  have hc := h.cap
  have hm := h.max
  unfold maxLen at hm
  have cO := rorder_any A n c ls w h hn
  have H0 := Lib.hid h
  clear h
  go_enter Try.func17, Try.ntmps17
  go_wp2_with fail
  refine cO.mono ?_
  intro e w1 hP
  obtain ⟨hb1, ⟨hmay, rfl⟩ | ⟨L, rfl, hok, hno, rfl⟩ | ⟨L, O, A1, c1, rfl, hok, hor, rfl, hrow⟩⟩ := hP.way
  · have HB := Lib.hid (And.intro hb1 hmay)
    clear hb1 hmay hP cO
    go_wp2_with fail
    go_ret2
    exact RanksP.arg HB.out.1 HB.out.2
  · have HB := Lib.hid (And.intro hb1 (And.intro hok hno))
    clear hb1 hok hno hP cO
    go_wp2_with fail
    go_ret2
    exact RanksP.cyc HB.out.1 HB.out.2.1 HB.out.2.2
  · have hlen : L.length = n := by have := H0.out.len; simpa using this
    have hol : O.length = n := by rw [(orderF_part hor).2, hlen]
    have hrc := hrow.cap
    have hrm := hrow.max
    unfold maxLen at hrm
    have HB := Lib.hid (And.intro hb1 (And.intro hok hor))
    have HR := Lib.hid hrow
    have HLEN := Lib.hid (And.intro hlen hol)
    have HP := Lib.hid (orderF_part hor).1
    have hol' := hol
    clear hb1 hok hor hrow hP cO hlen hol
    have hmk := make_ints n (by omega)
    go_wp2_with fail
    clear hmk
    go_loopg [7] n (fun g q24 wr => ∃ j : Nat, j + g = n ∧ q24 = .int .i64 (j : Nat) ∧ Hid (RnS w1 w1.heap.size (rankF L (O.take j)) wr))
    case atStart => exact ⟨0, by omega, rfl, Lib.hid (RnS.init w1 L HLEN.out.1)⟩
    case round =>
      obtain ⟨j, hj, rfl, HS⟩ := hrel
      cases gk with
      | zero =>
        have hk : ¬ ((j : Int) < (n : Int)) := by omega
        go_wp2_with fail
        go_ret2
        refine RanksP.ok (HB.out.1.past HS.out.bel) HB.out.2.1 HB.out.2.2 HLEN.out.1 ?_
        have := HS.out.row.ow (base := w.heap.size) HB.out.1.size (by rw [cI_len, rankF_len L _ _ rfl, HLEN.out.1]; omega)
        rw [cI_len, rankF_len L _ _ rfl, HLEN.out.1, List.take_of_length_le (by omega)] at this
        exact this
      | succ g =>
        have hk : (j : Int) < (n : Int) := by omega
        obtain ⟨i, hi⟩ : ∃ i, O[j]? = some i := ⟨_, List.getElem?_eq_getElem (by omega)⟩
        have HJ := Lib.hid (RkJ.of HP.out hi)
        have hin : i < n := by have := HJ.out.lt; rw [HLEN.out.1] at this; exact this
        have hrd := (HR.out.below HS.out.bel).rd
        obtain ⟨ad, rfl, -⟩ := hrd.addr (by omega) (by omega)
        have hoc := hrd.icell (cI_get hi)
        obtain ⟨ad0, Ai, ci, rfl, hro⟩ := H0.out.row2 (i := i) (by rw [HLEN.out.1]; exact hin)
        obtain ⟨hcl, hr⟩ := hro wr (HB.out.1.past HS.out.bel)
        have hrc2 := hr.cap
        have hrm2 := hr.max
        unfold maxLen at hrm2
        have HRO := Lib.hid hro
        clear hro hr hi hrd
        obtain ⟨l, hl⟩ : ∃ l, lean' L i = l := ⟨_, rfl⟩
        rw [hl] at HRO hcl hrc2
        have HLl := Lib.hid hl
        clear hl
        go_wp2_with fail
        go_loopg [9] l.length (fun g2 q33 wi => ∃ k : Nat, k + g2 = l.length ∧ q33 = .int .i64 (k : Nat) ∧ Hid (RnS w1 w1.heap.size (rInner i (rankF L (O.take j)) (l.take k)) wi))
        case atStart => exact ⟨0, by omega, rfl, Lib.hid (by rw [List.take_zero]; exact HS.out)⟩
        case round =>
          obtain ⟨k, hkl, rfl, HK⟩ := hrel
          cases gk with
          | zero =>
            have hkk : ¬ ((k : Int) < (l.length : Int)) := by omega
            obtain ⟨hcl, -⟩ := HRO.out wr (HB.out.1.past HK.out.bel)
            have HKL : Hid (l.length ≤ k) := Lib.hid (by omega)
            clear hkl
            go_wp2_with fail
            go_roundg g
            case measure => omega
            case rel =>
              refine ⟨j + 1, by omega, by go_num, Lib.hid ?_⟩
              rw [rankF_take HJ.out.at_, HLl.out]
              have := HK.out
              rwa [List.take_of_length_le HKL.out] at this
          | succ g2 =>
            have hkk : (k : Int) < (l.length : Int) := by omega
            obtain ⟨x, hx⟩ : ∃ x, l[k]? = some x := ⟨_, List.getElem?_eq_getElem (by omega)⟩
            have hxn : x < n := by
              have := HB.out.2.1 i x (by rw [HLl.out]; exact List.mem_of_getElem? hx)
              rw [HLEN.out.1] at this; exact this
            have HX := Lib.hid hx
            obtain ⟨hcl, hR2⟩ := HRO.out wr (HB.out.1.past HK.out.bel)
            obtain ⟨Q, hQ⟩ : ∃ Q, rInner i (rankF L (O.take j)) (l.take k) = Q := ⟨_, rfl⟩
            have hQl : Q.length = n := by rw [← hQ, rInner_len, rankF_len L _ _ rfl, HLEN.out.1]
            have hQb : ∀ y, rk Q y ≤ j + 1 := by rw [← hQ, ← HLl.out]; exact HJ.out.inner k
            have HQ : Hid (rInner i (rankF L (O.take j)) (l.take (k + 1)) = Q.set i (max (rk Q i) (rk Q x + 1))) := Lib.hid (by rw [rInner_take hx, hQ])
            rw [hQ] at HK
            obtain ⟨adl, rfl, -⟩ := hR2.addr (by omega) (by omega)
            have hxc := hR2.icell (cI_get hx)
            have hci := HK.out.row.cell (rk_cell (R := Q) (i := i) (by omega))
            have hcx := HK.out.row.cell (rk_cell (R := Q) (i := x) (by omega))
            have hfi := HK.out.row.frozen i
            have hwr : IntKind.i64.wrap ((rk Q x : Nat) + 1 : Int) = ((rk Q x + 1 : Nat) : Int) := by have := hQb x; rw [IntKind.wrap_i64] <;> omega
            have hrx := hQb x
            have hri := hQb i
            clear hx hR2 hQb hQ
            go_wp2_with fail
            go_still_tail 19, (by kernel_rfl)
            go_wp2_with fail
            all_goals
              go_roundg g2
              case measure => omega
              case rel =>
                refine ⟨k + 1, by omega, by go_num, Lib.hid ?_⟩
                rw [HQ.out]
                first
                  | (rw [show max (rk Q i) (rk Q x + 1) = rk Q x + 1 by omega]; exact HK.out.put (Nat.le_refl _) _ _)
                  | (rw [show max (rk Q i) (rk Q x + 1) = rk Q i by omega]; exact HK.out.put (Nat.le_refl _) _ _)
end Go.Proofs.Ytjpljkjclamjnaa
