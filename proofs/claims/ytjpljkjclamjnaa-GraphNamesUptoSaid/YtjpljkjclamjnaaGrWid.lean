/- Widest, both. -/
import Derived.Test.YtjpljkjclamjnaaGrRRank
import Derived.Maps.Own
import Derived.BigQuiet
namespace Go.RowKit
theorem Below.drewN {B : Nat} {a w : World} (h : Below B a w) (n : Nat) : Below B a (w.drewN n) := ⟨h.os, h.tape, h.output, h.size, h.block⟩
end Go.RowKit
namespace Go.Proofs.Ytjpljkjclamjnaa
open Go.RowKit
set_option linter.unusedVariables false
set_option linter.unusedSimpArgs false

def ccnt (T : List Nat) : Int → Nat := fun z => (cI T).count z
theorem ccnt_nat (T : List Nat) (i : Nat) : ccnt T (i : Int) = T.count i := by
  induction T with
  | nil => rfl
  | cons a T ih =>
    simp only [ccnt, cI, List.map_cons, List.count_cons] at ih ⊢
    rw [ih]
    congr 1
    by_cases h : a = i
    · simp [h]
    · have : ¬ ((a : Int) = (i : Int)) := by omega
      simp [h, this]
theorem ccnt_put (T : List Nat) (i : Nat) : fput (ccnt T) (i : Int) (T.count i + 1) = ccnt (T ++ [i]) := by
  funext z
  by_cases hz : z = (i : Int)
  · subst hz; rw [fput_same, ccnt_nat]; simp
  · rw [fput_other _ _ hz]
    unfold ccnt
    rw [cI_app, List.count_append]
    have : ¬ ((i : Int) = z) := fun e => hz e.symm
    simp [cI, List.count_cons, this]

/-- how wide ls is -/
def WidV (ls : List (List Int)) (v : Nat) : Prop :=
  (mayI ls = false → v = 0) ∧ (∀ L, ls = cL L → okG L → orderF L = none → v = 0) ∧ (∀ L O, ls = cL L → okG L → orderF L = some O → v = wid (rankF L O))
def WidP (ls : List (List Int)) (w : World) (e : Ending) (w' : World) : Prop := Below w.heap.size w w' ∧ ∃ v : Nat, e = .returned (.int .i64 (v : Int)) ∧ WidV ls v
theorem RanksP.row {ls : List (List Int)} {w w1 : World} {e : Ending} {n : Nat} (h : RanksP ls w e w1) (hn : ls.length = n) (hm : n ≤ 1000) :
    ∃ (A : Option Addr) (c : Nat) (R : List Nat) (er : Int), e = .returned (.tuple #[.slice A R.length c, .int .i64 er]) ∧ Rd w1 1 A R.length c (ivI (cI R)) ∧ R.length ≤ 1000 ∧ (∀ (j r : Nat), R[j]? = some r → r ≤ 1000) ∧ WidV ls (wid R) ∧ (er = 0 ∨ ((er = 2 ∨ er = 200) ∧ R = [])) := by
  obtain ⟨h1, h2, h3, h4⟩ := h
  cases hmay : mayI ls with
  | false =>
    refine ⟨none, 0, [], 2, h2 hmay, (Ow.nil w1 0 3 1).rd, by simp, by simp, ⟨fun _ => rfl, ?_, ?_⟩, .inr ⟨.inl rfl, rfl⟩⟩
    · rintro L rfl hok; rw [mayI_cL hok] at hmay; cases hmay
    · rintro L O rfl hok; rw [mayI_cL hok] at hmay; cases hmay
  | true =>
    obtain ⟨L, rfl, hok⟩ := mayI_cast hmay
    cases ho : orderF L with
    | none =>
      refine ⟨none, 0, [], 200, h3 L rfl hok ho, (Ow.nil w1 0 3 1).rd, by simp, by simp, ⟨fun _ => rfl, fun _ _ _ _ => rfl, ?_⟩, .inr ⟨.inr rfl, rfl⟩⟩
      intro L' O e _ h'; rw [← cL_inj e, ho] at h'; cases h'
    | some O =>
      obtain ⟨A, c, e1, e2⟩ := h4 L O rfl hok ho
      have hl : (rankF L O).length = L.length := rankF_len L _ _ rfl
      have hL : L.length = n := by simpa using hn
      refine ⟨A, c, rankF L O, 0, by rw [hl]; exact e1, by rw [hl]; exact e2.rd, by omega, ?_, ⟨?_, ?_, ?_⟩, .inl rfl⟩
      · intro j r hr
        have hb := rank_bound O.length O rfl (orderF_part ho).1 j
        rw [(orderF_part ho).2] at hb
        unfold rk at hb
        rw [List.getD_eq_getElem?_getD, hr] at hb
        simp at hb; omega
      · intro e; rw [mayI_cL hok] at e; cases e
      · intro L' e _ h'; rw [← cL_inj e, ho] at h'; cases h'
      · intro L' O' e _ h'
        obtain rfl := cL_inj e
        rw [ho] at h'; cases h'; rfl
theorem wid_le_len (R : List Nat) : wid R ≤ R.length := wid_iff.2 (fun r => List.count_le_length)
theorem wid_take {R : List Nat} {j r : Nat} (h : R[j]? = some r) : wid (R.take (j + 1)) = max (wid (R.take j)) ((R.take j).count r + 1) := by
  rw [List.take_add_one, h]; exact wid_snoc _ _

structure WdS (w : World) (b : Nat) (T : List Nat) (W : World) : Prop where
  m : MI W b T.length (ccnt T)
  bel : Below w.heap.size w W
theorem WdS.step {w W w1 : World} {b r j : Nat} {R : List Nat} (h : WdS w b (R.take j) W) (hr : R[j]? = some r) (hb : w.heap.size ≤ b)
    (hm : MI w1 b ((R.take j).length + 1) (fput (ccnt (R.take j)) (r : Int) ((R.take j).count r + 1))) (hg : W.grownBy w1 (some b)) : WdS w b (R.take (j + 1)) w1 := by
  have e : R.take (j + 1) = R.take j ++ [r] := by rw [List.take_add_one, hr]; rfl
  refine ⟨?_, h.bel.grown hg h.bel.size (fun k hk => by cases hk; exact hb)⟩
  rw [e, show (R.take j ++ [r]).length = (R.take j).length + 1 by simp, ← ccnt_put]
  exact hm

set_option maxHeartbeats 2000000 in
theorem widest_any (A : Option Addr) (n c : Nat) (ls : List (List Int)) (w : World) (h : II w A n c ls) (hn : n ≤ 1000) :
    Calls Try.prog 12 #[.slice A n c] w (WidP ls w) := by
  have hc := h.cap
  have hm := h.max
  unfold maxLen at hm
  have hlen := h.len
  have cR := ranks_any A n c ls w h hn
  clear h
  have hmm := @run_makeMap Try.prog
  go_enter Try.func12, Try.ntmps12
  go_wp2_with fail
  refine cR.mono ?_
  intro e w1 hP
  have hb1 := hP.1
  obtain ⟨A1, c1, R, er, rfl, hrd, hRl, hRb, hV, -⟩ := hP.row hlen hn
  have hrc := hrd.cap
  have hrm := hrd.max
  unfold maxLen at hrm
  have HB := Lib.hid hb1
  have HR := Lib.hid hrd
  have HRB := Lib.hid hRb
  have HV := Lib.hid hV
  clear hb1 hrd hRb hV hP cR hlen
  go_wp2_with fail
  clear hmm
  go_loopg [2, 16] R.length (fun g q2 q16 wr => ∃ j : Nat, j + g = R.length ∧ q16 = .int .i64 (j : Nat) ∧ q2 = .int .i64 (wid (R.take j) : Nat) ∧ Hid (WdS w1 w1.heap.size (R.take j) wr))
  case atStart => exact ⟨0, by omega, rfl, rfl, Lib.hid ⟨MI.new w1, (Below.refl _ w1).alloc (Nat.le_refl _) _⟩⟩
  case round =>
    obtain ⟨j, hj, rfl, rfl, HS⟩ := hrel
    cases gk with
    | zero =>
      have hk : ¬ ((j : Int) < (R.length : Int)) := by omega
      have HJ : Hid (R.take j = R) := Lib.hid (List.take_of_length_le (by omega))
      clear hj
      go_wp2_with fail
      go_ret
      exact ⟨HB.out.past HS.out.bel, _, rfl, by rw [HJ.out]; exact HV.out⟩
    | succ g =>
      have hk : (j : Int) < (R.length : Int) := by omega
      obtain ⟨r, hr⟩ : ∃ r, R[j]? = some r := ⟨_, List.getElem?_eq_getElem (by omega)⟩
      have hr1 := HRB.out j r hr
      have hrr := HR.out.below HS.out.bel
      obtain ⟨ad, rfl, -⟩ := hrr.addr (by omega) (by omega)
      have hrc := hrr.icell (cI_get hr)
      have hl0 := HS.out.m.look (k := (r : Int)) (by omega) (by omega)
      rw [ccnt_nat] at hl0
      have hct : (R.take j).count r ≤ j := Nat.le_trans List.count_le_length (by simp; omega)
      have hwl : wid (R.take j) ≤ j := Nat.le_trans (wid_le_len _) (by simp; omega)
      have HW := Lib.hid (wid_take hr)
      have HX := Lib.hid hr
      obtain ⟨T, hT⟩ : ∃ T, T = R.take j := ⟨_, rfl⟩
      have HT := Lib.hid hT
      obtain ⟨d, hd⟩ : ∃ d, d = wid (R.take j) := ⟨_, rfl⟩
      obtain ⟨k, hk2⟩ : ∃ k, k = (R.take j).count r := ⟨_, rfl⟩
      rw [← hk2] at hl0 hct HW
      rw [← hd] at hwl HW ⊢
      have HD := Lib.hid (And.intro hd hk2)
      clear hr hrr hT hd hk2
      have hwr : IntKind.i64.wrap ((k : Int) + 1) = ((k + 1 : Nat) : Int) := by rw [IntKind.wrap_i64] <;> omega
      go_wp2_with (at_mapUpdate; refine put_MI rfl _ _ _ rfl w1.heap.size (R.take j).length (ccnt (R.take j)) rfl HS.out.m (by unfold maxLen; simp; omega) (r : Int) (by omega) (by omega) rfl (k + 1) (by omega) (by omega) rfl ?_; intro w2 hm2 hg2; have hl2 := hm2.look (k := (r : Int)) (by omega) (by omega); rw [fput_same] at hl2; have HM2 := Lib.hid hm2; have HG2 := Lib.hid hg2; clear hm2 hg2)
      all_goals
        go_roundg g
        case measure => omega
        case rel =>
          refine ⟨j + 1, by omega, by go_num, ?_, Lib.hid (HS.out.step HX.out (Nat.le_refl _) (by rw [← HD.out.2]; exact HM2.out) HG2.out)⟩
          rw [HW.out]
          first
            | (rw [show max d (k + 1) = k + 1 by omega]; done)
            | (rw [show max d (k + 1) = k + 1 by omega]; go_num)
            | (rw [show max d (k + 1) = d by omega])

def wp (R l : List Nat) : Nat := l.foldl (fun a r => max a (R.count r)) 0
theorem wp_take {R : List Nat} {j r : Nat} (h : R[j]? = some r) : wp R (R.take (j + 1)) = max (wp R (R.take j)) (R.count r) := by
  rw [List.take_add_one, h]; unfold wp; rw [List.foldl_append]; rfl
theorem wp_le (R l : List Nat) : wp R l ≤ R.length := wid_le l 0 R.length |>.2 ⟨Nat.zero_le _, fun r _ => List.count_le_length⟩
theorem count_take {R : List Nat} {k x r : Nat} (h : R[k]? = some x) : (R.take (k + 1)).count r = (R.take k).count r + if x = r then 1 else 0 := by
  rw [List.take_add_one, h, List.count_append]; simp [List.count_cons]
set_option maxHeartbeats 2000000 in
theorem rwidest_any (A : Option Addr) (n c : Nat) (ls : List (List Int)) (w : World) (h : II w A n c ls) (hn : n ≤ 1000) :
    Calls Try.prog 20 #[.slice A n c] w (WidP ls w) := by
  have hc := h.cap
  have hm := h.max
  unfold maxLen at hm
  have hlen := h.len
  have cR := rranks_any A n c ls w h hn
  clear h
  go_enter Try.func20, Try.ntmps20
  go_wp2_with fail
  refine cR.mono ?_
  intro e w1 hP
  have hb1 := hP.1
  obtain ⟨A1, c1, R, er, rfl, hrd, hRl, hRb, hV, her⟩ := hP.row hlen hn
  have hrc := hrd.cap
  have hrm := hrd.max
  unfold maxLen at hrm
  have HB := Lib.hid hb1
  have HR := Lib.hid hrd
  have HRB := Lib.hid hRb
  have HV := Lib.hid hV
  clear hb1 hrd hRb hV hP cR hlen
  rcases her with rfl | ⟨her, rfl⟩
  case inr =>
    have h0 : ¬ (er = 0) := by omega
    clear her
    go_wp2_with fail
    go_ret
    exact ⟨HB.out, 0, rfl, HV.out⟩
  case inl =>
    go_wp2_with fail
    go_loopg [5, 6] R.length (fun g q5 q6 wr => ∃ j : Nat, j + g = R.length ∧ q6 = .int .i64 (j : Nat) ∧ q5 = .int .i64 (wp R (R.take j) : Nat) ∧ Hid (Below w.heap.size w wr ∧ Rd wr 1 A1 R.length c1 (ivI (cI R))))
    case atStart => exact ⟨0, by omega, rfl, rfl, Lib.hid ⟨HB.out, HR.out⟩⟩
    case round =>
      obtain ⟨j, hj, rfl, rfl, HS⟩ := hrel
      cases gk with
      | zero =>
        have hk : ¬ ((j : Int) < (R.length : Int)) := by omega
        have HJ : Hid (R.take j = R) := Lib.hid (List.take_of_length_le (by omega))
        clear hj
        go_wp2_with fail
        go_ret
        exact ⟨HS.out.1, _, rfl, by rw [HJ.out]; exact HV.out⟩
      | succ g =>
        have hk : (j : Int) < (R.length : Int) := by omega
        obtain ⟨r, hr⟩ : ∃ r, R[j]? = some r := ⟨_, List.getElem?_eq_getElem (by omega)⟩
        have HX := Lib.hid hr
        clear hr
        go_wp2_with fail
        go_loopg [7, 8] R.length (fun g2 q7 q8 wi => ∃ k : Nat, k + g2 = R.length ∧ q8 = .int .i64 (k : Nat) ∧ q7 = .int .i64 ((R.take k).count r : Nat) ∧ Hid (Below w.heap.size w wi ∧ Rd wi 1 A1 R.length c1 (ivI (cI R))))
        case atStart => exact ⟨0, by omega, rfl, rfl, HS⟩
        case round =>
          obtain ⟨k, hkl, rfl, rfl, HS2⟩ := hrel
          cases gk with
          | zero =>
            have hkk : ¬ ((k : Int) < (R.length : Int)) := by omega
            have hJ : R.take k = R := List.take_of_length_le (by omega)
            have HW := Lib.hid (wp_take HX.out)
            obtain ⟨d, hd⟩ : ∃ d, d = wp R (R.take j) := ⟨_, rfl⟩
            obtain ⟨m, hm2⟩ : ∃ m, m = R.count r := ⟨_, rfl⟩
            rw [hJ]
            rw [← hm2] at HW ⊢
            rw [← hd] at HW ⊢
            clear hkl hJ hd hm2
            go_wp2_with fail
            all_goals
              go_roundg g
              case measure => omega
              case rel =>
                refine ⟨j + 1, by omega, by go_num, ?_, HS2⟩
                rw [HW.out]
                first
                  | (rw [show max d m = m by omega]; done)
                  | (rw [show max d m = d by omega]; done)
          | succ g2 =>
            have hkk : (k : Int) < (R.length : Int) := by omega
            obtain ⟨x, hx⟩ : ∃ x, R[k]? = some x := ⟨_, List.getElem?_eq_getElem (by omega)⟩
            have hrr := HS2.out.2
            obtain ⟨ad, rfl, -⟩ := hrr.addr (by omega) (by omega)
            have hc1 := hrr.icell (cI_get hx)
            have hc2 := hrr.icell (cI_get HX.out)
            have HC := Lib.hid (count_take (r := r) hx)
            have hct : (R.take k).count r ≤ k := Nat.le_trans List.count_le_length (by simp; omega)
            obtain ⟨m, hm2⟩ : ∃ m, m = (R.take k).count r := ⟨_, rfl⟩
            rw [← hm2] at HC hct ⊢
            clear hx hrr hm2
            have hwm : IntKind.i64.wrap ((m : Int) + 1) = ((m + 1 : Nat) : Int) := by rw [IntKind.wrap_i64] <;> omega
            by_cases hxr : x = r
            · have hxr' : ((x : Int) == (r : Int)) = true := by simp [hxr]
              have HXR := Lib.hid hxr
              clear hxr
              go_wp2_with fail
              go_quiet (fail)
              go_wp2_with fail
              go_roundg g2
              case measure => omega
              case rel =>
                refine ⟨k + 1, by omega, by go_num, ?_, Lib.hid ⟨HS2.out.1.drewN _, HS2.out.2.drewN _⟩⟩
                rw [HC.out, if_pos HXR.out]; go_num
            · have hxr' : ((x : Int) == (r : Int)) = false := by simp; omega
              have HXR := Lib.hid hxr
              clear hxr
              go_wp2_with fail
              go_quiet (fail)
              go_wp2_with fail
              go_roundg g2
              case measure => omega
              case rel =>
                refine ⟨k + 1, by omega, by go_num, ?_, Lib.hid ⟨HS2.out.1.drewN _, HS2.out.2.drewN _⟩⟩
                rw [HC.out, if_neg HXR.out]; go_num
end Go.Proofs.Ytjpljkjclamjnaa
