/- graph.Ranks. -/
import Derived.Test.YtjpljkjclamjnaaGrOrd2
import Derived.Test.YtjpljkjclamjnaaGrRow
import Derived.StillTailTactics
namespace Go.RowKit
theorem Below.past {a b c : World} (h : Below a.heap.size a b) (k : Below b.heap.size b c) : Below a.heap.size a c := h.trans (k.mono h.size)
end Go.RowKit
namespace Go.Proofs.Ytjpljkjclamjnaa
open Go.RowKit
set_option linter.unusedVariables false
set_option linter.unusedSimpArgs false

theorem rInner_take {i k x : Nat} {l R : List Nat} (h : l[k]? = some x) :
    rInner i R (l.take (k + 1)) = (rInner i R (l.take k)).set i (max (rk (rInner i R (l.take k)) i) (rk (rInner i R (l.take k)) x + 1)) := by
  unfold rInner
  rw [List.take_add_one, h, List.foldl_append]
  rfl
theorem rankF_take {L : List (List Nat)} {O : List Nat} {j i : Nat} (h : O[j]? = some i) : rankF L (O.take (j + 1)) = rInner i (rankF L (O.take j)) (lean' L i) := by
  rw [List.take_add_one, h]
  exact rankF_snoc _ _ _
theorem rankF_len (L : List (List Nat)) : ∀ (n : Nat) (O : List Nat), O.length = n → (rankF L O).length = L.length
  | 0, O, h => by obtain rfl : O = [] := List.eq_nil_of_length_eq_zero h; simp [rankF, rankGo]
  | n + 1, O, h => by
    obtain ⟨A, i, rfl⟩ : ∃ A i, O = A ++ [i] := ⟨O.dropLast, O.getLast (by rintro rfl; cases h), (List.dropLast_concat_getLast _).symm⟩
    rw [rankF_snoc, rInner_len]
    exact rankF_len L n A (by simpa using h)
theorem rk_cell {R : List Nat} {i : Nat} (h : i < R.length) : (cI R)[i]? = some ((rk R i : Nat) : Int) := by
  unfold rk
  rw [cI_get (x := R[i]) (List.getElem?_eq_getElem h)]
  simp [List.getD_eq_getElem?_getD, h]
theorem cI_set (R : List Nat) (i v : Nat) : cI (R.set i v) = (cI R).set i (v : Int) := by simp [cI, List.map_set]
/-- no rank is greater than how many are ranked -/
theorem inner_bound {i : Nat} {m : Nat} : ∀ (l R : List Nat), i < R.length → i ∉ l → (∀ x, rk R x ≤ m) → ∀ x, rk (rInner i R l) x ≤ m + 1 := fun l R hi hn hb x => by
  rw [rInner_rk l R hi hn x]
  split
  · exact (mx_le l _ _).2 ⟨by have := hb i; omega, fun y _ => by have := hb y; omega⟩
  · have := hb x; omega
theorem rank_bound {L : List (List Nat)} : ∀ (n : Nat) (O : List Nat), O.length = n → Part L O → ∀ x, rk (rankF L O) x ≤ n
  | 0, O, h, _, x => by
    obtain rfl : O = [] := List.eq_nil_of_length_eq_zero h
    simp only [rankF, rankGo, List.foldl_nil, rk, List.getD_eq_getElem?_getD, List.getElem?_replicate]
    split <;> simp
  | n + 1, O, h, hp, x => by
    obtain ⟨A, i, rfl⟩ : ∃ A i, O = A ++ [i] := ⟨O.dropLast, O.getLast (by rintro rfl; cases h), (List.dropLast_concat_getLast _).symm⟩
    rw [rankF_snoc]
    have hA := rank_bound n A (by simpa using h) hp.left
    have hi : i < L.length := hp.lt i (by simp)
    refine inner_bound _ _ (by rw [rankF_len L _ A rfl]; exact hi) ?_ hA x
    intro hmem
    have h1 := hp.pre A i [] rfl i hmem
    have := hp.nd
    rw [List.nodup_append] at this
    exact this.2.2 i h1 i (by simp) rfl
/-- what a round of Ranks stands on -/
structure RkJ (L : List (List Nat)) (O : List Nat) (j i : Nat) : Prop where
  at_ : O[j]? = some i
  lt : i < L.length
  no : i ∉ lean' L i
  bd : ∀ x, rk (rankF L (O.take j)) x ≤ j
theorem RkJ.of {L : List (List Nat)} {O : List Nat} {j i : Nat} (hp : Part L O) (h : O[j]? = some i) : RkJ L O j i := by
  have hs : O = O.take j ++ i :: O.drop (j + 1) := by
    have hj : j < O.length := (List.getElem?_eq_some_iff.1 h).1
    have := List.drop_eq_getElem_cons hj
    rw [(List.getElem?_eq_some_iff.1 h).2] at this
    rw [← this, List.take_append_drop]
  refine ⟨h, hp.lt i (List.mem_of_getElem? h), fun hmem => ?_, ?_⟩
  · have h1 := hp.pre _ i _ hs i hmem
    have hnd := hp.nd
    rw [hs, List.nodup_append] at hnd
    exact hnd.2.2 i h1 i (by simp) rfl
  · have hj : j < O.length := (List.getElem?_eq_some_iff.1 h).1
    exact rank_bound j (O.take j) (by simp; omega) (by rw [← List.take_append_drop j O] at hp; exact hp.left)
theorem RkJ.inner {L : List (List Nat)} {O : List Nat} {j i : Nat} (h : RkJ L O j i) (k : Nat) : ∀ x, rk (rInner i (rankF L (O.take j)) ((lean' L i).take k)) x ≤ j + 1 :=
  inner_bound _ _ (by rw [rankF_len L _ _ rfl]; exact h.lt) (fun hm => h.no (List.mem_of_mem_take hm)) h.bd

theorem II.row2 {w : World} {A : Option Addr} {n c i : Nat} {L : List (List Nat)} (h : II w A n c (cL L)) (hi : i < L.length) :
    ∃ ad Ai ci, A = some ad ∧ ∀ w', Below w.heap.size w w' → w'.cell? (ad.add i) = some (.slice Ai (lean' L i).length ci) ∧ Rd w' 1 Ai (lean' L i).length ci (ivI (cI (lean' L i))) := by
  obtain ⟨ad, Ai, ci, rfl, hcl, hr⟩ := h.row i _ (cL_get hi)
  rw [cI_len] at hcl hr
  refine ⟨ad, Ai, ci, rfl, fun w' hb => ⟨?_, hr.below hb⟩⟩
  have hlt := World.block_lt_of_cell? w _ hcl
  rw [hb.cell hlt]
  exact hcl
/-- what both Ranks answer -/
def RanksP (ls : List (List Int)) (w : World) (e : Ending) (w' : World) : Prop :=
  Below w.heap.size w w' ∧ (mayI ls = false → e = .returned (.tuple #[.slice none 0 0, .int .i64 2])) ∧
  (∀ L, ls = cL L → okG L → orderF L = none → e = .returned (.tuple #[.slice none 0 0, .int .i64 200])) ∧
  (∀ L O, ls = cL L → okG L → orderF L = some O → ∃ A c, e = .returned (.tuple #[.slice A L.length c, .int .i64 0]) ∧ IOw w' w.heap.size A L.length c (cI (rankF L O)))
/-- the ways of an answer -/
theorem OrderP.way {ls : List (List Int)} {w w1 : World} {e : Ending} (h : OrderP ls w e w1) :
    Below w.heap.size w w1 ∧ ((mayI ls = false ∧ e = .returned (.tuple #[.slice none 0 0, .int .i64 2])) ∨
      (∃ L, ls = cL L ∧ okG L ∧ orderF L = none ∧ e = .returned (.tuple #[.slice none 0 0, .int .i64 200])) ∨
      (∃ L O A c, ls = cL L ∧ okG L ∧ orderF L = some O ∧ e = .returned (.tuple #[.slice A O.length c, .int .i64 0]) ∧ IOw w1 w.heap.size A O.length c (cI O))) := by
  obtain ⟨h1, h2, h3, h4⟩ := h
  refine ⟨h1, ?_⟩
  cases hm : mayI ls with
  | false => exact .inl ⟨rfl, h2 hm⟩
  | true =>
    obtain ⟨L, rfl, hok⟩ := mayI_cast hm
    cases ho : orderF L with
    | none => exact .inr (.inl ⟨L, rfl, hok, ho, h3 L rfl hok ho⟩)
    | some O =>
      obtain ⟨A, c, e1, e2⟩ := h4 L O rfl hok ho
      exact .inr (.inr ⟨L, O, A, c, rfl, hok, ho, e1, e2⟩)
theorem RanksP.arg {ls : List (List Int)} {w W : World} (hb : Below w.heap.size w W) (hm : mayI ls = false) : RanksP ls w (.returned (.tuple #[.slice none 0 0, .int .i64 2])) W := by
  refine ⟨hb, fun _ => rfl, ?_, ?_⟩
  · rintro L rfl hok; rw [mayI_cL hok] at hm; cases hm
  · rintro L O rfl hok; rw [mayI_cL hok] at hm; cases hm
theorem RanksP.cyc {L : List (List Nat)} {w W : World} (hb : Below w.heap.size w W) (hok : okG L) (h : orderF L = none) : RanksP (cL L) w (.returned (.tuple #[.slice none 0 0, .int .i64 200])) W :=
  ⟨hb, fun e => (by rw [mayI_cL hok] at e; cases e), fun _ _ _ _ => rfl, fun L' O e _ h' => (by rw [← cL_inj e, h] at h'; cases h')⟩
theorem RanksP.ok {L : List (List Nat)} {w W : World} {O : List Nat} {A : Option Addr} {c n : Nat} (hb : Below w.heap.size w W) (hok : okG L) (h : orderF L = some O) (hn : L.length = n) (ho : IOw W w.heap.size A n c (cI (rankF L O))) : RanksP (cL L) w (.returned (.tuple #[.slice A n c, .int .i64 0])) W := by
  subst hn
  refine ⟨hb, fun e => (by rw [mayI_cL hok] at e; cases e), fun L' e _ h' => (by rw [← cL_inj e, h] at h'; cases h'), fun L' O' e _ h' => ?_⟩
  obtain rfl := cL_inj e
  rw [h] at h'; cases h'
  exact ⟨A, c, rfl, ho⟩

structure RnS (w1 : World) (b : Nat) (R : List Nat) (W : World) : Prop where
  row : RowI W b (cI R)
  bel : Below w1.heap.size w1 W
theorem RnS.put {w1 : World} {b : Nat} {R : List Nat} {W : World} (h : RnS w1 b R W) (hb : w1.heap.size ≤ b) (i v : Nat) : RnS w1 b (R.set i v) (W.drew.setCell ⟨b, i, none⟩ (.int .i64 (v : Int))) := by
  refine ⟨?_, h.bel.drew.setCell (by simpa using hb) _⟩
  rw [cI_set]; exact RowI.set h.row i v

theorem RnS.init (w1 : World) (L : List (List Nat)) {n : Nat} (h : L.length = n) : RnS w1 w1.heap.size (rankF L (([] : List Nat).take 0)) (w1.alloc (.cells (ivI (List.replicate n 0)).toArray 3)) := by
  refine ⟨?_, (Below.refl _ w1).alloc (Nat.le_refl _) _⟩
  have : cI (rankF L (([] : List Nat).take 0)) = List.replicate n 0 := by subst h; simp [rankF, rankGo, cI]
  rw [this]
  exact Blk.new _ _ _

set_option maxHeartbeats 2000000 in
theorem ranks_any (A : Option Addr) (n c : Nat) (ls : List (List Int)) (w : World) (h : II w A n c ls) (hn : n ≤ 1000) :
    Calls Try.prog 14 #[.slice A n c] w (RanksP ls w) := by
  have hc := h.cap
  have hm := h.max
  unfold maxLen at hm
  have cO := order_any A n c ls w h hn
  have H0 := Lib.hid h
  clear h
  go_enter Try.func14, Try.ntmps14
  go_wp2_with fail
  refine cO.mono ?_
  intro e w1 hP
  obtain ⟨hb1, ⟨hmay, rfl⟩ | ⟨L, rfl, hok, hno, rfl⟩ | ⟨L, O, A1, c1, rfl, hok, hor, rfl, hrow⟩⟩ := hP.way
  · have HB := Lib.hid (And.intro hb1 hmay)
    clear hb1 hmay hP cO
    go_wp2_with fail
    go_ret2
    exact RanksP.arg HB.out.1 HB.out.2
  · have HB := Lib.hid (And.intro hb1 (And.intro hok hno))
    clear hb1 hok hno hP cO
    go_wp2_with fail
    go_ret2
    exact RanksP.cyc HB.out.1 HB.out.2.1 HB.out.2.2
  · have hlen : L.length = n := by have := H0.out.len; simpa using this
    have hol : O.length = n := by rw [(orderF_part hor).2, hlen]
    have hrc := hrow.cap
    have hrm := hrow.max
    unfold maxLen at hrm
    have HB := Lib.hid (And.intro hb1 (And.intro hok hor))
    have HR := Lib.hid hrow
    have HLEN := Lib.hid (And.intro hlen hol)
    have HP := Lib.hid (orderF_part hor).1
    have hol' := hol
    clear hb1 hok hor hrow hP cO hlen hol
    have hmk := make_ints n (by omega)
    go_wp2_with fail
    clear hmk
    go_loopg [24] n (fun g q24 wr => ∃ j : Nat, j + g = n ∧ q24 = .int .i64 (j : Nat) ∧ Hid (RnS w1 w1.heap.size (rankF L (O.take j)) wr))
    case atStart => exact ⟨0, by omega, rfl, Lib.hid (RnS.init w1 L HLEN.out.1)⟩
    case round =>
      obtain ⟨j, hj, rfl, HS⟩ := hrel
      cases gk with
      | zero =>
        have hk : ¬ ((j : Int) < (n : Int)) := by omega
        go_wp2_with fail
        go_ret2
        refine RanksP.ok (HB.out.1.past HS.out.bel) HB.out.2.1 HB.out.2.2 HLEN.out.1 ?_
        have := HS.out.row.ow (base := w.heap.size) HB.out.1.size (by rw [cI_len, rankF_len L _ _ rfl, HLEN.out.1]; omega)
        rw [cI_len, rankF_len L _ _ rfl, HLEN.out.1, List.take_of_length_le (by omega)] at this
        exact this
      | succ g =>
        have hk : (j : Int) < (n : Int) := by omega
        obtain ⟨i, hi⟩ : ∃ i, O[j]? = some i := ⟨_, List.getElem?_eq_getElem (by omega)⟩
        have HJ := Lib.hid (RkJ.of HP.out hi)
        have hin : i < n := by have := HJ.out.lt; rw [HLEN.out.1] at this; exact this
        have hrd := (HR.out.below HS.out.bel).rd
        obtain ⟨ad, rfl, -⟩ := hrd.addr (by omega) (by omega)
        have hoc := hrd.icell (cI_get hi)
        obtain ⟨ad0, Ai, ci, rfl, hro⟩ := H0.out.row2 (i := i) (by rw [HLEN.out.1]; exact hin)
        obtain ⟨hcl, hr⟩ := hro wr (HB.out.1.past HS.out.bel)
        have hrc2 := hr.cap
        have hrm2 := hr.max
        unfold maxLen at hrm2
        have HRO := Lib.hid hro
        clear hro hr hi hrd
        obtain ⟨l, hl⟩ : ∃ l, lean' L i = l := ⟨_, rfl⟩
        rw [hl] at HRO hcl hrc2
        have HLl := Lib.hid hl
        clear hl
        go_wp2_with fail
        go_loopg [33] l.length (fun g2 q33 wi => ∃ k : Nat, k + g2 = l.length ∧ q33 = .int .i64 (k : Nat) ∧ Hid (RnS w1 w1.heap.size (rInner i (rankF L (O.take j)) (l.take k)) wi))
        case atStart => exact ⟨0, by omega, rfl, Lib.hid (by rw [List.take_zero]; exact HS.out)⟩
        case round =>
          obtain ⟨k, hkl, rfl, HK⟩ := hrel
          cases gk with
          | zero =>
            have hkk : ¬ ((k : Int) < (l.length : Int)) := by omega
            have HKL : Hid (l.length ≤ k) := Lib.hid (by omega)
            clear hkl
            go_wp2_with fail
            go_roundg g
            case measure => omega
            case rel =>
              refine ⟨j + 1, by omega, by go_num, Lib.hid ?_⟩
              rw [rankF_take HJ.out.at_, HLl.out]
              have := HK.out
              rwa [List.take_of_length_le HKL.out] at this
          | succ g2 =>
            have hkk : (k : Int) < (l.length : Int) := by omega
            obtain ⟨x, hx⟩ : ∃ x, l[k]? = some x := ⟨_, List.getElem?_eq_getElem (by omega)⟩
            have hxn : x < n := by
              have := HB.out.2.1 i x (by rw [HLl.out]; exact List.mem_of_getElem? hx)
              rw [HLEN.out.1] at this; exact this
            have HX := Lib.hid hx
            have hR2 := (HRO.out wr (HB.out.1.past HK.out.bel)).2
            obtain ⟨Q, hQ⟩ : ∃ Q, rInner i (rankF L (O.take j)) (l.take k) = Q := ⟨_, rfl⟩
            have hQl : Q.length = n := by rw [← hQ, rInner_len, rankF_len L _ _ rfl, HLEN.out.1]
            have hQb : ∀ y, rk Q y ≤ j + 1 := by rw [← hQ, ← HLl.out]; exact HJ.out.inner k
            have HQ : Hid (rInner i (rankF L (O.take j)) (l.take (k + 1)) = Q.set i (max (rk Q i) (rk Q x + 1))) := Lib.hid (by rw [rInner_take hx, hQ])
            rw [hQ] at HK
            obtain ⟨adl, rfl, -⟩ := hR2.addr (by omega) (by omega)
            have hxc := hR2.icell (cI_get hx)
            have hci := HK.out.row.cell (rk_cell (R := Q) (i := i) (by omega))
            have hcx := HK.out.row.cell (rk_cell (R := Q) (i := x) (by omega))
            have hfi := HK.out.row.frozen i
            have hwr : IntKind.i64.wrap ((rk Q x : Nat) + 1 : Int) = ((rk Q x + 1 : Nat) : Int) := by have := hQb x; rw [IntKind.wrap_i64] <;> omega
            have hrx := hQb x
            have hri := hQb i
            clear hx hR2 hQb hQ
            go_wp2_with fail
            go_still_tail 13, (by kernel_rfl)
            go_wp2_with fail
            all_goals
              go_roundg g2
              case measure => omega
              case rel =>
                refine ⟨k + 1, by omega, by go_num, Lib.hid ?_⟩
                rw [HQ.out]
                first
                  | (rw [show max (rk Q i) (rk Q x + 1) = rk Q x + 1 by omega]; exact HK.out.put (Nat.le_refl _) _ _)
                  | (rw [show max (rk Q i) (rk Q x + 1) = rk Q i by omega]; exact HK.out.put (Nat.le_refl _) _ _)
end Go.Proofs.Ytjpljkjclamjnaa
