/- The reference's steps. -/
import Derived.Test.YtjpljkjclamjnaaGrWave
import Derived.BigRegion
namespace Go.Proofs.Ytjpljkjclamjnaa
open Go.RowKit
set_option linter.unusedVariables false
set_option linter.unusedSimpArgs false

def rv (z : Nat) : Int := if z = 0 then -1 else (z : Int)
theorem rv_zero : rv 0 = -1 := rfl
theorem rv_pos {z : Nat} (h : z ≠ 0) : rv z = (z : Int) := if_neg h
def outL (n : Nat) (g : Nat → Nat) : List Int := (List.range n).map fun i => rv (g i)
theorem outL_len (n : Nat) (g : Nat → Nat) : (outL n g).length = n := by simp [outL]
theorem outL_get {n i : Nat} (g : Nat → Nat) (h : i < n) : (outL n g)[i]? = some (rv (g i)) := by simp [outL, h]
theorem outL_set {n i d : Nat} (g : Nat → Nat) (hd : d ≠ 0) : (outL n g).set i (d : Int) = outL n (upd g i d) := by
  apply List.ext_getElem?
  intro j
  rw [List.getElem?_set]
  by_cases hj : j < n
  · rw [outL_get _ hj, outL_get _ hj, outL_len]
    unfold upd
    by_cases e : i = j
    · subst e; simp [hj, rv_pos hd]
    · rw [if_neg e, if_neg (fun h => e h.symm)]
  · have h1 : (outL n g)[j]? = none := List.getElem?_eq_none (by rw [outL_len]; omega)
    have h2 : (outL n (upd g i d))[j]? = none := List.getElem?_eq_none (by rw [outL_len]; omega)
    rw [h1, h2, outL_len]
    split
    · rw [if_neg (by omega)]
    · rfl
/-- the first j are laid to -1 -/
def iniL (n j : Nat) : List Int := (List.range n).map fun i => if i < j then -1 else 0
theorem iniL_zero (n : Nat) : iniL n 0 = List.replicate n 0 := by
  apply List.ext_getElem?; intro j; by_cases h : j < n <;> simp [iniL, h, List.getElem?_replicate]
theorem iniL_all (n : Nat) : iniL n n = outL n (fun _ => 0) := by
  apply List.ext_getElem?; intro j; by_cases h : j < n <;> simp [iniL, outL, h, rv]
theorem iniL_len (n j : Nat) : (iniL n j).length = n := by simp [iniL]
theorem iniL_set (n j : Nat) : (iniL n j).set j (-1) = iniL n (j + 1) := by
  apply List.ext_getElem?; intro k
  rw [List.getElem?_set, iniL_len]
  by_cases h : k < n
  · by_cases e : j = k
    · subst e; simp [iniL, h]
    · rw [if_neg e]
      simp only [iniL, List.getElem?_map, List.getElem?_range h, Option.map_some]
      congr 1
      by_cases h2 : k < j
      · rw [if_pos h2, if_pos (by omega)]
      · rw [if_neg h2, if_neg (by omega)]
  · have h1 : (iniL n j)[k]? = none := List.getElem?_eq_none (by rw [iniL_len]; omega)
    have h2 : (iniL n (j + 1))[k]? = none := List.getElem?_eq_none (by rw [iniL_len]; omega)
    rw [h1, h2]
    split
    · rw [if_neg (by omega)]
    · rfl

/-! the plain part -/
def edgesTo (L : List (List Nat)) (i k : Nat) : List (Nat × Nat) := ((List.range i).flatMap fun i => (lean' L i).map fun x => (i, x)) ++ ((lean' L i).take k).map fun x => (i, x)
theorem edgesTo_mem {L : List (List Nat)} {i k : Nat} : ∀ e ∈ edgesTo L i k, e.2 ∈ lean' L e.1 := by
  intro e he
  unfold edgesTo at he
  simp only [List.mem_append, List.mem_flatMap, List.mem_range, List.mem_map] at he
  rcases he with ⟨j, _, x, hx, rfl⟩ | ⟨x, hx, rfl⟩
  · exact hx
  · exact List.mem_of_mem_take hx
theorem edgesTo_all (L : List (List Nat)) : edgesTo L L.length 0 = edges L := by simp [edgesTo, edges]
theorem edgesTo_step {L : List (List Nat)} {i k x : Nat} (h : (lean' L i)[k]? = some x) : edgesTo L i (k + 1) = edgesTo L i k ++ [(i, x)] := by
  simp [edgesTo, take_one h]
theorem edgesTo_row (L : List (List Nat)) (i : Nat) : edgesTo L i (lean' L i).length = edgesTo L (i + 1) 0 := by
  simp [edgesTo, List.range_succ]
structure RlP (L : List (List Nat)) (t i k : Nat) (g0 g : Nat → Nat) (a : Bool) : Prop where
  ini : RelI L t g0
  eq : (g, a) = (edgesTo L i k).foldl (rel t) (g0, false)
theorem RlP.start {L : List (List Nat)} {t : Nat} {g0 : Nat → Nat} (h : RelI L t g0) : RlP L t 0 0 g0 g0 false := ⟨h, rfl⟩
theorem RlP.rel {L : List (List Nat)} {t i k : Nat} {g0 g : Nat → Nat} {a : Bool} (h : RlP L t i k g0 g a) : RelI L t g := by
  have := (rel_fold (edgesTo L i k) g0 false edgesTo_mem h.ini).1
  rwa [← h.eq] at this
theorem RlP.le {L : List (List Nat)} {t i k : Nat} {g0 g : Nat → Nat} {a : Bool} (h : RlP L t i k g0 g a) (j : Nat) : g j ≤ L.length := Nat.le_trans (h.rel.le j) (cnt_le _ _)
theorem RlP.step {L : List (List Nat)} {t i k x : Nat} {g0 g g2 : Nat → Nat} {a a2 : Bool} (h : RlP L t i k g0 g a) (hx : (lean' L i)[k]? = some x) (e : (g2, a2) = Go.Proofs.Ytjpljkjclamjnaa.rel t (g, a) (i, x)) : RlP L t i (k + 1) g0 g2 a2 :=
  ⟨h.ini, by rw [edgesTo_step hx, List.foldl_append, ← h.eq, e]; rfl⟩
theorem RlP.same {L : List (List Nat)} {t i k x : Nat} {g0 g : Nat → Nat} {a : Bool} (h : RlP L t i k g0 g a) (hx : (lean' L i)[k]? = some x) (e : x ≠ t ∧ g x = 0) : RlP L t i (k + 1) g0 g a :=
  h.step hx (by unfold Go.Proofs.Ytjpljkjclamjnaa.rel; rw [if_pos e])
def Way (t x : Nat) (g : Nat → Nat) (d : Nat) : Prop := x = t ∧ d = 1 ∨ x ≠ t ∧ g x ≠ 0 ∧ d = g x + 1
theorem RlP.keep {L : List (List Nat)} {t i k x d : Nat} {g0 g : Nat → Nat} {a : Bool} (h : RlP L t i k g0 g a) (hx : (lean' L i)[k]? = some x) (e : Way t x g d) (hn : ¬ (g i = 0 ∨ d < g i)) : RlP L t i (k + 1) g0 g a :=
  h.step hx (by
    unfold Go.Proofs.Ytjpljkjclamjnaa.rel
    rw [if_neg (by rintro ⟨h1, h2⟩; rcases e with e | e; · exact h1 e.1
                   exact e.2.1 h2)]
    simp only
    rw [show (if x = t then 1 else g x + 1) = d by rcases e with e | e; · rw [if_pos e.1, e.2]
                                                   rw [if_neg e.1, e.2.2], if_neg hn])
theorem RlP.better {L : List (List Nat)} {t i k x d : Nat} {g0 g : Nat → Nat} {a : Bool} (h : RlP L t i k g0 g a) (hx : (lean' L i)[k]? = some x) (e : Way t x g d) (hn : g i = 0 ∨ d < g i) : RlP L t i (k + 1) g0 (upd g i d) true :=
  h.step hx (by
    unfold Go.Proofs.Ytjpljkjclamjnaa.rel
    rw [if_neg (by rintro ⟨h1, h2⟩; rcases e with e | e; · exact h1 e.1
                   exact e.2.1 h2)]
    simp only
    rw [show (if x = t then 1 else g x + 1) = d by rcases e with e | e; · rw [if_pos e.1, e.2]
                                                   rw [if_neg e.1, e.2.2], if_pos hn])
theorem RlP.row {L : List (List Nat)} {t i : Nat} {g0 g : Nat → Nat} {a : Bool} (h : RlP L t i (lean' L i).length g0 g a) : RlP L t (i + 1) 0 g0 g a :=
  ⟨h.ini, by rw [← edgesTo_row]; exact h.eq⟩
structure RlO (L : List (List Nat)) (t : Nat) (g : Nat → Nat) (a : Bool) (γ : Nat) : Prop where
  inv : RelI L t g
  bnd : (if a = true then tot L.length g + 1 else 0) ≤ γ
  done : a = false → IsD L t g
theorem RlO.start (L : List (List Nat)) (t : Nat) : RlO L t (fun _ => 0) true (L.length * (L.length + 1) + 1) :=
  ⟨RelI.start L t, by have := tot_le L.length (fun _ => 0) (fun _ => Nat.zero_le _); simp; omega, fun e => by cases e⟩
theorem RlO.next {L : List (List Nat)} {t : Nat} {g0 g : Nat → Nat} {a : Bool} {γ : Nat} (h0 : RlO L t g0 true (γ + 1)) (h : RlP L t L.length 0 g0 g a) : RlO L t g a γ := by
  have hb := h0.bnd
  simp only [if_true] at hb
  have he := h.eq
  rw [edgesTo_all] at he
  obtain ⟨h1, h2, h3, h4, h5⟩ := rel_fold (edges L) g0 false (fun e he => mem_edges.1 he) h0.inv
  rw [← he] at h1 h2 h3 h4 h5
  simp only at h1 h2 h3 h4 h5
  refine ⟨h1, ?_, fun ha => ?_⟩
  · split
    · rename_i ha
      rcases h4 ha with h4 | h4
      · cases h4
      · omega
    · omega
  · obtain ⟨e, hh⟩ := h5 ha
    subst e
    exact rel_done h1 hh
theorem RlO.zero {L : List (List Nat)} {t : Nat} {g : Nat → Nat} (h : RlO L t g true 0) : False := by have := h.bnd; simp at this

structure RsS (w : World) (l : List Int) (W : World) : Prop where
  row : RowI W w.heap.size l
  bel : Below w.heap.size w W
theorem RsS.set {w W : World} {l l' : List Int} {i : Nat} {z : Int} (h : RsS w l W) (e : l.set i z = l') : RsS w l' (W.setCell ⟨w.heap.size, i, none⟩ (.int .i64 z)) :=
  ⟨e ▸ h.row.set i z, h.bel.setCell (Nat.le_refl _) _⟩
theorem RsS.drewN {w W : World} {l : List Int} (h : RsS w l W) (n : Nat) : RsS w l (W.drewN n) := ⟨h.row, h.bel.drewN n⟩

set_option maxHeartbeats 2000000 in
theorem rsteps_any (A : Option Addr) (n c t : Nat) (L : List (List Nat)) (w : World) (h : II w A n c (cL L)) (hn : n ≤ 1000) (hok : okG L) (ht : t < n) :
    Calls Try.prog 25 #[.slice A n c, .int .i64 (t : Int)] w (fun e w' => Below w.heap.size w w' ∧ ∃ g, e = .returned (.slice (some ⟨w.heap.size, 0, none⟩) n n) ∧ RowI w' w.heap.size (outL n g) ∧ IsD L t g ∧ ∀ j, g j ≤ n) := by
  have hc := h.cap
  have hmx := h.max
  unfold maxLen at hmx
  have hlen : L.length = n := by have := h.len; simpa using this
  have HLEN := Lib.hid hlen
  have H0 := Lib.hid h
  have HOK := Lib.hid hok
  clear h hok hlen
  have hmk := make_ints n (by omega)
  go_enter Try.func25, Try.ntmps25
  go_wp2_with fail
  clear hmk
  go_loopg [6] n (fun g q6 wr => ∃ j : Nat, j + g = n ∧ q6 = .int .i64 (j : Nat) ∧ Hid (RsS w (iniL n j) wr))
  case atStart => exact ⟨0, by omega, rfl, Lib.hid ⟨by rw [iniL_zero]; exact Blk.new _ _ _, (Below.refl _ w).alloc (Nat.le_refl _) _⟩⟩
  case round =>
    obtain ⟨j, hj, rfl, HS⟩ := hrel
    cases gk with
    | succ g =>
      have hk : (j : Int) < (n : Int) := by omega
      have hf := HS.out.row.frozen j
      have hcl := HS.out.row.cell (i := j) (z := 0) (by simp [iniL, show j < n by omega])
      go_wp2_with fail
      go_roundg g
      case measure => omega
      case rel => exact ⟨j + 1, by omega, by go_num, Lib.hid (HS.out.set (iniL_set n j))⟩
    | zero =>
      have hk : ¬ ((j : Int) < (n : Int)) := by omega
      have HS0 : Hid (RsS w (outL n (fun _ => 0)) wr) := Lib.hid (by have := HS.out; rwa [show j = n by omega, iniL_all] at this)
      clear HS hj
      go_wp2_with fail
      clear hk
      go_loopg [7] (n * (n + 1) + 1) (fun γ q7 wr => ∃ (g : Nat → Nat) (a : Bool), q7 = .bool a ∧ Hid (RsS w (outL n g) wr) ∧ Hid (RlO L t g a γ))
      case atStart => exact ⟨_, true, rfl, HS0, Lib.hid (by have := RlO.start L t; rwa [HLEN.out] at this)⟩
      case round =>
        obtain ⟨g, a, rfl, HS, HO⟩ := hrel
        cases a with
        | false =>
          go_wp2_with fail
          go_ret
          exact ⟨HS.out.bel, g, rfl, HS.out.row, HO.out.done rfl, fun j => by have := HO.out.inv.le j; have := cnt_le L.length g; rw [HLEN.out] at *; omega⟩
        | true =>
        cases gk with
        | zero => exact absurd HO.out.zero id
        | succ γ =>
          go_wp2_with fail
          go_loopg [7, 8] n (fun g1 q7 q8 wr => ∃ (i : Nat) (g2 : Nat → Nat) (a : Bool), i + g1 = n ∧ q7 = .bool a ∧ q8 = .int .i64 (i : Nat) ∧ Hid (RsS w (outL n g2) wr) ∧ Hid (RlP L t i 0 g g2 a))
          case atStart => exact ⟨0, g, false, by omega, rfl, rfl, HS, Lib.hid (RlP.start HO.out.inv)⟩
          case round =>
            obtain ⟨i, g2, a, hi, rfl, rfl, HS2, HP⟩ := hrel
            cases gk with
            | zero =>
              have hk : ¬ ((i : Int) < (n : Int)) := by omega
              have HI : Hid (i = L.length) := Lib.hid (by rw [HLEN.out]; omega)
              clear hi
              go_wp2_with fail
              go_roundg γ
              case measure => omega
              case rel => exact ⟨g2, a, rfl, HS2, Lib.hid (HO.out.next (by rw [← HI.out]; exact HP.out))⟩
            | succ g1 =>
              have hk : (i : Int) < (n : Int) := by omega
              obtain ⟨ad0, Ai, ci, rfl, hro⟩ := H0.out.row2 (i := i) (by rw [HLEN.out]; omega)
              have hrc := (hro w (Below.refl _ _)).2.cap
              have hrm := (hro w (Below.refl _ _)).2.max
              unfold maxLen at hrm
              have HRO := Lib.hid hro
              clear hro
              go_wp2_with fail
              go_loopg [7, 9] (lean' L i).length (fun g3 q7 q9 wi => ∃ (k : Nat) (g4 : Nat → Nat) (a : Bool), k + g3 = (lean' L i).length ∧ q7 = .bool a ∧ q9 = .int .i64 (k : Nat) ∧ Hid (RsS w (outL n g4) wi) ∧ Hid (RlP L t i k g g4 a))
              case atStart => exact ⟨0, g2, a, by omega, rfl, rfl, HS2, HP⟩
              case round =>
                obtain ⟨k, g4, a, hkl, rfl, rfl, HS4, HP4⟩ := hrel
                obtain ⟨hcl, hr⟩ := HRO.out wr HS4.out.bel
                cases gk with
                | zero =>
                  have hkk : ¬ ((k : Int) < ((lean' L i).length : Int)) := by omega
                  have HE : Hid (k = (lean' L i).length) := Lib.hid (by omega)
                  clear hkl hr
                  go_wp2_with fail
                  go_roundg g1
                  case measure => omega
                  case rel => exact ⟨i + 1, g4, a, by omega, rfl, by go_num, HS4, Lib.hid (RlP.row (by rw [← HE.out]; exact HP4.out))⟩
                | succ g3 =>
                  have hkk : (k : Int) < ((lean' L i).length : Int) := by omega
                  obtain ⟨x, hx⟩ : ∃ x, (lean' L i)[k]? = some x := ⟨_, List.getElem?_eq_getElem (by omega)⟩
                  have hxn : x < n := by have := HOK.out i x (List.mem_of_getElem? hx); rw [HLEN.out] at this; exact this
                  have hin : i < n := by omega
                  obtain ⟨adl, rfl, -⟩ := hr.addr (by omega) (by omega)
                  have hxc := hr.icell (cI_get hx)
                  have hci := HS4.out.row.cell (outL_get g4 hin)
                  have hcx := HS4.out.row.cell (outL_get g4 hxn)
                  have hfi := HS4.out.row.frozen i
                  have hlx := HP4.out.le x
                  have hli := HP4.out.le i
                  rw [HLEN.out] at hlx hli
                  have HX := Lib.hid hx
                  clear hx hr
                  by_cases hxt : x = t
                  · have hne : ((x : Int) != (t : Int)) = false := by simp [hxt]
                    have HD : Hid (Way t x g4 1) := Lib.hid (.inl ⟨hxt, rfl⟩)
                    clear hxt hcx hlx
                    by_cases hz : g4 i = 0
                    · rw [hz, rv_zero] at hci
                      have HN : Hid (g4 i = 0 ∨ 1 < g4 i) := Lib.hid (.inl hz)
                      clear hz
                      go_wp2_with fail
                      go_roundg g3
                      case measure => omega
                      case rel => exact ⟨k + 1, upd g4 i 1, true, by omega, rfl, by go_num, Lib.hid (HS4.out.set (outL_set (d := 1) g4 (by omega))), Lib.hid (HP4.out.better HX.out HD.out HN.out)⟩
                    · rw [rv_pos hz] at hci
                      have hd0 : decide (((g4 i : Nat) : Int) < 0) = false := by simp; try omega
                      by_cases hlt : 1 < g4 i
                      · have HN : Hid (g4 i = 0 ∨ 1 < g4 i) := Lib.hid (.inr hlt)
                        have hltI : (1 : Int) < (g4 i : Int) := by omega
                        clear hz hlt
                        go_wp2_with fail
                        go_roundg g3
                        case measure => omega
                        case rel => exact ⟨k + 1, upd g4 i 1, true, by omega, rfl, by go_num, Lib.hid (HS4.out.set (outL_set (d := 1) g4 (by omega))), Lib.hid (HP4.out.better HX.out HD.out HN.out)⟩
                      · have HN : Hid (¬ (g4 i = 0 ∨ 1 < g4 i)) := Lib.hid (by omega)
                        have hltI : decide ((1 : Int) < (g4 i : Int)) = false := by simp; omega
                        clear hz hlt
                        go_wp2_with fail
                        go_roundg g3
                        case measure => omega
                        case rel => exact ⟨k + 1, g4, a, by omega, rfl, by go_num, HS4, Lib.hid (HP4.out.keep HX.out HD.out HN.out)⟩
                  · have hne : ((x : Int) != (t : Int)) = true := by simp; omega
                    by_cases hgx : g4 x = 0
                    · rw [hgx, rv_zero] at hcx
                      have HD : Hid (x ≠ t ∧ g4 x = 0) := Lib.hid ⟨hxt, hgx⟩
                      clear hxt hgx hci
                      go_wp2_with fail
                      go_roundg g3
                      case measure => omega
                      case rel => exact ⟨k + 1, g4, a, by omega, rfl, by go_num, HS4, Lib.hid (HP4.out.same HX.out HD.out)⟩
                    · rw [rv_pos hgx] at hcx
                      have HD : Hid (Way t x g4 (g4 x + 1)) := Lib.hid (.inr ⟨hxt, hgx, rfl⟩)
                      clear hxt hgx
                      by_cases hz : g4 i = 0
                      · rw [hz, rv_zero] at hci
                        have HN : Hid (g4 i = 0 ∨ g4 x + 1 < g4 i) := Lib.hid (.inl hz)
                        clear hz
                        go_wp2_with fail
                        go_roundg g3
                        case measure => omega
                        case rel => exact ⟨k + 1, upd g4 i (g4 x + 1), true, by omega, rfl, by go_num, Lib.hid (HS4.out.set (by rw [show ((g4 x : Int) + 1) = ((g4 x + 1 : Nat) : Int) by omega]; exact outL_set g4 (by omega))), Lib.hid (HP4.out.better HX.out HD.out HN.out)⟩
                      · rw [rv_pos hz] at hci
                        have hd0 : decide (((g4 i : Nat) : Int) < 0) = false := by simp; try omega
                        by_cases hlt : g4 x + 1 < g4 i
                        · have HN : Hid (g4 i = 0 ∨ g4 x + 1 < g4 i) := Lib.hid (.inr hlt)
                          have hltI : (g4 x : Int) + 1 < (g4 i : Int) := by omega
                          clear hz hlt
                          go_wp2_with fail
                          go_roundg g3
                          case measure => omega
                          case rel => exact ⟨k + 1, upd g4 i (g4 x + 1), true, by omega, rfl, by go_num, Lib.hid (HS4.out.set (by rw [show ((g4 x : Int) + 1) = ((g4 x + 1 : Nat) : Int) by omega]; exact outL_set g4 (by omega))), Lib.hid (HP4.out.better HX.out HD.out HN.out)⟩
                        · have HN : Hid (¬ (g4 i = 0 ∨ g4 x + 1 < g4 i)) := Lib.hid (by omega)
                          have hltI : decide ((g4 x : Int) + 1 < (g4 i : Int)) = false := by simp; omega
                          clear hz hlt
                          go_wp2_with fail
                          go_roundg g3
                          case measure => omega
                          case rel => exact ⟨k + 1, g4, a, by omega, rfl, by go_num, HS4, Lib.hid (HP4.out.keep HX.out HD.out HN.out)⟩
end Go.Proofs.Ytjpljkjclamjnaa
