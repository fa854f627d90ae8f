/- The reference's Order. -/
import Derived.Test.YtjpljkjclamjnaaGrRank
namespace Go.Proofs.Ytjpljkjclamjnaa
open Go.RowKit
set_option linter.unusedVariables false
set_option linter.unusedSimpArgs false

def tkB (T : List Nat) (n : Nat) : List Bool := (List.range n).map fun i => T.contains i
theorem tkB_get {T : List Nat} {n i : Nat} (h : i < n) : (tkB T n)[i]? = some (T.contains i) := by simp [tkB, h]
theorem tkB_nil (n : Nat) : tkB [] n = List.replicate n false := by
  apply List.ext_getElem
  · simp [tkB]
  · intro i h1 h2; simp [tkB]
theorem tkB_put {T : List Nat} {n i : Nat} : (tkB T n).set i true = tkB (T ++ [i]) n := by
  apply List.ext_getElem
  · simp [tkB]
  · intro j h1 h2
    simp only [tkB, List.getElem_set, List.getElem_map, List.getElem_range]
    split
    · subst_vars; simp
    · rw [Bool.eq_iff_iff]; simp; omega

structure ROrd (w : World) (n : Nat) (T : List Nat) (A' : Option Addr) (c' : Nat) (W : World) : Prop where
  row : RowB W w.heap.size (tkB T n)
  out : IOw W (w.heap.size + 1) A' T.length c' (cI T)
  bel : Below w.heap.size w W
  sz : w.heap.size + 1 ≤ W.heap.size
theorem ROrd.init (w : World) (n : Nat) : ROrd w n [] none 0 (w.alloc (.cells (bvB (List.replicate n false)).toArray 4)) := by
  refine ⟨?_, Ow.nil _ _ _ _, (Below.refl _ w).alloc (Nat.le_refl _) _, by simp⟩
  rw [tkB_nil]; exact Blk.new _ _ _
theorem ROrd.row1 {w W : World} {A' : Option Addr} {n c' i : Nat} {T : List Nat} (h : ROrd w n T A' c' W) (ob : Obj) : IOw ((W.setCell ⟨w.heap.size, i, none⟩ (.bool true)).alloc ob) (w.heap.size + 1) A' T.length c' (cI T) := by
  refine Ow.alloc (Ow.setOther h.out _ _ (fun e => ?_)) ob
  have := (h.out.lt e).1
  simp at this
  omega
theorem ROrd.sz2 {w W : World} {A' : Option Addr} {n c' i : Nat} {T : List Nat} (h : ROrd w n T A' c' W) (ob : Obj) : w.heap.size + 1 ≤ ((W.setCell ⟨w.heap.size, i, none⟩ (.bool true)).alloc ob).heap.size := by
  have := h.sz
  rw [World.size_alloc]
  simp only [World.setCell, Array.size_modify]
  omega
theorem Rd.oneS (W : World) (p : Addr) (u : Value) (t : TypeId) (z : Int) : Rd ((W.setCell p u).alloc (.cells #[.int .i64 z] t)) 1 (some ⟨W.heap.size, 0, none⟩) 1 1 (ivI [z]) := by
  have := Rd.oneI (W.setCell p u) t z
  rwa [show (W.setCell p u).heap.size = W.heap.size by simp [World.setCell]] at this
theorem ROrd.step {w W w2 : World} {A' A2 : Option Addr} {n c' c2 i : Nat} {T : List Nat} {ob : Obj} (h : ROrd w n T A' c' W)
    (ho : IOw w2 (w.heap.size + 1) A2 (T.length + 1) c2 (cI T ++ [(i : Int)])) (hg2 : ((W.setCell ⟨w.heap.size, i, none⟩ (.bool true)).alloc ob).grownBy w2 (blk A')) : ROrd w n (T ++ [i]) A2 c2 w2 := by
  have hsz := h.sz
  have hs2 := hg2.size
  rw [World.size_alloc] at hs2
  have hs1 : (W.setCell ⟨w.heap.size, i, none⟩ (.bool true)).heap.size = W.heap.size := by simp [World.setCell]
  have hr : some w.heap.size ≠ blk A' := fun e => by have := (h.out.lt e.symm).1; omega
  refine ⟨?_, ?_, ?_, by omega⟩
  · rw [← tkB_put]
    exact Blk.grown (Blk.alloc (RowB.set h.row i true) ob) hg2 (fun e => hr e.symm)
  · rw [show (T ++ [i]).length = T.length + 1 by simp, cI_app]; exact ho
  · refine ((h.bel.setCell (Nat.le_refl _) _).alloc (by omega) ob).grown hg2 (by simp; omega) (fun k e => ?_)
    have := (h.out.lt e).1; omega

/-- the least ready one from m on, or -1 -/
def LowI (L : List (List Nat)) (T : List Nat) (n m : Nat) (v : Int) : Prop :=
  (v = -1 ∧ ∀ k, m ≤ k → k < n → rdyB L T k = false) ∨ ∃ i : Nat, v = (i : Int) ∧ m ≤ i ∧ i < n ∧ rdyB L T i = true ∧ ∀ k, m ≤ k → k < i → rdyB L T k = false
theorem LowI.no {L : List (List Nat)} {T : List Nat} {n m : Nat} {v : Int} (h : LowI L T n (m + 1) v) (hr : rdyB L T m = false) : LowI L T n m v := by
  rcases h with ⟨h1, h2⟩ | ⟨i, h1, h2, h3, h4, h5⟩
  · refine .inl ⟨h1, fun k hk hn => ?_⟩
    rcases Nat.eq_or_lt_of_le hk with rfl | h
    · exact hr
    · exact h2 k h hn
  · refine .inr ⟨i, h1, by omega, h3, h4, fun k hk hn => ?_⟩
    rcases Nat.eq_or_lt_of_le hk with rfl | h
    · exact hr
    · exact h5 k h hn
theorem LowI.yes {L : List (List Nat)} {T : List Nat} {n m : Nat} (hm : m < n) (hr : rdyB L T m = true) : LowI L T n m (m : Int) := .inr ⟨m, rfl, Nat.le_refl _, hm, hr, fun k h1 h2 => by omega⟩

set_option maxHeartbeats 2000000 in
theorem rorder_any (A : Option Addr) (n c : Nat) (ls : List (List Int)) (w : World) (h : II w A n c ls) (hn : n ≤ 1000) :
    Calls Try.prog 16 #[.slice A n c] w (OrderP ls w) := by
  have hc := h.cap
  have hm := h.max
  unfold maxLen at hm
  have cM := rmay_any A n c ls w h
  have H0 := Lib.hid h
  clear h
  go_enter Try.func16, Try.ntmps16
  go_wp2_with fail
  refine cM.mono ?_
  rintro e w' ⟨rfl, rfl⟩
  cases hmay : mayI ls with
  | false =>
    have HMAY := Lib.hid hmay
    clear hmay cM
    go_wp2_with fail
    go_ret2
    refine ⟨Below.refl _ _, fun _ => rfl, ?_, ?_⟩
    · rintro L rfl hok
      have := mayI_cL hok
      rw [HMAY.out] at this; cases this
    · rintro L O rfl hok
      have := mayI_cL hok
      rw [HMAY.out] at this; cases this
  | true =>
    obtain ⟨L, rfl, hok⟩ := mayI_cast hmay
    have HMAY := Lib.hid hmay
    have HOK := Lib.hid hok
    have hlen : L.length = n := by have := H0.out.len; simpa using this
    have HLEN := Lib.hid hlen
    clear hmay hok hlen cM
    have hmk := make_bools n (by omega)
    go_wp2_with fail
    clear hmk
    go_loopg [5] n (fun g q5 wr => ∃ (T : List Nat) (A' : Option Addr) (c' : Nat), T.length + g = n ∧ q5 = .slice A' T.length c' ∧ Hid (ROrd w n T A' c' wr) ∧ Hid (Part L T ∧ ordGo L g T = orderF L))
    case atStart => exact ⟨[], none, 0, by simp, rfl, Lib.hid (ROrd.init w n), Lib.hid ⟨Part.nil L, by rw [← HLEN.out]; rfl⟩⟩
    case round =>
      obtain ⟨T, A', c', hg, rfl, HS, HT⟩ := hrel
      obtain ⟨W, hWe⟩ : ∃ W, W = wr := ⟨_, rfl⟩
      subst hWe
      cases gk with
      | zero =>
        have hk : ¬ ((T.length : Int) < (n : Int)) := by omega
        go_wp2_with fail
        go_ret2
        exact OrderP.ok HS.out.bel HMAY.out (HT.out.2.symm) (Ow.le HS.out.out (by omega))
      | succ g =>
        have hk : (T.length : Int) < n := by omega
        have hwr : IntKind.i64.wrap ((n : Int) - 1) = (n : Int) - 1 := by rw [IntKind.wrap_i64] <;> omega
        go_wp2_with fail
        go_loopg [6, 7] n (fun g2 q6 q7 wi => ∃ (z v : Int), z + 1 = (g2 : Int) ∧ g2 ≤ n ∧ q6 = .int .i64 v ∧ q7 = .int .i64 z ∧ wi = W ∧ Hid (LowI L T n g2 v))
        case atStart => exact ⟨(n : Int) - 1, -1, by omega, Nat.le_refl _, rfl, by go_num, rfl, Lib.hid (.inl ⟨rfl, fun k h1 h2 => by omega⟩)⟩
        case round =>
          obtain ⟨z, v, hz, hle, rfl, rfl, rfl, HF⟩ := hrel
          cases gk with
          | zero =>
            obtain rfl : z = -1 := by omega
            rcases HF.out with ⟨rfl, hno⟩ | ⟨i, rfl, -, hin, hri, hless⟩
            · have HNO := Lib.hid hno
              clear hno
              go_wp2_with fail
              go_ret2
              refine OrderP.cyc HS.out.bel HMAY.out ?_
              rw [← HT.out.2]
              have := nextF_of_none (L := L) (T := T) (fun j hj => HNO.out j (Nat.zero_le _) (by rw [HLEN.out] at hj; omega))
              simp only [ordGo, this]
            · have HNX := Lib.hid (nextF_of (L := L) (T := T) (by rw [HLEN.out]; exact hin) hri (fun j hj => hless j (Nat.zero_le _) hj))
              have HRI := Lib.hid hri
              have hni : ¬ ((i : Int) < 0) := by omega
              have hfi := HS.out.row.frozen i
              have hci := HS.out.row.cell (tkB_get hin)
              clear hri hless
              go_wp2_with (at_builtin; refine app_int rfl (.tmp 62) (.tmp 64) rfl (w.heap.size + 1) A' c' T.length (cI T) rfl (HS.out.row1 _) _ 1 1 [(i : Int)] rfl (Rd.oneS _ _ _ _ _) (by omega) (HS.out.sz2 _) ?_; intro A2 c2 w2 ho2 hg2 hat2; have HO2 := Lib.hid ho2; have HG2 := Lib.hid hg2; clear ho2 hg2 hat2)
              go_roundg g
              case measure => omega
              case rel =>
                refine ⟨T ++ [i], A2, c2, by simp; omega, by simp, Lib.hid (HS.out.step HO2.out HG2.out), Lib.hid ⟨HT.out.1.snoc (by rw [HLEN.out]; omega) HRI.out, ?_⟩⟩
                rw [← HT.out.2]
                simp only [ordGo, HNX.out]
          | succ m =>
            obtain rfl : z = (m : Int) := by omega
            have hz0 : (0 : Int) ≤ (m : Int) := by omega
            have hmn : m < n := by omega
            have hfi := HS.out.row.frozen m
            have hci := HS.out.row.cell (tkB_get hmn)
            obtain ⟨ad0, Ai, ci, rfl, hro⟩ := H0.out.row2 (i := m) (by rw [HLEN.out]; exact hmn)
            obtain ⟨hcl, hr⟩ := hro wr HS.out.bel
            have hrc := hr.cap
            have hrm := hr.max
            unfold maxLen at hrm
            have HLT : Hid (∀ x, x ∈ lean' L m → x < n) := Lib.hid (fun x hx => by have := HOK.out m x hx; rw [HLEN.out] at this; exact this)
            have HRY : Hid (rdyB L T m = (!T.contains m && (lean' L m).all fun x => T.contains x)) := Lib.hid rfl
            obtain ⟨l, hl⟩ : ∃ l, lean' L m = l := ⟨_, rfl⟩
            rw [hl] at hcl hr hrc HLT HRY
            have HR := Lib.hid hr
            clear hl hr hro hz
            have hwz : IntKind.i64.wrap ((m : Int) - 1) = (m : Int) - 1 := by rw [IntKind.wrap_i64] <;> omega
            go_wp2_with fail
            go_loopg [8, 9] l.length (fun g3 q8 q9 wi => ∃ k : Nat, ∃ y : Bool, k + g3 = l.length ∧ q8 = .bool y ∧ q9 = .int .i64 (k : Nat) ∧ wi = wr ∧ Hid (y = (!T.contains m && (l.take k).all fun x => T.contains x)))
            case atStart => exact ⟨0, _, by omega, rfl, rfl, rfl, Lib.hid (by simp)⟩
            case round =>
              obtain ⟨k, y, hkl, rfl, rfl, rfl, HY⟩ := hrel
              cases gk with
              | zero =>
                have HYR : Hid (y = rdyB L T m) := Lib.hid (by rw [HY.out, HRY.out, List.take_of_length_le (by omega)])
                have hkk : ¬ ((k : Int) < (l.length : Int)) := by omega
                clear hkl
                have hwd : IntKind.i64.wrap ((m : Int) - 1) = (m : Int) - 1 := by rw [IntKind.wrap_i64] <;> omega
                cases y with
                | false =>
                  have HF2 := Lib.hid (HF.out.no HYR.out.symm)
                  go_wp2_with fail
                  go_roundg m
                  case measure => omega
                  case rel => exact ⟨(m : Int) - 1, v, by omega, by omega, rfl, by go_num, rfl, HF2⟩
                | true =>
                  have HF2 := Lib.hid (LowI.yes hmn HYR.out.symm)
                  go_wp2_with fail
                  go_roundg m
                  case measure => omega
                  case rel => exact ⟨(m : Int) - 1, (m : Int), by omega, by omega, rfl, by go_num, rfl, HF2⟩
              | succ g3 =>
                have hkk : (k : Int) < (l.length : Int) := by omega
                obtain ⟨x, hx⟩ : ∃ x, l[k]? = some x := ⟨_, List.getElem?_eq_getElem (by omega)⟩
                obtain ⟨adl, rfl, -⟩ := HR.out.addr (by omega) (by omega)
                have hxc := HR.out.icell (cI_get hx)
                have hxn := HLT.out x (List.mem_of_getElem? hx)
                have hcx := HS.out.row.cell (tkB_get hxn)
                have HY2 : Hid ((y && T.contains x) = (!T.contains m && (l.take (k + 1)).all fun x => T.contains x)) := Lib.hid (by
                  rw [List.take_add_one, hx, List.all_append, HY.out]; simp [Bool.and_assoc])
                clear hx
                cases y with
                | false =>
                  go_wp2_with fail
                  go_roundg g3
                  case measure => omega
                  case rel => exact ⟨k + 1, false, by omega, rfl, by go_num, rfl, HY2⟩
                | true =>
                  go_wp2_with fail
                  go_roundg g3
                  case measure => omega
                  case rel => exact ⟨k + 1, _, by omega, rfl, by go_num, rfl, Lib.hid (by simpa using HY2.out)⟩
end Go.Proofs.Ytjpljkjclamjnaa
