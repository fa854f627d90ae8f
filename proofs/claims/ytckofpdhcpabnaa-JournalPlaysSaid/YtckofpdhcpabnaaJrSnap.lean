/- journal.Snap. -/
import Derived.Test.YtckofpdhcpabnaaJrApp
namespace Go.Proofs.Ytckofpdhcpabnaa
open Go.RowKit
set_option linter.unusedVariables false
set_option linter.unusedSimpArgs false

def rowsErr : List (List UInt8) → Int
  | [] => 0
  | x :: r => if fErr x ≠ 0 then fErr x else rowsErr r
theorem rowsErr_take {ls : List (List UInt8)} : ∀ {k : Nat}, (∀ x ∈ ls.take k, fErr x = 0) → rowsErr ls = rowsErr (ls.drop k) := by
  induction ls with
  | nil => intro k _; simp
  | cons y ls ih =>
    intro k h
    cases k with
    | zero => rfl
    | succ k =>
      have h0 := h y (by simp)
      show (if fErr y ≠ 0 then fErr y else rowsErr ls) = _
      rw [if_neg (by simpa using h0), List.drop_succ_cons]
      exact ih (fun x hx => h x (by simp [hx]))
theorem rowsErr_bad {ls : List (List UInt8)} {k : Nat} {x : List UInt8} (h : ∀ x ∈ ls.take k, fErr x = 0) (hx : ls[k]? = some x) (hb : fErr x ≠ 0) : rowsErr ls = fErr x := by
  rw [rowsErr_take h]
  obtain ⟨hk, rfl⟩ := List.getElem?_eq_some_iff.1 hx
  rw [List.drop_eq_getElem_cons hk]
  exact if_pos hb
theorem rowsErr_all {ls : List (List UInt8)} (h : ∀ x ∈ ls, fErr x = 0) : rowsErr ls = 0 := by
  rw [rowsErr_take (k := ls.length) (by rw [List.take_length]; exact h), List.drop_length]; rfl
theorem rowsErr_zero : ∀ {ls : List (List UInt8)}, rowsErr ls = 0 → ∀ x ∈ ls, fErr x = 0
  | [], _, x, hx => by cases hx
  | y :: ls, h, x, hx => by
    have hy : fErr y = 0 := by
      by_cases h0 : fErr y = 0
      · exact h0
      · rw [show rowsErr (y :: ls) = fErr y from if_pos h0] at h; exact absurd h h0
    rcases List.mem_cons.1 hx with rfl | hx
    · exact hy
    · exact rowsErr_zero (by rwa [show rowsErr (y :: ls) = rowsErr ls from if_neg (by simpa using hy)] at h) x hx
def frs (ls : List (List UInt8)) : List UInt8 := (ls.map frm).flatten
theorem frs_snoc (ls : List (List UInt8)) (x : List UInt8) : frs (ls ++ [x]) = frs ls ++ frm x := by simp [frs]
theorem frs_take {ls : List (List UInt8)} {k : Nat} {x : List UInt8} (h : ls[k]? = some x) : frs (ls.take (k + 1)) = frs (ls.take k) ++ frm x := by
  rw [List.take_add_one, h]; exact frs_snoc _ _
theorem frs_take_le (ls : List (List UInt8)) (k : Nat) : (frs (ls.take k)).length ≤ (frs ls).length := by
  have : frs ls = frs (ls.take k) ++ frs (ls.drop k) := by
    unfold frs; rw [← List.flatten_append, ← List.map_append, List.take_append_drop]
  rw [this, List.length_append]; omega
theorem frs_len (ls : List (List UInt8)) : ls.length ≤ (frs ls).length := by
  induction ls with
  | nil => simp [frs]
  | cons x ls ih =>
    have : frs (x :: ls) = frm x ++ frs ls := rfl
    rw [this, List.length_append, List.length_cons, frm_len]; omega
def jSnap (s : DS) (ls : List (List UInt8)) : Int × DS := if rowsErr ls ≠ 0 then (rowsErr ls, s) else if 1048576 < (frs ls).length then (3, s) else dSwap s (frs ls)

set_option maxHeartbeats 1000000 in
theorem jsnap1 (W : World) (pr : Nat) (B : Nat) (A : Option Addr) (n c : Nat) (ls : List (List UInt8)) (vs : List Value) (h1 : Boxed W pr 23 (.slice A n c)) (hb : BB W B A n c ls vs) :
    Calls Try.prog 31 #[.pointer (some ⟨pr, 0, none⟩)] W (fun e W' => e = .returned (.int .i64 (rowsErr ls)) ∧ Below W.heap.size W W') := by
  have c1 := h1.cell
  have hc := hb.rd.cap
  have hm := hb.rd.max
  unfold maxLen at hm
  have HB := Lib.hid hb
  have HL := Lib.hid hb.len
  clear hb h1
  go_enter Try.func31, Try.ntmps31
  go_wp2_with fail
  go_loop [8] (fun q => ∃ k : Nat, k ≤ n ∧ q = .int .i64 (k : Nat) ∧ Hid (∀ x ∈ ls.take k, fErr x = 0)) (fun q => n - (intOf q).toNat)
  case atStart => exact ⟨0, Nat.zero_le _, rfl, Lib.hid (by simp)⟩
  case round =>
    obtain ⟨k, hk, rfl, HK⟩ := hrel
    by_cases hkn : k < n
    · obtain ⟨x, hx⟩ : ∃ x, ls[k]? = some x := ⟨_, List.getElem?_eq_getElem (by rw [HL.out]; exact hkn)⟩
      obtain ⟨Ai, ci, hv, hr, -⟩ := HB.out.row k x hx
      obtain ⟨ad, rfl, -⟩ := HB.out.rd.addr (by omega) (by omega)
      have hcl := HB.out.rd.get hv
      have hrc := hr.cap
      have hrm := hr.max
      unfold maxLen at hrm
      have HX := Lib.hid hx
      have HF := Lib.hid (frame_any Ai x.length ci x W hr)
      clear hx hv hr
      by_cases h0 : fErr x = 0
      · obtain ⟨g1, g2⟩ := fErr_zero h0
        have e1 : ((x.length : Int) == 0) = false := beq_eq_false_iff_ne.2 (by omega)
        have e2 : decide ((524288 : Int) < (x.length : Int)) = false := decide_eq_false (by omega)
        have H0 := Lib.hid h0
        clear h0
        go_wp2_with fail
        go_round
        case rel => exact ⟨k + 1, by omega, by go_num, Lib.hid (fun y hy => by
          rw [List.take_add_one, HX.out] at hy
          rcases List.mem_append.1 hy with hy | hy
          · exact HK.out y hy
          · simp at hy; subst hy; exact H0.out)⟩
        case measure => simp [intOf]; omega
      · have HE := Lib.hid (rowsErr_bad HK.out HX.out h0)
        by_cases g1 : x.length = 0
        · have e1 : ((x.length : Int) == 0) = true := by simp [g1]
          clear h0 g1
          go_wp2_with fail
          refine HF.out.mono ?_
          intro e w1 hP
          obtain ⟨hbel, A2, n2, c2, rfl, hn2, -, -, -, -⟩ := hP.out
          have HBL := Lib.hid hbel
          clear hP hbel
          go_wp2_with fail
          go_ret
          exact ⟨by rw [HE.out]; rfl, HBL.out⟩
        · have e1 : ((x.length : Int) == 0) = false := beq_eq_false_iff_ne.2 (by omega)
          have g2 : (524288 : Int) < (x.length : Int) := by
            unfold fErr at h0; rw [if_neg g1] at h0
            by_cases g3 : 524288 < x.length
            · omega
            · rw [if_neg g3] at h0; exact absurd rfl h0
          clear h0 g1
          go_wp2_with fail
          refine HF.out.mono ?_
          intro e w1 hP
          obtain ⟨hbel, A2, n2, c2, rfl, hn2, -, -, -, -⟩ := hP.out
          have HBL := Lib.hid hbel
          clear hP hbel
          go_wp2_with fail
          go_ret
          exact ⟨by rw [HE.out]; rfl, HBL.out⟩
    · have HE : Hid (rowsErr ls = 0) := Lib.hid (rowsErr_all (by have := HK.out; rwa [List.take_of_length_le (by rw [HL.out]; omega)] at this))
      go_wp2_with fail
      go_ret
      exact ⟨by rw [HE.out]; rfl, Below.refl _ _⟩

def JoinP (ls : List (List UInt8)) (w : World) (e : Ending) (w' : World) : Prop :=
  ∃ A c, e = .returned (.slice A ls.flatten.length c) ∧ Ow w' w.heap.size 5 1 A ls.flatten.length c (bv ls.flatten) ∧ Below w.heap.size w w'
theorem flat_snoc {ls : List (List UInt8)} {k : Nat} {x : List UInt8} (h : ls[k]? = some x) : (ls.take (k + 1)).flatten = (ls.take k).flatten ++ x := by
  rw [List.take_add_one, h]; simp
theorem flat_take_le (ls : List (List UInt8)) (k : Nat) : (ls.take k).flatten.length ≤ ls.flatten.length := by
  have : ls.flatten = (ls.take k).flatten ++ (ls.drop k).flatten := by rw [← List.flatten_append, List.take_append_drop]
  rw [this, List.length_append]; omega
set_option maxHeartbeats 1000000 in
theorem join_any (W : World) (B : Nat) (A : Option Addr) (n c : Nat) (ls : List (List UInt8)) (vs : List Value) (hb : BB W B A n c ls vs) (hlen : ls.flatten.length ≤ 1048576) :
    Calls Try.prog 33 #[.slice A n c] W (JoinP ls W) := by
  have hc := hb.rd.cap
  have hm := hb.rd.max
  unfold maxLen at hm
  have HB := Lib.hid hb
  have HL := Lib.hid hb.len
  clear hb
  go_enter Try.func33, Try.ntmps33
  go_wp2_with fail
  go_loopg [2, 7] n (fun g q2 q7 wr => ∃ (k : Nat) (Ao : Option Addr) (co : Nat), k + g = n ∧ q7 = .int .i64 (k : Nat) ∧ q2 = .slice Ao (ls.take k).flatten.length co ∧ Hid (Ow wr W.heap.size 5 1 Ao (ls.take k).flatten.length co (bv (ls.take k).flatten)) ∧ Hid (Below W.heap.size W wr))
  case atStart => exact ⟨0, none, 0, by omega, rfl, rfl, Lib.hid (Ow.nil _ _ _ _), Lib.hid (Below.refl _ _)⟩
  case round =>
    obtain ⟨k, Ao, co, hk, rfl, rfl, HO, HW⟩ := hrel
    cases gk with
    | zero =>
      have hkk : ¬ ((k : Int) < (n : Int)) := by omega
      have hE : (ls.take k).flatten = ls.flatten := by rw [List.take_of_length_le (by rw [HL.out]; omega)]
      rw [hE] at HO ⊢
      obtain ⟨t, ht⟩ : ∃ t, ls.flatten = t := ⟨_, rfl⟩
      rw [ht] at HO ⊢
      have HT := Lib.hid ht
      clear hk hE ht
      go_wp2_with fail
      go_ret
      exact ⟨Ao, co, by rw [HT.out]; rfl, by rw [HT.out]; exact HO.out, HW.out⟩
    | succ g =>
      have hkk : (k : Int) < (n : Int) := by omega
      obtain ⟨x, hx⟩ : ∃ x, ls[k]? = some x := ⟨_, List.getElem?_eq_getElem (by rw [HL.out]; omega)⟩
      have hb := HB.out.below HW.out
      obtain ⟨Ai, ci, hv, hr, -⟩ := hb.row k x hx
      obtain ⟨ad, rfl, -⟩ := hb.rd.addr (by omega) (by omega)
      have hcl := hb.rd.get hv
      have hrc := hr.cap
      have hrm := hr.max
      unfold maxLen at hrm
      have HX := Lib.hid (flat_snoc hx)
      have hle := flat_take_le ls (k + 1)
      rw [HX.out, List.length_append] at hle
      have HR := Lib.hid hr
      clear hx hb hv hr
      obtain ⟨t, ht⟩ : ∃ t, (ls.take k).flatten = t := ⟨_, rfl⟩
      rw [ht] at HO HX hle ⊢
      clear ht
      go_wp2_with (at_builtin; refine wpList_ow _ rfl (.tmp 11) (.tmp 12) _ rfl W.heap.size _ (info_parts info_u8).choose _ 1 1 Try.underlying22 (info_parts info_u8).choose_spec.1 (info_parts info_u8).choose_spec.2.1 (info_parts info_u8).choose_spec.2.2.1 (info_parts info_u8).choose_spec.2.2.2 rfl (by omega) Ao co t.length (bv t) rfl HO.out Ai x.length ci (bv x) rfl HR.out (bv_one x) (by omega) (by omega) HW.out.size ?_; intro A3 c3 w3 ho3 hg3 hat3; have HO3 := Lib.hid ho3; have HG3 := Lib.hid hg3; clear ho3 hg3 hat3)
      go_roundg g
      case measure => omega
      case rel => exact ⟨k + 1, A3, c3, by omega, by go_num, by rw [HX.out, List.length_append], Lib.hid (by rw [HX.out, List.length_append, bv_append]; exact HO3.out), Lib.hid (HW.out.grown HG3.out HW.out.size (fun g hg => (HO.out.lt hg).1))⟩
end Go.Proofs.Ytckofpdhcpabnaa
