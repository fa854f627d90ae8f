/- The law GraphTells. -/
import Derived.Test.YtjpljkjclamjnaaGrWakes
namespace Go.Proofs.Ytjpljkjclamjnaa
open Go.RowKit
set_option linter.unusedVariables false
set_option linter.unusedSimpArgs false

def ListOut (l : List Int) (er : Int) (w : World) (e : Ending) (w' : World) : Prop :=
  Below w.heap.size w w' ∧ ∃ A c, e = .returned (.tuple #[.slice A l.length c, .int .i64 er]) ∧ Rd w' 1 A l.length c (ivI l)
def RowOut (l : List Int) (w : World) (e : Ending) (w' : World) : Prop :=
  Below w.heap.size w w' ∧ ∃ A c, e = .returned (.slice A l.length c) ∧ Rd w' 1 A l.length c (ivI l)
theorem ListOut.nul {w w' : World} {er : Int} (hb : Below w.heap.size w w') : ListOut [] er w (.returned (.tuple #[.slice none 0 0, .int .i64 er])) w' :=
  ⟨hb, none, 0, rfl, Rd.nil _ _⟩
theorem ListOut.own {w w' : World} {er : Int} {m c : Nat} {A : Option Addr} {O : List Nat} (hb : Below w.heap.size w w') (h : IOw w' w.heap.size A m c (cI O)) (hm : O.length = m) : ListOut (cI O) er w (.returned (.tuple #[.slice A m c, .int .i64 er])) w' := by
  subst hm
  exact ⟨hb, A, c, by rw [cI_len], by rw [cI_len]; exact h.rd⟩
theorem orderV (ls : List (List Int)) : ∃ l er, ∀ w e w', OrderP ls w e w' → ListOut l er w e w' := by
  cases hm : mayI ls with
  | false => exact ⟨[], 2, fun w e w' h => by obtain ⟨h1, h2, _⟩ := h; obtain rfl := h2 hm; exact .nul h1⟩
  | true =>
    obtain ⟨L, rfl, hok⟩ := mayI_cast hm
    cases ho : orderF L with
    | none => exact ⟨[], 200, fun w e w' h => by obtain ⟨h1, _, h2, _⟩ := h; obtain rfl := h2 L rfl hok ho; exact .nul h1⟩
    | some O => exact ⟨cI O, 0, fun w e w' h => by obtain ⟨h1, _, _, h2⟩ := h; obtain ⟨A, c, rfl, h3⟩ := h2 L O rfl hok ho; exact .own h1 h3 rfl⟩
theorem ranksV (ls : List (List Int)) : ∃ l er, ∀ w e w', RanksP ls w e w' → ListOut l er w e w' := by
  cases hm : mayI ls with
  | false => exact ⟨[], 2, fun w e w' h => by obtain ⟨h1, h2, _⟩ := h; obtain rfl := h2 hm; exact .nul h1⟩
  | true =>
    obtain ⟨L, rfl, hok⟩ := mayI_cast hm
    cases ho : orderF L with
    | none => exact ⟨[], 200, fun w e w' h => by obtain ⟨h1, _, h2, _⟩ := h; obtain rfl := h2 L rfl hok ho; exact .nul h1⟩
    | some O => exact ⟨cI (rankF L O), 0, fun w e w' h => by obtain ⟨h1, _, _, h2⟩ := h; obtain ⟨A, c, rfl, h3⟩ := h2 L O rfl hok ho; exact .own h1 h3 (rankF_len L _ _ rfl)⟩
theorem circV (ls : List (List Int)) : ∃ l, ∀ w e w', CircP ls w e w' → RowOut l w e w' := by
  cases hm : mayI ls with
  | false => exact ⟨[], fun w e w' h => by obtain ⟨h1, h2, _⟩ := h; obtain rfl := h2 hm; exact ⟨h1, none, 0, rfl, Rd.nil _ _⟩⟩
  | true =>
    obtain ⟨L, rfl, hok⟩ := mayI_cast hm
    obtain ⟨Ds, hD⟩ : ∃ Ds : Nat → Nat → Nat, ∀ s, IsD L s (Ds s) := ⟨fun s => (isD_exists L s).choose, fun s => (isD_exists L s).choose_spec⟩
    exact ⟨cI (circF L Ds), fun w e w' h => by
      obtain ⟨h1, _, h2⟩ := h
      obtain ⟨A, c, rfl, h3, _⟩ := h2 L rfl hok Ds (fun s _ => hD s)
      exact ⟨h1, A, c, by rw [cI_len], by rw [cI_len]; exact h3.rd⟩⟩
theorem widV (ls : List (List Int)) : ∃ v : Nat, ∀ w e w', WidP ls w e w' → Below w.heap.size w w' ∧ e = .returned (.int .i64 (v : Int)) := by
  cases hm : mayI ls with
  | false => exact ⟨0, fun w e w' h => by obtain ⟨h1, v, rfl, h2, _⟩ := h; obtain rfl := h2 hm; exact ⟨h1, rfl⟩⟩
  | true =>
    obtain ⟨L, rfl, hok⟩ := mayI_cast hm
    cases ho : orderF L with
    | none => exact ⟨0, fun w e w' h => by obtain ⟨h1, v, rfl, _, h2, _⟩ := h; obtain rfl := h2 L rfl hok ho; exact ⟨h1, rfl⟩⟩
    | some O => exact ⟨wid (rankF L O), fun w e w' h => by obtain ⟨h1, v, rfl, _, _, h2⟩ := h; obtain rfl := h2 L O rfl hok ho; exact ⟨h1, rfl⟩⟩

set_option maxHeartbeats 2000000 in
set_option maxRecDepth 100000 in
theorem graphTells_walk (W : World) (A : Option Addr) (n c : Nat) (ls : List (List Int)) (h : II W A n c ls) (hreach : ∀ r ∈ ls, r.length * 8 ≤ 140737488351232)
    (A2 : Option Addr) (m c2 : Nat) (o : List Int) (ho : Rd W 1 A2 m c2 (ivI o)) (hwf : ∀ z ∈ o, -9223372036854775808 ≤ z ∧ z ≤ 9223372036854775807) :
    Calls Try.prog 5 #[.slice A n c, .slice A2 m c2] W (Yes W) := by
  have hc := h.cap
  have hmx := h.max
  unfold maxLen at hmx
  have hc2 := ho.cap
  have hmx2 := ho.max
  unfold maxLen at hmx2
  have H0 := Lib.hid h
  have HO := Lib.hid ho
  have HR := Lib.hid hreach
  have HWF := Lib.hid hwf
  clear h ho hreach hwf
  go_enter Try.func5, Try.ntmps5
  go_wp2_with fail
  refine (great_any A n c ls W H0.out).mono ?_
  rintro e w' ⟨⟨b, rfl, hb⟩, rfl⟩
  cases b with
  | true =>
    clear hb
    go_wp2_with (go_at_call 9; refine (wakes_any _).mono ?_; rintro e w1 ⟨rfl, HB⟩)
    go_ret
    exact ⟨rfl, HB⟩
  | false =>
    by_cases hm : 200 < m
    · clear hb
      go_wp2_with (go_at_call 9; refine (wakes_any _).mono ?_; rintro e w1 ⟨rfl, HB⟩)
      go_ret
      exact ⟨rfl, HB⟩
    · obtain ⟨h60, hsum⟩ := hb rfl
      have hn : n ≤ 1000 := by have := H0.out.len; omega
      have HT : Hid ((ls.map List.length).sum * 8 ≤ 140737488355328) := Lib.hid (by
        have := few ls 17592186043904 (by omega) hsum (fun r hr => by have := HR.out r hr; omega)
        omega)
      obtain ⟨lo, eo, vO⟩ := orderV ls
      obtain ⟨lr, er, vR⟩ := ranksV ls
      obtain ⟨lc, vC⟩ := circV ls
      obtain ⟨vw, vW⟩ := widV ls
      have VO := Lib.hid vO
      have VR := Lib.hid vR
      have VC := Lib.hid vC
      have VW := Lib.hid vW
      clear h60 hsum hb vO vR vC vW
      go_wp2_with fail
      refine (order_any A n c ls W H0.out hn).mono ?_
      intro e w1 hP
      obtain ⟨hB, A1, c1, rfl, hr1⟩ := VO.out _ _ _ hP
      have HB1 := Lib.hid hB
      have R1 := Lib.hid hr1
      clear hP hB hr1
      go_wp2_with fail
      refine (rorder_any A n c ls w1 (H0.out.below HB1.out) hn).mono ?_
      intro e w2 hP
      obtain ⟨hB, A3, c3, rfl, hr2⟩ := VO.out _ _ _ hP
      have HB2 := Lib.hid (HB1.out.past hB)
      have R2 := Lib.hid hr2
      have R1 := Lib.hid (R1.out.below hB)
      clear hP hB hr2
      go_wp2_with fail
      refine (ranks_any A n c ls w2 (H0.out.below HB2.out) hn).mono ?_
      intro e w3 hP
      obtain ⟨hB, A4, c4, rfl, hr3⟩ := VR.out _ _ _ hP
      have HB3 := Lib.hid (HB2.out.past hB)
      have R3 := Lib.hid hr3
      have R1 := Lib.hid (R1.out.below hB)
      have R2 := Lib.hid (R2.out.below hB)
      clear hP hB hr3
      go_wp2_with fail
      refine (rranks_any A n c ls w3 (H0.out.below HB3.out) hn).mono ?_
      intro e w4 hP
      obtain ⟨hB, A5, c5, rfl, hr4⟩ := VR.out _ _ _ hP
      have HB4 := Lib.hid (HB3.out.past hB)
      have R4 := Lib.hid hr4
      have R1 := Lib.hid (R1.out.below hB)
      have R2 := Lib.hid (R2.out.below hB)
      have R3 := Lib.hid (R3.out.below hB)
      clear hP hB hr4
      go_wp2_with fail
      refine (may_any A n c ls w4 (H0.out.below HB4.out)).mono ?_
      rintro e w' ⟨rfl, rfl⟩
      go_wp2_with fail
      refine (rmay_any A n c ls w4 (H0.out.below HB4.out)).mono ?_
      rintro e w' ⟨rfl, rfl⟩
      go_wp2_with fail
      refine (circle_any A n c ls w4 (H0.out.below HB4.out) hn HT.out).mono ?_
      intro e w5 hP
      obtain ⟨hB, A6, c6, rfl, hr5⟩ := VC.out _ _ _ hP
      have HB5 := Lib.hid (HB4.out.past hB)
      have R5 := Lib.hid hr5
      have R1 := Lib.hid (R1.out.below hB)
      have R2 := Lib.hid (R2.out.below hB)
      have R3 := Lib.hid (R3.out.below hB)
      have R4 := Lib.hid (R4.out.below hB)
      clear hP hB hr5
      go_wp2_with fail
      refine (rcircle_any A n c ls w5 (H0.out.below HB5.out) hn).mono ?_
      intro e w6 hP
      obtain ⟨hB, A7, c7, rfl, hr6⟩ := VC.out _ _ _ hP
      have HB6 := Lib.hid (HB5.out.past hB)
      have R6 := Lib.hid hr6
      have R1 := Lib.hid (R1.out.below hB)
      have R2 := Lib.hid (R2.out.below hB)
      have R3 := Lib.hid (R3.out.below hB)
      have R4 := Lib.hid (R4.out.below hB)
      have R5 := Lib.hid (R5.out.below hB)
      clear hP hB hr6
      go_wp2_with fail
      refine (ints_any _ _ _ _ _ _ _ R5.out R6.out).mono ?_
      rintro e w' ⟨rfl, k1, rfl⟩
      go_wp2_with fail
      refine (ints_any _ _ _ _ _ _ _ (R1.out.drewN k1) (R2.out.drewN k1)).mono ?_
      rintro e w' ⟨rfl, k2, rfl⟩
      go_wp2_with fail
      refine (ints_any _ _ _ _ _ _ _ (R3.out.drewN _) (R4.out.drewN _)).mono ?_
      rintro e w7 ⟨rfl, hw⟩
      have HB7 : Hid (Below W.heap.size W w7) := Lib.hid (by obtain ⟨k3, rfl⟩ := hw; exact (HB6.out.drewN _).drewN _)
      clear hw R1 R2 R3 R4 R5 R6
      go_wp2_with fail
      refine (widest_any A n c ls w7 (H0.out.below HB7.out) hn).mono ?_
      intro e w8 hP
      obtain ⟨hB, rfl⟩ := VW.out _ _ _ hP
      have HB8 := Lib.hid (HB7.out.past hB)
      clear hP hB
      go_wp2_with fail
      refine (rwidest_any A n c ls w8 (H0.out.below HB8.out) hn).mono ?_
      intro e w9 hP
      obtain ⟨hB, rfl⟩ := VW.out _ _ _ hP
      have HB9 := Lib.hid (HB8.out.past hB)
      clear hP hB
      go_wp2_with fail
      refine (is_any A A2 n c m c2 ls o w9 (H0.out.below HB9.out) hn (HO.out.below HB9.out) HWF.out (by omega)).mono ?_
      rintro e w10 ⟨hB, rfl⟩
      have HB10 := Lib.hid (HB9.out.past hB)
      clear hB
      go_wp2_with fail
      refine (ris_any A A2 n c m c2 ls o w10 (H0.out.below HB10.out) hn (HO.out.below HB10.out) (by omega)).mono ?_
      rintro e w11 ⟨hB, rfl⟩
      have HB11 := Lib.hid (HB10.out.past hB)
      clear hB
      go_wp2_with fail
      refine (wakes_any _).mono ?_
      rintro e w12 ⟨rfl, hB⟩
      have HB12 := Lib.hid (HB11.out.past hB)
      clear hB
      go_wp2_with fail
      go_ret
      exact ⟨rfl, HB12.out⟩
end Go.Proofs.Ytjpljkjclamjnaa
