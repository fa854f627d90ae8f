/- wakes. -/
import Derived.Test.YtjpljkjclamjnaaGrRCirc
import Derived.Test.YtjpljkjclamjnaaGrRIs
namespace Go.Proofs.Ytjpljkjclamjnaa
open Go.RowKit
set_option linter.unusedVariables false
set_option linter.unusedSimpArgs false

theorem II.of {W : World} {b : Nat} {t : TypeId} (hs : List (Option Addr × Nat × List Int)) (hb : Blk W b (hs.map fun h => Value.slice h.1 h.2.2.length h.2.1).toArray t) (hr : ∀ h ∈ hs, Rd W 1 h.1 h.2.2.length h.2.1 (ivI h.2.2)) (hl : hs.length ≤ maxLen)
    (wf : ∀ h ∈ hs, ∀ z ∈ h.2.2, -9223372036854775808 ≤ z ∧ z ≤ 9223372036854775807) : II W (some ⟨b, 0, none⟩) hs.length hs.length (hs.map fun h => h.2.2) := by
  refine ⟨by simp, Nat.le_refl _, hl, fun i x hx => ?_, fun x hx z hz => ?_⟩
  · rw [List.getElem?_map] at hx
    cases hi : hs[i]? with
    | none => rw [hi] at hx; cases hx
    | some h =>
      rw [hi] at hx
      injection hx with hx
      subst hx
      refine ⟨_, h.1, h.2.1, rfl, ?_, hr h (List.mem_of_getElem? hi)⟩
      rw [add_plain, Nat.zero_add]
      exact hb.cell i (by simp [hi])
  · simp only [List.mem_map] at hx
    obtain ⟨h, hh, rfl⟩ := hx
    exact wf h hh z hz

def lk1 : List (List Nat) := [[1], [2], [1, 0]]
def lk2 : List (List Nat) := [[2], [], [1]]
def lk3 : List (List Nat) := [[0]]
theorem small1 {L : List (List Nat)} (h : (L.all fun r => r.all fun x => decide (x < 3)) = true) : ∀ r ∈ cL L, ∀ z ∈ r, -9223372036854775808 ≤ z ∧ z ≤ 9223372036854775807 := by
  intro r hr z hz
  simp only [cL, List.mem_map] at hr
  obtain ⟨r0, h0, rfl⟩ := hr
  simp only [cI, List.mem_map] at hz
  obtain ⟨x, hx, rfl⟩ := hz
  have := (List.all_eq_true.1 (List.all_eq_true.1 h r0 h0)) x hx
  have := of_decide_eq_true this
  omega
theorem wk1 (w : World) : II ((((w.alloc (.cells #[.int .i64 1] 3)).alloc (.cells #[.int .i64 2] 3)).alloc (.cells #[.int .i64 1, .int .i64 0] 3)).alloc
      (.cells #[.slice (some ⟨w.heap.size, 0, none⟩) 1 1, .slice (some ⟨w.heap.size + 1, 0, none⟩) 1 1, .slice (some ⟨w.heap.size + 1 + 1, 0, none⟩) 2 2] 25)) (some ⟨w.heap.size + 1 + 1 + 1, 0, none⟩) 3 3 (cL lk1) := by
  have r1 := Rd.lit w 1 1 #[.int .i64 1] 3 (0, 0) rfl (by simp [maxLen])
  have r2 := Rd.lit (w.alloc (.cells #[.int .i64 1] 3)) 1 1 #[.int .i64 2] 3 (0, 0) rfl (by simp [maxLen])
  have r3 := Rd.lit ((w.alloc (.cells #[.int .i64 1] 3)).alloc (.cells #[.int .i64 2] 3)) 1 2 #[.int .i64 1, .int .i64 0] 3 (0, 0) rfl (by simp [maxLen])
  have hb := Blk.new (((w.alloc (.cells #[.int .i64 1] 3)).alloc (.cells #[.int .i64 2] 3)).alloc (.cells #[.int .i64 1, .int .i64 0] 3)) #[.slice (some ⟨w.heap.size, 0, none⟩) 1 1, .slice (some ⟨w.heap.size + 1, 0, none⟩) 1 1, .slice (some ⟨w.heap.size + 1 + 1, 0, none⟩) 2 2] 25
  simp only [World.size_alloc] at r2 r3 hb
  refine II.of [(some ⟨w.heap.size, 0, none⟩, 1, [1]), (some ⟨w.heap.size + 1, 0, none⟩, 1, [2]), (some ⟨w.heap.size + 1 + 1, 0, none⟩, 2, [1, 0])] hb ?_ (by simp [maxLen]) ?_
  · intro h hh
    simp only [List.mem_cons, List.not_mem_nil, or_false] at hh
    rcases hh with rfl | rfl | rfl
    · exact ((r1.alloc _).alloc _).alloc _
    · exact (r2.alloc _).alloc _
    · exact r3.alloc _
  · intro h hh z hz
    refine small1 (L := lk1) (by decide) h.2.2 ?_ z hz
    simp only [List.mem_cons, List.not_mem_nil, or_false] at hh
    rcases hh with rfl | rfl | rfl <;> simp [cL, cI, lk1]
theorem wk2 (w : World) : II (((w.alloc (.cells #[.int .i64 2] 3)).alloc (.cells #[.int .i64 1] 3)).alloc
      (.cells #[.slice (some ⟨w.heap.size, 0, none⟩) 1 1, .slice none 0 0, .slice (some ⟨w.heap.size + 1, 0, none⟩) 1 1] 25)) (some ⟨w.heap.size + 1 + 1, 0, none⟩) 3 3 (cL lk2) := by
  have r1 := Rd.lit w 1 1 #[.int .i64 2] 3 (0, 0) rfl (by simp [maxLen])
  have r2 := Rd.lit (w.alloc (.cells #[.int .i64 2] 3)) 1 1 #[.int .i64 1] 3 (0, 0) rfl (by simp [maxLen])
  have hb := Blk.new ((w.alloc (.cells #[.int .i64 2] 3)).alloc (.cells #[.int .i64 1] 3)) #[.slice (some ⟨w.heap.size, 0, none⟩) 1 1, .slice none 0 0, .slice (some ⟨w.heap.size + 1, 0, none⟩) 1 1] 25
  simp only [World.size_alloc] at r2 hb
  refine II.of [(some ⟨w.heap.size, 0, none⟩, 1, [2]), (none, 0, []), (some ⟨w.heap.size + 1, 0, none⟩, 1, [1])] hb ?_ (by simp [maxLen]) ?_
  · intro h hh
    simp only [List.mem_cons, List.not_mem_nil, or_false] at hh
    rcases hh with rfl | rfl | rfl
    · exact (r1.alloc _).alloc _
    · exact Rd.nil _ _
    · exact r2.alloc _
  · intro h hh z hz
    refine small1 (L := lk2) (by decide) h.2.2 ?_ z hz
    simp only [List.mem_cons, List.not_mem_nil, or_false] at hh
    rcases hh with rfl | rfl | rfl <;> simp [cL, cI, lk2]
theorem wk3 (w : World) : II ((w.alloc (.cells #[.int .i64 0] 3)).alloc (.cells #[.slice (some ⟨w.heap.size, 0, none⟩) 1 1] 25)) (some ⟨w.heap.size + 1, 0, none⟩) 1 1 (cL lk3) := by
  have r1 := Rd.lit w 1 1 #[.int .i64 0] 3 (0, 0) rfl (by simp [maxLen])
  have hb := Blk.new (w.alloc (.cells #[.int .i64 0] 3)) #[.slice (some ⟨w.heap.size, 0, none⟩) 1 1] 25
  simp only [World.size_alloc] at hb
  refine II.of [(some ⟨w.heap.size, 0, none⟩, 1, [0])] hb ?_ (by simp [maxLen]) ?_
  · intro h hh
    simp only [List.mem_cons, List.not_mem_nil, or_false] at hh
    subst hh
    exact r1.alloc _
  · intro h hh z hz
    refine small1 (L := lk3) (by decide) h.2.2 ?_ z hz
    simp only [List.mem_cons, List.not_mem_nil, or_false] at hh
    subst hh; simp [cL, cI, lk3]

def dk (i : Nat) : Nat := match i with | 0 => 3 | 1 => 2 | 2 => 1 | _ => 0
theorem isD_lk : IsD lk1 0 dk := by
  have e0 : 1 ∈ lean' lk1 0 := by decide
  have e1 : 2 ∈ lean' lk1 1 := by decide
  have e2 : 0 ∈ lean' lk1 2 := by decide
  have w2 : Walk lk1 0 1 2 := .one e2
  have w1 : Walk lk1 0 2 1 := .more e1 w2
  have w0 : Walk lk1 0 3 0 := .more e0 w1
  refine rel_done ⟨fun i hi => ?_, fun i => ?_⟩ (by decide)
  · match i, hi with
    | 0, _ => exact w0
    | 1, _ => exact w1
    | 2, _ => exact w2
    | i + 3, hi => exact absurd rfl hi
  · have hc : cnt lk1.length dk = 3 := by decide
    rw [hc]
    match i with
    | 0 => decide
    | 1 => decide
    | 2 => decide
    | i + 3 => exact Nat.zero_le _
theorem ok_lk1 : okG lk1 := by
  intro i x hx
  have hi := lean_lt hx
  have : ∀ i, i < 3 → ∀ x ∈ lean' lk1 i, x < 3 := by decide
  exact this i hi x hx
theorem ok_lk2 : okG lk2 := by
  intro i x hx
  have hi := lean_lt hx
  have : ∀ i, i < 3 → ∀ x ∈ lean' lk2 i, x < 3 := by decide
  exact this i hi x hx
theorem ok_lk3 : okG lk3 := by
  intro i x hx
  have hi := lean_lt hx
  have : ∀ i, i < 1 → ∀ x ∈ lean' lk3 i, x < 1 := by decide
  exact this i hi x hx
theorem circ_lk : ∃ Ds : Nat → Nat → Nat, (∀ s, s < lk1.length → IsD lk1 s (Ds s)) ∧ circF lk1 Ds = [0, 1, 2] := by
  refine ⟨fun s => if s = 0 then dk else (isD_exists lk1 s).choose, fun s _ => ?_, ?_⟩
  · by_cases h : s = 0
    · subst h; simp only [if_true]; exact isD_lk
    · simp only [h, if_false]; exact (isD_exists lk1 s).choose_spec
  · rw [circF_at (s := 0) (by decide) (fun k hk => by omega) (by simp [dk])]
    simp only [if_true]
    decide
theorem order_lk2 : orderF lk2 = some [1, 2, 0] := by decide
theorem order_lk3 : orderF lk3 = none := by decide

set_option maxHeartbeats 1000000 in
theorem wakes_any (w : World) : Calls Try.prog 9 #[] w (Yes w) := by
  have b1 : (cL lk1).map List.length = [1, 1, 2] := by decide
  go_enter Try.func9, Try.ntmps9
  go_wp2_with fail
  refine (circle_any _ 3 3 (cL lk1) _ (wk1 w) (by omega) (by rw [b1]; decide)).mono ?_
  rintro e w1 ⟨hB1, -, h1⟩
  obtain ⟨Ds, hD, hC⟩ := circ_lk
  obtain ⟨A1, c1, rfl, ho1, -⟩ := h1 lk1 rfl ok_lk1 Ds hD
  rw [hC] at ho1 ⊢
  have HB1 : Hid (Below w.heap.size w w1) := Lib.hid (by
    refine Below.trans ?_ (hB1.mono (by simp only [World.size_alloc]; omega))
    exact ((((Below.refl _ w).alloc (Nat.le_refl _) _).alloc (by simp only [World.size_alloc]; omega) _).alloc (by simp only [World.size_alloc]; omega) _).alloc (by simp only [World.size_alloc]; omega) _)
  have HO1 := Lib.hid ho1
  clear hB1 h1 hD hC ho1 b1 Ds
  go_wp2_with fail
  refine (order_any _ 3 3 (cL lk2) _ (wk2 w1) (by omega)).mono ?_
  rintro e w2 ⟨hB2, -, -, h2⟩
  obtain ⟨A2, c2, rfl, ho2⟩ := h2 lk2 _ rfl ok_lk2 order_lk2
  have HB2 : Hid (Below w1.heap.size w1 w2) := Lib.hid (by
    refine Below.trans ?_ (hB2.mono (by simp only [World.size_alloc]; omega))
    exact (((Below.refl _ w1).alloc (Nat.le_refl _) _).alloc (by simp only [World.size_alloc]; omega) _).alloc (by simp only [World.size_alloc]; omega) _)
  have HO2 := Lib.hid ho2
  clear hB2 h2 ho2
  go_wp2_with fail
  refine (order_any _ 1 1 (cL lk3) _ (wk3 w2) (by omega)).mono ?_
  rintro e w3 ⟨hB3, -, h3, -⟩
  obtain rfl := h3 lk3 rfl ok_lk3 order_lk3
  have HB3 : Hid (Below w2.heap.size w2 w3) := Lib.hid (by
    refine Below.trans ?_ (hB3.mono (by simp only [World.size_alloc]; omega))
    exact ((Below.refl _ w2).alloc (Nat.le_refl _) _).alloc (by simp only [World.size_alloc]; omega) _)
  clear hB3 h3
  have HR1 : Hid (Rd w3 1 A1 3 c1 (ivI (cI [0, 1, 2]))) := Lib.hid (((HO1.out.below HB2.out).below HB3.out).rd)
  have HR2 : Hid (Rd w3 1 A2 3 c2 (ivI (cI [1, 2, 0]))) := Lib.hid ((HO2.out.below HB3.out).rd)
  have L3 := Rd.lit w3 1 3 #[.int .i64 0, .int .i64 1, .int .i64 2] 3 (0, 0) rfl (by simp [maxLen])
  have HL3 := Lib.hid L3
  clear L3
  go_wp2_with fail
  refine (ints_any _ _ 3 c1 3 (cI [0, 1, 2]) _ (HR1.out.alloc _) HL3.out).mono ?_
  rintro e w4 ⟨rfl, k4, rfl⟩
  have L4 := Rd.lit ((w3.alloc (.cells #[.int .i64 0, .int .i64 1, .int .i64 2] 3)).drewN k4) 1 3 #[.int .i64 1, .int .i64 2, .int .i64 0] 3 (0, 0) rfl (by simp [maxLen])
  have e4 : ((w3.alloc (.cells #[.int .i64 0, .int .i64 1, .int .i64 2] 3)).drewN k4).heap.size = w3.heap.size + 1 := World.size_alloc _ _
  rw [e4] at L4
  have HL4 := Lib.hid L4
  clear e4
  clear L4
  go_wp2_with fail
  refine (ints_any _ _ 3 c2 3 (cI [1, 2, 0]) _ (((HR2.out.alloc _).drewN k4).alloc _) HL4.out).mono ?_
  rintro e w5 ⟨rfl, k5, rfl⟩
  go_wp2_with fail
  go_ret
  refine ⟨rfl, ((HB1.out.past HB2.out).past HB3.out).past ?_⟩
  exact (((((Below.refl _ w3).alloc (Nat.le_refl _) _).drewN _).alloc (by simp) _).drewN _)
end Go.Proofs.Ytjpljkjclamjnaa
