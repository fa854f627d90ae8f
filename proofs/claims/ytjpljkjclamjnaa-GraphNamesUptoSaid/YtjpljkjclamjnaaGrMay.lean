/- May, Great, ints. -/
import Derived.Test.YtjpljkjclamjnaaGrMem
import Derived.Deep.QuietTactic
import Derived.BigQuiet
namespace Go.Proofs.Ytjpljkjclamjnaa
open Go.RowKit
set_option linter.unusedVariables false
set_option linter.unusedSimpArgs false

def gR (N : Nat) (r : List Int) : Bool := r.all fun x => decide (0 ≤ x) && decide (x < (N : Int))
theorem gR_snoc {N : Nat} {r : List Int} {j : Nat} {z : Int} (hz : r[j]? = some z) (h : gR N (r.take j) = true) (h0 : 0 ≤ z) (h1 : z < (N : Int)) : gR N (r.take (j + 1)) = true := by
  rw [List.take_add_one, hz]
  simp only [gR, List.all_append, Bool.and_eq_true]
  exact ⟨h, by simp [h0, h1]⟩
theorem mayI_eq (ls : List (List Int)) : mayI ls = ls.all (gR ls.length) := rfl
theorem mayI_false {ls : List (List Int)} {k j : Nat} {x : List Int} {z : Int} (hx : ls[k]? = some x) (hz : x[j]? = some z) (hbad : z < 0 ∨ (ls.length : Int) ≤ z) : mayI ls = false := by
  cases hm : mayI ls with
  | false => rfl
  | true =>
    have h' : ∀ r ∈ ls, ∀ x ∈ r, 0 ≤ x ∧ x < (ls.length : Int) := by simpa [mayI] using hm
    have := h' x (List.mem_of_getElem? hx) z (List.mem_of_getElem? hz)
    omega
theorem all_snoc {ls : List (List Int)} {p : List Int → Bool} {k : Nat} {x : List Int} (hx : ls[k]? = some x) (h : (ls.take k).all p = true) (hp : p x = true) : (ls.take (k + 1)).all p = true := by
  rw [List.take_add_one, hx]
  simp only [List.all_append, Bool.and_eq_true]
  exact ⟨h, by simp [hp]⟩

set_option maxHeartbeats 1000000 in
theorem may_any (A : Option Addr) (n c : Nat) (ls : List (List Int)) (w : World) (h : II w A n c ls) :
    Calls Try.prog 18 #[.slice A n c] w fun e w' => e = .returned (.bool (mayI ls)) ∧ w = w' := by
  have hc := h.cap
  have hm := h.max
  unfold maxLen at hm
  have HL := Lib.hid h.len
  have H := Lib.hid h
  clear h
  go_enter Try.func18, Try.ntmps18
  go_wp2_with fail
  go_loop [9] (fun i => ∃ k : Nat, k ≤ n ∧ i = .int .i64 k ∧ (ls.take k).all (gR n) = true) (fun i => n - (intOf i).toNat)
  case atStart => exact ⟨0, Nat.zero_le _, rfl, by simp⟩
  case round =>
    obtain ⟨k, hk, rfl, hall⟩ := hrel
    have HA := Lib.hid hall
    clear hall
    by_cases hlt : k < n
    · obtain ⟨x, hx⟩ : ∃ x, ls[k]? = some x := ⟨_, List.getElem?_eq_getElem (by rw [HL.out]; exact hlt)⟩
      obtain ⟨ad, Ai, ci, rfl, hcl, hr⟩ := H.out.row k x hx
      have hwf := Lib.hid (H.out.wf x (List.mem_of_getElem? hx))
      have hrc := hr.cap
      have hrm := hr.max
      unfold maxLen at hrm
      have HR := Lib.hid hr
      have HX := Lib.hid hx
      clear hr hx
      go_wp2_with fail
      go_loop [15] (fun i => ∃ j : Nat, j ≤ x.length ∧ i = .int .i64 j ∧ gR n (x.take j) = true) (fun i => x.length - (intOf i).toNat)
      case atStart => exact ⟨0, Nat.zero_le _, rfl, by simp [gR]⟩
      case round =>
        obtain ⟨j, hj, rfl, hgr⟩ := hrel
        have HG := Lib.hid hgr
        clear hgr
        by_cases hjl : j < x.length
        · obtain ⟨z, hz⟩ : ∃ z, x[j]? = some z := ⟨_, List.getElem?_eq_getElem hjl⟩
          obtain ⟨ad2, rfl, -⟩ := HR.out.addr (by omega) (by omega)
          have hzc := HR.out.icell hz
          have hzw := hwf.out z (List.mem_of_getElem? hz)
          have HZ := Lib.hid hz
          clear hz
          by_cases hb1 : z < 0
          · have HM := Lib.hid (mayI_false HX.out HZ.out (.inl hb1))
            go_wp2_with fail
            go_ret
            exact ⟨by rw [HM.out]; rfl, rfl⟩
          by_cases hb2 : (n : Int) ≤ z
          · have HM := Lib.hid (mayI_false HX.out HZ.out (.inr (by rw [HL.out]; exact hb2)))
            go_wp2_with fail
            go_ret
            exact ⟨by rw [HM.out]; rfl, rfl⟩
          go_wp2_with fail
          go_round
          case rel => exact ⟨j + 1, by omega, by go_num, gR_snoc HZ.out HG.out (by omega) (by omega)⟩
          case measure => simp [intOf]; omega
        · obtain rfl : j = x.length := by omega
          have hxg : gR n x = true := by have := HG.out; rwa [List.take_length] at this
          have HXG := Lib.hid hxg
          clear hxg
          go_wp2_with fail
          go_round
          case rel => exact ⟨k + 1, by omega, by go_num, all_snoc HX.out HA.out HXG.out⟩
          case measure => simp [intOf]; omega
    · obtain rfl : k = n := by omega
      have HM : Hid (mayI ls = true) := Lib.hid (by
        have h1 := HA.out
        rw [← HL.out, List.take_length] at h1
        rw [mayI_eq]; exact h1)
      go_wp2_with fail
      go_ret
      exact ⟨by rw [HM.out]; rfl, rfl⟩

set_option maxHeartbeats 1000000 in
theorem rmay_any (A : Option Addr) (n c : Nat) (ls : List (List Int)) (w : World) (h : II w A n c ls) :
    Calls Try.prog 8 #[.slice A n c] w fun e w' => e = .returned (.bool (mayI ls)) ∧ w = w' := by
  have hc := h.cap
  have hm := h.max
  unfold maxLen at hm
  have HL := Lib.hid h.len
  have H := Lib.hid h
  clear h
  go_enter Try.func8, Try.ntmps8
  go_wp2_with fail
  go_loop [3] (fun i => ∃ k : Nat, k ≤ n ∧ i = .int .i64 k ∧ (ls.take k).all (gR n) = true) (fun i => n - (intOf i).toNat)
  case atStart => exact ⟨0, Nat.zero_le _, rfl, by simp⟩
  case round =>
    obtain ⟨k, hk, rfl, hall⟩ := hrel
    have HA := Lib.hid hall
    clear hall
    by_cases hlt : k < n
    · obtain ⟨x, hx⟩ : ∃ x, ls[k]? = some x := ⟨_, List.getElem?_eq_getElem (by rw [HL.out]; exact hlt)⟩
      obtain ⟨ad, Ai, ci, rfl, hcl, hr⟩ := H.out.row k x hx
      have hwf := Lib.hid (H.out.wf x (List.mem_of_getElem? hx))
      have hrc := hr.cap
      have hrm := hr.max
      unfold maxLen at hrm
      have HR := Lib.hid hr
      have HX := Lib.hid hx
      clear hr hx
      go_wp2_with fail
      go_loop [4] (fun i => ∃ j : Nat, j ≤ x.length ∧ i = .int .i64 j ∧ gR n (x.take j) = true) (fun i => x.length - (intOf i).toNat)
      case atStart => exact ⟨0, Nat.zero_le _, rfl, by simp [gR]⟩
      case round =>
        obtain ⟨j, hj, rfl, hgr⟩ := hrel
        have HG := Lib.hid hgr
        clear hgr
        by_cases hjl : j < x.length
        · obtain ⟨z, hz⟩ : ∃ z, x[j]? = some z := ⟨_, List.getElem?_eq_getElem hjl⟩
          obtain ⟨ad2, rfl, -⟩ := HR.out.addr (by omega) (by omega)
          have hzc := HR.out.icell hz
          have hzw := hwf.out z (List.mem_of_getElem? hz)
          have HZ := Lib.hid hz
          clear hz
          by_cases hb1 : z < 0
          · have HM := Lib.hid (mayI_false HX.out HZ.out (.inl hb1))
            go_wp2_with fail
            go_ret
            exact ⟨by rw [HM.out]; rfl, rfl⟩
          by_cases hb2 : (n : Int) ≤ z
          · have HM := Lib.hid (mayI_false HX.out HZ.out (.inr (by rw [HL.out]; exact hb2)))
            go_wp2_with fail
            go_ret
            exact ⟨by rw [HM.out]; rfl, rfl⟩
          go_wp2_with fail
          go_round
          case rel => exact ⟨j + 1, by omega, by go_num, gR_snoc HZ.out HG.out (by omega) (by omega)⟩
          case measure => simp [intOf]; omega
        · obtain rfl : j = x.length := by omega
          have hxg : gR n x = true := by have := HG.out; rwa [List.take_length] at this
          have HXG := Lib.hid hxg
          clear hxg
          go_wp2_with fail
          go_round
          case rel => exact ⟨k + 1, by omega, by go_num, all_snoc HX.out HA.out HXG.out⟩
          case measure => simp [intOf]; omega
    · obtain rfl : k = n := by omega
      have HM : Hid (mayI ls = true) := Lib.hid (by
        have h1 := HA.out
        rw [← HL.out, List.take_length] at h1
        rw [mayI_eq]; exact h1)
      go_wp2_with fail
      go_ret
      exact ⟨by rw [HM.out]; rfl, rfl⟩

def mnT (ls : List (List Int)) (k : Nat) : Nat := ((ls.take k).map fun r => min r.length 4000).sum
theorem mnT_succ {ls : List (List Int)} {k : Nat} {x : List Int} (h : ls[k]? = some x) : mnT ls (k + 1) = mnT ls k + min x.length 4000 := by
  unfold mnT; rw [List.take_add_one, h, List.map_append, List.sum_append]; simp
theorem mnT_le (ls : List (List Int)) : ∀ k, mnT ls k ≤ k * 4000
  | 0 => by simp [mnT]
  | k + 1 => by
    have ih := mnT_le ls k
    cases h : ls[k]? with
    | some x =>
      have h1 := mnT_succ h
      have h2 := Nat.min_le_right x.length 4000
      have h3 : (k + 1) * 4000 = k * 4000 + 4000 := Nat.succ_mul _ _
      omega
    | none =>
      have : mnT ls (k + 1) = mnT ls k := by
        unfold mnT; rw [List.take_add_one, h]; simp
      have h3 : (k + 1) * 4000 = k * 4000 + 4000 := Nat.succ_mul _ _
      omega
/-- few, or one alone that is long -/
theorem few : ∀ (ls : List (List Int)) (B : Nat), 4000 ≤ B → (ls.map fun r => min r.length 4000).sum ≤ 4000 → (∀ r ∈ ls, r.length ≤ B) → (ls.map List.length).sum ≤ B := by
  have zero : ∀ (ls : List (List Int)), (ls.map fun r => min r.length 4000).sum = 0 → (ls.map List.length).sum = 0 := by
    intro ls
    induction ls with
    | nil => intro _; rfl
    | cons r ls ih =>
      intro h
      simp only [List.map_cons, List.sum_cons] at h ⊢
      have := ih (by omega)
      omega
  have key : ∀ (ls : List (List Int)) (B : Nat), 4000 ≤ B → (ls.map fun r => min r.length 4000).sum ≤ 4000 → (∀ r ∈ ls, r.length ≤ B) → (ls.map List.length).sum ≤ B ∧ ((ls.map fun r => min r.length 4000).sum < 4000 → (ls.map List.length).sum = (ls.map fun r => min r.length 4000).sum) := by
    intro ls B hB
    induction ls with
    | nil => intro _ _; exact ⟨by simp, by simp⟩
    | cons r ls ih =>
      intro h hr
      simp only [List.map_cons, List.sum_cons] at h ⊢
      obtain ⟨h1, h2⟩ := ih (by omega) (fun x hx => hr x (by simp [hx]))
      have h3 := hr r (by simp)
      rcases Nat.lt_or_ge r.length 4000 with h4 | h4
      · rw [Nat.min_eq_left (by omega)] at h ⊢
        by_cases h0 : r.length = 0
        · exact ⟨by omega, fun h => by rw [h2 (by omega)]⟩
        · have := h2 (by omega)
          exact ⟨by omega, fun h => by omega⟩
      · rw [Nat.min_eq_right h4] at h ⊢
        have := zero ls (by omega)
        exact ⟨by omega, fun h => by omega⟩
  intro ls B hB h hr
  exact (key ls B hB h hr).1
/-- Great: some bool; where it is false there are at most 60 nodes, of at most 4000 leans but for one -/
def GreatP (ls : List (List Int)) (w : World) (e : Ending) (w' : World) : Prop := (∃ b, e = .returned (.bool b) ∧ (b = false → ls.length ≤ 60 ∧ (ls.map fun r => min r.length 4000).sum ≤ 4000)) ∧ w = w'
set_option maxHeartbeats 1000000 in
theorem great_any (A : Option Addr) (n c : Nat) (ls : List (List Int)) (w : World) (h : II w A n c ls) :
    Calls Try.prog 7 #[.slice A n c] w (GreatP ls w) := by
  have hc := h.cap
  have hm := h.max
  unfold maxLen at hm
  have HL := Lib.hid h.len
  have H := Lib.hid h
  clear h
  go_enter Try.func7, Try.ntmps7
  go_wp2_with fail
  go_loop [3, 4] (fun z i => ∃ k t : Nat, k ≤ n ∧ k ≤ 61 ∧ t ≤ k * 4000 ∧ i = .int .i64 k ∧ z = .int .i64 t ∧ Hid (t = mnT ls k)) (fun _ i => n - (intOf i).toNat)
  case atStart => exact ⟨0, 0, Nat.zero_le _, Nat.zero_le _, Nat.zero_le _, rfl, rfl, Lib.hid rfl⟩
  case round =>
    obtain ⟨k, t, hk, hk2, ht, rfl, rfl, HT⟩ := hrel
    by_cases hlt : k < n
    · by_cases h60 : k ≤ 60
      · obtain ⟨x, hx⟩ : ∃ x, ls[k]? = some x := ⟨_, List.getElem?_eq_getElem (by rw [HL.out]; exact hlt)⟩
        obtain ⟨ad, Ai, ci, rfl, hcl, hr⟩ := H.out.row k x hx
        have hrc := hr.cap
        have hrm := hr.max
        unfold maxLen at hrm
        have HX := Lib.hid (mnT_succ hx)
        clear hr hx
        by_cases h4 : 4000 < x.length
        · go_wp2_with fail
          go_round
          case rel => exact ⟨k + 1, t + 4000, by omega, by omega, by omega, by go_num, by go_num, Lib.hid (by rw [HX.out, ← HT.out]; omega)⟩
          case measure => simp [intOf]; omega
        · go_wp2_with fail
          go_round
          case rel => exact ⟨k + 1, t + x.length, by omega, by omega, by omega, by go_num, by go_num, Lib.hid (by rw [HX.out, ← HT.out]; omega)⟩
          case measure => simp [intOf]; omega
      · have h61 : 60 < n := by omega
        go_wp2_with fail
        all_goals
          go_ret
          exact ⟨⟨_, rfl, fun h => by first | cases h | (rw [HL.out]; omega)⟩, rfl⟩
    · have HE : Hid ((ls.map fun r => min r.length 4000).sum = t) := Lib.hid (by rw [HT.out]; unfold mnT; rw [List.take_of_length_le (by rw [HL.out]; omega)])
      by_cases h60 : 60 < n
      · go_wp2_with fail
        all_goals
          go_ret
          exact ⟨⟨_, rfl, fun h => by first | cases h | (rw [HL.out]; omega)⟩, rfl⟩
      · by_cases ht4 : 4000 < t
        · go_wp2_with fail
          all_goals
            go_ret
            exact ⟨⟨_, rfl, fun h => by first | cases h | (simp at h; omega)⟩, rfl⟩
        · go_wp2_with fail
          all_goals
            go_ret
            exact ⟨⟨_, rfl, fun _ => by rw [HL.out, HE.out]; omega⟩, rfl⟩

def IntsP (w : World) (e : Ending) (w' : World) : Prop := e = .returned (.bool true) ∧ ∃ k, w' = w.drewN k
set_option maxHeartbeats 1000000 in
theorem ints_any (A1 A2 : Option Addr) (n c1 c2 : Nat) (l : List Int) (w : World) (h1 : Rd w 1 A1 n c1 (ivI l)) (h2 : Rd w 1 A2 n c2 (ivI l)) :
    Calls Try.prog 11 #[.slice A1 n c1, .slice A2 n c2] w (IntsP w) := by
  have hm := h1.max
  have hc := h1.cap
  unfold maxLen at hm
  have hne : ((n : Int) != (n : Int)) = false := by simp
  have HL := Lib.hid h1.ilen
  go_enter Try.func11, Try.ntmps11
  go_wp2_with fail
  go_loopw [5] (fun i wr => ∃ k m : Nat, k ≤ n ∧ i = .int .i64 k ∧ wr = w.drewN m) (fun i _ => n - (intOf i).toNat)
  case atStart => exact ⟨0, 0, Nat.zero_le _, rfl, rfl⟩
  case round =>
    obtain ⟨k, m, hk, rfl, rfl⟩ := hrel
    by_cases hlt : k < n
    · have H1 := h1.drewN m
      have H2 := h2.drewN m
      obtain ⟨W, hW⟩ : ∃ W, w.drewN m = W := ⟨_, rfl⟩
      rw [hW] at H1 H2 ⊢
      have HW := Lib.hid hW
      clear hW
      obtain ⟨ad1, rfl, -⟩ := H1.addr (by omega) (by omega)
      obtain ⟨ad2, rfl, -⟩ := H2.addr (by omega) (by omega)
      obtain ⟨z, hz⟩ : ∃ z, l[k]? = some z := ⟨_, List.getElem?_eq_getElem (by rw [HL.out]; exact hlt)⟩
      have g1 := H1.icell hz
      have g2 := H2.icell hz
      clear hz
      go_wp2_with fail
      go_quiet (fail)
      go_wp2
      go_roundw
      case rel => exact ⟨k + 1, m + nq, by omega, by go_num, by rw [← HW.out, World.drewN_drewN]⟩
      case measure => simp [intOf]; omega
    · go_wp2
      go_ret
      exact ⟨rfl, _, rfl⟩
end Go.Proofs.Ytjpljkjclamjnaa
