import Derived.Test.YtmljdppdaaoehaaGreatDoorCw1
import Derived.Test.YtmljdppdaaoehaaGreatDoorQd
import Derived.StillTail
import Derived.StillTailTactics
import Derived.Test.YtmljdppdaaoehaaGreatDoorRow
import Derived.Test.YtmljdppdaaoehaaGreatDoorQe
import Derived.Test.YtmljdppdaaoehaaGreatDoorTi
import Derived.ProofKit
import Derived.Shelf.Unicode.ValidAny
import Derived.KernelRfl
import Derived.Test.YtmljdppdaaoehaaGreatDoorProg
import Derived.Test.YtmljdppdaaoehaaGreatDoorCn8
import Derived.Test.YtmljdppdaaoehaaGreatDoorRows
import Derived.PinnedBridge
import Derived.Lib.LaidU8T
import Derived.Lay
import Derived.LaidOnce
/- hoardingref03.Same, hoardingref09.Same of answers that are the same: walks. -/
namespace Go.Proofs.YtmljdppdaaoehaaGreatDoor
open Go.RowKit
set_option linter.unusedVariables false
set_option linter.unusedSimpArgs false
set_option maxRecDepth 100000 in
set_option maxHeartbeats 4000000 in
theorem same3_yes (b : Bool) (w : World) : Calls Tryz.prog 13 #[.agg #[.int .i8 1, .bool b, .int .i64 0, .string ⟨#[]⟩, .slice none 0 0, .slice none 0 0], .agg #[.int .i8 1, .bool b, .int .i64 0, .string ⟨#[]⟩, .slice none 0 0, .slice none 0 0]] w (BoolB true w) := by
  have hb : (b != b) = false := by cases b <;> rfl
  have HB : Hid (Below w.heap.size w ((w.alloc (.cells #[.int .i8 1, .bool b, .int .i64 0, .string ⟨#[]⟩, .slice none 0 0, .slice none 0 0] 37)).alloc (.cells #[.int .i8 1, .bool b, .int .i64 0, .string ⟨#[]⟩, .slice none 0 0, .slice none 0 0] 37))) := Lib.hid (((Below.refl _ w).alloc (Nat.le_refl _) _).alloc (by simp) _)
  go_enter Tryz.func13, Tryz.ntmps13
  go_wp2_with fail
  go_loopg [5] 0 (fun g i wr => i = .int .i64 0 ∧ wr = (w.alloc (.cells #[.int .i8 1, .bool b, .int .i64 0, .string ⟨#[]⟩, .slice none 0 0, .slice none 0 0] 37)).alloc (.cells #[.int .i8 1, .bool b, .int .i64 0, .string ⟨#[]⟩, .slice none 0 0, .slice none 0 0] 37))
  case atStart => exact ⟨rfl, rfl⟩
  case round =>
    obtain ⟨rfl, rfl⟩ := hrel
    go_wp2_with fail
    go_loopg [6] 0 (fun g i wr => i = .int .i64 0 ∧ wr = (w.alloc (.cells #[.int .i8 1, .bool b, .int .i64 0, .string ⟨#[]⟩, .slice none 0 0, .slice none 0 0] 37)).alloc (.cells #[.int .i8 1, .bool b, .int .i64 0, .string ⟨#[]⟩, .slice none 0 0, .slice none 0 0] 37))
    case atStart => exact ⟨rfl, rfl⟩
    case round =>
      obtain ⟨rfl, rfl⟩ := hrel
      go_wp2_with fail
      go_ret
      exact ⟨rfl, HB.out⟩
theorem yesL_take (r : List (ByteArray × Bool)) (m : Nat) : (yesL r).take (m * 8) = yesL (r.take m) := by
  induction r generalizing m with
  | nil => simp [yesL]
  | cons x r ih =>
    cases m with
    | zero => simp [yesL]
    | succ m =>
      show (yes x.1 x.2 ++ yesL r).take ((m + 1) * 8) = yes x.1 x.2 ++ yesL (r.take m)
      rw [← ih, show (m + 1) * 8 = (yes x.1 x.2).length + m * 8 by show _ = 8 + m * 8; omega, List.take_length_add_append]
set_option maxRecDepth 100000 in
set_option maxHeartbeats 8000000 in
/-- rows of answers that are the same, readable later -/
theorem same9_yes (A B : Option Addr) (n c d : Nat) (r : List (ByteArray × Bool)) (w : World) (hn : n = r.length) (hn2 : n ≤ 1000000)
    (ha : ∀ w', Below w.heap.size w w' → ∀ i x, r[i]? = some x → ∃ ad, A = some ad ∧ Cel w' (ad.add (i * 8)) (yes x.1 x.2))
    (hb : ∀ w', Below w.heap.size w w' → ∀ i x, r[i]? = some x → ∃ ad, B = some ad ∧ Cel w' (ad.add (i * 8)) (yes x.1 x.2)) :
    Calls Tryz.prog 12 #[.slice A n c, .slice B n d] w (BoolB true w) := by
  have HA := Lib.hid ha
  have HBB := Lib.hid hb
  have hne : ((n : Int) != (n : Int)) = false := by simp
  have HL := Lib.hid hn
  clear ha hb hn
  go_enter Tryz.func12, Tryz.ntmps12
  go_wp2_with fail
  go_loopg [5] n (fun g i wr => ∃ j : Nat, j + g = n ∧ i = .int .i64 (j : Nat) ∧ Hid (Below w.heap.size w wr))
  case atStart => exact ⟨0, by omega, rfl, Lib.hid (Below.refl _ w)⟩
  case round =>
    obtain ⟨j, hj, rfl, HB⟩ := hrel
    rename World => wo
    cases gk with
    | zero =>
      have hjj : ¬ ((j : Int) < (n : Int)) := by omega
      go_wp2_with fail
      go_ret
      exact ⟨rfl, HB.out⟩
    | succ g =>
      have hjj : (j : Int) < (n : Int) := by omega
      have hj0 : (0 : Int) ≤ (j : Int) ∧ (j : Int) < (n : Int) := by omega
      obtain ⟨x, hx⟩ := get_lt (l := r) (i := j) (by have := HL.out; omega)
      obtain ⟨ad, rfl, hc1⟩ := HA.out wo HB.out j x hx
      obtain ⟨bd, rfl, hc2⟩ := HBB.out wo HB.out j x hx
      obtain ⟨x1, x2⟩ := x
      have HS := Lib.hid (fun w' => same3_yes x2 w')
      have hE : (x1.toList == x1.toList) = true := by simp
      simp only [yes] at hc1 hc2
      obtain ⟨a0, a1, a2, a3, a4, a5, a6, a7⟩ := cel8 hc1
      obtain ⟨b0, b1, b2, b3, b4, b5, b6, b7⟩ := cel8 hc2
      have HC1 := Lib.hid hc1
      have HC2 := Lib.hid hc2
      clear hc1 hc2 hx
      go_wp2_with fail
      have HB2 := Lib.hid HB.out.drew
      refine Rg.start 51 (fun w' => w'.cell? (ad.add (j * 8)) = some (.string x1) ∧ w'.cell? ⟨(ad.add (j * 8)).block, (ad.add (j * 8)).off + 1, none⟩ = some (.bool false) ∧ w'.cell? ⟨(ad.add (j * 8)).block, (ad.add (j * 8)).off + 2, none⟩ = some (.int .i8 1) ∧ w'.cell? ⟨(ad.add (j * 8)).block, (ad.add (j * 8)).off + 3, none⟩ = some (.bool x2) ∧ w'.cell? ⟨(ad.add (j * 8)).block, (ad.add (j * 8)).off + 4, none⟩ = some (.int .i64 0) ∧ w'.cell? ⟨(ad.add (j * 8)).block, (ad.add (j * 8)).off + 5, none⟩ = some (.string ⟨#[]⟩) ∧ w'.cell? ⟨(ad.add (j * 8)).block, (ad.add (j * 8)).off + 6, none⟩ = some (.slice none 0 0) ∧ w'.cell? ⟨(ad.add (j * 8)).block, (ad.add (j * 8)).off + 7, none⟩ = some (.slice none 0 0) ∧  w'.cell? (bd.add (j * 8)) = some (.string x1) ∧ w'.cell? ⟨(bd.add (j * 8)).block, (bd.add (j * 8)).off + 1, none⟩ = some (.bool false) ∧ w'.cell? ⟨(bd.add (j * 8)).block, (bd.add (j * 8)).off + 2, none⟩ = some (.int .i8 1) ∧ w'.cell? ⟨(bd.add (j * 8)).block, (bd.add (j * 8)).off + 3, none⟩ = some (.bool x2) ∧ w'.cell? ⟨(bd.add (j * 8)).block, (bd.add (j * 8)).off + 4, none⟩ = some (.int .i64 0) ∧ w'.cell? ⟨(bd.add (j * 8)).block, (bd.add (j * 8)).off + 5, none⟩ = some (.string ⟨#[]⟩) ∧ w'.cell? ⟨(bd.add (j * 8)).block, (bd.add (j * 8)).off + 6, none⟩ = some (.slice none 0 0) ∧ w'.cell? ⟨(bd.add (j * 8)).block, (bd.add (j * 8)).off + 7, none⟩ = some (.slice none 0 0)) (by kernel_rfl) (by go_keep) (fun hH0 => ?_)
      simp only [List.length_cons, List.length_nil, List.replicate_succ, List.replicate_zero, Nat.zero_add, Nat.reduceAdd]
      refine Rg.take (v := ?_) hH0 0 rfl (by kernel_rfl) (fun _ _ _ h => h) (by rfl) ?_ ?_
      rotate_left
      · (intro w hSw; (try dsimp only at hSw); go_simp <;> with_reducible rfl)
      try simp only [Act.put, List.setIfInBounds_toArray, List.set_cons_zero, List.set_cons_succ]
      refine Rg.take (v := ?_) hH0 1 rfl (by kernel_rfl) (fun _ _ _ h => h) (by rfl) ?_ ?_
      rotate_left
      · (intro w hSw; (try dsimp only at hSw); go_simp <;> with_reducible rfl)
      try simp only [Act.put, List.setIfInBounds_toArray, List.set_cons_zero, List.set_cons_succ]
      refine Rg.take (v := ?_) hH0 2 rfl (by kernel_rfl) (fun _ _ _ h => h) (by rfl) ?_ ?_
      rotate_left
      · (intro w hSw; (try dsimp only at hSw); go_simp <;> with_reducible rfl)
      try simp only [Act.put, List.setIfInBounds_toArray, List.set_cons_zero, List.set_cons_succ]
      refine Rg.take (v := ?_) hH0 3 rfl (by kernel_rfl) (fun _ _ _ h => h) (by rfl) ?_ ?_
      rotate_left
      · (intro w hSw; (try dsimp only at hSw); go_simp <;> with_reducible rfl)
      try simp only [Act.put, List.setIfInBounds_toArray, List.set_cons_zero, List.set_cons_succ]
      refine Rg.take (v := ?_) hH0 4 rfl (by kernel_rfl) (fun _ _ _ h => h) (by rfl) ?_ ?_
      rotate_left
      · (intro w hSw; (try dsimp only at hSw); go_simp <;> with_reducible rfl)
      try simp only [Act.put, List.setIfInBounds_toArray, List.set_cons_zero, List.set_cons_succ]
      refine Rg.take (v := ?_) hH0 5 rfl (by kernel_rfl) (fun _ _ _ h => h) (by rfl) ?_ ?_
      rotate_left
      · (intro w hSw; (try dsimp only at hSw); go_simp <;> with_reducible rfl)
      try simp only [Act.put, List.setIfInBounds_toArray, List.set_cons_zero, List.set_cons_succ]
      refine Rg.take (v := ?_) hH0 6 rfl (by kernel_rfl) (fun _ _ _ h => h) (by rfl) ?_ ?_
      rotate_left
      · (intro w hSw; (try dsimp only at hSw); go_simp <;> with_reducible rfl)
      try simp only [Act.put, List.setIfInBounds_toArray, List.set_cons_zero, List.set_cons_succ]
      refine Rg.take (v := ?_) hH0 7 rfl (by kernel_rfl) (fun _ _ _ h => h) (by rfl) ?_ ?_
      rotate_left
      · (intro w hSw; (try dsimp only at hSw); go_simp <;> with_reducible rfl)
      try simp only [Act.put, List.setIfInBounds_toArray, List.set_cons_zero, List.set_cons_succ]
      refine Rg.take (v := ?_) hH0 8 rfl (by kernel_rfl) (fun _ _ _ h => h) (by rfl) ?_ ?_
      rotate_left
      · (intro w hSw; (try dsimp only at hSw); go_simp <;> with_reducible rfl)
      try simp only [Act.put, List.setIfInBounds_toArray, List.set_cons_zero, List.set_cons_succ]
      refine Rg.take (v := ?_) hH0 9 rfl (by kernel_rfl) (fun _ _ _ h => h) (by rfl) ?_ ?_
      rotate_left
      · (intro w hSw; (try dsimp only at hSw); go_simp <;> with_reducible rfl)
      try simp only [Act.put, List.setIfInBounds_toArray, List.set_cons_zero, List.set_cons_succ]
      refine Rg.take (v := ?_) hH0 10 rfl (by kernel_rfl) (fun _ _ _ h => h) (by rfl) ?_ ?_
      rotate_left
      · (intro w hSw; (try dsimp only at hSw); go_simp <;> with_reducible rfl)
      try simp only [Act.put, List.setIfInBounds_toArray, List.set_cons_zero, List.set_cons_succ]
      refine Rg.take (v := ?_) hH0 11 rfl (by kernel_rfl) (fun _ _ _ h => h) (by rfl) ?_ ?_
      rotate_left
      · (intro w hSw; (try dsimp only at hSw); go_simp <;> with_reducible rfl)
      try simp only [Act.put, List.setIfInBounds_toArray, List.set_cons_zero, List.set_cons_succ]
      refine Rg.take (v := ?_) hH0 12 rfl (by kernel_rfl) (fun _ _ _ h => h) (by rfl) ?_ ?_
      rotate_left
      · (intro w hSw; (try dsimp only at hSw); go_simp <;> with_reducible rfl)
      try simp only [Act.put, List.setIfInBounds_toArray, List.set_cons_zero, List.set_cons_succ]
      refine Rg.take (v := ?_) hH0 13 rfl (by kernel_rfl) (fun _ _ _ h => h) (by rfl) ?_ ?_
      rotate_left
      · (intro w hSw; (try dsimp only at hSw); go_simp <;> with_reducible rfl)
      try simp only [Act.put, List.setIfInBounds_toArray, List.set_cons_zero, List.set_cons_succ]
      refine Rg.take (v := ?_) hH0 14 rfl (by kernel_rfl) (fun _ _ _ h => h) (by rfl) ?_ ?_
      rotate_left
      · (intro w hSw; (try dsimp only at hSw); go_simp <;> with_reducible rfl)
      try simp only [Act.put, List.setIfInBounds_toArray, List.set_cons_zero, List.set_cons_succ]
      refine Rg.take (v := ?_) hH0 15 rfl (by kernel_rfl) (fun _ _ _ h => h) (by rfl) ?_ ?_
      rotate_left
      · (intro w hSw; (try dsimp only at hSw); go_simp <;> with_reducible rfl)
      try simp only [Act.put, List.setIfInBounds_toArray, List.set_cons_zero, List.set_cons_succ]
      refine Rg.take (v := ?_) hH0 16 rfl (by kernel_rfl) (fun _ _ _ h => h) (by rfl) ?_ ?_
      rotate_left
      · (intro w hSw; (try dsimp only at hSw); go_simp <;> with_reducible rfl)
      try simp only [Act.put, List.setIfInBounds_toArray, List.set_cons_zero, List.set_cons_succ]
      refine Rg.take (v := ?_) hH0 17 rfl (by kernel_rfl) (fun _ _ _ h => h) (by rfl) ?_ ?_
      rotate_left
      · (intro w hSw; (try dsimp only at hSw); go_simp <;> with_reducible rfl)
      try simp only [Act.put, List.setIfInBounds_toArray, List.set_cons_zero, List.set_cons_succ]
      refine Rg.take (v := ?_) hH0 18 rfl (by kernel_rfl) (fun _ _ _ h => h) (by rfl) ?_ ?_
      rotate_left
      · (intro w hSw; (try dsimp only at hSw); go_simp <;> with_reducible rfl)
      try simp only [Act.put, List.setIfInBounds_toArray, List.set_cons_zero, List.set_cons_succ]
      refine Rg.take (v := ?_) hH0 19 rfl (by kernel_rfl) (fun _ _ _ h => h) (by rfl) ?_ ?_
      rotate_left
      · (intro w hSw; (try dsimp only at hSw); go_simp <;> with_reducible rfl)
      try simp only [Act.put, List.setIfInBounds_toArray, List.set_cons_zero, List.set_cons_succ]
      refine Rg.take (v := ?_) hH0 20 rfl (by kernel_rfl) (fun _ _ _ h => h) (by rfl) ?_ ?_
      rotate_left
      · (intro w hSw; (try dsimp only at hSw); go_simp <;> with_reducible rfl)
      try simp only [Act.put, List.setIfInBounds_toArray, List.set_cons_zero, List.set_cons_succ]
      refine Rg.take (v := ?_) hH0 21 rfl (by kernel_rfl) (fun _ _ _ h => h) (by rfl) ?_ ?_
      rotate_left
      · (intro w hSw; (try dsimp only at hSw); go_simp <;> with_reducible rfl)
      try simp only [Act.put, List.setIfInBounds_toArray, List.set_cons_zero, List.set_cons_succ]
      refine Rg.take (v := ?_) hH0 22 rfl (by kernel_rfl) (fun _ _ _ h => h) (by rfl) ?_ ?_
      rotate_left
      · (intro w hSw; (try dsimp only at hSw); go_simp <;> with_reducible rfl)
      try simp only [Act.put, List.setIfInBounds_toArray, List.set_cons_zero, List.set_cons_succ]
      refine Rg.take (v := ?_) hH0 23 rfl (by kernel_rfl) (fun _ _ _ h => h) (by rfl) ?_ ?_
      rotate_left
      · (intro w hSw; (try dsimp only at hSw); go_simp <;> with_reducible rfl)
      try simp only [Act.put, List.setIfInBounds_toArray, List.set_cons_zero, List.set_cons_succ]
      refine Rg.take (v := ?_) hH0 24 rfl (by kernel_rfl) (fun _ _ _ h => h) (by rfl) ?_ ?_
      rotate_left
      · (intro w hSw; (try dsimp only at hSw); go_simp <;> with_reducible rfl)
      try simp only [Act.put, List.setIfInBounds_toArray, List.set_cons_zero, List.set_cons_succ]
      refine Rg.take (v := ?_) hH0 25 rfl (by kernel_rfl) (fun _ _ _ h => h) (by rfl) ?_ ?_
      rotate_left
      · (intro w hSw; (try dsimp only at hSw); go_simp <;> with_reducible rfl)
      try simp only [Act.put, List.setIfInBounds_toArray, List.set_cons_zero, List.set_cons_succ]
      refine Rg.take (v := ?_) hH0 26 rfl (by kernel_rfl) (fun _ _ _ h => h) (by rfl) ?_ ?_
      rotate_left
      · (intro w hSw; (try dsimp only at hSw); go_simp <;> with_reducible rfl)
      try simp only [Act.put, List.setIfInBounds_toArray, List.set_cons_zero, List.set_cons_succ]
      refine Rg.take (v := ?_) hH0 27 rfl (by kernel_rfl) (fun _ _ _ h => h) (by rfl) ?_ ?_
      rotate_left
      · (intro w hSw; (try dsimp only at hSw); go_simp <;> with_reducible rfl)
      try simp only [Act.put, List.setIfInBounds_toArray, List.set_cons_zero, List.set_cons_succ]
      refine Rg.take (v := ?_) hH0 28 rfl (by kernel_rfl) (fun _ _ _ h => h) (by rfl) ?_ ?_
      rotate_left
      · (intro w hSw; (try dsimp only at hSw); go_simp <;> with_reducible rfl)
      try simp only [Act.put, List.setIfInBounds_toArray, List.set_cons_zero, List.set_cons_succ]
      refine Rg.take (v := ?_) hH0 29 rfl (by kernel_rfl) (fun _ _ _ h => h) (by rfl) ?_ ?_
      rotate_left
      · (intro w hSw; (try dsimp only at hSw); go_simp <;> with_reducible rfl)
      try simp only [Act.put, List.setIfInBounds_toArray, List.set_cons_zero, List.set_cons_succ]
      refine Rg.take (v := ?_) hH0 30 rfl (by kernel_rfl) (fun _ _ _ h => h) (by rfl) ?_ ?_
      rotate_left
      · (intro w hSw; (try dsimp only at hSw); go_simp <;> with_reducible rfl)
      try simp only [Act.put, List.setIfInBounds_toArray, List.set_cons_zero, List.set_cons_succ]
      refine Rg.take (v := ?_) hH0 31 rfl (by kernel_rfl) (fun _ _ _ h => h) (by rfl) ?_ ?_
      rotate_left
      · (intro w hSw; (try dsimp only at hSw); go_simp <;> with_reducible rfl)
      try simp only [Act.put, List.setIfInBounds_toArray, List.set_cons_zero, List.set_cons_succ]
      refine Rg.take (v := ?_) hH0 32 rfl (by kernel_rfl) (fun _ _ _ h => h) (by rfl) ?_ ?_
      rotate_left
      · (intro w hSw; (try dsimp only at hSw); go_simp <;> with_reducible rfl)
      try simp only [Act.put, List.setIfInBounds_toArray, List.set_cons_zero, List.set_cons_succ]
      refine Rg.take (v := ?_) hH0 33 rfl (by kernel_rfl) (fun _ _ _ h => h) (by rfl) ?_ ?_
      rotate_left
      · (intro w hSw; (try dsimp only at hSw); go_simp <;> with_reducible rfl)
      try simp only [Act.put, List.setIfInBounds_toArray, List.set_cons_zero, List.set_cons_succ]
      refine Rg.take (v := ?_) hH0 34 rfl (by kernel_rfl) (fun _ _ _ h => h) (by rfl) ?_ ?_
      rotate_left
      · (intro w hSw; (try dsimp only at hSw); go_simp <;> with_reducible rfl)
      try simp only [Act.put, List.setIfInBounds_toArray, List.set_cons_zero, List.set_cons_succ]
      refine Rg.step 35 (by kernel_rfl) rfl (fun K hK => ?_)
      go_simp; (with_reducible refine (HS.out wo.drew).mono ?_); rintro e w3 ⟨rfl, hb3⟩; have HB3 := Lib.hid (HB2.out.trans (hb3.mono HB2.out.size)); have hbo : Below wo.heap.size wo w3 := (Below.refl _ wo).drew.trans hb3; obtain ⟨a0, a1, a2, a3, a4, a5, a6, a7⟩ := cel8 (HC1.out.below hbo); obtain ⟨b0, b1, b2, b3, b4, b5, b6, b7⟩ := cel8 (HC2.out.below hbo); clear hb3 hbo; go_simp
      refine hK.out _ _ ?_ (fun hH1 => ?_)
      · ((try dsimp only) <;> go_keep)
      clear hK K hH0
      try simp only [Act.put, List.setIfInBounds_toArray, List.set_cons_zero, List.set_cons_succ]
      refine Rg.take (v := ?_) hH1 36 rfl (by kernel_rfl) (fun _ _ _ h => h) (by rfl) ?_ ?_
      rotate_left
      · (intro w hSw; (try dsimp only at hSw); go_simp <;> with_reducible rfl)
      try simp only [Act.put, List.setIfInBounds_toArray, List.set_cons_zero, List.set_cons_succ]
      refine Rg.take (v := ?_) hH1 37 rfl (by kernel_rfl) (fun _ _ _ h => h) (by rfl) ?_ ?_
      rotate_left
      · (intro w hSw; (try dsimp only at hSw); go_simp <;> with_reducible rfl)
      try simp only [Act.put, List.setIfInBounds_toArray, List.set_cons_zero, List.set_cons_succ]
      refine Rg.skip hH1 38 rfl (by kernel_rfl) (fun _ _ _ h => h) (by rfl) ?_
      try simp only [Act.put, List.setIfInBounds_toArray, List.set_cons_zero, List.set_cons_succ]
      refine Rg.skip hH1 39 rfl (by kernel_rfl) (fun _ _ _ h => h) (by rfl) ?_
      try simp only [Act.put, List.setIfInBounds_toArray, List.set_cons_zero, List.set_cons_succ]
      refine Rg.skip hH1 40 rfl (by kernel_rfl) (fun _ _ _ h => h) (by rfl) ?_
      try simp only [Act.put, List.setIfInBounds_toArray, List.set_cons_zero, List.set_cons_succ]
      refine Rg.skip hH1 41 rfl (by kernel_rfl) (fun _ _ _ h => h) (by rfl) ?_
      try simp only [Act.put, List.setIfInBounds_toArray, List.set_cons_zero, List.set_cons_succ]
      refine Rg.skip hH1 42 rfl (by kernel_rfl) (fun _ _ _ h => h) (by rfl) ?_
      try simp only [Act.put, List.setIfInBounds_toArray, List.set_cons_zero, List.set_cons_succ]
      refine Rg.skip hH1 43 rfl (by kernel_rfl) (fun _ _ _ h => h) (by rfl) ?_
      try simp only [Act.put, List.setIfInBounds_toArray, List.set_cons_zero, List.set_cons_succ]
      refine Rg.skip hH1 44 rfl (by kernel_rfl) (fun _ _ _ h => h) (by rfl) ?_
      try simp only [Act.put, List.setIfInBounds_toArray, List.set_cons_zero, List.set_cons_succ]
      refine Rg.skip hH1 45 rfl (by kernel_rfl) (fun _ _ _ h => h) (by rfl) ?_
      try simp only [Act.put, List.setIfInBounds_toArray, List.set_cons_zero, List.set_cons_succ]
      refine Rg.skip hH1 46 rfl (by kernel_rfl) (fun _ _ _ h => h) (by rfl) ?_
      try simp only [Act.put, List.setIfInBounds_toArray, List.set_cons_zero, List.set_cons_succ]
      refine Rg.skip hH1 47 rfl (by kernel_rfl) (fun _ _ _ h => h) (by rfl) ?_
      try simp only [Act.put, List.setIfInBounds_toArray, List.set_cons_zero, List.set_cons_succ]
      refine Rg.step 48 (by kernel_rfl) rfl (fun K hK => ?_)
      go_simp
      refine hK.out _ _ ?_ (fun hH2 => ?_)
      · ((try dsimp only) <;> go_keep)
      clear hK K hH1
      try simp only [Act.put, List.setIfInBounds_toArray, List.set_cons_zero, List.set_cons_succ]
      refine Rg.skip hH2 49 rfl (by kernel_rfl) (fun _ _ _ h => h) (by rfl) ?_
      try simp only [Act.put, List.setIfInBounds_toArray, List.set_cons_zero, List.set_cons_succ]
      refine Rg.take (v := ?_) hH2 50 rfl (by kernel_rfl) (fun _ _ _ h => h) (by rfl) ?_ ?_
      rotate_left
      · (intro w hSw; (try dsimp only at hSw); go_simp <;> with_reducible rfl)
      try simp only [Act.put, List.setIfInBounds_toArray, List.set_cons_zero, List.set_cons_succ]
      refine Rg.last (by kernel_rfl) (by kernel_rfl) rfl (fun K hK => ?_)
      go_simp
      refine hK.out _ _ ?_
      clear hK K hH2
      go_wp2_with fail
      go_roundg g
      case measure => omega
      case rel => exact ⟨j + 1, by omega, by go_num, HB3⟩
end Go.Proofs.YtmljdppdaaoehaaGreatDoor

/- Rows of conditions of one's own: appends onto a row that is empty; what lies in cells. -/
namespace Go.Proofs.YtmljdppdaaoehaaGreatDoor
open Go.RowKit
set_option linter.unusedVariables false
set_option linter.unusedSimpArgs false

theorem info_cond : (Tryz.prog.info? 46).map (fun i => (i.zero, i.size, i.bytes)) = some (some (.agg #[.string ByteArray.empty, .int .i8 0, .int .i8 0, .string ByteArray.empty, .int .i64 0, .string ByteArray.empty, .string ByteArray.empty, .slice none 0 0, .int .i8 0, .string ByteArray.empty, .int .i64 0, .string ByteArray.empty, .string ByteArray.empty, .slice none 0 0, .slice none 0 0]), 15, 224) := by kernel_rfl
/-- conditions in a row of one's own -/
theorem own_conds {w : World} {base c : Nat} {A : Option Addr} {xs : List Value} {l : List Cd} {n : Nat} {S : Nat → Prop} (hn : n = l.length) (hl : l.length ≤ 1000) (ho : Ow w base 46 15 A n c xs) (ht : Trs.at S w (l.flatMap Cd.tr) xs) :
    Ls (fun k => k < w.heap.size) w 15 224 Cd.tr A c l := by
  subst hn
  refine ⟨by omega, by omega, ho.rd.cap, ho.rd.max, fun ad e _ => ?_, xs, ho.rd, ht.bound.mono (fun k hk => hk.2)⟩
  subst e
  exact (ho.lt rfl).2
theorem cds_one {S : Nat → Prop} {w : World} : ∀ {l : List Cd} {vs : List Value}, Trs.at S w (l.flatMap Cd.tr) vs → ∀ u ∈ vs, u.oneCell' = true
  | [], vs, h, u, hu => by
    simp only [List.flatMap_nil, Trs.at] at h
    subst h
    cases hu
  | c :: l, vs, h, u, hu => by
    rw [List.flatMap_cons] at h
    obtain ⟨cs, vs', rfl, h1, h2⟩ := Trs.at.app.1 h
    rcases List.mem_append.1 hu with hu | hu
    · obtain ⟨xs, ys, L, lc, rfl, _, _, hxa, hxb, _⟩ := Cd.at_iff.1 h1
      obtain ⟨A1, n1, rfl, _⟩ := ex_cells hxa
      obtain ⟨B1, n2, rfl, _⟩ := ex_cells hxb
      simp only [List.cons_append, List.nil_append, List.mem_cons, List.not_mem_nil, or_false] at hu
      rcases hu with rfl | rfl | rfl | rfl | rfl | rfl | rfl | rfl | rfl | rfl | rfl | rfl | rfl | rfl | rfl <;> rfl
    · exact cds_one h2 u hu
/-- an append onto an empty row of the call's own, at a step of a region that draws its order -/
theorem step_row0 {w : World} {ops : Array Oper} {o : Oper} {a : Act} {K : Act → World → Prop} {Q : Exit → Act → World → Prop} {E : Prop} {t e : TypeId} {z : Value} {sz b : Nat}
    (hinfo : (Tryz.prog.info? e).map (fun i => (i.zero, i.size, i.bytes)) = some (some z, sz, b)) (ht : Tryz.prog.underlying t = some (.slice e)) (hzs : z.cells.size = sz) (hsz : 0 < sz)
    (hgd : o.guard = none) (s x : Operand) (ho : o.op = .call { callee := .builtin .append, args := #[s, x], argTypes := #[t, t] })
    (base : Nat) (A0 : Option Addr) (c0 : Nat) (hs : a.eval s = .slice A0 0 c0) (hown : Ow w base e sz A0 0 c0 [])
    (A : Option Addr) (m c : Nat) (news : List Value) (hx : a.eval x = .slice A m c) (hr : Rd w sz A m c news) (h1 : ∀ u ∈ news, u.oneCell' = true) (hb : m ≤ 140737488355328) (hb2 : m * b ≤ 140737488355328) (hbase : base ≤ w.heap.size)
    (h : ∀ A' c' w', Ow w' base e sz A' m c' news → w.grownBy w' (blk A0) → (A' = A0 ∨ A' = some ⟨w.heap.size, 0, none⟩) → K (a.put o.dst (.slice A' m c')) w') :
    if Region.wanted o (yielded ops a.tmps) = true then Oper.wp Tryz.prog o a w K Q else E :=
  step_row hinfo ht hzs hsz hgd s x ho base A0 c0 0 [] hs hown A m c news hx hr h1 (by omega) (by rwa [Nat.zero_add]) hbase (fun A' c' w' h1 h2 h3 => by
    rw [Nat.zero_add] at h1 ⊢
    exact h A' c' w' h1 h2 h3)
/-- a literal of no elements -/
theorem Ow.none_ {w : World} {q base : Nat} {e : TypeId} {sz : Nat} (h : Blk w q #[] e) (hb : base ≤ q) : Ow w base e sz (some ⟨q, 0, none⟩) 0 0 [] :=
  ⟨by simp, .inr ⟨q, #[], rfl, hb, h, by simp, by simp [maxLen], by simp, by simp⟩⟩
/-- what conds.Run gives, readable later -/
def RunL (r : Nat ⊕ List (ByteArray × Bool)) (w : World) (e : Ending) (w' : World) : Prop := Below w.heap.size w w' ∧ match r with
  | .inl n => e = .returned (.tuple #[.slice none 0 0, .int .i64 (n : Nat)])
  | .inr r => ∃ A c, e = .returned (.tuple #[.slice A r.length c, .int .i64 0]) ∧ r.length ≤ c ∧ ∀ w'', Below w'.heap.size w' w'' → ∀ i x, r[i]? = some x → ∃ ad, A = some ad ∧ Cel w'' (ad.add (i * 8)) (yes x.1 x.2)
theorem RunOut.l {r : Nat ⊕ List (ByteArray × Bool)} {w : World} {e : Ending} {w' : World} (h : RunOut r w e w') : RunL r w e w' := by
  cases r with
  | inl n => exact ⟨h.2, h.1⟩
  | inr r =>
    obtain ⟨A, c, h1, h2, h3⟩ := h
    refine ⟨h3, A, c, h1, h2.rd.cap, fun w'' hb i x hx => ?_⟩
    obtain ⟨ad, h4, h5⟩ := yes_cel h2.rd hx
    exact ⟨ad, h4, h5.below hb⟩
end Go.Proofs.YtmljdppdaaoehaaGreatDoor

/- CondsRun: the law's walk. -/
namespace Go.Proofs.YtmljdppdaaoehaaGreatDoor
open Go.RowKit
set_option linter.unusedVariables false
set_option linter.unusedSimpArgs false
set_option maxRecDepth 100000
theorem eW_tx {e : Ex} (h : eW e ≤ 9999) : e.text.size ≤ 30000 := by
  unfold eW at h
  split at h <;> omega
theorem cW_tx : ∀ (k : Nat) (c : Cd), cW k c ≤ 9999 → cTx k c
  | 0, c, h => trivial
  | k + 1, c, h => by
    simp only [cW] at h
    split at h
    · omega
    · next hl =>
      have h2 := efold_sum (f := cW k) c.l (1 + min c.name.size 10000 + eW c.a + eW c.b) (by omega)
      rw [h2] at h
      exact ⟨eW_tx (by omega), eW_tx (by omega), fun p hp => cW_tx k p (by have := mem_sum_le (f := cW k) hp; omega)⟩
theorem vW_tx : ∀ (k j : Nat) (v : Vl), j ≤ k → vW k v ≤ 9999 → ∀ x ∈ vWalk j v, vTxt x
  | _, 0, v, _, _ => by simp [vWalk]
  | 0, j + 1, v, hj, _ => by omega
  | k + 1, j + 1, v, hj, h => by
    simp only [vW] at h
    split at h
    · omega
    · next hl =>
      have h2 := efold_sum (f := vW k) v.list (1 + min v.text.size 10000 + (v.keys.map fun s => min s.size 10000).sum) (by omega)
      rw [h2] at h
      intro x hx
      simp only [vWalk, List.mem_cons, List.mem_flatMap] at hx
      rcases hx with rfl | ⟨y, hy, hxy⟩
      · refine ⟨by omega, fun s hs => ?_⟩
        have := mem_sum_le (f := fun s : ByteArray => min s.size 10000) hs
        omega
      · exact vW_tx k j y (by omega) (by have := mem_sum_le (f := vW k) hy; omega) x hxy
theorem vW_deep : ∀ (k : Nat) (v : Vl), vW k v ≤ 9999 → vDeep k v
  | 0, v, h => by simp [vW] at h
  | k + 1, v, h => by
    simp only [vW] at h
    split at h
    · omega
    · next hl =>
      have h2 := efold_sum (f := vW k) v.list (1 + min v.text.size 10000 + (v.keys.map fun s => min s.size 10000).sum) (by omega)
      rw [h2] at h
      exact fun x hx => vW_deep k x (by have := mem_sum_le (f := vW k) hx; omega)
theorem gs_tx {ps : List Gv} (h : gsGreat ps = false) : ∀ p ∈ ps, CkTxt p.v ∧ vDeep 30 p.v := by
  have hs := (gs_small h).2
  unfold gsGreat at h
  rw [Bool.or_eq_false_iff, List.any_eq_false] at h
  intro p hp
  have := h.2 p hp
  simp only [Bool.or_eq_true, not_or] at this
  have hg : vGreat p.v = false := by simpa using this.2
  unfold vGreat at hg
  simp only [decide_eq_false_iff_not] at hg
  exact ⟨⟨hs p hp, vW_tx 30 24 p.v (by omega) (by omega)⟩, vW_deep 30 p.v (by omega)⟩
def zg : Gv := ⟨ByteArray.empty, false, zeroV⟩
theorem plain_deep {e : Ex} {ps : List Gv} (hps : ∀ p ∈ ps, vDeep 30 p.v) : vDeep 30 ((plainG e ps).getD zg).v := by
  have h0 : ∀ v : Vl, v.list = [] → vDeep 30 v := fun v h x hx => by rw [h] at hx; cases hx
  cases h : plainG e ps with
  | none => exact h0 _ rfl
  | some x =>
    show vDeep 30 x.v
    unfold plainG at h
    split at h
    · cases h
    · split at h
      · injection h with h; subst h; exact h0 _ rfl
      · split at h
        · injection h with h; subst h; exact h0 _ rfl
        · split at h
          · next k hk =>
            obtain ⟨p, hp, rfl⟩ := Option.map_eq_some_iff.1 h
            exact hps p (List.mem_of_getElem? hp)
          · cases h
def PlQ (S : Nat → Prop) (g : Gv) (er : Nat) (w : World) (e : Ending) (w' : World) : Prop := Below w.heap.size w w' ∧ ∃ GL lc GK kc, e = .returned (.tuple #[.agg #[.string g.name, .bool g.unknown, .int .i8 g.v.kind, .bool g.v.bool, .int .i64 g.v.num, .string g.v.text, .slice GL g.v.list.length lc, .slice GK g.v.keys.length kc], .int .i64 (er : Nat)]) ∧ Trs.at S w' g.v.tr (#[.int .i8 g.v.kind, .bool g.v.bool, .int .i64 g.v.num, .string g.v.text, .slice GL g.v.list.length lc, .slice GK g.v.keys.length kc] : Array Value).toList
theorem plainOut_all {S : Nat → Prop} {o : Option Gv} {w : World} {e : Ending} {w' : World} (h : PlainOut S o w e w') : PlQ S (o.getD zg) (if o.isSome then 0 else 150) w e w' := by
  cases o with
  | some x =>
    obtain ⟨hb, GL, lc, GK, kc, h1, h2⟩ := plainOut_cells h
    exact ⟨hb, GL, lc, GK, kc, h1, h2⟩
  | none =>
    obtain ⟨hb, h1⟩ := h
    refine ⟨hb, none, 0, none, 0, h1, ?_⟩
    exact Vl.at_iff.2 ⟨none, 0, none, 0, rfl, (by show (Lit.int .i8 0).wf = true; decide), (by show (Lit.int .i64 0).wf = true; decide), by show ByteArray.empty.size ≤ _; decide, Ls.nil _ _ _ _ (by omega) _, Ls.nil _ _ _ _ (by omega) _⟩
/-- what a run answers, in words -/
def RunQ (r : Nat ⊕ List (ByteArray × Bool)) (A : Option Addr) (n c f : Nat) (w' : World) : Prop := n ≤ c ∧ match r with
  | .inl m => f = m ∧ n = 0
  | .inr r => f = 0 ∧ n = r.length ∧ ∀ w'', Below w'.heap.size w' w'' → ∀ i x, r[i]? = some x → ∃ ad, A = some ad ∧ Cel w'' (ad.add (i * 8)) (yes x.1 x.2)
theorem RunL.q {r : Nat ⊕ List (ByteArray × Bool)} {w : World} {e : Ending} {w' : World} (h : RunL r w e w') : ∃ (A : Option Addr) (n c f : Nat), e = .returned (.tuple #[.slice A n c, .int .i64 (f : Nat)]) ∧ Below w.heap.size w w' ∧ RunQ r A n c f w' := by
  obtain ⟨hb, h⟩ := h
  cases r with
  | inl m => exact ⟨none, 0, 0, m, h, hb, Nat.le_refl _, rfl, rfl⟩
  | inr r =>
    obtain ⟨A, c, rfl, h1, h2⟩ := h
    exact ⟨A, r.length, c, 0, rfl, hb, h1, rfl, rfl, h2⟩
theorem RunQ.same {r : Nat ⊕ List (ByteArray × Bool)} {A B : Option Addr} {n m c d f g : Nat} {w w' : World} (h : RunQ r A n c f w) (h' : RunQ r B m d g w') (hw : Below w.heap.size w w') (hl : ∀ x, r = .inr x → x.length ≤ 1000000) : m = n ∧ g = f ∧ ∀ w2, Below w'.heap.size w' w2 → Calls Tryz.prog 12 #[.slice A n c, .slice B n d] w2 (BoolB true w2) := by
  cases r with
  | inl k =>
    obtain ⟨_, rfl, rfl⟩ := h
    obtain ⟨_, rfl, rfl⟩ := h'
    exact ⟨rfl, rfl, fun w2 _ => same9_yes A B 0 c d [] w2 rfl (by omega) (fun _ _ i x hx => by simp at hx) (fun _ _ i x hx => by simp at hx)⟩
  | inr l =>
    obtain ⟨_, rfl, rfl, h1⟩ := h
    obtain ⟨_, rfl, rfl, h2⟩ := h'
    exact ⟨rfl, rfl, fun w2 hb => same9_yes A B l.length c d l w2 rfl (hl l rfl) (fun w3 hb3 => h1 w3 ((hw.trans (hb.mono hw.size)).trans (hb3.mono (by have := hw.size; have := hb.size; omega)))) (fun w3 hb3 => h2 w3 (hb.trans (hb3.mono hb.size)))⟩
set_option maxHeartbeats 16000000 in
theorem condsRun_any (A : Option Addr) (ac : Nat) (l : List Cd) (PA : Option Addr) (pc : Nat) (ps : List Gv) (x : Ex) (xs : List Value) (w : World) (hV : VOk w) (hls : Ls (fun k => k < w.heap.size) w 15 224 Cd.tr A ac l) (hps : Ls (fun k => k < w.heap.size) w 8 104 Gv.tr PA pc ps) (hx : Trs.at (fun k => k < w.heap.size) w x.tr xs) :
    Calls Tryz.prog 3 #[.slice A l.length ac, .slice PA ps.length pc, .agg xs.toArray] w (BoolB true w) := by
  obtain ⟨XA, xc, rfl, _⟩ := ex_cells hx
  obtain ⟨hxl1, hxl2⟩ := ex_lens hx
  have HB0 : Hid (Below w.heap.size w (w.alloc (.cells #[.int .i8 x.kind, .string x.text, .int .i64 x.num, .string x.name, .string x.attr, .slice XA x.l.length xc] 27))) := Lib.hid ((Below.refl _ w).alloc (Nat.le_refl _) _)
  have HXB : Hid (Blk (w.alloc (.cells #[.int .i8 x.kind, .string x.text, .int .i64 x.num, .string x.name, .string x.attr, .slice XA x.l.length xc] 27)) w.heap.size #[.int .i8 x.kind, .string x.text, .int .i64 x.num, .string x.name, .string x.attr, .slice XA x.l.length xc] 27) := Lib.hid (Blk.new _ _ _)
  have HG1 : Hid (Calls Tryz.prog 5 #[.slice A l.length ac] (w.alloc (.cells #[.int .i8 x.kind, .string x.text, .int .i64 x.num, .string x.name, .string x.attr, .slice XA x.l.length xc] 27)) (BoolOut (csGreat l) (w.alloc (.cells #[.int .i8 x.kind, .string x.text, .int .i64 x.num, .string x.name, .string x.attr, .slice XA x.l.length xc] 27)))) := Lib.hid (csgreat_any _ A ac l _ (hls.below HB0.out))
  have HG2 : Hid (∀ w', Below w.heap.size w w' → Calls Tryz.prog 6 #[.slice PA ps.length pc] w' (BoolOut (gsGreat ps) w')) := Lib.hid (fun w' h => gsgreat_any _ PA pc ps w' (hps.below h))
  have HW : Hid (∀ w', Below w.heap.size w w' → Calls Tryz.prog 7 #[] w' (BoolB true w')) := Lib.hid (fun w' h => wakes_any w' (hV.below h))
  have HRUN : Hid (csGreat l = false → gsGreat ps = false → ∃ ro : Nat ⊕ List (ByteArray × Bool), (∀ z, ro = .inr z → z.length ≤ 1000000) ∧ (∀ w', Below w.heap.size w w' → Calls Tryz.prog 8 #[.slice A l.length ac, .slice PA ps.length pc] w' (RunL ro w')) ∧ ∀ w', Below w.heap.size w w' → Calls Tryz.prog 9 #[.slice A l.length ac, .slice PA ps.length pc] w' (RunL ro w')) := Lib.hid (fun h1 h2 => by
    obtain ⟨hl40, hok⟩ := cs_ok h1
    obtain ⟨hp60, hsm⟩ := gs_small h2
    have htx : ∀ c ∈ l, cTx 20 c := fun c hc => cW_tx 20 c (by
      unfold csGreat at h1
      rw [Bool.or_eq_false_iff] at h1
      have := csGo_all h1.2 c hc
      omega)
    obtain ⟨K, hK⟩ : ∃ K, csCheck l (gNames ps) = 0 → ∀ c ∈ l, Dp l ps vSmall K c := by
      by_cases h : csCheck l (gNames ps) = 0
      · obtain ⟨K, hK, _⟩ := chk_dp hsm h
        exact ⟨K, fun _ => hK⟩
      · exact ⟨0, fun e => absurd e h⟩
    refine ⟨runOf l ps vEq K, fun z hz => ?_, fun w' h => ?_, fun w' h => ?_⟩
    · unfold runOf at hz
      split at hz
      · cases hz
      · split at hz
        · cases hz
        · next r hr =>
          injection hz with hz
          rw [← hz, runEv_len hr]; omega
    · exact (crun_any _ A ac l PA pc ps w' (hV.below h) (hls.below h) (hps.below h) (by omega) hsm hok K hK).mono (fun e w'' h => h.l)
    · exact (rrun_any _ A ac l PA pc ps K w' (fun p hp => (gs_tx h2 p hp).1) (hls.below h) (hps.below h) (by omega) (by omega) hok htx hK).mono (fun e w'' h => h.l))
  have HPL : Hid (x.text.size ≤ 1000 → ∀ w', Below w.heap.size w w' → Calls Tryz.prog 10 #[.agg #[.int .i8 x.kind, .string x.text, .int .i64 x.num, .string x.name, .string x.attr, .slice XA x.l.length xc], .slice PA ps.length pc] w' (PlQ (fun k => k < w.heap.size) ((plainG x ps).getD zg) (if (plainG x ps).isSome then 0 else 150) w') ∧ Calls Tryz.prog 11 #[.agg #[.int .i8 x.kind, .string x.text, .int .i64 x.num, .string x.name, .string x.attr, .slice XA x.l.length xc], .slice PA ps.length pc] w' (PlQ (fun k => k < w.heap.size) ((plainG x ps).getD zg) (if (plainG x ps).isSome then 0 else 150) w')) := Lib.hid (fun ht w' h =>
    ⟨(pln_any _ x XA xc PA pc ps w' (hV.below h) (hx.below h) (hps.below h)).mono (fun e w'' h => plainOut_all h), (rplain_any _ x XA xc PA pc ps w' (by omega) (hx.below h) (hps.below h)).mono (fun e w'' h => plainOut_all h)⟩)
  have HPD : Hid (gsGreat ps = false → vDeep 30 ((plainG x ps).getD zg).v) := Lib.hid (fun h => plain_deep (fun p hp => (gs_tx h p hp).2))
  obtain ⟨g1, hg1⟩ : ∃ g1, g1 = csGreat l := ⟨_, rfl⟩
  obtain ⟨g2, hg2⟩ : ∃ g2, g2 = gsGreat ps := ⟨_, rfl⟩
  obtain ⟨g, hg⟩ : ∃ g, g = (plainG x ps).getD zg := ⟨_, rfl⟩
  obtain ⟨er, her⟩ : ∃ er, er = if (plainG x ps).isSome then 0 else 150 := ⟨_, rfl⟩
  rw [← hg1] at HG1 HRUN
  rw [← hg2] at HG2 HRUN HPD
  rw [← hg] at HPL HPD
  rw [← her] at HPL
  clear hg1 hg2 hls hps hV hx hg her
  go_enter Tryz.func3, Tryz.ntmps3
  go_wp2_with fail
  refine HG1.out.mono ?_
  rintro e w1 ⟨rfl, hb1⟩
  have HBZ := Lib.hid (HB0.out.trans (hb1.mono HB0.out.size))
  have HX1 := Lib.hid (HXB.out.below hb1)
  clear hb1 HG1 HXB HB0
  cases g1 with
  | true => go_wp2_with fail; refine (HW.out _ HBZ.out).mono ?_; rintro e wz ⟨rfl, hbz⟩; go_wp2_with fail; go_ret; exact ⟨rfl, HBZ.out.trans (hbz.mono HBZ.out.size)⟩
  | false =>
    go_wp2_with fail
    refine (HG2.out w1 HBZ.out).mono ?_
    rintro e w2 ⟨rfl, hb2⟩
    have HB2 := Lib.hid (HBZ.out.trans (hb2.mono HBZ.out.size))
    have HX2 := Lib.hid (HX1.out.below hb2)
    clear hb2 HBZ HX1 HG2
    have HBZ := HB2
    clear HB2
    obtain ⟨x0, x1, x2, x3, x4, x5⟩ := blk6 HX2.out
    cases g2 with
    | true => go_wp2_with fail; refine (HW.out _ HBZ.out).mono ?_; rintro e wz ⟨rfl, hbz⟩; go_wp2_with fail; go_ret; exact ⟨rfl, HBZ.out.trans (hbz.mono HBZ.out.size)⟩
    | false =>
      by_cases k1 : (100 : Int) < (x.l.length : Int)
      · go_wp2_with fail; refine (HW.out _ HBZ.out).mono ?_; rintro e wz ⟨rfl, hbz⟩; go_wp2_with fail; go_ret; exact ⟨rfl, HBZ.out.trans (hbz.mono HBZ.out.size)⟩
      by_cases k2 : (1000 : Int) < (x.text.size : Int)
      · go_wp2_with fail; refine (HW.out _ HBZ.out).mono ?_; rintro e wz ⟨rfl, hbz⟩; go_wp2_with fail; go_ret; exact ⟨rfl, HBZ.out.trans (hbz.mono HBZ.out.size)⟩
      by_cases k3 : (1000 : Int) < (x.name.size : Int)
      · go_wp2_with fail; refine (HW.out _ HBZ.out).mono ?_; rintro e wz ⟨rfl, hbz⟩; go_wp2_with fail; go_ret; exact ⟨rfl, HBZ.out.trans (hbz.mono HBZ.out.size)⟩
      obtain ⟨ro, hro, hr1, hr2⟩ := HRUN.out (by first | rfl | trivial) (by first | rfl | trivial)
      have HR1 := Lib.hid (hr1 w2 HBZ.out)
      have HR2 := Lib.hid hr2
      have HRO := Lib.hid hro
      have HPP := Lib.hid (HPL.out (by omega))
      have HPDD := Lib.hid (HPD.out (by first | rfl | trivial))
      clear hr1 hr2 hro HRUN HPL HPD
      go_wp2_with fail
      refine HR1.out.mono ?_
      intro e w3 hrl
      obtain ⟨RA, rn, rc, rf, rfl, hb3, hq1⟩ := hrl.q
      have HQ1 := Lib.hid hq1
      have hrc := hq1.1
      have HB3 := Lib.hid (HBZ.out.trans (hb3.mono HBZ.out.size))
      have HX3 := Lib.hid (HX2.out.below hb3)
      have HRW := Lib.hid (HR2.out w3 HB3.out)
      clear hq1 hb3 HR1 HR2 HX2 HBZ hrl k1 k2 k3 x0 x1 x2 x3 x4 x5
      go_wp2_with fail
      refine HRW.out.mono ?_
      intro e w4 hrl
      obtain ⟨RB, rm, rd, rg, rfl, hb4, hq2⟩ := hrl.q
      have hrd := hq2.1
      obtain ⟨hmn, hgf, hsame⟩ := HQ1.out.same hq2 hb4 HRO.out
      subst hmn
      subst hgf
      have HSM := Lib.hid hsame
      have HB4 := Lib.hid (HB3.out.trans (hb4.mono HB3.out.size))
      have HX4 := Lib.hid (HX3.out.below hb4)
      have HP1 := Lib.hid (HPP.out w4 HB4.out).1
      obtain ⟨x0, x1, x2, x3, x4, x5⟩ := blk6 HX4.out
      clear hq2 hb4 HRW HQ1 HX3 HB3 hrl hsame
      go_wp2_with fail
      refine HP1.out.mono ?_
      rintro e w5 ⟨hb5, GL, lc, GK, kc, rfl, ht5⟩
      have hb5a := hb5.alloc hb5.size (.cells #[.string g.name, .bool g.unknown, .int .i8 g.v.kind, .bool g.v.bool, .int .i64 g.v.num, .string g.v.text, .slice GL g.v.list.length lc, .slice GK g.v.keys.length kc] 39)
      have HB5 := Lib.hid (HB4.out.trans (hb5a.mono HB4.out.size))
      have HN5 := Lib.hid hb5a
      have HX5 := Lib.hid (HX4.out.below hb5a)
      have HT5 := Lib.hid (ht5.alloc (.cells #[.string g.name, .bool g.unknown, .int .i8 g.v.kind, .bool g.v.bool, .int .i64 g.v.num, .string g.v.text, .slice GL g.v.list.length lc, .slice GK g.v.keys.length kc] 39))
      have HA5 : Hid (Blk (w5.alloc (.cells #[.string g.name, .bool g.unknown, .int .i8 g.v.kind, .bool g.v.bool, .int .i64 g.v.num, .string g.v.text, .slice GL g.v.list.length lc, .slice GK g.v.keys.length kc] 39)) w5.heap.size #[.string g.name, .bool g.unknown, .int .i8 g.v.kind, .bool g.v.bool, .int .i64 g.v.num, .string g.v.text, .slice GL g.v.list.length lc, .slice GK g.v.keys.length kc] 39) := Lib.hid (Blk.new _ _ _)
      have HP2 := Lib.hid (HPP.out _ HB5.out).2
      clear x0 x1 x2 x3 x4 x5 hb5 hb5a ht5 HP1 HX4
      obtain ⟨x0, x1, x2, x3, x4, x5⟩ := blk6 HX5.out
      go_wp2_with fail
      refine HP2.out.mono ?_
      rintro e w6 ⟨hb6, GL2, lc2, GK2, kc2, rfl, ht6⟩
      have hb6a := hb6.alloc hb6.size (.cells #[.string g.name, .bool g.unknown, .int .i8 g.v.kind, .bool g.v.bool, .int .i64 g.v.num, .string g.v.text, .slice GL2 g.v.list.length lc2, .slice GK2 g.v.keys.length kc2] 39)
      have HB6 := Lib.hid (HB5.out.trans (hb6a.mono HB5.out.size))
      have HN6 := Lib.hid (HN5.out.trans (hb6a.mono HN5.out.size))
      have HT6 := Lib.hid (HT5.out.below hb6a)
      have HU6 := Lib.hid (ht6.alloc (.cells #[.string g.name, .bool g.unknown, .int .i8 g.v.kind, .bool g.v.bool, .int .i64 g.v.num, .string g.v.text, .slice GL2 g.v.list.length lc2, .slice GK2 g.v.keys.length kc2] 39))
      have HA6 := Lib.hid (HA5.out.below hb6a)
      have HC6 : Hid (Blk (w6.alloc (.cells #[.string g.name, .bool g.unknown, .int .i8 g.v.kind, .bool g.v.bool, .int .i64 g.v.num, .string g.v.text, .slice GL2 g.v.list.length lc2, .slice GK2 g.v.keys.length kc2] 39)) w6.heap.size #[.string g.name, .bool g.unknown, .int .i8 g.v.kind, .bool g.v.bool, .int .i64 g.v.num, .string g.v.text, .slice GL2 g.v.list.length lc2, .slice GK2 g.v.keys.length kc2] 39) := Lib.hid (Blk.new _ _ _)
      have HSQ := Lib.hid (HSM.out _ HN6.out)
      clear x0 x1 x2 x3 x4 x5 hb6 hb6a ht6 HP2 HX5 HPP HN5 HN6 HSM HB5 HT5 HA5
      go_wp2_with fail
      refine HSQ.out.mono ?_
      rintro e w7 ⟨rfl, hb7⟩
      have HB7 := Lib.hid (HB6.out.trans (hb7.mono HB6.out.size))
      have HT7 := Lib.hid (HT6.out.below hb7)
      have HU7 := Lib.hid (HU6.out.below hb7)
      have HA7 := Lib.hid (HA6.out.below hb7)
      have HC7 := Lib.hid (HC6.out.below hb7)
      clear hb7 HB6 HT6 HU6 HA6 HC6 HSQ
      obtain ⟨x0, x1, x2, x3, x4, x5, x6, x7⟩ := blk8 HA7.out
      obtain ⟨y0, y1, y2, y3, y4, y5, y6, y7⟩ := blk8 HC7.out
      go_wp2_with fail
      refine (sm_any 30 _ g.v _ _ _ HPDD.out HT7.out HU7.out).mono ?_
      rintro e w8 ⟨rfl, hb8⟩
      have HBZ := Lib.hid (HB7.out.trans (hb8.mono HB7.out.size))
      clear hb8 HB7 HT7 HU7 HA7 HC7 x0 x1 x2 x3 x4 x5 x6 x7 y0 y1 y2 y3 y4 y5 y6 y7
      go_wp2_with fail; refine (HW.out _ HBZ.out).mono ?_; rintro e wz ⟨rfl, hbz⟩; go_wp2_with fail; go_ret; exact ⟨rfl, HBZ.out.trans (hbz.mono HBZ.out.size)⟩
end Go.Proofs.YtmljdppdaaoehaaGreatDoor

/- Opening rows that come in: conditions, texts, givens. -/
namespace Go.Proofs.YtmljdppdaaoehaaGreatDoor
open Go.RowKit Go.ChangeShapes Go.WideShapes Go.ChangeAt
set_option linter.unusedVariables false

section
variable {H : Type} {enc : TypeId × Value → H} {w : World} {base : Nat} {held : Bool}
theorem closed_conds : closedB Tryz.prog [22, 46, 25, 27, 9, 24, 3] = true := by kernel_rfl
theorem closed_texts : closedB Tryz.prog [35, 9] = true := by kernel_rfl
theorem closed_givens : closedB Tryz.prog [23, 39, 37, 34, 35, 9, 4, 24, 3] = true := by kernel_rfl
theorem open_conds {A : Option Addr} {n c : Nat} {d : DataW H} {p : List MemPlace} (h : DataW.Trod enc Tryz.prog w base (fun _ => true) held 22 (.slice A n c) d p) (hw : ∀ z ∈ d.weights Tryz.prog 22, z ≤ reachBytes) :
    ∃ l : List Cd, n = l.length ∧ Ls (fun k => k < w.heap.size) w 15 224 Cd.tr A c l := by
  obtain ⟨fuel, hf⟩ := h
  obtain ⟨ts, h1, h2⟩ := trod_fits closed_conds (fun _ h => h) fuel _ _ _ rfl hf hw
  obtain ⟨l, rfl⟩ := fits_conds h1
  obtain ⟨A', c', _, e, h3, _⟩ := at_row.1 (by simpa [Value.cells] using h2)
  injection e with e _
  injection e with e1 e2 e3
  subst e1; subst e2; subst e3
  exact ⟨l, rfl, h3⟩
theorem open_texts {A : Option Addr} {n c : Nat} {d : DataW H} {p : List MemPlace} (h : DataW.Trod enc Tryz.prog w base (fun _ => true) held 35 (.slice A n c) d p) (hw : ∀ z ∈ d.weights Tryz.prog 35, z ≤ reachBytes) :
    ∃ l : List ByteArray, n = l.length ∧ Ss (fun k => k < w.heap.size) w A c l := by
  obtain ⟨fuel, hf⟩ := h
  obtain ⟨ts, h1, h2⟩ := trod_fits closed_texts (fun _ h => h) fuel _ _ _ rfl hf hw
  obtain ⟨l, rfl⟩ := fits_strs h1
  obtain ⟨A', c', _, e, h3, _⟩ := at_str.1 (by simpa [Value.cells] using h2)
  injection e with e _
  injection e with e1 e2 e3
  subst e1; subst e2; subst e3
  exact ⟨l, rfl, h3⟩
theorem open_givens {A : Option Addr} {n c : Nat} {d : DataW H} {p : List MemPlace} (h : DataW.Trod enc Tryz.prog w base (fun _ => true) held 23 (.slice A n c) d p) (hw : ∀ z ∈ d.weights Tryz.prog 23, z ≤ reachBytes) :
    ∃ l : List Gv, n = l.length ∧ Ls (fun k => k < w.heap.size) w 8 104 Gv.tr A c l := by
  obtain ⟨fuel, hf⟩ := h
  obtain ⟨ts, h1, h2⟩ := trod_fits closed_givens (fun _ h => h) fuel _ _ _ rfl hf hw
  obtain ⟨l, rfl⟩ := fits_givens h1
  obtain ⟨A', c', _, e, h3, _⟩ := at_row.1 (by simpa [Value.cells] using h2)
  injection e with e _
  injection e with e1 e2 e3
  subst e1; subst e2; subst e3
  exact ⟨l, rfl, h3⟩
theorem trod_lt' {t : TypeId} {v : Value} {d : DataW H} {ps : List MemPlace} {P : Program} (h : DataW.Trod enc P w 0 (fun _ => true) true t v d ps) : ∀ x ∈ ps, x.block < w.heap.size := by
  obtain ⟨m, hm⟩ := h; exact DataW.trod_lt m _ _ _ hm
end
end Go.Proofs.YtmljdppdaaoehaaGreatDoor

/- Contracts of the library (unicode/utf8), laid by hand at this program. -/
namespace Go.Proofs.YtmljdppdaaoehaaGreatDoor
open Go.Shelf Go.RowKit
set_option linter.unusedVariables false

def ren196 : Go.Shelf.Ren := ⟨fun | 196 => 76 | 259 => 86 | n => n, fun | 0 => 0 | 3 => 3 | 4 => 4 | 5 => 5 | 9 => 9 | 12 => 12 | 46 => 117 | 53 => 130 | 119 => 113 | 138 => 115 | 139 => 116 | n => n, fun | 3 => 0 | 4 => 1 | n => n⟩
theorem lay196 : Go.Proofs.Lays.n196 Tryz.prog ren196 := {
  mixed := by kernel_rfl
  f196 := Tryz.func76.trans (congrArg some (by kernel_rfl))
  f259 := Tryz.func86.trans (congrArg some (by kernel_rfl))
  g3 := by kernel_rfl
  g4 := by kernel_rfl
  t0 := Tryz.underlying0
  a0 := Tryz.isAgg0
  z0 := Tryz.sizeOf0
  v0 := Tryz.zeroValue0
  t3 := Tryz.underlying3
  a3 := Tryz.isAgg3
  z3 := Tryz.sizeOf3
  v3 := Tryz.zeroValue3
  t4 := Tryz.underlying4
  a4 := Tryz.isAgg4
  z4 := Tryz.sizeOf4
  v4 := Tryz.zeroValue4
  t5 := Tryz.underlying5
  a5 := Tryz.isAgg5
  z5 := Tryz.sizeOf5
  v5 := Tryz.zeroValue5
  t9 := Tryz.underlying9
  a9 := Tryz.isAgg9
  z9 := Tryz.sizeOf9
  v9 := Tryz.zeroValue9
  t12 := Tryz.underlying12
  a12 := Tryz.isAgg12
  z12 := Tryz.sizeOf12
  v12 := Tryz.zeroValue12
  t46 := Tryz.underlying117
  a46 := Tryz.isAgg117
  z46 := Tryz.sizeOf117
  v46 := Tryz.zeroValue117
  t53 := Tryz.underlying130
  a53 := Tryz.isAgg130
  z53 := Tryz.sizeOf130
  v53 := Tryz.zeroValue130
  t119 := Tryz.underlying113
  a119 := Tryz.isAgg113
  z119 := Tryz.sizeOf113
  t138 := Tryz.underlying115
  a138 := Tryz.isAgg115
  z138 := Tryz.sizeOf115
  v138 := Tryz.zeroValue115
  t139 := Tryz.underlying116
  a139 := Tryz.isAgg116
  z139 := Tryz.sizeOf116
  v139 := Tryz.zeroValue116 }
/-- the library's tables -/
abbrev U8 (w : World) : Prop := Lib.Utf8Tabs 0 1 w
theorem valid_any (s : ByteArray) (w : World) (hs : s.size ≤ 9223372036854775807) (hT : U8 w) :
    Calls Tryz.prog 76 #[.string s] w fun e w' => e = .returned (.bool (Lib.validD s.data.toList)) ∧ Below w.heap.size w w' := Any.utf8_ValidString lay196 s w hs hT
end Go.Proofs.YtmljdppdaaoehaaGreatDoor

/- runes.Valid, as the conditions ask for it. -/
namespace Go.Proofs.YtmljdppdaaoehaaGreatDoor
open Go.Shelf Go.RowKit Go.Lib
set_option linter.unusedVariables false
set_option linter.unusedSimpArgs false

theorem U8.below {w w' : World} (h : U8 w) (hb : Below w.heap.size w w') : U8 w' := Utf8Tabs_below h hb
theorem rvalid_any (s : ByteArray) (w : World) (hs : s.size ≤ 9223372036854775807) (hT : U8 w) :
    Calls Tryz.prog 55 #[.string s] w (BoolB (Lib.validD s.data.toList) w) := by
  have HV := Lib.hid (valid_any s w hs hT)
  obtain ⟨v, hv⟩ : ∃ v, Lib.validD s.data.toList = v := ⟨_, rfl⟩
  rw [hv] at HV ⊢
  clear hT hv
  go_enter Tryz.func55, Tryz.ntmps55
  go_wp2_with fail
  refine HV.out.mono ?_
  rintro e w1 ⟨rfl, hb⟩
  have HB := Lib.hid hb
  clear hb
  go_wp2_with fail
  go_ret
  exact ⟨rfl, HB.out⟩
theorem VOk.of_u8 {w : World} (h : U8 w) : VOk w := fun s w' hs hb => rvalid_any s w' (by omega) (h.below hb)
set_option maxRecDepth 100000 in
theorem accept_eq : (Rows.laid_unicode_utf8_acceptRanges : DataW Unit) = Lib.acceptData := by kernel_rfl
set_option maxRecDepth 100000 in
theorem u8_of_laid {w : World} (h : laidMet Tryz.prog Rows.condsMoreRow.laid w) : U8 w := by
  exact utf8Tabs_of_readsT (U8Types.of196 lay196) ⟨by kernel_rfl, by kernel_rfl, by kernel_rfl, by kernel_rfl, by kernel_rfl, by kernel_rfl, by kernel_rfl⟩
      (Pinned.utf8First_eq ▸ Lib.laidMet.reads h (.tail _ (.head _))) (accept_eq ▸ Lib.laidMet.reads h (.head _))
end Go.Proofs.YtmljdppdaaoehaaGreatDoor

/- CondsRun: opening what it is handed; the walk in the card's words. -/
namespace Go.Proofs.YtmljdppdaaoehaaGreatDoor
open Go.RowKit Go.ChangeShapes Go.WideShapes Go.ChangeAt Go.Lib
set_option linter.unusedVariables false

section
variable {H : Type} {enc : TypeId × Value → H} {w : World} {base : Nat} {held : Bool}
theorem closed_expr : closedB Tryz.prog [27, 25, 9, 24, 3] = true := by kernel_rfl
set_option maxRecDepth 100000 in
theorem open_expr {r : Reach} {b0 : Nat} {v : Value} {d : DataW H} {p : List MemPlace} (hv : Value.okWide Tryz.prog w r b0 27 v) (h : DataW.Trod enc Tryz.prog w base (fun _ => true) held 27 v d p) (hw : ∀ z ∈ d.weights Tryz.prog 27, z ≤ reachBytes) :
    ∃ cs : Array Value, v = .agg cs ∧ ∃ x : Ex, Trs.at (fun k => k < w.heap.size) w x.tr cs.toList := by
  obtain ⟨cs, rfl, hsz⟩ := okWide_struct Tryz.underlying27 hv
  obtain ⟨fuel, hf⟩ := h
  obtain ⟨ts, h1, h2⟩ := trod_fits closed_expr (fun _ h => h) fuel _ _ _ rfl hf hw
  obtain ⟨x, rfl⟩ := fits_expr _ _ h1
  exact ⟨cs, rfl, x, by simpa [Value.cells] using h2⟩
end
set_option maxRecDepth 100000 in
theorem u8_of_laidR {w : World} (h : laidMet Tryz.prog Rows.condsRunRow.laid w) : U8 w := by
  exact utf8Tabs_of_readsT (U8Types.of196 lay196) ⟨by kernel_rfl, by kernel_rfl, by kernel_rfl, by kernel_rfl, by kernel_rfl, by kernel_rfl, by kernel_rfl⟩
      (Pinned.utf8First_eq ▸ Lib.laidMet.reads h (.tail _ (.head _))) (accept_eq ▸ Lib.laidMet.reads h (.head _))
theorem condsRun_walk (w : World) (hV : VOk w) (A : Option Addr) (n ac : Nat) (l : List Cd) (hn : n = l.length) (hls : Ls (fun k => k < w.heap.size) w 15 224 Cd.tr A ac l) (PA : Option Addr) (m pc : Nat) (ps : List Gv) (hm : m = ps.length) (hps : Ls (fun k => k < w.heap.size) w 8 104 Gv.tr PA pc ps) (cs : Array Value) (x : Ex) (hx : Trs.at (fun k => k < w.heap.size) w x.tr cs.toList) :
    Calls Tryz.prog 3 #[.slice A n ac, .slice PA m pc, .agg cs] w (BoolB true w) := by
  subst hn; subst hm
  have := condsRun_any A ac l PA pc ps x cs.toList w hV hls hps hx
  simpa using this
end Go.Proofs.YtmljdppdaaoehaaGreatDoor
