/- The closure of nest.Flatten: an id is put behind others that it is not among. -/
import Derived.Test.YtgdfkbalnpfdgaaGreatDoorRg
import Derived.Test.YtgdfkbalnpfdgaaGreatDoorRow
import Derived.Test.YtgdfkbalnpfdgaaGreatDoorNs6
import Derived.Test.YtgdfkbalnpfdgaaGreatDoorNs8
namespace Go.Proofs.YtgdfkbalnpfdgaaGreatDoor
open Go.RowKit
set_option linter.unusedVariables false
set_option linter.unusedSimpArgs false
theorem Sx.cell {B q i g c : Nat} {R : Rw} {s : BS} {pre : List Nd} {xb : List Value} {A : Option Addr} {l : List ByteArray} {w : World} (h : Sx B q R s i pre xb A c l w) (hA2 : R.A2 = some ⟨g, 0, none⟩) (hi : i < s.nd.length) : w.cell? ⟨g, i * 11 + 10, none⟩ = some (.slice A l.length c) := by
 have h2 := h.r2
 have hl := h.xlen
 rw [hA2] at h2
 have h3 := h2.rd.get (j := i * 11 + 10) (u := .slice A l.length c) (by rw [List.getElem?_set_self (by omega)])
 simpa [Addr.add] using h3
theorem Sx.ne {B q i g c : Nat} {R : Rw} {s : BS} {pre : List Nd} {xb : List Value} {A : Option Addr} {l : List ByteArray} {w : World} (h : Sx B q R s i pre xb A c l w) (hA2 : R.A2 = some ⟨g, 0, none⟩) : blk A ≠ some g := by
 rcases h.ra.ne h.r2 (by decide) with e | e
 ·rw [e]; simp
 ·rw [hA2] at e; exact e
def ClosOut (B q : Nat) (R : Rw) (s : BS) (i : Nat) (pre : List Nd) (xb : List Value) (A : Option Addr) (l : List ByteArray) (w : World) (e : Ending) (w' : World) : Prop :=
 e = .returned (.tuple #[]) ∧ ∃ A' c', Sx B q R s i pre xb A' c' l w' ∧ Go1 (Fx R q A) (Fx R q A') w w'
set_option maxRecDepth 100000 in
set_option maxHeartbeats 4000000 in
theorem clos_any (B q i g nb c : Nat) (R : Rw) (s : BS) (pre : List Nd) (xb : List Value) (A : Option Addr) (l : List ByteArray) (d : ByteArray) (w : World) (hS : Sx B q R s i pre xb A c l w) (hA2 : R.A2 = some ⟨g, 0, none⟩)
 (hbx : Boxed w nb 88 (.pointer (some ⟨g, i * 11, none⟩))) (hi : i < s.nd.length) (hl : l.length ≤ 1000000) (hs : ∀ x ∈ l, x.size ≤ 140737488351232) (hB : B ≤ w.heap.size) :
 Calls Tryz.prog 47 #[.string d, .pointer (some ⟨nb, 0, none⟩)] w (ClosOut B q R s i pre xb A (addOne l d) w) := by
 have c0 := hbx.cell
 have cA := hS.cell hA2 hi
 have h2 := hS.r2
 rw [hA2] at h2
 have fA := h2.fro (i * 11 + 10)
 have hngb : nb ≠ g := fun e => by
  have h3 := h2.ne_blk (Blk.boxed hbx) (by decide)
  exact h3 (by rw [e]; rfl)
 have HS := Lib.hid hS
 have HO := Lib.hid hS.ra
 have hcap := hS.ra.cap
 have HN1 : Hid (blk A ≠ some nb) := Lib.hid (hS.ra.ne_blk (Blk.boxed hbx) (by decide))
 have HN2 := Lib.hid (hS.ne hA2)
 have HBX := Lib.hid (Blk.boxed hbx)
 have hlt : nb < w.heap.size := (Blk.boxed hbx).lt
 have hlg : g < w.heap.size := (h2.lt (g := g) rfl).2
 have HSC := Lib.hid (scont_any (fun _ => True) A c l d w (Ls.mk_strs hS.ra.rd (by omega) hs (fun _ _ _ => trivial)) (by omega))
 have HA2 := Lib.hid hA2
 clear hbx hS hs h2 hA2
 cases hh : sHas d l with
 | true =>
   rw [hh] at HSC
   have HH : Hid (addOne l d = l) := Lib.hid (by unfold addOne; rw [hh]; simp)
   clear hh
   go_enter Tryz.func47, Tryz.ntmps47
   go_wp2_with fail
   refine HSC.out.mono ?_
   rintro e w2 ⟨rfl, rfl⟩
   go_wp2_with fail
   go_end0
   exact ⟨rfl, A, c, by rw [HH.out]; exact HS.out, Go1.refl _ _⟩
 | false =>
   rw [hh] at HSC
   have HH : Hid (addOne l d = l ++ [d]) := Lib.hid (by unfold addOne; rw [hh]; simp)
   clear hh
   go_enter Tryz.func47, Tryz.ntmps47
   go_wp2_with fail
   refine HSC.out.mono ?_
   rintro e w2 ⟨rfl, rfl⟩
   go_wp2_with fail
   refine Rg.start 10 (fun w' => w'.cell? ⟨nb, 0, none⟩ = some (.pointer (some ⟨g, i * 11, none⟩)) ∧ w'.cell? ⟨g, i * 11 + 10, none⟩ = some (.slice A l.length c)) (by kernel_rfl) (by go_keep) (fun hH0 => ?_)
   simp only [List.length_cons, List.length_nil, List.replicate_succ, List.replicate_zero, Nat.zero_add, Nat.reduceAdd]
   refine Rg.take (v := ?_) hH0 0 rfl (by kernel_rfl) (fun _ _ _ h => h) (by rfl) ?_ ?_
   rotate_left
   ·(intro w hSw; (try dsimp only at hSw); go_simp <;> with_reducible rfl)
   try simp only [Act.put, List.setIfInBounds_toArray, List.set_cons_zero, List.set_cons_succ]
   refine Rg.take (v := ?_) hH0 1 rfl (by kernel_rfl) (fun _ _ _ h => h) (by rfl) ?_ ?_
   rotate_left
   ·(intro w hSw; (try dsimp only at hSw); go_simp <;> with_reducible rfl)
   try simp only [Act.put, List.setIfInBounds_toArray, List.set_cons_zero, List.set_cons_succ]
   refine Rg.take (v := ?_) hH0 2 rfl (by kernel_rfl) (fun _ _ _ h => h) (by rfl) ?_ ?_
   rotate_left
   ·(intro w hSw; (try dsimp only at hSw); go_simp <;> with_reducible rfl)
   try simp only [Act.put, List.setIfInBounds_toArray, List.set_cons_zero, List.set_cons_succ]
   refine Rg.take (v := ?_) hH0 3 rfl (by kernel_rfl) (fun _ _ _ h => h) (by rfl) ?_ ?_
   rotate_left
   ·(intro w hSw; (try dsimp only at hSw); go_simp <;> with_reducible rfl)
   try simp only [Act.put, List.setIfInBounds_toArray, List.set_cons_zero, List.set_cons_succ]
   refine Rg.take (v := ?_) hH0 4 rfl (by kernel_rfl) (fun _ _ _ h => h) (by rfl) ?_ ?_
   rotate_left
   ·(intro w hSw; (try dsimp only at hSw); go_simp <;> with_reducible rfl)
   try simp only [Act.put, List.setIfInBounds_toArray, List.set_cons_zero, List.set_cons_succ]
   refine Rg.take (v := ?_) hH0 5 rfl (by kernel_rfl) (fun _ _ _ h => h) (by rfl) ?_ ?_
   rotate_left
   ·(intro w hSw; (try dsimp only at hSw); go_simp <;> with_reducible rfl)
   try simp only [Act.put, List.setIfInBounds_toArray, List.set_cons_zero, List.set_cons_succ]
   refine Rg.step 6 (by kernel_rfl) rfl (fun K hK => ?_)
   go_simp
   refine hK.out _ _ ?_ (fun hH1 => ?_)
   ·((try dsimp only) <;> go_keep)
   clear hK K hH0
   try simp only [Act.put, List.setIfInBounds_toArray, List.set_cons_zero, List.set_cons_succ]
   refine Rg.step 7 (by kernel_rfl) rfl (fun K hK => ?_)
   refine step_row info_str Tryz.underlying63 rfl (by omega) rfl (.tmp 14) (.tmp 16) rfl B A c l.length (l.map .string) (by rfl) (HO.out.drew.alloc (.cells #[.string d] 9)) (some ⟨w.drew.heap.size, 0, none⟩) 1 1 [.string d] (by rfl) (Rd.lit w.drew 1 1 #[.string d] 9 (0, 0) rfl (by simp [maxLen])) (by simp [Value.oneCell']) (by omega) (by omega) (by simp; omega) ?_; intro A6 c6 w6 ho6 hg6 hat6; have HO6 := Lib.hid ho6; have HG6 := Lib.hid hg6; have HT6 := Lib.hid hat6; have k0 := (((HBX.out.drew.alloc (.cells #[.string d] 9)).grown hg6 HN1.out)).cell 0 rfl; have r6 := ((HS.out.below ((Below.refl _ w).drew.alloc (Nat.le_refl _) (.cells #[.string d] 9))).r2).grown hg6 (by rw [HA2.out]; exact .inr (fun e => HN2.out e.symm)); have k1 : w6.cell? ⟨g, i * 11 + 10, none⟩ = some (.slice A l.length c) := (by rw [cell_only (Only.of_grown hg6) (by first | (simp; done) | (simp; omega)) (fun e => HN2.out e.symm)]; exact (World.cell?_alloc_lt w.drew _ _ hlg).trans cA); have f6 : w6.frozen? ⟨g, i * 11 + 10, none⟩ = false := (by rw [HA2.out] at r6; exact r6.fro _); clear ho6 hg6 hat6 r6
   refine hK.out _ _ ?_ (fun hH2 => ?_)
   ·((try dsimp only) <;> go_keep)
   clear hK K hH1
   try simp only [Act.put, List.setIfInBounds_toArray, List.set_cons_zero, List.set_cons_succ]
   refine Rg.take (v := ?_) hH2 8 rfl (by kernel_rfl) (fun _ _ _ h => h) (by rfl) ?_ ?_
   rotate_left
   ·(intro w hSw; (try dsimp only at hSw); go_simp <;> with_reducible rfl)
   try simp only [Act.put, List.setIfInBounds_toArray, List.set_cons_zero, List.set_cons_succ]
   refine Rg.take (v := ?_) hH2 9 rfl (by kernel_rfl) (fun _ _ _ h => h) (by rfl) ?_ ?_
   rotate_left
   ·(intro w hSw; (try dsimp only at hSw); go_simp <;> with_reducible rfl)
   try simp only [Act.put, List.setIfInBounds_toArray, List.set_cons_zero, List.set_cons_succ]
   refine Rg.last (by kernel_rfl) (by kernel_rfl) rfl (fun K hK => ?_)
   go_simp
   refine hK.out _ _ ?_
   clear hK K hH2
   go_wp2_with fail
   go_end0
   have hstep := HS.out.step ((Below.refl _ w).drew.alloc (Nat.le_refl _) (.cells #[.string d] 9)) HA2.out HG6.out (A' := A6) (c' := c6) (d := d) (by simpa using HO6.out) HT6.out
   exact ⟨rfl, A6, c6, by rw [HH.out]; exact hstep.1, hstep.2⟩
end Go.Proofs.YtgdfkbalnpfdgaaGreatDoor
