/- slices.Sort at []int, laid by hand at this program. -/
import Derived.Shelf.Sort.Plain
import Derived.Shelf.Slices.In.SortNone
import Derived.Maps.OwnSet
import Derived.Maps.OwnOps
import Derived.Maps.Views
import Derived.Maps.RangeWalk
import Derived.Deep.CutRange
import Derived.Deep.QuietTactic
import Derived.BigQuiet
import Derived.Deep.OwnRows
import Derived.Laws.IdiomRangeMap
import Derived.WalkSpells
import Derived.Test.YtgdfkbalnpfdgaaGreatDoorNs1
import Derived.Test.YtgdfkbalnpfdgaaGreatDoorRg
import Derived.Test.YtgdfkbalnpfdgaaGreatDoorRow
import Derived.Test.YtgdfkbalnpfdgaaGreatDoorGrPlain
import Derived.Test.YtgdfkbalnpfdgaaGreatDoorSto
namespace Go.Proofs.YtgdfkbalnpfdgaaGreatDoor
open Go.Shelf Go.RowKit
set_option linter.unusedVariables false
def renISort : Go.Shelf.Ren := ⟨fun | 125 => 66 | 128 => 96 | 129 => 97 | 189 => 52 | 215 => 131 | 216 => 93 | 257 => 65 | 294 => 87 | 295 => 88 | 296 => 89 | 297 => 90 | 298 => 91 | 299 => 92 | 300 => 94 | 301 => 95 | 328 => 126 | 329 => 127 | 330 => 128 | 331 => 129 | 332 => 130 | 343 => 152 | n => n, fun | 0 => 0 | 3 => 3 | 4 => 4 | 5 => 5 | 9 => 9 | 28 => 44 | 46 => 150 | 51 => 191 | 53 => 193 | 131 => 175 | 182 => 183 | 183 => 184 | 218 => 215 | 222 => 219 | 228 => 231 | 229 => 69 | n => n, fun | n => n⟩
theorem layISort : Go.Proofs.Lays.n189 Tryz.prog renISort := {
 mixed := by kernel_rfl
 f125 := Tryz.func66.trans (congrArg some (by kernel_rfl))
 f128 := Tryz.func96.trans (congrArg some (by kernel_rfl))
 f129 := Tryz.func97.trans (congrArg some (by kernel_rfl))
 f189 := Tryz.func52.trans (congrArg some (by kernel_rfl))
 f215 := Tryz.func131.trans (congrArg some (by kernel_rfl))
 f216 := Tryz.func93.trans (congrArg some (by kernel_rfl))
 f257 := Tryz.func65.trans (congrArg some (by kernel_rfl))
 f294 := Tryz.func87.trans (congrArg some (by kernel_rfl))
 f295 := Tryz.func88.trans (congrArg some (by kernel_rfl))
 f296 := Tryz.func89.trans (congrArg some (by kernel_rfl))
 f297 := Tryz.func90.trans (congrArg some (by kernel_rfl))
 f298 := Tryz.func91.trans (congrArg some (by kernel_rfl))
 f299 := Tryz.func92.trans (congrArg some (by kernel_rfl))
 f300 := Tryz.func94.trans (congrArg some (by kernel_rfl))
 f301 := Tryz.func95.trans (congrArg some (by kernel_rfl))
 f328 := Tryz.func126.trans (congrArg some (by kernel_rfl))
 f329 := Tryz.func127.trans (congrArg some (by kernel_rfl))
 f330 := Tryz.func128.trans (congrArg some (by kernel_rfl))
 f331 := Tryz.func129.trans (congrArg some (by kernel_rfl))
 f332 := Tryz.func130.trans (congrArg some (by kernel_rfl))
 f343 := Tryz.func152.trans (congrArg some (by kernel_rfl))
 t0 := Tryz.underlying0
 a0 := Tryz.isAgg0
 z0 := Tryz.sizeOf0
 v0 := Tryz.zeroValue0
 t3 := Tryz.underlying3
 a3 := Tryz.isAgg3
 z3 := Tryz.sizeOf3
 v3 := Tryz.zeroValue3
 t4 := Tryz.underlying4
 a4 := Tryz.isAgg4
 z4 := Tryz.sizeOf4
 v4 := Tryz.zeroValue4
 t5 := Tryz.underlying5
 a5 := Tryz.isAgg5
 z5 := Tryz.sizeOf5
 v5 := Tryz.zeroValue5
 t9 := Tryz.underlying9
 a9 := Tryz.isAgg9
 z9 := Tryz.sizeOf9
 v9 := Tryz.zeroValue9
 t28 := Tryz.underlying44
 a28 := Tryz.isAgg44
 z28 := Tryz.sizeOf44
 v28 := Tryz.zeroValue44
 t46 := Tryz.underlying150
 a46 := Tryz.isAgg150
 z46 := Tryz.sizeOf150
 v46 := Tryz.zeroValue150
 t51 := Tryz.underlying191
 a51 := Tryz.isAgg191
 z51 := Tryz.sizeOf191
 v51 := Tryz.zeroValue191
 t53 := Tryz.underlying193
 a53 := Tryz.isAgg193
 z53 := Tryz.sizeOf193
 v53 := Tryz.zeroValue193
 t131 := Tryz.underlying175
 a131 := Tryz.isAgg175
 z131 := Tryz.sizeOf175
 v131 := Tryz.zeroValue175
 t182 := Tryz.underlying183
 a182 := Tryz.isAgg183
 z182 := Tryz.sizeOf183
 v182 := Tryz.zeroValue183
 t183 := Tryz.underlying184
 a183 := Tryz.isAgg184
 z183 := Tryz.sizeOf184
 v183 := Tryz.zeroValue184
 t218 := Tryz.underlying215
 a218 := Tryz.isAgg215
 z218 := Tryz.sizeOf215
 v218 := Tryz.zeroValue215
 t222 := Tryz.underlying219
 a222 := Tryz.isAgg219
 z222 := Tryz.sizeOf219
 v222 := Tryz.zeroValue219
 t228 := Tryz.underlying231
 a228 := Tryz.isAgg231
 z228 := Tryz.sizeOf231
 v228 := Tryz.zeroValue231
 t229 := Tryz.underlying69
 a229 := Tryz.isAgg69
 z229 := Tryz.sizeOf69
 v229 := Tryz.zeroValue69 }
open Go.RowKit Go.Sort Go.Shelf
open Go.Maps (Keyed)
set_option linter.unusedVariables false
set_option linter.unusedSimpArgs false
theorem zero_boolT (w : World) : (zeroValue 4).run Tryz.prog w = .ok (.bool false) w := by kernel_rfl
theorem key_int : Keyed Tryz.prog 3 := Go.Maps.int_keyed Tryz.underlying3
theorem key_of {k : Int} (h1 : -9223372036854775808 ≤ k) (h2 : k ≤ 9223372036854775807) : keyOf Tryz.prog 3 (.int .i64 k) = some (.int .i64 k) :=
 Go.Maps.keyOf_int_mk Tryz.underlying3 (WalkArith.wf_i64 ⟨h1, h2⟩)
theorem isKey_int (k : Int) : WideAt.IsKeyLit (.int .i64 k) := by unfold WideAt.IsKeyLit; trivial
def fput {α : Type} (f : Int → α) (k : Int) (y : α) : Int → α := fun j => if j = k then y else f j
theorem fput_same {α : Type} (f : Int → α) (k : Int) (y : α) : fput f k y k = y := if_pos rfl
theorem fput_other {α : Type} (f : Int → α) {k j : Int} (y : α) (h : j ≠ k) : fput f k y j = f j := if_neg h
def MT (w : World) (b n : Nat) (f : Int → Bool) : Prop :=
 ∃ D : DataW Unit, w.ownsMap Tryz.prog 3 (plainElem Tryz.prog 4) b n D ∧ Go.Maps.IsMap D ∧ ∀ k : Int, D.atKey (.int .i64 k) (.lit (.bool false)) = .lit (.bool (f k)) ∧ Go.Maps.has D (.int .i64 k) = f k
theorem ownsMapT_same {H : Type} {P : Program} {k : TypeId} {R : Value → Option (DataW H × List MemPlace)} {w w' : World} {b n : Nat} {D : DataW H} (h : w.ownsMap P k R b n D) (hb : w'.heap[b]? = w.heap[b]?) : w'.ownsMap P k R b n D := by
 obtain ⟨es, clock, h1, h2⟩ := h
 exact ⟨es, clock, hb.trans h1, h2⟩
section
variable {w w' : World} {b n : Nat} {f : Int → Bool}
theorem MT.new (w : World) : MT (w.alloc (.map #[] 0)) w.heap.size 0 (fun _ => false) :=
 ⟨.map [], World.ownsMap_made _ _ _ _, ⟨[], rfl⟩, fun k => ⟨rfl, rfl⟩⟩
theorem MT.only {F : Nat → Prop} (h : MT w b n f) (ho : Only F w w') (hF : ¬ F b) : MT w' b n f := by
 obtain ⟨D, h1, h2, h3⟩ := h
 exact ⟨D, ownsMapT_same h1 (ho.block b h1.lt hF), h2, h3⟩
theorem MT.lt (h : MT w b n f) : b < w.heap.size := by obtain ⟨D, h1, _⟩ := h; exact h1.lt
theorem MT.below (h : MT w b n f) (hb : Below w.heap.size w w') : MT w' b n f := h.only (Only.of_below hb (fun _ => False)) (fun h => h)
theorem MT.look (h : MT w b n f) {k : Int} (h1 : -9223372036854775808 ≤ k) (h2 : k ≤ 9223372036854775807) : (Instr.lookup 52 (.map (some b)) (.int .i64 k) false).run Tryz.prog w = .ok (.bool (f k)) w := by
 obtain ⟨D, g1, g2, g3⟩ := h
 obtain ⟨v, ps, hrun, hv⟩ := g1.lookup key_int Tryz.underlying52 (zero_boolT w) (plainElem_bool Tryz.underlying4 false) (key_of h1 h2)
 rw [(g3 k).1] at hv
 rw [hrun]
 have hu : Tryz.prog.underlying 4 = some .bool := Tryz.underlying4
 unfold plainElem at hv
 rw [hu] at hv
 cases v <;> simp_all
end
theorem wp_put_MT {w : World} {ops : Array Oper} {rest : List Oper} {o : Oper} {a : Act} {Q : Exit → Act → World → Prop} (hg : o.guard = none) (m x v : Operand) (hop : o.op = Op.mapUpdate 52 m x v) (b n : Nat) (f : Int → Bool) (hm : a.eval m = .map (some b)) (h : MT w b n f) (hn : n < maxLen)
 (k : Int) (hk1 : -9223372036854775808 ≤ k) (hk2 : k ≤ 9223372036854775807) (hx : a.eval x = .int .i64 k) (hv : a.eval v = .bool true)
 (hK : ∀ w', MT w' b (n + 1) (fput f k true) → w.grownBy w' (some b) → wpList Tryz.prog ops Q rest (a.put o.dst undef) w') : wpList Tryz.prog ops Q (o :: rest) a w := by
 obtain ⟨D, g1, g2, g3⟩ := h
 refine wpList_mapUpdate_own w hg m x v 52 hop 3 4 key_int Tryz.underlying52 _ b n D hm g1 hn _ _ (.int .i64 k) hx hv (key_of hk1 hk2) (.lit (.bool true)) [] (plainElem_bool Tryz.underlying4 true) (fun w' h1 h2 => hK w' ⟨_, h1, g2.put _ _, fun j => ?_⟩ h2)
 by_cases hj : j = k
 ·subst hj
  exact ⟨by rw [Go.Maps.atKey_put_same g2 (isKey_int j), fput_same], by rw [Go.Maps.has_put_same g2 (isKey_int j), fput_same]⟩
 ·have hne : (Lit.int .i64 j) ≠ (Lit.int .i64 k) := fun e => hj (by injection e)
  exact ⟨by rw [Go.Maps.atKey_put_other hne, (g3 j).1, fput_other f true hj], by rw [Go.Maps.has_put_other hne, (g3 j).2, fput_other f true hj]⟩
def cZ (l : List Int) : List Value := l.map fun z => .int .i64 z
theorem cZ_len (l : List Int) : (cZ l).length = l.length := by simp [cZ]
theorem cZ_one (l : List Int) : ∀ u ∈ cZ l, u.oneCell' = true := by intro u hu; simp only [cZ, List.mem_map] at hu; obtain ⟨b, _, rfl⟩ := hu; rfl
theorem cZ_app (a b : List Int) : cZ (a ++ b) = cZ a ++ cZ b := by simp [cZ]
theorem Rd.oneZ (w : World) (t : TypeId) (z : Int) : Rd (w.alloc (.cells #[.int .i64 z] t)) 1 (some ⟨w.heap.size, 0, none⟩) 1 1 (cZ [z]) := Rd.lit w 1 1 #[.int .i64 z] t (0, 0) rfl (by simp [maxLen])
def Rises (f : Int → Bool) (l : List Int) : Prop := l.Pairwise (· < ·) ∧ ∀ k, k ∈ l ↔ f k = true
theorem sort_rises {f : Int → Bool} {zs : List Int} (hn : zs.Nodup) (hm : ∀ k, k ∈ zs ↔ f k = true) : Rises f (zs.mergeSort fun x y => decide (x ≤ y)) := by
 have hp := List.mergeSort_perm zs (fun x y => decide (x ≤ y))
 have hs := List.pairwise_mergeSort (le := fun x y : Int => decide (x ≤ y)) (by simp; omega) (by simp; omega) zs
 refine ⟨?_, fun k => by rw [hp.mem_iff]; exact hm k⟩
 have hd : (zs.mergeSort fun x y => decide (x ≤ y)).Nodup := hp.nodup_iff.2 hn
 have hs2 := List.Pairwise.and hs hd
 exact hs2.imp (fun h => by have := h.1; have := h.2; simp at *; omega)
theorem isort_any (w : World) (base : Nat) (A : Option Addr) (n c : Nat) (zs : List Int) (h : Ow w base 3 1 A n c (cZ zs)) (hn : n ≤ 1000000) :
 Calls Tryz.prog 52 #[.slice A n c] w fun e w' => e = .returned (.tuple #[]) ∧ Ow w' base 3 1 A n c (cZ (zs.mergeSort fun x y => decide (x ≤ y))) ∧ Only (fun k => blk A = some k) w w' := by
 have hl : zs.length = n := by have := h.len; simpa [cZ] using this
 rcases h.2 with ⟨rfl, rfl, rfl⟩ | ⟨g, cur, rfl, hb, hg, hnc, hcm, hcs, ht⟩
 ·have hz : zs = [] := List.eq_nil_of_length_eq_zero hl
  subst hz
  refine Calls.mono (P := Tryz.prog) (Any.slices_Sort_int_none (P := Tryz.prog) (ρ := renISort) layISort none 0 w) (fun e w' h2 => ?_)
  obtain ⟨rfl, rfl⟩ := h2
  exact ⟨rfl, by simpa [cZ] using Ow.nil _ _ _ _, Only.refl _ _⟩
 ·subst hl
  have hlt : g < w.heap.size := (Array.getElem?_eq_some_iff.1 hg).1
  have hH : Holds (Value.int .i64) w g 0 zs.toArray := fun j hj => by
   rw [Nat.zero_add]
   have hj2 : j < zs.length := by simpa using hj
   refine ⟨?_, frozen_of_row w g j cur _ hg⟩
   rw [cell_of_row w g j cur _ (0, 0) hg]
   have h4 : (cZ zs)[j]? = some (.int .i64 zs[j]) := by simp [cZ, hj2]
   rw [← ht, List.getElem?_take_of_lt (by omega)] at h4
   rw [getElem!_pos _ j hj]
   simpa using h4
  refine Calls.mono (P := Tryz.prog) (Any.slices_Sort_int (P := Tryz.prog) (ρ := renISort) layISort g 0 c zs w hH hlt (by omega)) (fun e w' h2 => ?_)
  obtain ⟨rfl, m, os, rfl⟩ := h2
  obtain ⟨D, hD⟩ : ∃ D, D = (zs.mergeSort fun x y => decide (x ≤ y)) := ⟨_, rfl⟩
  have hDl : D.length = zs.length := by rw [hD, List.length_mergeSort]
  rw [← hD]
  have hp : ∀ k, (putRow (Value.int .i64) (Sort.ahead w m) g 0 D.toArray).heap[k]? = if g = k then w.heap[k]?.map (onCells (putCells (Value.int .i64) 0 D.toArray)) else w.heap[k]? := fun k => by
   simp only [putRow, mapBlock, Sort.ahead, Array.getElem?_modify]
  have hsz : (putRow (Value.int .i64) (Sort.ahead w m) g 0 D.toArray).heap.size = w.heap.size := by simp [putRow, mapBlock, Sort.ahead]
  have hgo : ∀ k, k < w.heap.size → (grow (putRow (Value.int .i64) (Sort.ahead w m) g 0 D.toArray) os).heap[k]? = (putRow (Value.int .i64) (Sort.ahead w m) g 0 D.toArray).heap[k]? := fun k hk => heap_grow_old _ _ (by rw [hsz]; exact hk)
  refine ⟨rfl, ⟨by rw [cZ_len, hDl, Nat.mul_one], .inr ⟨g, putCells (Value.int .i64) 0 D.toArray cur, rfl, hb, ?_, hnc, hcm, by unfold putCells; simpa using hcs, ?_⟩⟩, ⟨rfl, rfl, rfl, ?_, fun k hk hne => ?_⟩⟩
  ·rw [hgo g hlt, hp g, if_pos rfl, hg]; rfl
  ·apply List.ext_getElem?
   intro j
   by_cases hj : j < zs.length
   ·rw [List.getElem?_take_of_lt (by omega)]
    have hjc : j < cur.size := by omega
    simp [putCells, cZ, hjc, hDl, hj]
   ·rw [List.getElem?_eq_none (by rw [List.length_take]; omega), List.getElem?_eq_none (by rw [cZ_len]; omega)]
  ·unfold grow
   simp [hsz]
  ·rw [hgo k hk, hp k, if_neg (fun e => hne (by simp [e]))]
theorem bool_inv (v : Value) (y : DataW Unit × List MemPlace) (hv : plainElem Tryz.prog 4 v = some y) : ∃ c, v = .bool c := by
 have hu : Tryz.prog.underlying 4 = some .bool := Tryz.underlying4
 unfold plainElem at hv
 rw [hu] at hv
 cases v <;> simp_all
theorem wp_next_T {w : World} {ops : Array Oper} {rest : List Oper} {o : Oper} {a : Act} {Q : Exit → Act → World → Prop} (hg : o.guard = none) (it : Operand) (hop : o.op = Op.next it false) (b r n : Nat) (D : DataW Unit) (left : Lit → Bool) (cnt : Nat)
 (hit : a.eval it = .pointer (some ⟨r, 0, none⟩)) (h : w.ranges Tryz.prog 3 (plainElem Tryz.prog 4) b r n D left cnt)
 (hDone : cnt = 0 → (∀ kl, left kl = false) → wpList Tryz.prog ops Q rest (a.put o.dst (.tuple #[.bool false])) w)
 (hMore : ∀ (x : Int) (v : Value) (w' : World) (cnt' : Nat), left (.int .i64 x) = true → w'.ranges Tryz.prog 3 (plainElem Tryz.prog 4) b r n D (fun z => left z && !z.sameKey (.int .i64 x)) cnt' → cnt' < cnt →
   w.grownBy w' (some r) → w'.heap.size = w.heap.size → (Instr.entry (.pointer (some ⟨r, 0, none⟩))).run Tryz.prog w' = .ok (.tuple #[.int .i64 x, v]) w' → wpList Tryz.prog ops Q rest (a.put o.dst (.tuple #[.bool true, .int .i64 x, v])) w') :
 wpList Tryz.prog ops Q (o :: rest) a w :=
 wpList_next_ranges w hg it hop 3 key_int (plainElem Tryz.prog 4) (fun z : Int => Value.int .i64 z) Value.bool (fun key kl hkey => by obtain ⟨x, rfl, _⟩ := Maps.keyOf_int_inv Tryz.underlying3 hkey; exact ⟨x, rfl⟩) bool_inv b r n D left cnt hit h hDone
  (fun x c kl y w' cnt' hkey hlk hR hat hrg hlt hgr hsz hen => by
    obtain ⟨x', ex, rfl, hwx⟩ := Maps.keyOf_int_inv Tryz.underlying3 hkey
    injection ex with _ ex
    subst ex
    exact hMore x (.bool c) w' cnt' hlk hrg hlt hgr hsz hen)
set_option maxRecDepth 100000 in
set_option maxHeartbeats 4000000 in
theorem rising_any (w : World) (b n : Nat) (f : Int → Bool) (h : MT w b n f) (hn : n ≤ 1000000) :
 Calls Tryz.prog 35 #[.map (some b)] w fun e w' => ∃ A c l, e = .returned (.slice A l.length c) ∧ Ow w' w.heap.size 3 1 A l.length c (cZ l) ∧ Below w.heap.size w w' ∧ Rises f l := by
 obtain ⟨D, hD, hm, hk⟩ := h
 have hsz := hD.size_le
 obtain ⟨N, hN⟩ : ∃ N, N = Go.Maps.size D := ⟨_, rfl⟩
 rw [← hN] at hsz
 have HN := Lib.hid hN
 have HM := Lib.hid hD
 have HBL := Lib.hid hD.lt
 have HK := Lib.hid hk
 clear hD hm hk hN
 go_enter Tryz.func35, Tryz.ntmps35
 go_wp2_with (with_reducible refine wpList_range_own _ rfl (.tmp 4) 52 rfl 3 4 key_int Tryz.underlying52 (plainElem Tryz.prog 4) b n D rfl HM.out ?_; intro w2 hrg hg2 hz2; have HB2 := Lib.hid (Below.grown (Below.refl w.heap.size w) hg2 (Nat.le_refl _) (fun k e => by cases e)); have HRG := Lib.hid hrg; have HZ2 := Lib.hid hz2; clear hrg hg2 hz2)
 go_frame
 go_loopg [2] N (fun g v wr => ∃ (A : Option Addr) (c : Nat) (O : List Int) (left : Lit → Bool) (cnt : Nat), v = .slice A O.length c ∧ cnt + O.length ≤ N ∧ cnt ≤ g ∧ Hid (wr.ranges Tryz.prog 3 (plainElem Tryz.prog 4) b w.heap.size n D left cnt) ∧ Hid (Ow wr (w.heap.size + 1) 3 1 A O.length c (cZ O)) ∧ Hid (Below w.heap.size w wr) ∧ Hid (w.heap.size + 1 ≤ wr.heap.size) ∧ Hid (O.Nodup) ∧ Hid (∀ k : Int, k ∈ O → f k = true ∧ left (.int .i64 k) = false) ∧ Hid (∀ k : Int, f k = true → k ∈ O ∨ left (.int .i64 k) = true) ∧ Hid (∀ k : Int, left (.int .i64 k) = true → f k = true))
 case atStart => exact ⟨none, 0, [], _, _, rfl, Nat.le_of_eq (by rw [HN.out]; simp), Nat.le_of_eq HN.out.symm, HRG, Lib.hid (Ow.nil _ _ _ _), HB2, Lib.hid (Nat.le_of_eq HZ2.out.symm), Lib.hid List.nodup_nil, Lib.hid (fun k hk => by cases hk), Lib.hid (fun k hk => .inr (by rw [(HK.out k).2, hk])), Lib.hid (fun k hk => by rw [← (HK.out k).2, hk])⟩
 case round =>
  obtain ⟨A, c, O, left, cnt, rfl, hcn, hcg, HR, HO, HB, HS, HU, HOF, HFO, HLF⟩ := hrel
  rename World => wo
  have hoc := HO.out.cap
  go_wp2_with (with_reducible refine wp_next_T rfl (.tmp 5) rfl b w.heap.size n D left cnt rfl HR.out ?_ ?_)
  ·intro hc0 hl0
   have hmem : ∀ k, k ∈ O ↔ f k = true := fun k => ⟨fun h => (HOF.out k h).1, fun h => (HFO.out k h).resolve_right (by rw [hl0]; simp)⟩
   have HRS := Lib.hid (sort_rises HU.out hmem)
   have HSO := Lib.hid (isort_any wo (w.heap.size + 1) A O.length c O HO.out (by omega))
   obtain ⟨l, hl⟩ : ∃ l, l = (O.mergeSort fun x y => decide (x ≤ y)) := ⟨_, rfl⟩
   have hlen : O.length = l.length := by rw [hl, List.length_mergeSort]
   rw [← hl] at HRS HSO
   have HLEN := Lib.hid hlen
   clear hmem hl hlen hc0 hl0
   go_wp2_with fail
   refine HSO.out.mono ?_
   rintro e w5 ⟨rfl, ho5, on5⟩
   have HO5 := Lib.hid ho5
   have HB5 := Lib.hid (HB.out.trans (on5.below HB.out.size (fun i hi => by have := (HO.out.lt hi).1; omega)))
   clear ho5 on5
   go_wp2_with fail
   go_ret
   exact ⟨A, c, l, by rw [HLEN.out]; rfl, by have := HO5.out.le (base' := w.heap.size) (by omega); rwa [← HLEN.out], HB5.out, HRS.out⟩
  ·intro x cv w3 cnt3 hlk hrg3 hlt3 hg3 hs3 hen
   have hfx := HLF.out x hlk
   have hxO : x ∉ O := fun h => by have := (HOF.out x h).2; rw [this] at hlk; cases hlk
   have HO3 := Lib.hid (HO.out.grown (row := some w.heap.size) hg3 (by
    rcases A with _ | a
    ·exact .inl rfl
    ·right; intro e; have := (HO.out.lt rfl).1; injection e with e; have e2 : a.block = w.heap.size := e; omega))
   have HB3 := Lib.hid (HB.out.grown hg3 HB.out.size (fun k e => by injection e with e; omega))
   have HS3 : Hid (w.heap.size + 1 ≤ w3.heap.size) := Lib.hid (by rw [hs3]; exact HS.out)
   have HR3 := Lib.hid hrg3
   have HU2 : Hid (O ++ [x]).Nodup := Lib.hid (by rw [List.nodup_append]; exact ⟨HU.out, by simp, fun a ha b hb e => by rw [List.mem_singleton] at hb; subst hb; subst e; exact hxO ha⟩)
   have HOF2 : Hid (∀ k : Int, k ∈ O ++ [x] → f k = true ∧ (fun z => left z && !z.sameKey (.int .i64 x)) (.int .i64 k) = false) := Lib.hid (fun k hk => by
    rcases List.mem_append.1 hk with hk | hk
    ·exact ⟨(HOF.out k hk).1, by simp only [(HOF.out k hk).2, Bool.false_and]⟩
    ·rw [List.mem_singleton] at hk; subst hk
     exact ⟨hfx, by simp [Lit.sameKey]⟩)
   have HFO2 : Hid (∀ k : Int, f k = true → k ∈ O ++ [x] ∨ (fun z => left z && !z.sameKey (.int .i64 x)) (.int .i64 k) = true) := Lib.hid (fun k hk => by
    by_cases e : k = x
    ·left; subst e; simp
    ·rcases HFO.out k hk with h | h
     ·left; simp [h]
     ·right; simp [h, Lit.sameKey, e])
   have HLF2 : Hid (∀ k : Int, (fun z => left z && !z.sameKey (.int .i64 x)) (.int .i64 k) = true → f k = true) := Lib.hid (fun k hk => HLF.out k (by simp only [Bool.and_eq_true] at hk; exact hk.1))
   clear hlk hrg3 hg3 hs3 hfx hxO
   go_wp2_with (at_builtin; refine step_int rfl (.tmp 10) (.tmp 12) rfl (w.heap.size + 1) A c O.length (cZ O) rfl (HO3.out.alloc _) _ 1 1 (cZ [x]) rfl (Rd.oneZ _ _ _) (cZ_one _) (by omega) (by simp; have := HS3.out; omega) ?_; intro A' c' w6 ho hg hat; have HO6 := Lib.hid ho; have HG6 := Lib.hid hg; clear ho hg hat)
   go_roundg cnt3
   case measure => omega
   case rel => exact ⟨A', c', O ++ [x], _, cnt3, by simp, by simp; omega, Nat.le_refl _, Lib.hid ((HR3.out.alloc _).kept HG6.out (fun e => by have := (HO3.out.lt e.symm).1; have := HBL.out; omega) (fun e => by have := (HO3.out.lt e.symm).1; omega)), Lib.hid (by have := HO6.out; simpa [cZ_app] using this), Lib.hid ((HB3.out.alloc HB3.out.size _).grown HG6.out (by simp; have := HS3.out; omega) (fun k hk => by have := (HO3.out.lt hk).1; omega)), Lib.hid (by have := HG6.out.size; simp at this; have := HS3.out; omega), HU2, HOF2, HFO2, HLF2⟩
open Go.RowKit
set_option linter.unusedVariables false
set_option linter.unusedSimpArgs false
theorem cZ_get {l : List Int} {i : Nat} {z : Int} (h : l[i]? = some z) : (cZ l)[i]? = some (.int .i64 z) := by simp [cZ, h]
theorem Rd.zcell {w : World} {A : Option Addr} {c n : Nat} {l : List Int} (h : Rd w 1 A n c (cZ l)) {i : Nat} {z : Int} (hz : l[i]? = some z) : ∃ ad, A = some ad ∧ w.cell? (ad.add i) = some (.int .i64 z) := h.at_ i _ (cZ_get hz)
structure LL (w : World) (A : Option Addr) (c : Nat) (ls : List (List Int)) : Prop where
 cap : ls.length ≤ c
 max : c ≤ maxLen
 row : ∀ (i : Nat) (x : List Int), ls[i]? = some x → ∃ ad Ai ci, A = some ad ∧ w.cell? (ad.add i) = some (.slice Ai x.length ci) ∧ Rd w 1 Ai x.length ci (cZ x)
theorem LL.below {w w' : World} {A : Option Addr} {c : Nat} {ls : List (List Int)} (h : LL w A c ls) (hb : Below w.heap.size w w') : LL w' A c ls :=
 ⟨h.cap, h.max, fun i x hx => by
   obtain ⟨ad, Ai, ci, e, hc, hr⟩ := h.row i x hx
   exact ⟨ad, Ai, ci, e, (hb.cell (World.block_lt_of_cell? w _ hc)).trans hc, hr.below hb⟩⟩
theorem LL.drewN {w : World} {A : Option Addr} {c : Nat} {ls : List (List Int)} (h : LL w A c ls) (k : Nat) : LL (w.drewN k) A c ls := h.below ⟨rfl, rfl, rfl, Nat.le_refl _, fun _ _ => rfl⟩
def llGreat (ls : List (List Int)) : Bool := decide (60 < ls.length) || ls.any fun l => decide (100 < l.length)
theorem take_anyZ {α : Type} {l : List α} {p : α → Bool} {i : Nat} {x : α} (h : l[i]? = some x) : (l.take (i + 1)).any p = ((l.take i).any p || p x) := by rw [List.take_add_one, h]; simp
theorem take_eq_step {α : Type} {l m : List α} {i : Nat} {x y : α} (h : l.take i = m.take i) (hl : l[i]? = some x) (hm : m[i]? = some y) (e : x = y) : l.take (i + 1) = m.take (i + 1) := by
 subst e
 rw [List.take_add_one, List.take_add_one, h, hl, hm]
theorem ne_at {α : Type} {l m : List α} {i : Nat} {x y : α} (hl : l[i]? = some x) (hm : m[i]? = some y) (e : x ≠ y) : l ≠ m := fun h => e (by rw [h, hm] at hl; injection hl with h; exact h.symm)
set_option maxRecDepth 100000 in
set_option maxHeartbeats 4000000 in
theorem llgreat_any (w : World) (A : Option Addr) (c : Nat) (ls : List (List Int)) (h : LL w A c ls) :
 Calls Tryz.prog 14 #[.slice A ls.length c] w fun e w' => e = .returned (.bool (llGreat ls)) ∧ w' = w := by
 have hc := h.cap
 have hm := h.max
 unfold maxLen at hm
 have HL := Lib.hid h
 clear h
 by_cases h60 : 60 < ls.length
 ·have h60i : (60 : Int) < (ls.length : Int) := by omega
  have HE : Hid (llGreat ls = true) := Lib.hid (by simp [llGreat, h60])
  clear h60
  go_enter Tryz.func14, Tryz.ntmps14
  go_wp2_with fail
  go_ret
  exact ⟨by rw [HE.out]; rfl, rfl⟩
 ·have h60i : ¬ ((60 : Int) < (ls.length : Int)) := by omega
  have HE : Hid (llGreat ls = ls.any fun l => decide (100 < l.length)) := Lib.hid (by simp [llGreat, h60])
  go_enter Tryz.func14, Tryz.ntmps14
  go_wp2_with fail
  clear h60i
  go_loopg [3] ls.length (fun g i wr => ∃ j : Nat, j + g = ls.length ∧ i = .int .i64 (j : Nat) ∧ wr = w ∧ Hid ((ls.take j).any (fun l => decide (100 < l.length)) = false))
  case atStart => exact ⟨0, by omega, rfl, rfl, Lib.hid (by simp)⟩
  case round =>
   obtain ⟨j, hj, rfl, rfl, HA⟩ := hrel
   cases gk with
   | zero =>
     have hjj : ¬ ((j : Int) < (ls.length : Int)) := by omega
     have HE2 : Hid (llGreat ls = false) := Lib.hid (by have := HA.out; rw [List.take_of_length_le (by omega)] at this; rw [HE.out, this])
     go_wp2_with fail
     go_ret
     exact ⟨by rw [HE2.out]; rfl, rfl⟩
   | succ g =>
     have hjj : (j : Int) < (ls.length : Int) := by omega
     have hji : (0 : Int) ≤ (j : Int) ∧ (j : Int) < (ls.length : Int) := by omega
     obtain ⟨x, hx⟩ := get_lt (l := ls) (i := j) (by omega)
     obtain ⟨ad, Ai, ci, rfl, hcl, hr⟩ := HL.out.row j x hx
     have HT := Lib.hid (take_anyZ (p := fun l : List Int => decide (100 < l.length)) hx)
     have HM : Hid (x ∈ ls) := Lib.hid (List.mem_of_getElem? hx)
     clear hx hr
     by_cases hq : 100 < x.length
     ·have hqi : (100 : Int) < (x.length : Int) := by omega
      have HE2 : Hid (llGreat ls = true) := Lib.hid (by rw [HE.out, List.any_eq_true]; exact ⟨x, HM.out, by simpa using hq⟩)
      clear hq
      go_wp2_with fail
      go_ret
      exact ⟨by rw [HE2.out]; rfl, rfl⟩
     ·have hqi : ¬ ((100 : Int) < (x.length : Int)) := by omega
      have HA2 : Hid ((ls.take (j + 1)).any (fun l => decide (100 < l.length)) = false) := Lib.hid (by rw [HT.out, HA.out]; simpa using hq)
      clear hq
      go_wp2_with fail
      go_roundg g
      case measure => omega
      case rel => exact ⟨j + 1, by omega, by go_num, rfl, HA2⟩
set_option maxRecDepth 100000 in
set_option maxHeartbeats 4000000 in
theorem ints_any (w : World) (A B : Option Addr) (c d : Nat) (l m : List Int) (h1 : Rd w 1 A l.length c (cZ l)) (h2 : Rd w 1 B m.length d (cZ m)) :
 Calls Tryz.prog 18 #[.slice A l.length c, .slice B m.length d] w fun e w' => e = .returned (.bool (decide (l = m))) ∧ ∃ k, w' = w.drewN k := by
 have hc := h1.cap
 have hm := h1.max
 have hd := h2.cap
 unfold maxLen at hm
 have H1 := Lib.hid h1
 have H2 := Lib.hid h2
 clear h1 h2
 by_cases hl : l.length = m.length
 ·have hln : ((l.length : Int) != (m.length : Int)) = false := by simp [hl]
  have HL := Lib.hid hl
  clear hl
  go_enter Tryz.func18, Tryz.ntmps18
  go_wp2_with fail
  go_loopg [5] l.length (fun g i wr => ∃ j k : Nat, j + g = l.length ∧ i = .int .i64 (j : Nat) ∧ wr = w.drewN k ∧ Hid (l.take j = m.take j))
  case atStart => exact ⟨0, 0, by omega, rfl, rfl, Lib.hid (by simp)⟩
  case round =>
   obtain ⟨j, k, hj, rfl, rfl, HA⟩ := hrel
   cases gk with
   | zero =>
     have hjj : ¬ ((j : Int) < (l.length : Int)) := by omega
     have HE : Hid (decide (l = m) = true) := Lib.hid (by have := HA.out; rw [List.take_of_length_le (by omega), List.take_of_length_le (by have := HL.out; omega)] at this; simpa using this)
     go_wp2_with fail
     go_ret
     exact ⟨by rw [HE.out]; rfl, _, rfl⟩
   | succ g =>
     have hjj : (j : Int) < (l.length : Int) := by omega
     have hji : (0 : Int) ≤ (j : Int) ∧ (j : Int) < (l.length : Int) := by omega
     have hjm : (0 : Int) ≤ (j : Int) ∧ (j : Int) < (m.length : Int) := by have := HL.out; omega
     obtain ⟨x, hx⟩ := get_lt (l := l) (i := j) (by omega)
     obtain ⟨y, hy⟩ := get_lt (l := m) (i := j) (by have := HL.out; omega)
     obtain ⟨W, hW⟩ : ∃ W, W = w.drewN k := ⟨_, rfl⟩
     obtain ⟨ad, rfl, hcx⟩ := (H1.out.drewN k).zcell hx
     obtain ⟨bd, rfl, hcy⟩ := (H2.out.drewN k).zcell hy
     rw [← hW] at hcx hcy ⊢
     have HW := Lib.hid hW
     have HX := Lib.hid hx
     have HY := Lib.hid hy
     clear hx hy hW
     by_cases hq : x = y
     ·have hqi : (x != y) = false := by simp [hq]
      have HA2 : Hid (l.take (j + 1) = m.take (j + 1)) := Lib.hid (take_eq_step HA.out HX.out HY.out hq)
      clear hq
      go_wp2_with fail
      go_quiet (fail)
      go_wp2
      go_roundg g
      case measure => omega
      case rel => exact ⟨j + 1, k + nq, by omega, by go_num, by rw [HW.out, World.drewN_drewN], HA2⟩
     ·have hqi : (x != y) = true := by simpa using hq
      have HE : Hid (decide (l = m) = false) := Lib.hid (by simpa using ne_at HX.out HY.out hq)
      clear hq
      go_wp2_with fail
      go_quiet (fail)
      go_wp2
      go_ret
      exact ⟨by rw [HE.out]; rfl, k + nq, by rw [HW.out, World.drewN_drewN]⟩
 ·have hln : ((l.length : Int) != (m.length : Int)) = true := by simp; omega
  have HE : Hid (decide (l = m) = false) := Lib.hid (by simp; intro e; exact hl (by rw [e]))
  clear hl
  go_enter Tryz.func18, Tryz.ntmps18
  go_wp2_with fail
  go_ret
  exact ⟨by rw [HE.out]; rfl, 0, rfl⟩
open Go.RowKit
set_option linter.unusedVariables false
set_option linter.unusedSimpArgs false
theorem rises_eq {f : Int → Bool} : ∀ {l m : List Int}, Rises f l → Rises f m → l = m := by
 intro l m h1 h2
 have hp : l.Perm m := (List.perm_ext_iff_of_nodup (h1.1.imp (fun h => by omega)) (h2.1.imp (fun h => by omega))).2 (fun k => (h1.2 k).trans (h2.2 k).symm)
 exact hp.eq_of_pairwise (fun a b _ _ h k => by omega) h1.1 h2.1
set_option maxRecDepth 100000 in
set_option maxHeartbeats 4000000 in
theorem same_any (w : World) (A B : Option Addr) (c d : Nat) (ls ms : List (List Int)) (h1 : LL w A c ls) (h2 : LL w B d ms) :
 Calls Tryz.prog 15 #[.slice A ls.length c, .slice B ms.length d] w fun e w' => e = .returned (.bool (decide (ls = ms))) ∧ ∃ k, w' = w.drewN k := by
 have hc := h1.cap
 have hm := h1.max
 have hd := h2.cap
 unfold maxLen at hm
 have H1 := Lib.hid h1
 have H2 := Lib.hid h2
 clear h1 h2
 by_cases hl : ls.length = ms.length
 ·have hln : ((ls.length : Int) != (ms.length : Int)) = false := by simp [hl]
  have HL := Lib.hid hl
  clear hl
  go_enter Tryz.func15, Tryz.ntmps15
  go_wp2_with fail
  go_loopg [5] ls.length (fun g i wr => ∃ j k : Nat, j + g = ls.length ∧ i = .int .i64 (j : Nat) ∧ wr = w.drewN k ∧ Hid (ls.take j = ms.take j))
  case atStart => exact ⟨0, 0, by omega, rfl, rfl, Lib.hid (by simp)⟩
  case round =>
   obtain ⟨j, k, hj, rfl, rfl, HA⟩ := hrel
   cases gk with
   | zero =>
     have hjj : ¬ ((j : Int) < (ls.length : Int)) := by omega
     have HE : Hid (decide (ls = ms) = true) := Lib.hid (by have := HA.out; rw [List.take_of_length_le (by omega), List.take_of_length_le (by have := HL.out; omega)] at this; simpa using this)
     go_wp2_with fail
     go_ret
     exact ⟨by rw [HE.out]; rfl, _, rfl⟩
   | succ g =>
     have hjj : (j : Int) < (ls.length : Int) := by omega
     have hji : (0 : Int) ≤ (j : Int) ∧ (j : Int) < (ls.length : Int) := by omega
     have hjm : (0 : Int) ≤ (j : Int) ∧ (j : Int) < (ms.length : Int) := by have := HL.out; omega
     obtain ⟨x, hx⟩ := get_lt (l := ls) (i := j) (by omega)
     obtain ⟨y, hy⟩ := get_lt (l := ms) (i := j) (by have := HL.out; omega)
     obtain ⟨W, hW⟩ : ∃ W, W = w.drewN k := ⟨_, rfl⟩
     obtain ⟨ad, Ai, ci, rfl, hcx, hrx⟩ := (H1.out.drewN k).row j x hx
     obtain ⟨bd, Bi, di, rfl, hcy, hry⟩ := (H2.out.drewN k).row j y hy
     rw [← hW] at hcx hcy hrx hry ⊢
     have hxc := hrx.cap
     have hxm := hrx.max
     unfold maxLen at hxm
     have hyc := hry.cap
     have HW := Lib.hid hW
     have HX := Lib.hid hx
     have HY := Lib.hid hy
     have HRX := Lib.hid hrx
     have HRY := Lib.hid hry
     clear hx hy hW hrx hry
     by_cases hq : x.length = y.length
     ·have hqi : ((x.length : Int) != (y.length : Int)) = false := by simp [hq]
      have HQ := Lib.hid hq
      clear hq
      go_wp2_with fail
      go_quiet (fail)
      go_wp2
      obtain ⟨W2, hW2⟩ : ∃ W2, W2 = W.drewN nq := ⟨_, rfl⟩
      rw [← hW2]
      have HW2 : Hid (W2 = w.drewN (k + nq)) := Lib.hid (by rw [hW2, HW.out, World.drewN_drewN])
      have HRX2 : Hid (Rd W2 1 Ai x.length ci (cZ x)) := Lib.hid (by rw [hW2]; exact HRX.out.drewN _)
      have HRY2 : Hid (Rd W2 1 Bi y.length di (cZ y)) := Lib.hid (by rw [hW2]; exact HRY.out.drewN _)
      have e1 : W2.cell? (ad.add j) = some (.slice Ai x.length ci) := by rw [hW2]; exact hcx
      have e2 : W2.cell? (bd.add j) = some (.slice Bi y.length di) := by rw [hW2]; exact hcy
      have HE1 := Lib.hid e1
      have HE2 := Lib.hid e2
      clear hW2 hcx hcy e1 e2
      go_loopg [6] x.length (fun g2 i wr => ∃ a b : Nat, a + g2 = x.length ∧ i = .int .i64 (a : Nat) ∧ wr = W2.drewN b ∧ Hid (x.take a = y.take a))
      case atStart => exact ⟨0, 0, by omega, rfl, rfl, Lib.hid (by simp)⟩
      case round =>
       obtain ⟨a, b, ha, rfl, rfl, HA3⟩ := hrel
       have e1 : (W2.drewN b).cell? (ad.add j) = some (.slice Ai x.length ci) := HE1.out
       have e2 : (W2.drewN b).cell? (bd.add j) = some (.slice Bi y.length di) := HE2.out
       obtain ⟨W3, hW3⟩ : ∃ W3, W3 = W2.drewN b := ⟨_, rfl⟩
       have HRX3 := Lib.hid (HRX2.out.drewN b)
       have HRY3 := Lib.hid (HRY2.out.drewN b)
       rw [← hW3] at e1 e2 HRX3 HRY3 ⊢
       have HW3 : Hid (W3 = w.drewN (k + nq + b)) := Lib.hid (by rw [hW3, HW2.out, World.drewN_drewN])
       have HW3b : Hid (W3 = W2.drewN b) := Lib.hid hW3
       clear hW3
       cases gk with
       | zero =>
         have haa : ¬ ((a : Int) < (x.length : Int)) := by omega
         have hxy : x = y := by have := HA3.out; rwa [List.take_of_length_le (by omega), List.take_of_length_le (by have := HQ.out; omega)] at this
         have HA2 : Hid (ls.take (j + 1) = ms.take (j + 1)) := Lib.hid (take_eq_step HA.out HX.out HY.out hxy)
         clear hxy
         go_wp2_with fail
         go_roundg g
         case measure => omega
         case rel => exact ⟨j + 1, k + nq + b, by omega, by go_num, HW3.out, HA2⟩
       | succ g2 =>
         have haa : (a : Int) < (x.length : Int) := by omega
         have hai : (0 : Int) ≤ (a : Int) ∧ (a : Int) < (x.length : Int) := by omega
         have hay : (0 : Int) ≤ (a : Int) ∧ (a : Int) < (y.length : Int) := by have := HQ.out; omega
         obtain ⟨p, hp⟩ := get_lt (l := x) (i := a) (by omega)
         obtain ⟨q, hq⟩ := get_lt (l := y) (i := a) (by have := HQ.out; omega)
         obtain ⟨pd, rfl, hcp⟩ := HRX3.out.zcell hp
         obtain ⟨qd, rfl, hcq⟩ := HRY3.out.zcell hq
         have HP := Lib.hid hp
         have HQQ := Lib.hid hq
         clear hp hq
         by_cases hpq : p = q
         ·have hqi : (p != q) = false := by simp [hpq]
          have HA4 : Hid (x.take (a + 1) = y.take (a + 1)) := Lib.hid (take_eq_step HA3.out HP.out HQQ.out hpq)
          clear hpq
          go_wp2_with fail
          go_quiet (fail)
          go_wp2
          go_roundg g2
          case measure => omega
          case rel => exact ⟨a + 1, _, by omega, by go_num, by rw [HW3b.out, World.drewN_drewN], HA4⟩
         ·have hqi : (p != q) = true := by simpa using hpq
          have HE : Hid (decide (ls = ms) = false) := Lib.hid (by
           have h3 : x ≠ y := ne_at HP.out HQQ.out hpq
           simpa using ne_at HX.out HY.out h3)
          clear hpq
          go_wp2_with fail
          go_quiet (fail)
          go_wp2
          go_ret
          exact ⟨by rw [HE.out]; rfl, _, by rw [HW3.out, World.drewN_drewN]⟩
     ·have hqi : ((x.length : Int) != (y.length : Int)) = true := by simpa using (show ¬ ((x.length : Int) = (y.length : Int)) by omega)
      have HE : Hid (decide (ls = ms) = false) := Lib.hid (by
       have h3 : x ≠ y := fun e => hq (by rw [e])
       simpa using ne_at HX.out HY.out h3)
      clear hq
      go_wp2_with fail
      go_quiet (fail)
      go_wp2
      go_ret
      exact ⟨by rw [HE.out]; rfl, _, by rw [HW.out, World.drewN_drewN]⟩
 ·have hln : ((ls.length : Int) != (ms.length : Int)) = true := by simpa using (show ¬ ((ls.length : Int) = (ms.length : Int)) by omega)
  have HE : Hid (decide (ls = ms) = false) := Lib.hid (by simp; intro e; exact hl (by rw [e]))
  clear hl
  go_enter Tryz.func15, Tryz.ntmps15
  go_wp2_with fail
  go_ret
  exact ⟨by rw [HE.out]; rfl, 0, rfl⟩
open Go.RowKit
set_option linter.unusedVariables false
set_option linter.unusedSimpArgs false
def cB (l : List Bool) : List Value := l.map Value.bool
def bF (bs : List Bool) (k : Int) : Bool := decide (0 ≤ k) && bs.getD k.toNat false
theorem bF_nat (bs : List Bool) (j : Nat) : bF bs (j : Int) = bs.getD j false := by unfold bF; simp
set_option maxRecDepth 100000 in
set_option maxHeartbeats 4000000 in
theorem refrising_any (w : World) (g0 : Addr) (c : Nat) (bs : List Bool) (h : Rd w 1 (some g0) bs.length c (cB bs)) (hn : bs.length ≤ 1000000) :
 Calls Tryz.prog 40 #[.slice (some g0) bs.length c] w fun e w' => ∃ A c l, e = .returned (.slice A l.length c) ∧ Ow w' w.heap.size 3 1 A l.length c (cZ l) ∧ Below w.heap.size w w' ∧ Rises (bF bs) l := by
 have hc := h.cap
 have H := Lib.hid h
 clear h
 go_enter Tryz.func40, Tryz.ntmps40
 go_wp2_with fail
 go_loopg [4, 3] bs.length (fun g i v wr => ∃ (j : Nat) (A : Option Addr) (c : Nat) (O : List Int), j + g = bs.length ∧ i = .int .i64 (j : Nat) ∧ v = .slice A O.length c ∧ O.length ≤ j ∧ Hid (O.Pairwise (· < ·)) ∧ Hid (∀ k : Int, k ∈ O ↔ k < (j : Int) ∧ bF bs k = true) ∧ Hid (Ow wr w.heap.size 3 1 A O.length c (cZ O)) ∧ Hid (Below w.heap.size w wr))
 case atStart => exact ⟨0, none, 0, [], by omega, rfl, rfl, by simp, Lib.hid List.Pairwise.nil, Lib.hid (fun k => ⟨fun h => (by cases h), fun h => by have := h.2; unfold bF at this; simp at this; have := h.1; omega⟩), Lib.hid (Ow.nil _ _ _ _), Lib.hid (Below.refl _ _)⟩
 case round =>
  obtain ⟨j, A, c2, O, hj, rfl, rfl, hO, HP, HM, HO, HB⟩ := hrel
  rename World => wo
  have hoc := HO.out.cap
  cases gk with
  | zero =>
    have hjj : ¬ ((j : Int) < (bs.length : Int)) := by omega
    have HR : Hid (Rises (bF bs) O) := Lib.hid ⟨HP.out, fun k => by
     rw [HM.out k]
     refine ⟨fun h => h.2, fun h => ⟨?_, h⟩⟩
     rcases (show k < (j : Int) ∨ (j : Int) ≤ k by omega) with h3 | h3
     ·exact h3
     ·unfold bF at h
      simp only [Bool.and_eq_true] at h
      have h4 := h.2
      rw [List.getD_eq_getElem?_getD, List.getElem?_eq_none (by omega)] at h4
      cases h4⟩
    go_wp2_with fail
    go_ret
    exact ⟨A, c2, O, rfl, HO.out, HB.out, HR.out⟩
  | succ g =>
    have hjj : (j : Int) < (bs.length : Int) := by omega
    have hji : (0 : Int) ≤ (j : Int) ∧ (j : Int) < (bs.length : Int) := by omega
    obtain ⟨x, hx⟩ := get_lt (l := bs) (i := j) (by omega)
    have hbj : bF bs (j : Int) = x := by rw [bF_nat, List.getD_eq_getElem?_getD, hx]; rfl
    obtain ⟨ad, e, hcx⟩ := (H.out.below HB.out).at_ j (.bool x) (by simp [cB, hx])
    injection e with e
    subst e
    have HBJ := Lib.hid hbj
    clear hx hbj
    cases x with
    | false =>
      have HM2 : Hid (∀ k : Int, k ∈ O ↔ k < ((j + 1 : Nat) : Int) ∧ bF bs k = true) := Lib.hid (fun k => by
       rw [HM.out k]
       refine ⟨fun h => ⟨by omega, h.2⟩, fun h => ⟨?_, h.2⟩⟩
       rcases (show k < (j : Int) ∨ (j : Int) ≤ k by omega) with h3 | h3
       ·exact h3
       ·have h4 : k = (j : Int) := by omega
        rw [h4, HBJ.out] at h
        cases h.2)
      go_wp2_with fail
      go_roundg g
      case measure => omega
      case rel => exact ⟨j + 1, A, c2, O, by omega, by go_num, rfl, by omega, HP, HM2, HO, HB⟩
    | true =>
      have HM2 : Hid (∀ k : Int, k ∈ O ++ [(j : Int)] ↔ k < ((j + 1 : Nat) : Int) ∧ bF bs k = true) := Lib.hid (fun k => by
       rw [List.mem_append, HM.out k, List.mem_singleton]
       constructor
       ·rintro (h | h)
        ·exact ⟨by omega, h.2⟩
        ·rw [h]; exact ⟨by omega, HBJ.out⟩
       ·intro h
        rcases (show k < (j : Int) ∨ (j : Int) ≤ k by omega) with h3 | h3
        ·exact .inl ⟨h3, h.2⟩
        ·exact .inr (by omega))
      have HP2 : Hid ((O ++ [(j : Int)]).Pairwise (· < ·)) := Lib.hid (by
       rw [List.pairwise_append]
       exact ⟨HP.out, by simp, fun a ha b hb => by rw [List.mem_singleton] at hb; rw [hb]; exact ((HM.out a).1 ha).1⟩)
      go_wp2_with (at_builtin; refine step_int rfl (.tmp 15) (.tmp 17) rfl w.heap.size A c2 O.length (cZ O) rfl (HO.out.alloc _) _ 1 1 (cZ [(j : Int)]) rfl (Rd.oneZ _ _ _) (cZ_one _) (by omega) (by simp; have := HB.out.size; omega) ?_; intro A' c' w6 ho hg hat; have HO6 := Lib.hid ho; have HG6 := Lib.hid hg; clear ho hg hat)
      go_roundg g
      case measure => omega
      case rel => exact ⟨j + 1, A', c', O ++ [(j : Int)], by omega, by go_num, by simp, by simp; omega, HP2, HM2, Lib.hid (by have := HO6.out; simpa [cZ_app] using this), Lib.hid ((HB.out.alloc HB.out.size _).grown HG6.out (by simp; have := HB.out.size; omega) (fun k hk => (HO.out.lt hk).1))⟩
open Go.RowKit
set_option linter.unusedVariables false
set_option linter.unusedSimpArgs false
section
variable {P : Program}
theorem run_app_empty (w : World) (t ty e : TypeId) (i : TypeInfo) (ht : P.underlying t = some (.slice e)) (hi : P.info? e = some i) (A0 : Option Addr) (n c0 : Nat) (A : Option Addr) (c : Nat) (hnc : n ≤ c0) :
 (Builtin.append_ #[t, t] ty #[.slice A0 n c0, .slice A 0 c]).run P w = .ok (.slice A0 n c0) w := by
 cases A0 <;> cases A <;> simp [Builtin.append_, run_underlying ht, sizeOf, typeInfo, hi, Builtin.lenOf, Builtin.firstCells, hnc, storeCells, loadCells, loadCellsFrom]
theorem run_full (w : World) (t ty e : TypeId) (i : TypeInfo) (z : Value) (size bytes : Nat) (ht : P.underlying t = some (.slice e)) (hi : P.info? e = some i) (hz : i.zero = some z)
 (hsize : i.size = size) (hby : i.bytes = bytes) (hzs : z.cells.size = size) (hsz : 0 < size)
 (A0 : Option Addr) (n : Nat) (xs : List Value) (hr0 : Rd w size A0 n n xs)
 (A : Option Addr) (m c : Nat) (news : List Value) (hr : Rd w size A m c news)
 (h63 : n + m ≤ maxLen) (hbytes : (n + m) * bytes ≤ 140737488355328) :
 ∃ A' c' w', (Builtin.append_ #[t, t] ty #[.slice A0 n n, .slice A m c]).run P w = .ok (.slice A' (n + m) c') w' ∧ Rd w' size A' (n + m) c' (xs ++ news) ∧ w.grownBy w' none := by
 subst hsize hby
 have hlen : (xs ++ news).length = (n + m) * i.size := by rw [List.length_append, hr0.len, hr.len, Nat.add_mul]
 by_cases hm : m = 0
 ·subst hm
  have hn : news = [] := List.eq_nil_of_length_eq_zero (by simpa using hr.len)
  subst hn
  exact ⟨A0, n, w, run_app_empty w t ty e i ht hi A0 n n A c (Nat.le_refl _), by simpa using hr0, ⟨rfl, rfl, rfl, Nat.le_refl _, fun _ _ _ => rfl⟩⟩
 ·obtain ⟨ad, rfl, hnews⟩ := hr.addr (by omega) hsz
  have hsmall : n + m ≤ 9223372036854775807 := by simp only [maxLen] at h63; omega
  have grown : ∀ (old : Nat), old < n + m →
   Rd (w.drew.alloc (.cells (xs.toArray ++ news.toArray ++ Builtin.zeroCells z.cells (grownCap w (n + m) old e - (n + m))) e)) i.size
    (some ⟨w.heap.size, 0, none⟩) (n + m) (grownCap w (n + m) old e) (xs ++ news) ∧
   w.grownBy (w.drew.alloc (.cells (xs.toArray ++ news.toArray ++ Builtin.zeroCells z.cells (grownCap w (n + m) old e - (n + m))) e)) none := by
   intro old ho
   have hge := grownCap_ge w (n + m) old e
   have hcm : grownCap w (n + m) old e ≤ maxLen := grownCap_le_maxLen w (n + m) old e h63
   refine ⟨⟨hlen, hge, hcm, fun j u hu => ⟨_, rfl, ?_⟩⟩, ⟨rfl, rfl, rfl, by simp, fun k hk _ => Below.heap_alloc w.drew _ k hk⟩⟩
   rw [add_plain, Nat.zero_add, cell_of_row _ w.heap.size j _ e (0, 0) (heap_alloc_new w.drew _)]
   have hj : j < (xs ++ news).length := by
    rcases Nat.lt_or_ge j (xs ++ news).length with h | h
    ·exact h
    ·rw [List.getElem?_eq_none h] at hu; cases hu
   rw [Array.getElem?_append_left (by simpa using hj)]
   simpa using hu
  cases hA0 : A0 with
  | none =>
    subst hA0
    have hn0 : n = 0 := by
     rcases Nat.eq_zero_or_pos n with h | h
     ·exact h
     ·obtain ⟨_, e, _⟩ := hr0.addr h hsz
      cases e
    subst hn0
    have hx : xs = [] := List.eq_nil_of_length_eq_zero (by simpa using hr0.len)
    subst hx
    have hrn := run_append_nil (P := P) w t ty e i z ht hi hz ad m c news hr.len hnews (by omega) (by omega) (by have hb := hbytes; simp only [Nat.zero_add] at hb; omega)
    have hgr := grown 0 (by omega)
    simp only [Nat.zero_add, List.nil_append, Array.empty_append] at hgr ⊢
    exact ⟨_, _, _, hrn, hgr.1, hgr.2⟩
  | some b =>
    subst hA0
    have hrn := run_append_grow (P := P) w t ty e i z ht hi hz b n n xs hr0.len (fun j u hu => hr0.get hu) ad m c news hr.len hnews (by omega) (by omega) (growslice_fits (by omega) hbytes)
    have hgr := grown n (by omega)
    exact ⟨_, _, _, hrn, hgr.1, hgr.2⟩
end
def rowAt (ls : List (List Int)) (k : Int) : List Int := ls.getD k.toNat []
def vld (ls : List (List Int)) (k : Int) : Prop := 0 ≤ k ∧ k < (ls.length : Int)
inductive Rch (ls : List (List Int)) (s : Int) : Int → Prop
 | base {k : Int} : k ∈ rowAt ls s → vld ls k → Rch ls s k
 | step {i k : Int} : Rch ls s i → k ∈ rowAt ls i → vld ls k → Rch ls s k
theorem Rch.vld {ls : List (List Int)} {s k : Int} (h : Rch ls s k) : vld ls k := by cases h <;> assumption
theorem rch_iff {ls : List (List Int)} {s : Int} {f : Int → Bool} (h1 : ∀ k, f k = true → Rch ls s k) (h2 : ∀ i, i = s ∨ f i = true → ∀ k ∈ rowAt ls i, vld ls k → f k = true) (k : Int) : f k = true ↔ Rch ls s k := by
 refine ⟨h1 k, fun h => ?_⟩
 induction h with
 | base h3 h4 => exact h2 s (.inl rfl) _ h3 h4
 | step _ h3 h4 ih => exact h2 _ (.inr ih) _ h3 h4
open Go.RowKit
set_option linter.unusedVariables false
set_option linter.unusedSimpArgs false
section
variable {P : Program} (w : World)
theorem run_slice_tail' {t e : TypeId} {A : Option Addr} {n c sz k : Nat} (ht : P.underlying t = some (.slice e)) (hs : (P.info? e).map (·.size) = some sz) (h1 : k ≤ n) (hc : n ≤ c) :
 (Instr.slice t (.slice A n c) (some (.int .i64 (k : Int))) (some (.int .i64 (n : Int))) (some (.int .i64 (n : Int)))).run P w = .ok (.slice (if n = k then A else A.map (·.add (k * sz))) (n - k) (n - k)) w := by
 obtain ⟨i, hi, rfl⟩ : ∃ i, P.info? e = some i ∧ i.size = sz := by
  cases h : P.info? e with
  | none => rw [h] at hs; cases hs
  | some i => rw [h] at hs; simp at hs; exact ⟨i, rfl, hs⟩
 simp [Instr.slice, run_underlying ht, Instr.sliceBounds, run_sliceBound, sizeOf, typeInfo, hi, h1, hc]
theorem run_slice_tail {t e : TypeId} {A : Option Addr} {n c sz : Nat} (ht : P.underlying t = some (.slice e)) (hs : (P.info? e).map (·.size) = some sz) (h1 : 1 ≤ n) (hc : n ≤ c) :
 (Instr.slice t (.slice A n c) (some (.int .i64 1)) (some (.int .i64 (n : Int))) (some (.int .i64 (n : Int)))).run P w = .ok (.slice (if n = 1 then A else A.map (·.add (1 * sz))) (n - 1) (n - 1)) w :=
 run_slice_tail' w ht hs h1 hc (k := 1)
end
def tZ (V : List Int) : Int → Bool := fun z => V.contains z
theorem tZ_iff {V : List Int} {k : Int} : tZ V k = true ↔ k ∈ V := by simp [tZ]
theorem tZ_put (V : List Int) (k : Int) : fput (tZ V) k true = tZ (V ++ [k]) := by
 funext z
 by_cases hz : z = k
 ·subst hz; rw [fput_same]; simp [tZ]
 ·rw [fput_other _ _ hz]; simp [tZ, hz]
theorem tZ_nil : tZ [] = fun _ => false := by funext z; rfl
theorem MT.ne {w : World} {b n : Nat} {f : Int → Bool} (h : MT w b n f) {p : Addr} {v : Value} (hc : w.cell? p = some v) : p.block ≠ b := by
 obtain ⟨D, ⟨es, k, h1, _⟩, _⟩ := h
 rintro e
 unfold World.cell? at hc
 rw [e, h1] at hc
 cases hc
theorem Rd.offmap {w w' : World} {b n sz m c : Nat} {f : Int → Bool} {A : Option Addr} {xs : List Value} (h : Rd w sz A m c xs) (hm : MT w b n f) (hg : w.grownBy w' (some b)) : Rd w' sz A m c xs :=
 ⟨h.len, h.cap, h.max, fun j u hu => by
   obtain ⟨ad, e, hc⟩ := h.at_ j u hu
   have hne := hm.ne hc
   refine ⟨ad, e, (World.cell?_of_block (a := ad.add j) ?_).trans hc⟩
   exact hg.block _ (World.block_lt_of_cell? w _ hc) (fun e => hne (by injection e))⟩
theorem valid_len {ls : List (List Int)} {V : List Int} (hn : V.Nodup) (hv : ∀ k ∈ V, vld ls k) : V.length ≤ ls.length := by
 have h := nodup_len ls.length (V.map Int.toNat) (by
  rw [List.Nodup, List.pairwise_map]
  refine List.Pairwise.imp_of_mem ?_ hn
  intro a b ha hb hab e
  have h1 := (hv a ha).1
  have h2 := (hv b hb).1
  omega) (fun x hx => by
  obtain ⟨k, hk, rfl⟩ := List.mem_map.1 hx
  have h1 := (hv k hk).1
  have h2 := (hv k hk).2
  omega)
 simpa using h
theorem rowAt_nat {ls : List (List Int)} {j : Nat} {x : List Int} (h : ls[j]? = some x) : rowAt ls (j : Int) = x := by
 unfold rowAt
 rw [show ((j : Int)).toNat = j from rfl, List.getD_eq_getElem?_getD, h]; rfl
def CloP (ls : List (List Int)) (s : Int) (l : List Int) : Prop := l.Pairwise (· < ·) ∧ ∀ k, k ∈ l ↔ vld ls s ∧ Rch ls s k
section
variable {w : World} {ops : Array Oper} {rest : List Oper} {o : Oper} {a : Act} {Q : Exit → Act → World → Prop}
theorem wp_full (hw : Region.wanted o (yielded ops a.tmps) = true) (s x : Operand)
 (ho : o.op = .call { callee := .builtin .append, args := #[s, x], argTypes := #[44, 44] })
 (A0 : Option Addr) (n : Nat) (xs : List Value) (hs : a.eval s = .slice A0 n n) (hr0 : Rd w 1 A0 n n xs)
 (A : Option Addr) (m c : Nat) (news : List Value) (hx : a.eval x = .slice A m c) (hr : Rd w 1 A m c news) (hb : n + m ≤ 1000000)
 (h : ∀ A' c' w', Rd w' 1 A' (n + m) c' (xs ++ news) → w.grownBy w' none → wpList Tryz.prog ops Q rest (a.put o.dst (.slice A' (n + m) c')) w') :
 wpList Tryz.prog ops Q (o :: rest) a w := by
 obtain ⟨i0, hi, hz0, hz1, hz2⟩ := info_parts info_int
 obtain ⟨A', c', w', hrun, h2, h3⟩ := run_full (P := Tryz.prog) w 44 o.type 3 i0 _ 1 8 Tryz.underlying44 hi hz0 hz1 hz2 rfl (by omega) A0 n xs hr0 A m c news hr (by unfold maxLen; omega) (by omega)
 refine wpList_step fun K hK => ?_
 rw [if_pos hw]
 unfold Oper.wp execOp
 simp only [ho, resolve, invoke, builtin, Sem.run_bind, Sem.run_pure, Result.andThen_ok, List.map_toArray, List.map_cons, List.map_nil, hs, hx, hrun]
 exact hK _ _ (h A' c' w' h2 h3)
end
open Go.RowKit
set_option linter.unusedVariables false
set_option linter.unusedSimpArgs false
set_option maxRecDepth 100000 in
set_option maxHeartbeats 8000000 in
theorem closure_any (w : World) (A : Option Addr) (c : Nat) (ls : List (List Int)) (s : Int) (h : LL w A c ls) (hn : ls.length ≤ 60) (h100 : ∀ l ∈ ls, l.length ≤ 100) :
 Calls Tryz.prog 19 #[.slice A ls.length c, .int .i64 s] w fun e w' => ∃ A' c' l, e = .returned (.slice A' l.length c') ∧ Rd w' 1 A' l.length c' (cZ l) ∧ Below w.heap.size w w' ∧ CloP ls s l := by
 have hc := h.cap
 have HL := Lib.hid h
 have H100 := Lib.hid h100
 clear h h100
 by_cases hs0 : s < 0
 ·have hd0 : decide (s < 0) = true := decide_eq_true hs0
  have HC : Hid (CloP ls s []) := Lib.hid ⟨List.Pairwise.nil, fun k => ⟨fun h => (by cases h), fun h => by have := h.1.1; omega⟩⟩
  go_enter Tryz.func19, Tryz.ntmps19
  go_wp2_with fail
  go_step3
  go_wp2_with fail
  rw [Exit.noGoto_ret]
  go_ret
  exact ⟨none, 0, [], rfl, Rd.nil _ _, Below.refl _ _, HC.out⟩
 have hd0 : decide (s < 0) = false := decide_eq_false hs0
 by_cases hs1 : (ls.length : Int) ≤ s
 ·have hd1 : decide ((ls.length : Int) ≤ s) = true := decide_eq_true hs1
  have HC : Hid (CloP ls s []) := Lib.hid ⟨List.Pairwise.nil, fun k => ⟨fun h => (by cases h), fun h => by have := h.1.2; omega⟩⟩
  go_enter Tryz.func19, Tryz.ntmps19
  go_wp2_with fail
  go_step3
  go_wp2_with fail
  rw [Exit.noGoto_ret]
  go_ret
  exact ⟨none, 0, [], rfl, Rd.nil _ _, Below.refl _ _, HC.out⟩
 have hd1 : decide ((ls.length : Int) ≤ s) = false := decide_eq_false hs1
 obtain ⟨j, rfl⟩ : ∃ j : Nat, s = (j : Int) := ⟨s.toNat, by omega⟩
 have hji : (0 : Int) ≤ (j : Int) ∧ (j : Int) < (ls.length : Int) := by omega
 have hd2 : decide (ls.length ≤ j) = false := decide_eq_false (by omega)
 obtain ⟨x, hx⟩ := get_lt (l := ls) (i := j) (by omega)
 have hb1 : Below w.heap.size w (w.alloc (.map #[] 0)) := (Below.refl _ w).alloc (Nat.le_refl _) _
 obtain ⟨ad, Ai, ci, rfl, hcl, hr⟩ := (HL.out.below hb1).row j x hx
 have hxc := hr.cap
 have hx100 := H100.out x (List.mem_of_getElem? hx)
 have HVS : Hid (vld ls (j : Int)) := Lib.hid ⟨by omega, by omega⟩
 have HRX := Lib.hid hr
 have HXR := Lib.hid (rowAt_nat hx)
 have HB1 := Lib.hid hb1
 have HM1 : Hid (MT (w.alloc (.map #[] 0)) w.heap.size 0 (tZ [])) := Lib.hid (by rw [tZ_nil]; exact MT.new w)
 have hmm := @run_makeMap Tryz.prog
 clear hx hb1 hr hs0 hs1 hd1
 go_enter Tryz.func19, Tryz.ntmps19
 go_wp2_with fail
 go_step3
 go_wp2_with fail
 clear hmm
 go_step3
 go_wp2_with fail
 go_loopg [6] 6160 (fun g v wr => ∃ (A6 : Option Addr) (c6 : Nat) (T V : List Int), v = .slice A6 T.length c6 ∧ V.length ≤ ls.length ∧ T.length + 101 * (ls.length - V.length) ≤ g ∧ g ≤ 6160 ∧ Hid (Rd wr 1 A6 T.length c6 (cZ T)) ∧ Hid (MT wr w.heap.size V.length (tZ V)) ∧ Hid (Below w.heap.size w wr) ∧ Hid (w.heap.size + 1 ≤ wr.heap.size) ∧ Hid (V.Nodup) ∧ Hid (∀ k ∈ V, Rch ls (j : Int) k) ∧ Hid (∀ k ∈ T, vld ls k → Rch ls (j : Int) k) ∧ Hid (∀ i, i = (j : Int) ∨ i ∈ V → ∀ k ∈ rowAt ls i, vld ls k → k ∈ V ∨ k ∈ T))
 case atStart => exact ⟨Ai, ci, x, [], rfl, by simp, by simp; omega, by omega, HRX, HM1, HB1, Lib.hid (by simp), Lib.hid List.nodup_nil, Lib.hid (fun k hk => by cases hk), Lib.hid (fun k hk hv => .base (by rw [HXR.out]; exact hk) hv), Lib.hid (fun i hi k hk hv => by
  rcases hi with rfl | hi
  ·right; rwa [HXR.out] at hk
  ·cases hi)⟩
 case round =>
  obtain ⟨A6, c6, T, V, rfl, hV, hg, hgm, HR, HM, HB, HS, HU, HRC, HTR, HCL⟩ := hrel
  rename World => wo
  have htc := HR.out.cap
  clear hcl
  obtain hT | ⟨z, T', hT⟩ : T = [] ∨ ∃ z T', T = z :: T' := by cases T <;> simp
  ·subst hT
   have HIF : Hid (∀ k, tZ V k = true ↔ Rch ls (j : Int) k) := Lib.hid (rch_iff (fun k hk => HRC.out k (tZ_iff.1 hk)) (fun i hi k hk hv => by
    rcases HCL.out i (hi.imp_right tZ_iff.1) k hk hv with h | h
    ·exact tZ_iff.2 h
    ·cases h))
   have HRI := Lib.hid (rising_any wo w.heap.size V.length (tZ V) HM.out (by omega))
   have hT0 : ¬ ((0 : Int) < (([] : List Int).length : Int)) := by simp
   go_wp2_with fail
   refine HRI.out.mono ?_
   rintro e w5 ⟨A5, c5, l, rfl, ho, hb, hri⟩
   have HB5 := Lib.hid (HB.out.trans (hb.mono HB.out.size))
   have HO5 := Lib.hid ho.rd
   have HRI5 := Lib.hid hri
   clear ho hb hri
   go_wp2_with fail
   rw [Exit.noGoto_ret]
   go_ret
   exact ⟨A5, c5, l, rfl, HO5.out, HB5.out, HRI5.out.1, fun k => (HRI5.out.2 k).trans ((HIF.out k).trans ⟨fun h => ⟨HVS.out, h⟩, fun h => h.2⟩)⟩
  ·obtain ⟨g, rfl⟩ : ∃ g, gk = g + 1 := by
    cases gk with
    | zero => subst hT; simp at hg
    | succ g => exact ⟨g, rfl⟩
   obtain ⟨a6, rfl, hcz⟩ := HR.out.zcell (l := T) (i := 0) (z := z) (by rw [hT]; rfl)
   rw [show a6.add 0 = a6 by simp [Addr.add]] at hcz
   have hTl : T.length = T'.length + 1 := by rw [hT]; rfl
   have hT0 : (0 : Int) < (T.length : Int) := by omega
   have hT0i : (0 : Int) ≤ (0 : Int) ∧ (0 : Int) < (T.length : Int) := by omega
   have hsl := fun W : World => run_slice_tail (P := Tryz.prog) W (A := some a6) (n := T.length) (c := c6) (t := 44) (e := 3) (sz := 1) Tryz.underlying44 (by kernel_rfl) (by omega) htc
   have hcut := HR.out.cut (k := 1) (m := T.length) (x := T.length) (by omega) (Nat.le_refl _) (Nat.le_refl _) htc
   rw [show ((cZ T).drop (1 * 1)).take ((T.length - 1) * 1) = cZ T' by rw [hT]; simp [cZ, List.take_of_length_le]] at hcut
   rw [show T.length - 1 = T'.length by omega] at hcut hsl
   obtain ⟨A7, hA7⟩ : ∃ A7, A7 = (if T.length = 1 then some a6 else (some a6).map (·.add (1 * 1))) := ⟨_, rfl⟩
   rw [← hA7] at hsl hcut
   have HCUT := Lib.hid hcut
   have HTE := Lib.hid hT
   have HTL := Lib.hid hTl
   have hT1 : (1 : Int) ≤ (T.length : Int) := by omega
   clear hA7 hcut hT hTl
   have HTM : Hid (∀ k, k ∈ T ↔ k = z ∨ k ∈ T') := Lib.hid (fun k => by rw [HTE.out, List.mem_cons])
   have HTR2 : Hid (∀ k ∈ T', vld ls k → Rch ls (j : Int) k) := Lib.hid (fun k hk => HTR.out k ((HTM.out k).2 (.inr hk)))
   by_cases hz0 : z < 0
   ·have ez0 : decide (z < 0) = true := decide_eq_true hz0
    have HCL2 : Hid (∀ i, i = (j : Int) ∨ i ∈ V → ∀ k ∈ rowAt ls i, vld ls k → k ∈ V ∨ k ∈ T') := Lib.hid (fun i hi k hk hv => by
     rcases HCL.out i hi k hk hv with h | h
     ·exact .inl h
     ·rcases (HTM.out k).1 h with rfl | h
      ·have := hv.1; omega
      ·exact .inr h)
    clear hz0
    go_wp2_with fail
    go_roundg g
    case measure => omega
    case rel => exact ⟨A7, T'.length, T', V, rfl, hV, by have := HTL.out; omega, by omega, HCUT, HM, HB, HS, HU, HRC, HTR2, HCL2⟩
   have ez0 : decide (z < 0) = false := decide_eq_false hz0
   by_cases hz1 : (ls.length : Int) ≤ z
   ·have ez1 : decide ((ls.length : Int) ≤ z) = true := decide_eq_true hz1
    have HCL2 : Hid (∀ i, i = (j : Int) ∨ i ∈ V → ∀ k ∈ rowAt ls i, vld ls k → k ∈ V ∨ k ∈ T') := Lib.hid (fun i hi k hk hv => by
     rcases HCL.out i hi k hk hv with h | h
     ·exact .inl h
     ·rcases (HTM.out k).1 h with rfl | h
      ·have := hv.2; omega
      ·exact .inr h)
    clear hz0 hz1
    go_wp2_with fail
    go_roundg g
    case measure => omega
    case rel => exact ⟨A7, T'.length, T', V, rfl, hV, by have := HTL.out; omega, by omega, HCUT, HM, HB, HS, HU, HRC, HTR2, HCL2⟩
   have ez1 : decide ((ls.length : Int) ≤ z) = false := decide_eq_false hz1
   obtain ⟨q, rfl⟩ : ∃ q : Nat, z = (q : Int) := ⟨z.toNat, by omega⟩
   have hvq : vld ls (q : Int) := ⟨by omega, by omega⟩
   have HVQ := Lib.hid hvq
   have hlk := HM.out.look (k := (q : Int)) (by omega) (by omega)
   have hqi : (0 : Int) ≤ (q : Int) ∧ (q : Int) < (ls.length : Int) := by omega
   clear hvq hz0 hz1
   cases hqV : tZ V (q : Int) with
   | true =>
     rw [hqV] at hlk
     have HCL2 : Hid (∀ i, i = (j : Int) ∨ i ∈ V → ∀ k ∈ rowAt ls i, vld ls k → k ∈ V ∨ k ∈ T') := Lib.hid (fun i hi k hk hv => by
      rcases HCL.out i hi k hk hv with h | h
      ·exact .inl h
      ·rcases (HTM.out k).1 h with rfl | h
       ·exact .inl (tZ_iff.1 hqV)
       ·exact .inr h)
     clear hqV
     go_wp2_with fail
     go_roundg g
     case measure => omega
     case rel => exact ⟨A7, T'.length, T', V, rfl, hV, by have := HTL.out; omega, by omega, HCUT, HM, HB, HS, HU, HRC, HTR2, HCL2⟩
   | false =>
     rw [hqV] at hlk
     have hnV : (q : Int) ∉ V := fun h => by rw [tZ_iff.2 h] at hqV; cases hqV
     have HRQ : Hid (Rch ls (j : Int) (q : Int)) := Lib.hid (HTR.out _ ((HTM.out _).2 (.inl rfl)) HVQ.out)
     have HU2 : Hid (V ++ [(q : Int)]).Nodup := Lib.hid (by rw [List.nodup_append]; exact ⟨HU.out, by simp, fun a ha b hb e => by rw [List.mem_singleton] at hb; subst hb; subst e; exact hnV ha⟩)
     have HRC2 : Hid (∀ k ∈ V ++ [(q : Int)], Rch ls (j : Int) k) := Lib.hid (fun k hk => by
      rcases List.mem_append.1 hk with hk | hk
      ·exact HRC.out k hk
      ·rw [List.mem_singleton] at hk; rw [hk]; exact HRQ.out)
     have hV2 : V.length + 1 ≤ ls.length := by have := valid_len HU2.out (fun k hk => (HRC2.out k hk).vld); simpa using this
     obtain ⟨y, hy⟩ := get_lt (l := ls) (i := q) (by omega)
     have hy100 := H100.out y (List.mem_of_getElem? hy)
     have HYR := Lib.hid (rowAt_nat hy)
     have HY := Lib.hid hy
     have HTR3 : Hid (∀ k ∈ T' ++ y, vld ls k → Rch ls (j : Int) k) := Lib.hid (fun k hk hv => by
      rcases List.mem_append.1 hk with hk | hk
      ·exact HTR2.out k hk hv
      ·exact .step HRQ.out (by rw [HYR.out]; exact hk) hv)
     have HCL2 : Hid (∀ i, i = (j : Int) ∨ i ∈ V ++ [(q : Int)] → ∀ k ∈ rowAt ls i, vld ls k → k ∈ V ++ [(q : Int)] ∨ k ∈ T' ++ y) := Lib.hid (fun i hi k hk hv => by
      have old : (i = (j : Int) ∨ i ∈ V) → k ∈ V ++ [(q : Int)] ∨ k ∈ T' ++ y := fun h => by
       rcases HCL.out i h k hk hv with h | h
       ·exact .inl (List.mem_append_left _ h)
       ·rcases (HTM.out k).1 h with rfl | h
        ·exact .inl (by simp)
        ·exact .inr (List.mem_append_left _ h)
      rcases hi with hi | hi
      ·exact old (.inl hi)
      ·rcases List.mem_append.1 hi with hi | hi
       ·exact old (.inr hi)
       ·rw [List.mem_singleton] at hi
        subst hi
        rw [HYR.out] at hk
        exact .inr (List.mem_append_right _ hk))
     clear hqV hnV hy
     go_wp2_with (first
      | (with_reducible refine wp_put_MT rfl (.tmp 46) (.tmp 47) (.const (.bool true)) rfl w.heap.size V.length (tZ V) rfl HM.out (by unfold maxLen; omega) (q : Int) (by omega) (by omega) rfl rfl ?_; intro w3 hm3 hg3; have HM3 := Lib.hid hm3; have HG3 := Lib.hid hg3; have HB3 := Lib.hid (HB.out.grown hg3 HB.out.size (fun k e => by injection e with e; omega)); obtain ⟨ad', Aq, cq, e, hcq, hrq⟩ := (HL.out.below HB3.out).row q y HY.out; injection e with e; subst e; have hqc := hrq.cap; have HRQ3 := Lib.hid hrq; have HCUT3 := Lib.hid (HCUT.out.offmap HM.out hg3); clear hm3 hg3 hrq hlk)
      | (at_builtin; refine wp_full rfl (.tmp 48) (.tmp 52) rfl A7 T'.length (cZ T') rfl HCUT3.out Aq y.length cq (cZ y) rfl HRQ3.out (by have := HTL.out; omega) ?_; intro A8 c8 w4 hr8 hg8; have HR8 := Lib.hid hr8; have HG8 := Lib.hid hg8; clear hr8 hg8))
     have hb34 : Below w3.heap.size w3 w4 := Below.grown (Below.refl _ w3) HG8.out (Nat.le_refl _) (fun k e => by cases e)
     have HB4 := Lib.hid (HB3.out.trans (hb34.mono HB3.out.size))
     have HM4 : Hid (MT w4 w.heap.size (V ++ [(q : Int)]).length (tZ (V ++ [(q : Int)]))) := Lib.hid (by
      have := HM3.out.below hb34
      rw [tZ_put] at this
      simpa using this)
     have HS4 : Hid (w.heap.size + 1 ≤ w4.heap.size) := Lib.hid (by have h1 := HG3.out.size; have h2 := hb34.size; have := HS.out; omega)
     clear hb34 hcq
     go_roundg g
     case measure => omega
     case rel => exact ⟨A8, c8, T' ++ y, V ++ [(q : Int)], by simp, by simpa using hV2, by have := HTL.out; simp; omega, by omega, Lib.hid (by have := HR8.out; simpa [cZ_app] using this), HM4, HB4, HS4, HU2, HRC2, HTR3, HCL2⟩
open Go.RowKit
set_option linter.unusedVariables false
set_option linter.unusedSimpArgs false
theorem info_boolD : (Tryz.prog.info? 4).map (fun i => (i.zero, i.size, i.bytes)) = some (some (.bool false), 1, 1) := by kernel_rfl
theorem made_cB (n : Nat) : madeCells #[.bool false] n = (cB (List.replicate n false)).toArray := by
 apply Array.ext
 ·simp [madeCells, cB]
 ·intro i h1 h2
  simp [madeCells, cB, Nat.mod_one]
theorem make_cB (n : Nat) (h : n ≤ 1000000) (w : World) : (Instr.makeSlice 41 (.int .i64 (n : Int)) (.int .i64 (n : Int))).run Tryz.prog w = .ok (.slice (some ⟨w.heap.size, 0, none⟩) n n) (w.alloc (.cells (cB (List.replicate n false)).toArray 4)) := by
 have := run_make_row' (P := Tryz.prog) 41 4 (.bool false) 1 Tryz.underlying41 info_boolD rfl .i64 .i64 n (by omega) (by omega) w
 rw [made_cB] at this
 exact this
theorem Rd.ofbools {w : World} {g : Nat} {bs : List Bool} (h : Blk w g (cB bs).toArray 4) (hn : bs.length ≤ 1000000) : Rd w 1 (some ⟨g, 0, none⟩) bs.length bs.length (cB bs) :=
 ⟨by simp [cB], Nat.le_refl _, by unfold maxLen; omega, fun j u hu => ⟨_, rfl, by
   rw [add_plain, Nat.zero_add]
   exact Blk.cell h j (by simpa using hu)⟩⟩
theorem Blk.setB {w : World} {g : Nat} {bs : List Bool} (h : Blk w g (cB bs).toArray 4) (i : Nat) (b : Bool) : Blk (w.setCell ⟨g, i, none⟩ (.bool b)) g (cB (bs.set i b)).toArray 4 := by
 refine (h.set i (.bool b)).eq ?_
 apply Array.ext
 ·simp [cB]
 ·intro j h1 h2
  simp [cB, List.getElem_set, Array.getElem_setIfInBounds]
theorem bF_set {bs : List Bool} {i : Nat} (hi : i < bs.length) (k : Int) : bF (bs.set i true) k = true ↔ bF bs k = true ∨ k = (i : Int) := by
 unfold bF
 simp only [Bool.and_eq_true, decide_eq_true_eq]
 rw [List.getD_eq_getElem?_getD, List.getD_eq_getElem?_getD, List.getElem?_set]
 by_cases hk : i = k.toNat
 ·subst hk
  rw [if_pos rfl, if_pos hi]
  constructor
  ·rintro ⟨h, _⟩; exact .inr (by omega)
  ·intro h
   refine ⟨?_, rfl⟩
   rcases h with h | h
   ·exact h.1
   ·omega
 ·rw [if_neg hk]
  constructor
  ·intro h; exact .inl h
  ·rintro (h | h)
   ·exact h
   ·exact absurd (by omega) hk
open Go.RowKit
set_option linter.unusedVariables false
set_option linter.unusedSimpArgs false
def unset (bs : List Bool) : Nat := bs.count false
theorem unset_set : ∀ {bs : List Bool} {q : Nat}, bs[q]? = some false → unset (bs.set q true) + 1 = unset bs
 | [], q, h => by simp at h
 | b :: bs, 0, h => by simp at h; subst h; simp [unset]
 | b :: bs, q + 1, h => by
   have := unset_set (bs := bs) (q := q) (by simpa using h)
   unfold unset at this ⊢
   rw [List.set_cons_succ, List.count_cons, List.count_cons]
   omega
structure GB (w0 : World) (ls : List (List Int)) (s : Int) (bs : List Bool) (w : World) : Prop where
 blk : Blk w w0.heap.size (cB bs).toArray 4
 len : bs.length = ls.length
 bel : Below w0.heap.size w0 w
 rch : ∀ k, bF bs k = true → Rch ls s k
theorem GB.put {w0 w : World} {ls : List (List Int)} {s : Int} {bs : List Bool} (h : GB w0 ls s bs w) {q : Nat} (hq : q < ls.length) (hr : Rch ls s (q : Int)) : GB w0 ls s (bs.set q true) (w.setCell ⟨w0.heap.size, q, none⟩ (.bool true)) :=
 ⟨h.blk.setB q true, by rw [List.length_set]; exact h.len, h.bel.setCell (Nat.le_refl _) _, fun k hk => by
   rcases (bF_set (by rw [h.len]; exact hq) k).1 hk with hk | hk
   ·exact h.rch k hk
   ·rw [hk]; exact hr⟩
theorem GB.at_ {w0 w : World} {ls : List (List Int)} {s : Int} {bs : List Bool} (h : GB w0 ls s bs w) {q : Nat} (hq : q < ls.length) : ∃ b, bs[q]? = some b ∧ bF bs (q : Int) = b ∧ w.cell? ⟨w0.heap.size, q, none⟩ = some (.bool b) ∧ w.frozen? ⟨w0.heap.size, q, none⟩ = false := by
 obtain ⟨b, hb⟩ := get_lt (l := bs) (i := q) (by rw [h.len]; exact hq)
 exact ⟨b, hb, by rw [bF_nat, List.getD_eq_getElem?_getD, hb]; rfl, h.blk.cell q (by simp [cB, hb]), h.blk.frozen q⟩
def Cls (ls : List (List Int)) (s : Int) (bs : List Bool) (i : Nat) : Prop := ∀ p : Nat, p < i → ((p : Int) = s ∨ bF bs (p : Int) = true) → ∀ k ∈ rowAt ls (p : Int), vld ls k → bF bs k = true
theorem Cls.succ {ls : List (List Int)} {s : Int} {bs : List Bool} {i : Nat} (h : Cls ls s bs i) (h2 : ((i : Int) = s ∨ bF bs (i : Int) = true) → ∀ k ∈ rowAt ls (i : Int), vld ls k → bF bs k = true) : Cls ls s bs (i + 1) := fun p hp => by
 rcases Nat.lt_or_ge p i with h3 | h3
 ·exact h p h3
 ·have : p = i := by omega
  subst this; exact h2
set_option maxRecDepth 100000 in
set_option maxHeartbeats 8000000 in
theorem refclosure_any (w : World) (A : Option Addr) (c : Nat) (ls : List (List Int)) (s : Int) (h : LL w A c ls) (hn : ls.length ≤ 60) (h100 : ∀ l ∈ ls, l.length ≤ 100) :
 Calls Tryz.prog 20 #[.slice A ls.length c, .int .i64 s] w fun e w' => ∃ A' c' l, e = .returned (.slice A' l.length c') ∧ Rd w' 1 A' l.length c' (cZ l) ∧ Below w.heap.size w w' ∧ CloP ls s l := by
 have hc := h.cap
 have hcm := h.max
 unfold maxLen at hcm
 have HL := Lib.hid h
 have H100 := Lib.hid h100
 clear h h100
 by_cases hs0 : s < 0
 ·have hd0 : decide (s < 0) = true := decide_eq_true hs0
  have HC : Hid (CloP ls s []) := Lib.hid ⟨List.Pairwise.nil, fun k => ⟨fun h => (by cases h), fun h => by have := h.1.1; omega⟩⟩
  go_enter Tryz.func20, Tryz.ntmps20
  go_wp2_with fail
  go_ret
  exact ⟨none, 0, [], rfl, Rd.nil _ _, Below.refl _ _, HC.out⟩
 have hd0 : decide (s < 0) = false := decide_eq_false hs0
 by_cases hs1 : (ls.length : Int) ≤ s
 ·have hd1 : decide ((ls.length : Int) ≤ s) = true := decide_eq_true hs1
  have HC : Hid (CloP ls s []) := Lib.hid ⟨List.Pairwise.nil, fun k => ⟨fun h => (by cases h), fun h => by have := h.1.2; omega⟩⟩
  go_enter Tryz.func20, Tryz.ntmps20
  go_wp2_with fail
  go_ret
  exact ⟨none, 0, [], rfl, Rd.nil _ _, Below.refl _ _, HC.out⟩
 have hd1 : decide ((ls.length : Int) ≤ s) = false := decide_eq_false hs1
 obtain ⟨j, rfl⟩ : ∃ j : Nat, s = (j : Int) := ⟨s.toNat, by omega⟩
 have hji : (0 : Int) ≤ (j : Int) ∧ (j : Int) < (ls.length : Int) := by omega
 have hd2 : decide (ls.length ≤ j) = false := decide_eq_false (by omega)
 have hmk : ∀ w', (Instr.makeSlice 41 (.int .i64 (ls.length : Int)) (.int .i64 (ls.length : Int))).run Tryz.prog w' = .ok (.slice (some ⟨w'.heap.size, 0, none⟩) ls.length ls.length) (w'.alloc (.cells (cB (List.replicate ls.length false)).toArray 4)) := fun w' => make_cB _ (by omega) w'
 have HG0 : Hid (GB w ls (j : Int) (List.replicate ls.length false) (w.alloc (.cells (cB (List.replicate ls.length false)).toArray 4))) := Lib.hid ⟨Blk.new _ _ _, by simp, (Below.refl _ w).alloc (Nat.le_refl _) _, fun k hk => by
  unfold bF at hk
  simp only [Bool.and_eq_true] at hk
  have h2 := hk.2
  rw [List.getD_eq_getElem?_getD, List.getElem?_replicate] at h2
  split at h2 <;> simp at h2⟩
 have hu0 : unset (List.replicate ls.length false) ≤ 60 := by unfold unset; rw [List.count_replicate]; simp; omega
 have HU0 := Lib.hid hu0
 have HVS : Hid (vld ls (j : Int)) := Lib.hid ⟨by omega, by omega⟩
 clear hs0 hs1 hd1 hu0
 go_enter Tryz.func20, Tryz.ntmps20
 go_wp2_with fail
 clear hmk
 go_loopg [6] 61 (fun g v wr => ∃ (b : Bool) (bs : List Bool), v = .bool b ∧ unset bs + (if b then 1 else 0) ≤ g ∧ g ≤ 61 ∧ Hid (GB w ls (j : Int) bs wr) ∧ Hid (b = false → Cls ls (j : Int) bs ls.length))
 case atStart => exact ⟨true, _, rfl, by have := HU0.out; simp; omega, by omega, HG0, Lib.hid (fun h => by cases h)⟩
 case round =>
  obtain ⟨b, bs, rfl, hg, hg61, HG, HC⟩ := hrel
  rename World => wo
  cases b with
  | false =>
    have HIF : Hid (∀ k, bF bs k = true ↔ Rch ls (j : Int) k) := Lib.hid (rch_iff HG.out.rch (fun i hi k hk hv => by
     have hiv : vld ls i := by
      rcases hi with rfl | hi
      ·exact HVS.out
      ·exact (HG.out.rch i hi).vld
     obtain ⟨p, rfl⟩ : ∃ p : Nat, i = (p : Int) := ⟨i.toNat, by have := hiv.1; omega⟩
     exact HC.out rfl p (by have := hiv.2; omega) hi k hk hv))
    have hbl : bs.length = ls.length := HG.out.len
    have HRI := Lib.hid (refrising_any wo ⟨w.heap.size, 0, none⟩ bs.length bs (Rd.ofbools HG.out.blk (by omega)) (by omega))
    rw [hbl] at HRI
    clear hbl
    go_wp2_with fail
    refine HRI.out.mono ?_
    rintro e w5 ⟨A5, c5, l, rfl, ho, hb, hri⟩
    have HB5 := Lib.hid (HG.out.bel.trans (hb.mono HG.out.bel.size))
    have HO5 := Lib.hid ho.rd
    have HRI5 := Lib.hid hri
    clear ho hb hri
    go_wp2_with fail
    go_ret
    exact ⟨A5, c5, l, rfl, HO5.out, HB5.out, HRI5.out.1, fun k => (HRI5.out.2 k).trans ((HIF.out k).trans ⟨fun h => ⟨HVS.out, h⟩, fun h => h.2⟩)⟩
  | true =>
    obtain ⟨g, rfl⟩ : ∃ g, gk = g + 1 := ⟨gk - 1, by simp at hg; omega⟩
    have hgu : unset bs ≤ g := by simp at hg; omega
    clear hg HC
    go_wp2_with fail
    go_loopg [6, 7] ls.length (fun g2 v i wr => ∃ (p : Nat) (b : Bool) (cs : List Bool), p + g2 = ls.length ∧ v = .bool b ∧ i = .int .i64 (p : Nat) ∧ unset cs + (if b then 1 else 0) ≤ unset bs ∧ Hid (GB w ls (j : Int) cs wr) ∧ Hid (b = false → Cls ls (j : Int) cs p))
    case atStart => exact ⟨0, false, bs, by omega, rfl, rfl, by simp, HG, Lib.hid (fun _ p hp => by omega)⟩
    case round =>
     obtain ⟨p, b, cs, hp, rfl, rfl, hu, HG2, HC2⟩ := hrel
     rename World => wp
     cases gk with
     | zero =>
       have hpp : ¬ ((p : Int) < (ls.length : Int)) := by omega
       have HC3 : Hid (b = false → Cls ls (j : Int) cs ls.length) := Lib.hid (by rw [show ls.length = p by omega]; exact HC2.out)
       go_wp2_with fail
       go_roundg g
       case measure => omega
       case rel => exact ⟨b, cs, rfl, by omega, by omega, HG2, HC3⟩
     | succ g2 =>
       have hpp : (p : Int) < (ls.length : Int) := by omega
       have hpi : (0 : Int) ≤ (p : Int) ∧ (p : Int) < (ls.length : Int) := by omega
       obtain ⟨y, hy⟩ := get_lt (l := ls) (i := p) (by omega)
       obtain ⟨bp, hbp, hbF, hbc, -⟩ := HG2.out.at_ (q := p) (by omega)
       have HBF := Lib.hid hbF
       have HY := Lib.hid hy
       have HYR := Lib.hid (rowAt_nat hy)
       obtain ⟨ad, Ay, cy, rfl, hcy, hry⟩ := (HL.out.below HG2.out.bel).row p y hy
       have hym := hry.cap
       have hyx := hry.max
       unfold maxLen at hyx
       have hyl : y.length < 9223372036854775807 := by have := H100.out y (List.mem_of_getElem? HY.out); omega
       clear hy hbp hbF hry
       have key : ∀ (hrun : (p : Int) = (j : Int) ∨ bp = true), ∀ k ∈ y, vld ls k → Rch ls (j : Int) k := fun hrun k hk hv => by
        rcases hrun with h | h
        ·exact .base (by rw [← h, HYR.out]; exact hk) hv
        ·exact .step (HG2.out.rch p (by rw [HBF.out]; exact h)) (by rw [HYR.out]; exact hk) hv
       have HKEY := Lib.hid key
       clear key
       by_cases hrun : (p : Int) = (j : Int) ∨ bp = true
       ·have HRY := Lib.hid (HKEY.out hrun)
        by_cases hpj : (p : Int) = (j : Int)
        ·have hne : ((p : Int) != (j : Int)) = false := by simp [hpj]
         clear hrun hpj
         go_wp2_with fail
         clear hne
         go_loopg [6, 8] y.length (fun g3 v i wr => ∃ (a : Nat) (b : Bool) (ds : List Bool), a + g3 = y.length ∧ v = .bool b ∧ i = .int .i64 (a : Nat) ∧ unset ds + (if b then 1 else 0) ≤ unset bs ∧ Hid (GB w ls (j : Int) ds wr) ∧ Hid (b = false → Cls ls (j : Int) ds p ∧ ∀ k ∈ y.take a, vld ls k → bF ds k = true))
         case atStart => exact ⟨0, b, cs, by omega, rfl, rfl, hu, HG2, Lib.hid (fun hb => ⟨HC2.out hb, fun k hk => by simp at hk⟩)⟩
         case round =>
          clear hcy hbc hu hpp hpi hym
          obtain ⟨a, b4, ds, ha, rfl, rfl, hu4, HG4, HC4⟩ := hrel
          rename World => wq
          obtain ⟨ad4, Ay4, cy4, e4, hcy, hry⟩ := (HL.out.below HG4.out.bel).row p y HY.out
          injection e4 with e4
          subst e4
          have hym := hry.cap
          have hpi : (0 : Int) ≤ (p : Int) ∧ (p : Int) < (ls.length : Int) := by omega
          cases gk with
          | zero =>
            have haa : ¬ ((a : Int) < (y.length : Int)) := by omega
            have HC5 : Hid (b4 = false → Cls ls (j : Int) ds (p + 1)) := Lib.hid (fun hb => (HC4.out hb).1.succ (fun _ k hk hv => (HC4.out hb).2 k (by rw [List.take_of_length_le (by omega)]; rwa [HYR.out] at hk) hv))
            go_wp2_with fail
            go_roundg g2
            case measure => omega
            case rel => exact ⟨p + 1, b4, ds, by omega, rfl, by go_num, hu4, HG4, HC5⟩
          | succ g3 =>
            have haa : (a : Int) < (y.length : Int) := by omega
            have hai : (0 : Int) ≤ (a : Int) ∧ (a : Int) < (y.length : Int) := by omega
            obtain ⟨z, hz⟩ := get_lt (l := y) (i := a) (by omega)
            obtain ⟨zd, rfl, hzc⟩ := hry.zcell hz
            have HTK : Hid (∀ k, k ∈ y.take (a + 1) ↔ k ∈ y.take a ∨ k = z) := Lib.hid (fun k => by rw [List.take_add_one, hz]; simp)
            have HZM : Hid (z ∈ y) := Lib.hid (List.mem_of_getElem? hz)
            clear hz hry
            by_cases hz0 : 0 ≤ z
            ·by_cases hz1 : z < (ls.length : Int)
             ·have ez0 : decide (0 ≤ z) = true := decide_eq_true hz0
              obtain ⟨q, rfl⟩ : ∃ q : Nat, z = (q : Int) := ⟨z.toNat, by omega⟩
              have ez1 : decide ((q : Int) < (ls.length : Int)) = true := decide_eq_true hz1
              have ez2 : decide (q < ls.length) = true := decide_eq_true (by omega)
              have hqi : (0 : Int) ≤ (q : Int) ∧ (q : Int) < (ls.length : Int) := by omega
              have HVQ : Hid (vld ls (q : Int)) := Lib.hid ⟨by omega, by omega⟩
              obtain ⟨bq, hbq, hbqF, hqc, hqf⟩ := HG4.out.at_ (q := q) (by omega)
              cases bq with
              | true =>
                have HC5 : Hid (b4 = false → Cls ls (j : Int) ds p ∧ ∀ k ∈ y.take (a + 1), vld ls k → bF ds k = true) := Lib.hid (fun hb => ⟨(HC4.out hb).1, fun k hk hv => by
                 rcases (HTK.out k).1 hk with h | h
                 ·exact (HC4.out hb).2 k h hv
                 ·rw [h]; exact hbqF⟩)
                clear hbq hbqF
                go_wp2_with fail
                go_roundg g3
                case measure => omega
                case rel => exact ⟨a + 1, b4, ds, by omega, rfl, by go_num, hu4, HG4, HC5⟩
              | false =>
                have HG5 := Lib.hid (HG4.out.put (q := q) (by omega) (HRY.out _ HZM.out HVQ.out))
                have hus := unset_set hbq
                have hu5 : unset (ds.set q true) + 1 ≤ unset bs := by omega
                clear hbq hbqF hus
                go_wp2_with fail
                go_roundg g3
                case measure => omega
                case rel => exact ⟨a + 1, true, ds.set q true, by omega, rfl, by go_num, by simpa using hu5, HG5, Lib.hid (fun hb => by cases hb)⟩
             ·have ez0 : decide (0 ≤ z) = true := decide_eq_true hz0
              have ez1 : decide (z < (ls.length : Int)) = false := decide_eq_false hz1
              have HC5 : Hid (b4 = false → Cls ls (j : Int) ds p ∧ ∀ k ∈ y.take (a + 1), vld ls k → bF ds k = true) := Lib.hid (fun hb => ⟨(HC4.out hb).1, fun k hk hv => by
               rcases (HTK.out k).1 hk with h | h
               ·exact (HC4.out hb).2 k h hv
               ·rw [h] at hv; exact absurd hv.2 hz1⟩)
              clear hz0 hz1
              go_wp2_with fail
              go_roundg g3
              case measure => omega
              case rel => exact ⟨a + 1, b4, ds, by omega, rfl, by go_num, hu4, HG4, HC5⟩
            ·have ez0 : decide (0 ≤ z) = false := decide_eq_false hz0
             have HC5 : Hid (b4 = false → Cls ls (j : Int) ds p ∧ ∀ k ∈ y.take (a + 1), vld ls k → bF ds k = true) := Lib.hid (fun hb => ⟨(HC4.out hb).1, fun k hk hv => by
              rcases (HTK.out k).1 hk with h | h
              ·exact (HC4.out hb).2 k h hv
              ·rw [h] at hv; exact absurd hv.1 hz0⟩)
             clear hz0
             go_wp2_with fail
             go_roundg g3
             case measure => omega
             case rel => exact ⟨a + 1, b4, ds, by omega, rfl, by go_num, hu4, HG4, HC5⟩
        ·have hne : ((p : Int) != (j : Int)) = true := by simpa using hpj
         have hbt : bp = true := hrun.resolve_left hpj
         subst hbt
         clear hrun hpj
         go_wp2_with fail
         clear hne
         go_loopg [6, 8] y.length (fun g3 v i wr => ∃ (a : Nat) (b : Bool) (ds : List Bool), a + g3 = y.length ∧ v = .bool b ∧ i = .int .i64 (a : Nat) ∧ unset ds + (if b then 1 else 0) ≤ unset bs ∧ Hid (GB w ls (j : Int) ds wr) ∧ Hid (b = false → Cls ls (j : Int) ds p ∧ ∀ k ∈ y.take a, vld ls k → bF ds k = true))
         case atStart => exact ⟨0, b, cs, by omega, rfl, rfl, hu, HG2, Lib.hid (fun hb => ⟨HC2.out hb, fun k hk => by simp at hk⟩)⟩
         case round =>
          clear hcy hbc hu hpp hpi hym
          obtain ⟨a, b4, ds, ha, rfl, rfl, hu4, HG4, HC4⟩ := hrel
          rename World => wq
          obtain ⟨ad4, Ay4, cy4, e4, hcy, hry⟩ := (HL.out.below HG4.out.bel).row p y HY.out
          injection e4 with e4
          subst e4
          have hym := hry.cap
          have hpi : (0 : Int) ≤ (p : Int) ∧ (p : Int) < (ls.length : Int) := by omega
          cases gk with
          | zero =>
            have haa : ¬ ((a : Int) < (y.length : Int)) := by omega
            have HC5 : Hid (b4 = false → Cls ls (j : Int) ds (p + 1)) := Lib.hid (fun hb => (HC4.out hb).1.succ (fun _ k hk hv => (HC4.out hb).2 k (by rw [List.take_of_length_le (by omega)]; rwa [HYR.out] at hk) hv))
            go_wp2_with fail
            go_roundg g2
            case measure => omega
            case rel => exact ⟨p + 1, b4, ds, by omega, rfl, by go_num, hu4, HG4, HC5⟩
          | succ g3 =>
            have haa : (a : Int) < (y.length : Int) := by omega
            have hai : (0 : Int) ≤ (a : Int) ∧ (a : Int) < (y.length : Int) := by omega
            obtain ⟨z, hz⟩ := get_lt (l := y) (i := a) (by omega)
            obtain ⟨zd, rfl, hzc⟩ := hry.zcell hz
            have HTK : Hid (∀ k, k ∈ y.take (a + 1) ↔ k ∈ y.take a ∨ k = z) := Lib.hid (fun k => by rw [List.take_add_one, hz]; simp)
            have HZM : Hid (z ∈ y) := Lib.hid (List.mem_of_getElem? hz)
            clear hz hry
            by_cases hz0 : 0 ≤ z
            ·by_cases hz1 : z < (ls.length : Int)
             ·have ez0 : decide (0 ≤ z) = true := decide_eq_true hz0
              obtain ⟨q, rfl⟩ : ∃ q : Nat, z = (q : Int) := ⟨z.toNat, by omega⟩
              have ez1 : decide ((q : Int) < (ls.length : Int)) = true := decide_eq_true hz1
              have ez2 : decide (q < ls.length) = true := decide_eq_true (by omega)
              have hqi : (0 : Int) ≤ (q : Int) ∧ (q : Int) < (ls.length : Int) := by omega
              have HVQ : Hid (vld ls (q : Int)) := Lib.hid ⟨by omega, by omega⟩
              obtain ⟨bq, hbq, hbqF, hqc, hqf⟩ := HG4.out.at_ (q := q) (by omega)
              cases bq with
              | true =>
                have HC5 : Hid (b4 = false → Cls ls (j : Int) ds p ∧ ∀ k ∈ y.take (a + 1), vld ls k → bF ds k = true) := Lib.hid (fun hb => ⟨(HC4.out hb).1, fun k hk hv => by
                 rcases (HTK.out k).1 hk with h | h
                 ·exact (HC4.out hb).2 k h hv
                 ·rw [h]; exact hbqF⟩)
                clear hbq hbqF
                go_wp2_with fail
                go_roundg g3
                case measure => omega
                case rel => exact ⟨a + 1, b4, ds, by omega, rfl, by go_num, hu4, HG4, HC5⟩
              | false =>
                have HG5 := Lib.hid (HG4.out.put (q := q) (by omega) (HRY.out _ HZM.out HVQ.out))
                have hus := unset_set hbq
                have hu5 : unset (ds.set q true) + 1 ≤ unset bs := by omega
                clear hbq hbqF hus
                go_wp2_with fail
                go_roundg g3
                case measure => omega
                case rel => exact ⟨a + 1, true, ds.set q true, by omega, rfl, by go_num, by simpa using hu5, HG5, Lib.hid (fun hb => by cases hb)⟩
             ·have ez0 : decide (0 ≤ z) = true := decide_eq_true hz0
              have ez1 : decide (z < (ls.length : Int)) = false := decide_eq_false hz1
              have HC5 : Hid (b4 = false → Cls ls (j : Int) ds p ∧ ∀ k ∈ y.take (a + 1), vld ls k → bF ds k = true) := Lib.hid (fun hb => ⟨(HC4.out hb).1, fun k hk hv => by
               rcases (HTK.out k).1 hk with h | h
               ·exact (HC4.out hb).2 k h hv
               ·rw [h] at hv; exact absurd hv.2 hz1⟩)
              clear hz0 hz1
              go_wp2_with fail
              go_roundg g3
              case measure => omega
              case rel => exact ⟨a + 1, b4, ds, by omega, rfl, by go_num, hu4, HG4, HC5⟩
            ·have ez0 : decide (0 ≤ z) = false := decide_eq_false hz0
             have HC5 : Hid (b4 = false → Cls ls (j : Int) ds p ∧ ∀ k ∈ y.take (a + 1), vld ls k → bF ds k = true) := Lib.hid (fun hb => ⟨(HC4.out hb).1, fun k hk hv => by
              rcases (HTK.out k).1 hk with h | h
              ·exact (HC4.out hb).2 k h hv
              ·rw [h] at hv; exact absurd hv.1 hz0⟩)
             clear hz0
             go_wp2_with fail
             go_roundg g3
             case measure => omega
             case rel => exact ⟨a + 1, b4, ds, by omega, rfl, by go_num, hu4, HG4, HC5⟩
       ·have hne : ((p : Int) != (j : Int)) = true := by simpa using fun h => hrun (.inl h)
        have hbf : bp = false := by cases bp with | false => rfl | true => exact absurd (.inr rfl) hrun
        subst hbf
        have HC3 : Hid (b = false → Cls ls (j : Int) cs (p + 1)) := Lib.hid (fun hb => (HC2.out hb).succ (fun h => by
         rcases h with h | h
         ·exact absurd (.inl h) hrun
         ·rw [HBF.out] at h; cases h))
        clear hrun
        go_wp2_with fail
        go_roundg g2
        case measure => omega
        case rel => exact ⟨p + 1, b, cs, by omega, rfl, by go_num, hu, HG2, HC3⟩
open Go.RowKit
set_option linter.unusedVariables false
set_option linter.unusedSimpArgs false
def turnF (ls : List (List Int)) (k : Nat) : Int → Bool := fun i => decide (0 ≤ i) && (decide (i < (ls.length : Int)) && (rowAt ls i).contains (k : Int))
theorem turnF_iff {ls : List (List Int)} {k : Nat} {i : Int} : turnF ls k i = true ↔ 0 ≤ i ∧ i < (ls.length : Int) ∧ (k : Int) ∈ rowAt ls i := by
 unfold turnF
 simp
def TurnP (ls ms : List (List Int)) : Prop := ms.length = ls.length ∧ ∀ (k : Nat) (m : List Int), ms[k]? = some m → Rises (turnF ls k) m
theorem turnP_eq {ls ms ns : List (List Int)} (h1 : TurnP ls ms) (h2 : TurnP ls ns) : ms = ns := by
 apply List.ext_getElem?
 intro k
 rcases Nat.lt_or_ge k ls.length with h | h
 ·obtain ⟨m, hm⟩ := get_lt (l := ms) (i := k) (by rw [h1.1]; exact h)
  obtain ⟨n, hn⟩ := get_lt (l := ns) (i := k) (by rw [h2.1]; exact h)
  rw [hm, hn, rises_eq (h1.2 k m hm) (h2.2 k n hn)]
 ·rw [List.getElem?_eq_none (by rw [h1.1]; exact h), List.getElem?_eq_none (by rw [h2.1]; exact h)]
def Til (ls : List (List Int)) (j a : Nat) (F : Nat → Int → Bool) : Prop := ∀ (k : Nat) (i : Int), k < ls.length → (F k i = true ↔ (0 ≤ i ∧ i < (j : Int) ∧ (k : Int) ∈ rowAt ls i) ∨ (i = (j : Int) ∧ (k : Int) ∈ (rowAt ls i).take a))
theorem Til.zero {ls : List (List Int)} : Til ls 0 0 (fun _ _ => false) := fun k i hk => by
 constructor
 ·intro h; cases h
 ·rintro (h | h)
  ·omega
  ·simp at h
theorem Til.row {ls : List (List Int)} {j a : Nat} {F : Nat → Int → Bool} (h : Til ls j a F) (ha : (rowAt ls (j : Int)).length ≤ a) : Til ls (j + 1) 0 F := fun k i hk => by
 rw [h k i hk]
 constructor
 ·rintro (h1 | ⟨rfl, h1⟩)
  ·exact .inl ⟨h1.1, by omega, h1.2.2⟩
  ·rw [List.take_of_length_le ha] at h1
   exact .inl ⟨by omega, by omega, h1⟩
 ·rintro (⟨h1, h2, h3⟩ | ⟨_, h1⟩)
  ·rcases (show i < (j : Int) ∨ i = (j : Int) by omega) with h4 | h4
   ·exact .inl ⟨h1, h4, h3⟩
   ·refine .inr ⟨h4, ?_⟩
    subst h4
    rwa [List.take_of_length_le ha]
  ·simp at h1
theorem Til.skip {ls : List (List Int)} {j a : Nat} {F : Nat → Int → Bool} {z : Int} (h : Til ls j a F) (hz : (rowAt ls (j : Int))[a]? = some z) (hv : ¬ vld ls z) : Til ls j (a + 1) F := fun k i hk => by
 rw [h k i hk]
 refine or_congr Iff.rfl (and_congr_right fun e => ?_)
 subst e
 rw [List.take_add_one, hz]
 simp only [Option.toList, List.mem_append, List.mem_singleton]
 refine ⟨.inl, fun h2 => h2.resolve_right fun e => hv ?_⟩
 rw [← e]
 exact ⟨by omega, by omega⟩
def fset (F : Nat → Int → Bool) (k : Nat) (i : Int) : Nat → Int → Bool := fun q => if q = k then fput (F k) i true else F q
theorem fset_same (F : Nat → Int → Bool) (k : Nat) (i : Int) : fset F k i k = fput (F k) i true := if_pos rfl
theorem fset_other (F : Nat → Int → Bool) {k q : Nat} (i : Int) (h : q ≠ k) : fset F k i q = F q := if_neg h
theorem Til.put {ls : List (List Int)} {j a q : Nat} {F : Nat → Int → Bool} (h : Til ls j a F) (hz : (rowAt ls (j : Int))[a]? = some (q : Int)) : Til ls j (a + 1) (fset F q (j : Int)) := fun k i hk => by
 have key : (k : Int) ∈ (rowAt ls (j : Int)).take (a + 1) ↔ (k : Int) ∈ (rowAt ls (j : Int)).take a ∨ k = q := by
  rw [List.take_add_one, hz]
  simp only [Option.toList, List.mem_append, List.mem_singleton]
  exact or_congr Iff.rfl (by omega)
 have step : (F k i = true ∨ (k = q ∧ i = (j : Int))) ↔ fset F q (j : Int) k i = true := by
  by_cases hkq : k = q
  ·subst hkq
   rw [fset_same]
   by_cases hij : i = (j : Int)
   ·subst hij; rw [fput_same]; simp
   ·rw [fput_other _ _ hij]; simp [hij]
  ·rw [fset_other F (j : Int) hkq]; simp [hkq]
 rw [← step, h k i hk]
 constructor
 ·rintro ((h1 | ⟨rfl, h1⟩) | ⟨rfl, rfl⟩)
  ·exact .inl h1
  ·exact .inr ⟨rfl, key.2 (.inl h1)⟩
  ·exact .inr ⟨rfl, key.2 (.inr rfl)⟩
 ·rintro (h1 | ⟨rfl, h1⟩)
  ·exact .inl (.inl h1)
  ·rcases key.1 h1 with h2 | h2
   ·exact .inl (.inr ⟨rfl, h2⟩)
   ·exact .inr ⟨h2, rfl⟩
theorem Til.all {ls : List (List Int)} {j : Nat} {F : Nat → Int → Bool} (h : Til ls j 0 F) (hj : j = ls.length) {k : Nat} (hk : k < ls.length) : F k = turnF ls k := by
 subst hj
 funext i
 have h1 := h k i hk
 have h2 := turnF_iff (ls := ls) (k := k) (i := i)
 have h3 : F k i = true ↔ turnF ls k i = true := by rw [h1, h2]; simp
 cases h4 : F k i <;> cases h5 : turnF ls k i <;> simp_all
def cM (ms : List (Option Nat)) : List Value := ms.map Value.map
theorem info_mapD : (Tryz.prog.info? 52).map (fun i => (i.zero, i.size, i.bytes)) = some (some (.map none), 1, 8) := by kernel_rfl
theorem made_cM (n : Nat) : madeCells #[.map none] n = (cM (List.replicate n none)).toArray := by
 apply Array.ext
 ·simp [madeCells, cM]
 ·intro i h1 h2
  simp [madeCells, cM, Nat.mod_one]
theorem make_cM (n : Nat) (h : n ≤ 1000000) (w : World) : (Instr.makeSlice 112 (.int .i64 (n : Int)) (.int .i64 (n : Int))).run Tryz.prog w = .ok (.slice (some ⟨w.heap.size, 0, none⟩) n n) (w.alloc (.cells (cM (List.replicate n none)).toArray 52)) := by
 have := run_make_row' (P := Tryz.prog) 112 52 (.map none) 8 Tryz.underlying112 info_mapD rfl .i64 .i64 n (by omega) (by omega) w
 rw [made_cM] at this
 exact this
theorem Blk.setM {w : World} {g : Nat} {ms : List (Option Nat)} (h : Blk w g (cM ms).toArray 52) (i : Nat) (b : Option Nat) : Blk (w.setCell ⟨g, i, none⟩ (.map b)) g (cM (ms.set i b)).toArray 52 := by
 refine (h.set i (.map b)).eq ?_
 apply Array.ext
 ·simp [cM]
 ·intro j h1 h2
  simp [cM, List.getElem_set, Array.getElem_setIfInBounds]
structure Gtm (w0 : World) (N M : Nat) (ms : List (Option Nat)) (F : Nat → Int → Bool) (w : World) : Prop where
 blk : Blk w w0.heap.size (cM ms).toArray 52
 len : ms.length = N
 bel : Below w0.heap.size w0 w
 mt : ∀ (k b : Nat), ms[k]? = some (some b) → w0.heap.size < b ∧ ∃ n, n ≤ M ∧ MT w b n (F k)
 nl : ∀ k : Nat, ms[k]? = some none → F k = fun _ => false
 inj : ∀ (j k b : Nat), ms[j]? = some (some b) → ms[k]? = some (some b) → j = k
section
variable {w0 w : World} {N M : Nat} {ms : List (Option Nat)} {F : Nat → Int → Bool}
theorem Gtm.new (w0 : World) (N : Nat) : Gtm w0 N 0 (List.replicate N none) (fun _ _ => false) (w0.alloc (.cells (cM (List.replicate N none)).toArray 52)) :=
 ⟨Blk.new _ _ _, by simp, (Below.refl _ w0).alloc (Nat.le_refl _) _, fun k b h => by
   rw [List.getElem?_replicate] at h; split at h <;> simp at h, fun _ _ => rfl, fun j k b h => by
   rw [List.getElem?_replicate] at h; split at h <;> simp at h⟩
theorem Gtm.more (h : Gtm w0 N M ms F w) {M' : Nat} (hM : M ≤ M') : Gtm w0 N M' ms F w :=
 ⟨h.blk, h.len, h.bel, fun k b hb => by obtain ⟨h1, n, h2, h3⟩ := h.mt k b hb; exact ⟨h1, n, by omega, h3⟩, h.nl, h.inj⟩
theorem Gtm.cell (h : Gtm w0 N M ms F w) {k : Nat} {o : Option Nat} (hk : ms[k]? = some o) : w.cell? ⟨w0.heap.size, k, none⟩ = some (.map o) ∧ w.frozen? ⟨w0.heap.size, k, none⟩ = false :=
 ⟨h.blk.cell k (by simp [cM, hk]), h.blk.frozen k⟩
theorem Gtm.make (h : Gtm w0 N M ms F w) {k : Nat} (hk : ms[k]? = some none) : Gtm w0 N M (ms.set k (some w.heap.size)) F ((w.alloc (.map #[] 0)).setCell ⟨w0.heap.size, k, none⟩ (.map (some w.heap.size))) := by
 have hlt := h.blk.lt
 have hkl : k < ms.length := (List.getElem?_eq_some_iff.1 hk).1
 have hg : ∀ (q b : Nat), (ms.set k (some w.heap.size))[q]? = some (some b) → (q = k ∧ b = w.heap.size) ∨ (q ≠ k ∧ ms[q]? = some (some b)) := fun q b hq => by
  rw [List.getElem?_set] at hq
  by_cases hkq : k = q
  ·subst hkq
   rw [if_pos rfl, if_pos hkl] at hq
   injection hq with hq; injection hq with hq
   exact .inl ⟨rfl, hq.symm⟩
  ·rw [if_neg hkq] at hq
   exact .inr ⟨fun e => hkq e.symm, hq⟩
 have old : ∀ (q b : Nat), ms[q]? = some (some b) → b < w.heap.size := fun q b hq => by obtain ⟨_, n, _, h3⟩ := h.mt q b hq; exact h3.lt
 have on1 : Only (fun i => i = w0.heap.size) (w.alloc (.map #[] 0)) ((w.alloc (.map #[] 0)).setCell ⟨w0.heap.size, k, none⟩ (.map (some w.heap.size))) := (Only.refl _ _).setCell _ _ (fun _ => rfl)
 refine ⟨(h.blk.alloc _).setM k _, by rw [List.length_set]; exact h.len, (h.bel.alloc h.bel.size _).setCell (Nat.le_refl _) _, fun q b hq => ?_, fun q hq => ?_, fun p q b hp hq => ?_⟩
 ·rcases hg q b hq with ⟨rfl, rfl⟩ | ⟨_, h2⟩
  ·refine ⟨hlt, 0, by omega, ?_⟩
   rw [h.nl q hk]
   exact (MT.new w).only on1 (by omega)
  ·obtain ⟨h3, n, h4, h5⟩ := h.mt q b h2
   exact ⟨h3, n, h4, (h5.below ((Below.refl _ w).alloc (Nat.le_refl _) _)).only on1 (by omega)⟩
 ·rw [List.getElem?_set] at hq
  by_cases hkq : k = q
  ·subst hkq
   rw [if_pos rfl, if_pos hkl] at hq
   injection hq with hq; cases hq
  ·rw [if_neg hkq] at hq
   exact h.nl q hq
 ·rcases hg p b hp with ⟨rfl, rfl⟩ | ⟨_, h2⟩ <;> rcases hg q _ hq with ⟨rfl, h4⟩ | ⟨_, h5⟩
  ·rfl
  ·have := old q _ h5; omega
  ·subst h4; have := old p _ h2; omega
  ·exact h.inj p q b h2 h5
theorem Gtm.put (h : Gtm w0 N M ms F w) {k b n : Nat} {i : Int} {w' : World} (hk : ms[k]? = some (some b)) (hM : n ≤ M) (hmt : MT w' b (n + 1) (fput (F k) i true)) (hg : w.grownBy w' (some b)) : Gtm w0 N (M + 1) ms (fset F k i) w' := by
 obtain ⟨h1, _⟩ := h.mt k b hk
 refine ⟨h.blk.grown hg (fun e => by injection e with e; omega), h.len, h.bel.grown hg h.bel.size (fun q e => by injection e with e; omega), fun q c hq => ?_, fun q hq => ?_, h.inj⟩
 ·obtain ⟨h3, n2, h4, h5⟩ := h.mt q c hq
  by_cases hqk : q = k
  ·subst hqk
   rw [hk] at hq
   injection hq with hq; injection hq with hq
   subst hq
   exact ⟨h3, n + 1, by omega, by rw [fset_same]; exact hmt⟩
  ·rw [fset_other F i hqk]
   refine ⟨h3, n2, by omega, h5.only (Only.of_grown hg) (fun e => ?_)⟩
   injection e with e
   subst e
   exact hqk (h.inj q k _ hq hk)
 ·have hqk : q ≠ k := fun e => by subst e; rw [hk] at hq; cases hq
  rw [fset_other F i hqk]
  exact h.nl q hq
theorem Gtm.below (h : Gtm w0 N M ms F w) {w' : World} (hb : Below w.heap.size w w') : Gtm w0 N M ms F w' :=
 ⟨h.blk.below hb, h.len, h.bel.trans (hb.mono h.bel.size), fun k b hq => by obtain ⟨h1, n, h2, h3⟩ := h.mt k b hq; exact ⟨h1, n, h2, h3.below hb⟩, h.nl, h.inj⟩
end
structure Rw3 where
 A : Option Addr
 c : Nat
 l : List Int
def Rw3.v (r : Rw3) : Value := .slice r.A r.l.length r.c
def cR (rs : List Rw3) : List Value := rs.map Rw3.v
def RwOk (w : World) (rs : List Rw3) : Prop := ∀ r ∈ rs, Rd w 1 r.A r.l.length r.c (cZ r.l)
theorem LL.of {w : World} {ad : Addr} {c : Nat} {rs : List Rw3} (hc : rs.length ≤ c) (hm : c ≤ maxLen) (hcell : ∀ (i : Nat) (r : Rw3), rs[i]? = some r → w.cell? (ad.add i) = some r.v) (hr : RwOk w rs) : LL w (some ad) c (rs.map Rw3.l) :=
 ⟨by rw [List.length_map]; exact hc, hm, fun i x hx => by
   rw [List.getElem?_map] at hx
   cases hi : rs[i]? with
   | none => rw [hi] at hx; cases hx
   | some r =>
     rw [hi] at hx
     injection hx with hx
     subst hx
     exact ⟨ad, r.A, r.c, rfl, hcell i r hi, hr r (List.mem_of_getElem? hi)⟩⟩
theorem LL.of_rd {w : World} {A : Option Addr} {c : Nat} {rs : List Rw3} (h : Rd w 1 A rs.length c (cR rs)) (hr : RwOk w rs) : LL w A c (rs.map Rw3.l) :=
 ⟨by rw [List.length_map]; exact h.cap, h.max, fun i x hx => by
   rw [List.getElem?_map] at hx
   cases hi : rs[i]? with
   | none => rw [hi] at hx; cases hx
   | some r =>
     rw [hi] at hx
     injection hx with hx
     subst hx
     obtain ⟨ad, e, hc⟩ := h.at_ i r.v (by simp [cR, hi])
     exact ⟨ad, r.A, r.c, e, hc, hr r (List.mem_of_getElem? hi)⟩⟩
open Go.RowKit
set_option linter.unusedVariables false
set_option linter.unusedSimpArgs false
theorem rising_nil (w : World) : Calls Tryz.prog 35 #[.map none] w fun e w' => ∃ A c l, e = .returned (.slice A l.length c) ∧ Ow w' w.heap.size 3 1 A l.length c (cZ l) ∧ Below w.heap.size w w' ∧ Rises (fun _ => false) l := by
 have HSO := Lib.hid (isort_any (w.alloc (.mapIter none 0 #[] 0)) (w.heap.size + 1) none 0 0 [] (Ow.nil _ _ _ _) (by omega))
 have hr := fun W : World => run_range_nilMap (P := Tryz.prog) W 52 3 4 Tryz.underlying52
 have hn := fun (W : World) (ty : TypeId) => run_next_nilMap (P := Tryz.prog) W ty 0 0 #[]
 have HB := Lib.hid ((Below.refl w.heap.size w).alloc (Nat.le_refl _) (.mapIter none 0 #[] 0))
 go_enter Tryz.func35, Tryz.ntmps35
 go_wp2_with fail
 clear hr
 go_loopg [2] 0 (fun g v wr => v = .slice none 0 0 ∧ wr = w.alloc (.mapIter none 0 #[] 0))
 case atStart => exact ⟨rfl, rfl⟩
 case round =>
  obtain ⟨rfl, rfl⟩ := hrel
  go_wp2_with fail
  refine HSO.out.mono ?_
  rintro e w5 ⟨rfl, ho5, on5⟩
  have HB5 := Lib.hid (HB.out.trans (on5.below HB.out.size (fun i hi => by cases hi)))
  clear ho5 on5
  go_wp2_with fail
  go_ret
  exact ⟨none, 0, [], rfl, Ow.nil _ _ _ _, HB5.out, List.Pairwise.nil, fun k => ⟨fun h => (by cases h), fun h => (by cases h)⟩⟩
theorem info_intsD : (Tryz.prog.info? 44).map (fun i => (i.zero, i.size, i.bytes)) = some (some (Value.slice none 0 0), 1, 24) := by kernel_rfl
theorem make_LL (n : Nat) (h : n ≤ 1000000) (w : World) : (Instr.makeSlice 38 (.int .i64 (n : Int)) (.int .i64 (n : Int))).run Tryz.prog w = .ok (.slice (some ⟨w.heap.size, 0, none⟩) n n) (w.alloc (.cells (List.replicate n (Value.slice none 0 0)).toArray 44)) := by
 have := run_make_row' (P := Tryz.prog) 38 44 (Value.slice none 0 0) 24 Tryz.underlying38 info_intsD rfl .i64 .i64 n (by omega) (by omega) w
 rw [show madeCells #[Value.slice none 0 0] n = (List.replicate n (Value.slice none 0 0)).toArray from by
  apply Array.ext
  ·simp [madeCells]
  ·intro i h1 h2
   simp [madeCells, Nat.mod_one]] at this
 exact this
structure OR (w0 : World) (N : Nat) (F : Nat → Int → Bool) (rs : List Rw3) (w : World) : Prop where
 row : Blk w w0.heap.size (cR rs ++ List.replicate (N - rs.length) (Value.slice none 0 0)).toArray 44
 len : rs.length ≤ N
 bel : Below w0.heap.size w0 w
 ok : RwOk w rs
 off : ∀ r ∈ rs, blk r.A ≠ some w0.heap.size
 ris : ∀ (k : Nat) (r : Rw3), rs[k]? = some r → Rises (F k) r.l
theorem OR.at_ {w0 : World} {N : Nat} {F : Nat → Int → Bool} {rs : List Rw3} {w w1 : World} (h : OR w0 N F rs w) (hl : rs.length < N) (hb : Below w.heap.size w w1) : w1.cell? ⟨w0.heap.size, rs.length, none⟩ = some (Value.slice none 0 0) ∧ w1.frozen? ⟨w0.heap.size, rs.length, none⟩ = false := by
 refine ⟨(h.row.below hb).cell _ ?_, (h.row.below hb).frozen _⟩
 have e1 : (cR rs).length = rs.length := by simp [cR]
 rw [List.getElem?_toArray, List.getElem?_append_right (by rw [e1]; exact Nat.le_refl _), e1, Nat.sub_self, List.getElem?_replicate, if_pos (by omega)]
theorem OR.put {w0 : World} {N : Nat} {F : Nat → Int → Bool} {rs : List Rw3} {w w1 : World} (h : OR w0 N F rs w) (hl : rs.length < N) (hb : Below w.heap.size w w1) {A : Option Addr} {c : Nat} {l : List Int} (ho : Ow w1 w.heap.size 3 1 A l.length c (cZ l)) (hr : Rises (F rs.length) l) :
 OR w0 N F (rs ++ [⟨A, c, l⟩]) (w1.setCell ⟨w0.heap.size, rs.length, none⟩ (.slice A l.length c)) := by
 have hlt := h.row.lt
 have on : Only (fun k => k = w0.heap.size) w1 (w1.setCell ⟨w0.heap.size, rs.length, none⟩ (.slice A l.length c)) := (Only.refl _ _).setCell _ _ (fun _ => rfl)
 have hA : blk A ≠ some w0.heap.size := fun e => by have := (ho.lt e).1; omega
 refine ⟨((h.row.below hb).set rs.length (.slice A l.length c)).eq ?_, by simp; omega, (h.bel.trans (hb.mono h.bel.size)).setCell (Nat.le_refl _) _, fun r hr2 => ?_, fun r hr2 => ?_, fun k r hk => ?_⟩
 ·apply Array.ext'
  simp only [Array.toList_setIfInBounds]
  rw [List.set_append_right _ _ (by simp [cR])]
  have e1 : (cR rs).length = rs.length := by simp [cR]
  rw [e1, Nat.sub_self, show N - rs.length = (N - (rs ++ [(⟨A, c, l⟩ : Rw3)]).length) + 1 by simp; omega, List.replicate_succ, List.set_cons_zero]
  simp [cR, Rw3.v]
 ·rcases List.mem_append.1 hr2 with hr2 | hr2
  ·exact ((h.ok r hr2).below hb).only on (fun ad e _ e2 => h.off r hr2 (by rw [e]; simp [blk, e2]))
  ·rw [List.mem_singleton] at hr2; subst hr2
   exact ho.rd.only on (fun ad e _ e2 => hA (by rw [show A = some ad from e]; simp [blk, e2]))
 ·rcases List.mem_append.1 hr2 with hr2 | hr2
  ·exact h.off r hr2
  ·rw [List.mem_singleton] at hr2; subst hr2
   exact hA
 ·rcases Nat.lt_or_ge k rs.length with h2 | h2
  ·rw [List.getElem?_append_left h2] at hk; exact h.ris k r hk
  ·rw [List.getElem?_append_right h2] at hk
   have h3 : k - rs.length < 1 := by simpa using (List.getElem?_eq_some_iff.1 hk).1
   have h4 : k = rs.length := by omega
   subst h4
   simp at hk; subst hk
   exact hr
set_option maxRecDepth 100000 in
set_option maxHeartbeats 8000000 in
theorem turned_any (w : World) (A : Option Addr) (c : Nat) (ls : List (List Int)) (h : LL w A c ls) (hn : ls.length ≤ 60) (h100 : ∀ l ∈ ls, l.length ≤ 100) :
 Calls Tryz.prog 16 #[.slice A ls.length c] w fun e w' => ∃ A' c' ms, e = .returned (.slice A' ms.length c') ∧ LL w' A' c' ms ∧ Below w.heap.size w w' ∧ TurnP ls ms := by
 have hc := h.cap
 have hcm := h.max
 unfold maxLen at hcm
 have HL := Lib.hid h
 have H100 := Lib.hid h100
 clear h h100
 have hmk : ∀ w', (Instr.makeSlice 112 (.int .i64 (ls.length : Int)) (.int .i64 (ls.length : Int))).run Tryz.prog w' = .ok (.slice (some ⟨w'.heap.size, 0, none⟩) ls.length ls.length) (w'.alloc (.cells (cM (List.replicate ls.length none)).toArray 52)) := fun w' => make_cM _ (by omega) w'
 have hmk2 : ∀ w', (Instr.makeSlice 38 (.int .i64 (ls.length : Int)) (.int .i64 (ls.length : Int))).run Tryz.prog w' = .ok (.slice (some ⟨w'.heap.size, 0, none⟩) ls.length ls.length) (w'.alloc (.cells (List.replicate ls.length (Value.slice none 0 0)).toArray 44)) := fun w' => make_LL _ (by omega) w'
 have HMK2 := Lib.hid hmk2
 have HG0 := Lib.hid (Gtm.new w ls.length)
 have hmm := @run_makeMap Tryz.prog
 have HMM := Lib.hid hmm
 have HQM : Hid (∀ (w : World) (r : Option Nat), (binOp .eql 52 (.map r) (.map none)).run Tryz.prog w = .ok (.bool r.isNone) w) := Lib.hid (fun w r => run_eql_map_nil w _ _ _ r Tryz.underlying52)
 clear hmk2 hmm
 go_enter Tryz.func16, Tryz.ntmps16
 go_wp2_with fail
 clear hmk
 go_loopg [16] ls.length (fun g i wr => ∃ (j : Nat) (ms : List (Option Nat)) (F : Nat → Int → Bool), j + g = ls.length ∧ i = .int .i64 (j : Nat) ∧ Hid (Gtm w ls.length (100 * j) ms F wr) ∧ Hid (Til ls j 0 F))
 case atStart => exact ⟨0, _, _, by omega, rfl, HG0, Lib.hid Til.zero⟩
 case round =>
  obtain ⟨j, ms, F, hj, rfl, HG, HT⟩ := hrel
  rename World => wo
  cases gk with
  | zero =>
    have hjj : ¬ ((j : Int) < (ls.length : Int)) := by omega
    have HFT : Hid (∀ k, k < ls.length → F k = turnF ls k) := Lib.hid (fun k hk => HT.out.all (by omega) hk)
    have hmk2 := HMK2.out
    have HO0 : Hid (OR wo ls.length (turnF ls) [] (wo.alloc (.cells (List.replicate ls.length (Value.slice none 0 0)).toArray 44))) := Lib.hid ⟨by simpa [cR] using Blk.new wo _ _, by simp, (Below.refl _ wo).alloc (Nat.le_refl _) _, fun r hr => (by cases hr), fun r hr => (by cases hr), fun k r hk => (by simp at hk)⟩
    clear HT
    go_wp2_with fail
    clear hmk2
    go_loopg [56] ls.length (fun g i wr => ∃ (rs : List Rw3), rs.length + g = ls.length ∧ i = .int .i64 (rs.length : Nat) ∧ Hid (OR wo ls.length (turnF ls) rs wr))
    case atStart => exact ⟨[], by simp, rfl, HO0⟩
    case round =>
     obtain ⟨rs, hk, rfl, HO⟩ := hrel
     rename World => wp
     have HBP : Hid (Below w.heap.size w wp) := Lib.hid (HG.out.bel.trans (HO.out.bel.mono HG.out.bel.size))
     cases gk with
     | zero =>
       have hkk : ¬ ((rs.length : Int) < (ls.length : Int)) := by omega
       have HLL : Hid (LL wp (some ⟨wo.heap.size, 0, none⟩) ls.length (rs.map Rw3.l)) := Lib.hid (LL.of (by omega) (by unfold maxLen; omega) (fun i r hr => by
        have hi : i < rs.length := (List.getElem?_eq_some_iff.1 hr).1
        have := HO.out.row.cell i (v := r.v) (by
         rw [List.getElem?_toArray, List.getElem?_append_left (by simpa [cR] using hi)]
         simp [cR, hr])
        rw [add_plain, Nat.zero_add]; exact this) HO.out.ok)
       have HTP : Hid (TurnP ls (rs.map Rw3.l)) := Lib.hid ⟨by rw [List.length_map]; omega, fun k m hm => by
        rw [List.getElem?_map] at hm
        cases hr : rs[k]? with
        | none => rw [hr] at hm; cases hm
        | some r => rw [hr] at hm; injection hm with hm; subst hm; exact HO.out.ris k r hr⟩
       go_wp2_with fail
       go_ret
       exact ⟨some ⟨wo.heap.size, 0, none⟩, ls.length, rs.map Rw3.l, by rw [List.length_map, show rs.length = ls.length by omega]; rfl, HLL.out, HBP.out, HTP.out⟩
     | succ g =>
       have hkk : (rs.length : Int) < (ls.length : Int) := by omega
       have hki : (0 : Int) ≤ (rs.length : Int) ∧ (rs.length : Int) < (ls.length : Int) := by omega
       have HG2 := Lib.hid (HG.out.below (HO.out.bel))
       obtain ⟨o, ho⟩ := get_lt (l := ms) (i := rs.length) (by rw [HG.out.len]; omega)
       obtain ⟨hcl, hfz⟩ := HG2.out.cell ho
       have HOC := Lib.hid ho
       clear ho
       cases o with
       | none =>
         have HRI := Lib.hid (rising_nil wp)
         have HFK : Hid ((fun _ => false) = turnF ls rs.length) := Lib.hid (by rw [← HFT.out rs.length (by omega), HG.out.nl _ HOC.out])
         go_wp2_with fail
         refine HRI.out.mono ?_
         rintro e w5 ⟨A5, c5, l, rfl, how, hb, hri⟩
         have HN := Lib.hid (HO.out.put (by omega) hb how (by rw [← HFK.out]; exact hri))
         obtain ⟨hcl5, hfz5⟩ := HO.out.at_ (by omega) hb
         clear how hb hri
         go_wp2_with fail
         go_roundg g
         case measure => omega
         case rel => exact ⟨rs ++ [⟨A5, c5, l⟩], by simp; omega, by simp only [List.length_append, List.length_singleton]; go_num, HN⟩
       | some b =>
         obtain ⟨-, n, hnn, hmt⟩ := HG2.out.mt _ _ HOC.out
         have HRI := Lib.hid (rising_any wp b n _ hmt (by omega))
         have HFK := Lib.hid (HFT.out rs.length (by omega))
         clear hmt
         go_wp2_with fail
         refine HRI.out.mono ?_
         rintro e w5 ⟨A5, c5, l, rfl, how, hb, hri⟩
         have HN := Lib.hid (HO.out.put (by omega) hb how (by rw [← HFK.out]; exact hri))
         obtain ⟨hcl5, hfz5⟩ := HO.out.at_ (by omega) hb
         clear how hb hri
         go_wp2_with fail
         go_roundg g
         case measure => omega
         case rel => exact ⟨rs ++ [⟨A5, c5, l⟩], by simp; omega, by simp only [List.length_append, List.length_singleton]; go_num, HN⟩
  | succ g =>
    have hjj : (j : Int) < (ls.length : Int) := by omega
    have hji : (0 : Int) ≤ (j : Int) ∧ (j : Int) < (ls.length : Int) := by omega
    obtain ⟨x, hx⟩ := get_lt (l := ls) (i := j) (by omega)
    obtain ⟨ad, Ai, ci, rfl, hcl0, hr⟩ := HL.out.row j x hx
    have hcl := (HG.out.bel.cell (World.block_lt_of_cell? w _ hcl0)).trans hcl0
    have hx100 := H100.out x (List.mem_of_getElem? hx)
    have hxc := hr.cap
    have HR := Lib.hid hr
    have HXR := Lib.hid (rowAt_nat hx)
    clear hx hr hcl0
    go_wp2_with fail
    clear hcl
    go_loopg [23] x.length (fun g2 i wr => ∃ (a : Nat) (ms : List (Option Nat)) (F : Nat → Int → Bool), a + g2 = x.length ∧ i = .int .i64 (a : Nat) ∧ Hid (Gtm w ls.length (100 * j + a) ms F wr) ∧ Hid (Til ls j a F))
    case atStart => exact ⟨0, ms, F, by omega, rfl, HG, HT⟩
    case round =>
     clear HG HT
     obtain ⟨a, ms, F, ha, rfl, HG, HT⟩ := hrel
     rename World => wq
     cases gk with
     | zero =>
       have haa : ¬ ((a : Int) < (x.length : Int)) := by omega
       go_wp2_with fail
       go_roundg g
       case measure => omega
       case rel => exact ⟨j + 1, ms, F, by omega, by go_num, Lib.hid (HG.out.more (by omega)), Lib.hid (HT.out.row (by rw [HXR.out]; omega))⟩
     | succ g2 =>
       have haa : (a : Int) < (x.length : Int) := by omega
       have hai : (0 : Int) ≤ (a : Int) ∧ (a : Int) < (x.length : Int) := by omega
       obtain ⟨z, hz⟩ := get_lt (l := x) (i := a) (by omega)
       obtain ⟨zd, rfl, hzc⟩ := (HR.out.below HG.out.bel).zcell hz
       have HZ : Hid ((rowAt ls (j : Int))[a]? = some z) := Lib.hid (by rw [HXR.out]; exact hz)
       clear hz
       by_cases hz0 : z < 0
       ·have ez0 : decide (z < 0) = true := decide_eq_true hz0
        have HT2 := Lib.hid (HT.out.skip HZ.out (fun hv => by have := hv.1; omega))
        clear hz0 HT
        go_wp2_with fail
        go_roundg g2
        case measure => omega
        case rel => exact ⟨a + 1, ms, F, by omega, by go_num, Lib.hid (HG.out.more (by omega)), HT2⟩
       have ez0 : decide (z < 0) = false := decide_eq_false hz0
       by_cases hz1 : (ls.length : Int) ≤ z
       ·have ez1 : decide ((ls.length : Int) ≤ z) = true := decide_eq_true hz1
        have HT2 := Lib.hid (HT.out.skip HZ.out (fun hv => by have := hv.2; omega))
        clear hz0 hz1 HT
        go_wp2_with fail
        go_roundg g2
        case measure => omega
        case rel => exact ⟨a + 1, ms, F, by omega, by go_num, Lib.hid (HG.out.more (by omega)), HT2⟩
       have ez1 : decide ((ls.length : Int) ≤ z) = false := decide_eq_false hz1
       obtain ⟨q, rfl⟩ : ∃ q : Nat, z = (q : Int) := ⟨z.toNat, by omega⟩
       have hqi : (0 : Int) ≤ (q : Int) ∧ (q : Int) < (ls.length : Int) := by omega
       have ez2 : decide (ls.length ≤ q) = false := decide_eq_false (by omega)
       have hqm := HQM.out
       have HT2 := Lib.hid (HT.out.put HZ.out)
       obtain ⟨o, ho⟩ := get_lt (l := ms) (i := q) (by rw [HG.out.len]; omega)
       obtain ⟨hcq, hfq⟩ := HG.out.cell ho
       have hqs : q < ms.length := by rw [HG.out.len]; omega
       have hlq := HG.out.blk.lt
       have HO := Lib.hid ho
       clear hz0 hz1 HT ho
       cases o with
       | none =>
         have HG2 := Lib.hid (HG.out.make HO.out)
         obtain ⟨W2, hW2⟩ : ∃ W2, W2 = (wq.alloc (.map #[] 0)).setCell ⟨w.heap.size, q, none⟩ (.map (some wq.heap.size)) := ⟨_, rfl⟩
         rw [← hW2] at HG2
         rw [World.setCell_alloc_past _ _ _ _ hlq] at hW2
         have HW2 := Lib.hid hW2
         have HO2 : Hid ((ms.set q (some wq.heap.size))[q]? = some (some wq.heap.size)) := Lib.hid (by rw [List.getElem?_set]; simp [hqs])
         obtain ⟨hc2, hf2⟩ := HG2.out.cell HO2.out
         obtain ⟨-, n, hn, hmt⟩ := HG2.out.mt _ _ HO2.out
         have HMT := Lib.hid hmt
         have hnm : n < maxLen := by unfold maxLen; omega
         have hmm := HMM.out
         clear hW2 hmt hqs
         go_upto_region 11 with fail
         clear hmm hcq hfq hzc
         rw [← HW2.out]
         go_wp2_with (refine wp_put_MT rfl _ _ _ rfl wq.heap.size n (F q) rfl HMT.out hnm (j : Int) (by omega) (by omega) rfl rfl ?_; intro w6 hm6 hg6; have HM6 := Lib.hid hm6; have HG6 := Lib.hid hg6; clear hm6 hg6)
         go_roundg g2
         case measure => omega
         case rel => exact ⟨a + 1, _, _, by omega, by go_num, Lib.hid ((HG2.out.put HO2.out hn HM6.out HG6.out).more (by omega)), HT2⟩
       | some b =>
         obtain ⟨-, n, hn, hmt⟩ := HG.out.mt _ _ HO.out
         have HMT := Lib.hid hmt
         have hnm : n < maxLen := by unfold maxLen; omega
         clear hmt
         go_wp2_with (refine wp_put_MT rfl _ _ _ rfl b n (F q) rfl HMT.out hnm (j : Int) (by omega) (by omega) rfl rfl ?_; intro w6 hm6 hg6; have HM6 := Lib.hid hm6; have HG6 := Lib.hid hg6; clear hm6 hg6)
         go_roundg g2
         case measure => omega
         case rel => exact ⟨a + 1, ms, _, by omega, by go_num, Lib.hid ((HG.out.put HO.out hn HM6.out HG6.out).more (by omega)), HT2⟩
open Go.RowKit
set_option linter.unusedVariables false
set_option linter.unusedSimpArgs false
def TB (ls : List (List Int)) (k i : Nat) (bs : List Bool) : Prop := bs.length = ls.length ∧ ∀ p : Nat, p < ls.length → (bF bs (p : Int) = true ↔ p < i ∧ (k : Int) ∈ rowAt ls (p : Int))
def TC (ls : List (List Int)) (k i a : Nat) (bs : List Bool) : Prop := bs.length = ls.length ∧ ∀ p : Nat, p < ls.length → (bF bs (p : Int) = true ↔ (p < i ∧ (k : Int) ∈ rowAt ls (p : Int)) ∨ (p = i ∧ (k : Int) ∈ (rowAt ls (i : Int)).take a))
theorem TB.zero {ls : List (List Int)} {k : Nat} : TB ls k 0 (List.replicate ls.length false) := ⟨by simp, fun p hp => by
 rw [bF_nat, List.getD_eq_getElem?_getD, List.getElem?_replicate]
 split <;> simp⟩
theorem TB.row {ls : List (List Int)} {k i : Nat} {bs : List Bool} (h : TB ls k i bs) : TC ls k i 0 bs := ⟨h.1, fun p hp => by rw [h.2 p hp]; simp⟩
theorem TC.row {ls : List (List Int)} {k i a : Nat} {bs : List Bool} (h : TC ls k i a bs) (ha : (rowAt ls (i : Int)).length ≤ a) : TB ls k (i + 1) bs := ⟨h.1, fun p hp => by
 rw [h.2 p hp, List.take_of_length_le ha]
 constructor
 ·rintro (⟨h1, h2⟩ | ⟨rfl, h2⟩)
  ·exact ⟨by omega, h2⟩
  ·exact ⟨by omega, h2⟩
 ·rintro ⟨h1, h2⟩
  rcases (show p < i ∨ p = i by omega) with h3 | h3
  ·exact .inl ⟨h3, h2⟩
  ·subst h3; exact .inr ⟨rfl, h2⟩⟩
theorem TC.no {ls : List (List Int)} {k i a : Nat} {bs : List Bool} {z : Int} (h : TC ls k i a bs) (hz : (rowAt ls (i : Int))[a]? = some z) (hne : z ≠ (k : Int)) : TC ls k i (a + 1) bs := ⟨h.1, fun p hp => by
 rw [h.2 p hp, List.take_add_one, hz]
 simp only [Option.toList, List.mem_append, List.mem_singleton]
 refine or_congr Iff.rfl (and_congr_right fun _ => ⟨.inl, fun h2 => h2.resolve_right (fun e => hne e.symm)⟩)⟩
theorem TC.yes {ls : List (List Int)} {k i a : Nat} {bs : List Bool} (h : TC ls k i a bs) (hi : i < ls.length) (hz : (rowAt ls (i : Int))[a]? = some (k : Int)) : TC ls k i (a + 1) (bs.set i true) := ⟨by rw [List.length_set]; exact h.1, fun p hp => by
 rw [bF_set (by rw [h.1]; exact hi), h.2 p hp, List.take_add_one, hz]
 simp only [Option.toList, List.mem_append, List.mem_singleton]
 constructor
 ·rintro ((h1 | ⟨rfl, h1⟩) | h1)
  ·exact .inl h1
  ·exact .inr ⟨rfl, .inl h1⟩
  ·exact .inr ⟨by omega, .inr trivial⟩
 ·rintro (h1 | ⟨rfl, h1⟩)
  ·exact .inl (.inl h1)
  ·exact .inr rfl⟩
theorem TB.rises {ls : List (List Int)} {k : Nat} {bs : List Bool} {l : List Int} (h : TB ls k ls.length bs) (hr : Rises (bF bs) l) : Rises (turnF ls k) l := by
 refine ⟨hr.1, fun i => ?_⟩
 rw [hr.2 i, turnF_iff]
 constructor
 ·intro h1
  have h0 : 0 ≤ i := by unfold bF at h1; simp at h1; exact h1.1
  obtain ⟨p, rfl⟩ : ∃ p : Nat, i = (p : Int) := ⟨i.toNat, by omega⟩
  have hp : p < ls.length := by
   rcases Nat.lt_or_ge p ls.length with h2 | h2
   ·exact h2
   ·rw [bF_nat, List.getD_eq_getElem?_getD, List.getElem?_eq_none (by rw [h.1]; exact h2)] at h1; cases h1
  exact ⟨h0, by omega, ((h.2 p hp).1 h1).2⟩
 ·rintro ⟨h1, h2, h3⟩
  obtain ⟨p, rfl⟩ : ∃ p : Nat, i = (p : Int) := ⟨i.toNat, by omega⟩
  exact (h.2 p (by omega)).2 ⟨by omega, h3⟩
structure UB (w0 : World) (ls : List (List Int)) (bs : List Bool) (w : World) : Prop where
 blk : Blk w w0.heap.size (cB bs).toArray 4
 bel : Below w0.heap.size w0 w
 only : Only (fun k => k = w0.heap.size) (w0.alloc (.cells (cB (List.replicate ls.length false)).toArray 4)) w
theorem UB.put {w0 w : World} {ls : List (List Int)} {bs : List Bool} (h : UB w0 ls bs w) (q : Nat) : UB w0 ls (bs.set q true) (w.setCell ⟨w0.heap.size, q, none⟩ (.bool true)) :=
 ⟨h.blk.setB q true, h.bel.setCell (Nat.le_refl _) _, h.only.setCell _ _ (fun _ => rfl)⟩
structure UR (w0 : World) (ls : List (List Int)) (A : Option Addr) (c : Nat) (rs : List Rw3) (w : World) : Prop where
 own : Ow w w0.heap.size 44 1 A rs.length c (cR rs)
 bel : Below w0.heap.size w0 w
 ok : RwOk w rs
 off : ∀ r ∈ rs, ∀ g, blk r.A = some g → blk A ≠ some g ∧ g < w.heap.size
 ris : ∀ (k : Nat) (r : Rw3), rs[k]? = some r → Rises (turnF ls k) r.l
theorem UR.below {w0 w w' : World} {ls : List (List Int)} {A : Option Addr} {c : Nat} {rs : List Rw3} (h : UR w0 ls A c rs w) (hb : Below w.heap.size w w') : UR w0 ls A c rs w' :=
 ⟨h.own.below hb, h.bel.trans (hb.mono h.bel.size), fun r hr => (h.ok r hr).below hb, fun r hr g hg => ⟨(h.off r hr g hg).1, Nat.lt_of_lt_of_le (h.off r hr g hg).2 hb.size⟩, h.ris⟩
theorem Rd.lt0 {w : World} {A : Option Addr} {c : Nat} {l : List Int} (h : Rd w 1 A l.length c (cZ l)) {ad : Addr} (hA : A = some ad) (hl : 0 < l.length) : ad.block < w.heap.size := by
 obtain ⟨ad', e, hc⟩ := h.zcell (i := 0) (z := l[0]) (by simp [hl])
 rw [hA] at e; injection e with e; subst e
 exact World.block_lt_of_cell? w _ hc
set_option maxRecDepth 100000 in
set_option maxHeartbeats 8000000 in
theorem refturned_any (w : World) (A : Option Addr) (c : Nat) (ls : List (List Int)) (h : LL w A c ls) (hn : ls.length ≤ 60) (h100 : ∀ l ∈ ls, l.length ≤ 100) :
 Calls Tryz.prog 17 #[.slice A ls.length c] w fun e w' => ∃ A' c' ms, e = .returned (.slice A' ms.length c') ∧ LL w' A' c' ms ∧ Below w.heap.size w w' ∧ TurnP ls ms := by
 have hc := h.cap
 have hcm := h.max
 unfold maxLen at hcm
 have HL := Lib.hid h
 have H100 := Lib.hid h100
 clear h h100
 have hmk : ∀ w', (Instr.makeSlice 41 (.int .i64 (ls.length : Int)) (.int .i64 (ls.length : Int))).run Tryz.prog w' = .ok (.slice (some ⟨w'.heap.size, 0, none⟩) ls.length ls.length) (w'.alloc (.cells (cB (List.replicate ls.length false)).toArray 4)) := fun w' => make_cB _ (by omega) w'
 have HMK := Lib.hid hmk
 clear hmk
 go_enter Tryz.func17, Tryz.ntmps17
 go_wp2_with fail
 go_loopg [3, 4] ls.length (fun g v i wr => ∃ (rs : List Rw3) (A4 : Option Addr) (c4 : Nat), rs.length + g = ls.length ∧ v = .slice A4 rs.length c4 ∧ i = .int .i64 (rs.length : Nat) ∧ Hid (UR w ls A4 c4 rs wr))
 case atStart => exact ⟨[], none, 0, by simp, rfl, rfl, Lib.hid ⟨Ow.nil _ _ _ _, Below.refl _ _, fun r hr => (by cases hr), fun r hr => (by cases hr), fun k r hk => (by simp at hk)⟩⟩
 case round =>
  obtain ⟨rs, A4, c4, hj, rfl, rfl, HR⟩ := hrel
  rename World => wo
  cases gk with
  | zero =>
    have hjj : ¬ ((rs.length : Int) < (ls.length : Int)) := by omega
    have HLL : Hid (LL wo A4 c4 (rs.map Rw3.l)) := Lib.hid (LL.of_rd HR.out.own.rd HR.out.ok)
    have HTP : Hid (TurnP ls (rs.map Rw3.l)) := Lib.hid ⟨by rw [List.length_map]; omega, fun k m hm => by
     rw [List.getElem?_map] at hm
     cases hr : rs[k]? with
     | none => rw [hr] at hm; cases hm
     | some r => rw [hr] at hm; injection hm with hm; subst hm; exact HR.out.ris k r hr⟩
    go_wp2_with fail
    go_ret
    exact ⟨A4, c4, rs.map Rw3.l, by rw [List.length_map]; rfl, HLL.out, HR.out.bel, HTP.out⟩
  | succ g =>
    have hjj : (rs.length : Int) < (ls.length : Int) := by omega
    have hmk := HMK.out
    have HU0 : Hid (UB wo ls (List.replicate ls.length false) (wo.alloc (.cells (cB (List.replicate ls.length false)).toArray 4))) := Lib.hid ⟨Blk.new _ _ _, (Below.refl _ wo).alloc (Nat.le_refl _) _, Only.refl _ _⟩
    have HT0 : Hid (TB ls rs.length 0 (List.replicate ls.length false)) := Lib.hid TB.zero
    go_wp2_with fail
    clear hmk
    go_loopg [6] ls.length (fun g2 i wr => ∃ (p : Nat) (bs : List Bool), p + g2 = ls.length ∧ i = .int .i64 (p : Nat) ∧ Hid (UB wo ls bs wr) ∧ Hid (TB ls rs.length p bs))
    case atStart => exact ⟨0, _, by omega, rfl, HU0, HT0⟩
    case round =>
     clear HU0 HT0
     obtain ⟨p, bs, hp, rfl, HU, HT⟩ := hrel
     rename World => wp
     cases gk with
     | zero =>
       have hpp : ¬ ((p : Int) < (ls.length : Int)) := by omega
       have hbl : bs.length = ls.length := HT.out.1
       have HRI := Lib.hid (refrising_any wp ⟨wo.heap.size, 0, none⟩ bs.length bs (Rd.ofbools HU.out.blk (by omega)) (by omega))
       rw [hbl] at HRI
       have HTE : Hid (TB ls rs.length ls.length bs) := Lib.hid (by have := HT.out; rwa [show p = ls.length by omega] at this)
       have HR2 := Lib.hid (HR.out.below HU.out.bel)
       clear hbl HT
       go_wp2_with (first
        | ((go_at_call 40); refine HRI.out.mono ?_; rintro e w5 ⟨A5, c5, l, rfl, ho, hb, hri⟩; have HR5 := Lib.hid (HR2.out.below hb); have HO5 := Lib.hid ho; have HRI5 := Lib.hid hri; have HLT := Lib.hid hb.size; have HRN := Lib.hid (Rd.lit w5 1 1 #[.slice A5 l.length c5] 44 (0, 0) rfl (by simp [maxLen])); clear ho hb hri)
        | (at_builtin; refine wpList_row info_intsD Tryz.underlying38 rfl (by omega) rfl (.tmp 44) (.tmp 47) rfl w.heap.size A4 c4 rs.length (cR rs) rfl (HR5.out.own.alloc _) (some ⟨w5.heap.size, 0, none⟩) 1 1 [.slice A5 l.length c5] rfl HRN.out (by simp [Value.oneCell']) (by omega) (by omega) (by simp; have := HR5.out.bel.size; omega) ?_; intro A' c' w8 ho hg hat; have HO8 := Lib.hid ho; have HG8 := Lib.hid hg; have HAT := Lib.hid hat; clear ho hg hat))
       go_roundg g
       case measure => omega
       case rel =>
        have hw1 : Below w5.heap.size w5 (w5.alloc (.cells #[.slice A5 l.length c5] 44)) := (Below.refl _ w5).alloc (Nat.le_refl _) _
        have hR6 := HR5.out.below hw1
        have hO6 := HO5.out.below hw1
        refine ⟨rs ++ [⟨A5, c5, l⟩], A', c', by simp; omega, by simp, by simp only [List.length_append, List.length_singleton]; go_num, Lib.hid ⟨by simpa [cR, Rw3.v] using HO8.out, hR6.bel.grown HG8.out hR6.bel.size (fun k hk => (HR5.out.own.lt hk).1), fun r hr => ?_, fun r hr => ?_, fun k r hk => ?_⟩⟩
        ·rcases List.mem_append.1 hr with hr | hr
         ·refine (hR6.ok r hr).only (Only.of_grown HG8.out) (fun ad e hl e2 => ?_)
          exact (HR5.out.off r hr ad.block (by rw [e]; rfl)).1 e2.symm
         ·rw [List.mem_singleton] at hr; subst hr
          refine hO6.rd.only (Only.of_grown HG8.out) (fun ad e hl e2 => ?_)
          have h1 := (HO5.out.lt (g := ad.block) (by rw [show A5 = some ad from e]; rfl)).1
          have h2 := (HR2.out.own.lt e2.symm).2
          omega
        ·intro gg hg
         have key : blk A4 ≠ some gg ∧ gg < w5.heap.size := by
          rcases List.mem_append.1 hr with hr | hr
          ·exact HR5.out.off r hr gg hg
          ·rw [List.mem_singleton] at hr; subst hr
           have h1 := HO5.out.lt hg
           exact ⟨fun h => by have := (HR2.out.own.lt h).2; omega, h1.2⟩
         have hs8 := HG8.out.size
         simp at hs8
         refine ⟨fun e => ?_, by omega⟩
         rcases HAT.out with h | h
         ·rw [h] at e; exact key.1 e
         ·rw [h] at e; simp [blk] at e; omega
        ·rcases Nat.lt_or_ge k rs.length with h2 | h2
         ·rw [List.getElem?_append_left h2] at hk; exact HR5.out.ris k r hk
         ·rw [List.getElem?_append_right h2] at hk
          have h3 : k - rs.length < 1 := by simpa using (List.getElem?_eq_some_iff.1 hk).1
          have h4 : k = rs.length := by omega
          subst h4
          simp at hk; subst hk
          exact HTE.out.rises HRI5.out
     | succ g2 =>
       have hpp : (p : Int) < (ls.length : Int) := by omega
       have hpi : (0 : Int) ≤ (p : Int) ∧ (p : Int) < (ls.length : Int) := by omega
       obtain ⟨y, hy⟩ := get_lt (l := ls) (i := p) (by omega)
       obtain ⟨ad, Ay, cy, rfl, hcy0, hry0⟩ := HL.out.row p y hy
       have hyc := hry0.cap
       have hym := hry0.max
       unfold maxLen at hym
       have HRY := Lib.hid hry0
       have HCY := Lib.hid hcy0
       have hyl : y.length ≤ 100 := H100.out y (List.mem_of_getElem? hy)
       have HYR := Lib.hid (rowAt_nat hy)
       have HTC := Lib.hid HT.out.row
       clear hy hcy0 hry0 HT
       go_wp2_with fail
       go_loopg [7] y.length (fun g3 i wr => ∃ (a : Nat) (bs : List Bool), a + g3 = y.length ∧ i = .int .i64 (a : Nat) ∧ Hid (UB wo ls bs wr) ∧ Hid (TC ls rs.length p a bs))
       case atStart => exact ⟨0, bs, by omega, rfl, HU, HTC⟩
       case round =>
        clear HU HTC
        obtain ⟨a, bs, ha, rfl, HU, HT⟩ := hrel
        rename World => wq
        have HBW := Lib.hid (HR.out.bel.trans (HU.out.bel.mono HR.out.bel.size))
        have hcy := (HBW.out.cell (World.block_lt_of_cell? w _ HCY.out)).trans HCY.out
        cases gk with
        | zero =>
          have haa : ¬ ((a : Int) < (y.length : Int)) := by omega
          go_wp2_with fail
          go_roundg g2
          case measure => omega
          case rel => exact ⟨p + 1, bs, by omega, by go_num, HU, Lib.hid (HT.out.row (by rw [HYR.out]; omega))⟩
        | succ g3 =>
          have haa : (a : Int) < (y.length : Int) := by omega
          have hai : (0 : Int) ≤ (a : Int) ∧ (a : Int) < (y.length : Int) := by omega
          obtain ⟨z, hz⟩ := get_lt (l := y) (i := a) (by omega)
          obtain ⟨zd, rfl, hzc⟩ := (HRY.out.below HBW.out).zcell hz
          have HZ : Hid ((rowAt ls (p : Int))[a]? = some z) := Lib.hid (by rw [HYR.out]; exact hz)
          clear hz
          by_cases hq : z = (rs.length : Int)
          ·subst hq
           have hqt : ((rs.length : Int) == (rs.length : Int)) = true := by simp
           have HT2 := Lib.hid (HT.out.yes (by omega) HZ.out)
           have HU2 := Lib.hid (HU.out.put p)
           have hfz := HU.out.blk.frozen p
           have hlt := HU.out.blk.lt
           have hpb : p < bs.length := by rw [HT.out.1]; omega
           have hcb := HU.out.blk.cell p (v := .bool bs[p]) (by simp [cB, hpb])
           go_wp2_with fail
           go_roundg g3
           case measure => omega
           case rel => exact ⟨a + 1, bs.set p true, by omega, by go_num, HU2, HT2⟩
          ·have hqt : (z == (rs.length : Int)) = false := by simpa using hq
           have HT2 := Lib.hid (HT.out.no HZ.out hq)
           clear hq
           go_wp2_with fail
           go_roundg g3
           case measure => omega
           case rel => exact ⟨a + 1, bs, by omega, by go_num, HU, HT2⟩
open Go.RowKit
set_option linter.unusedVariables false
set_option linter.unusedSimpArgs false
def WkOk (w : World) : Prop := ∀ w', Below w.heap.size w w' → Calls Tryz.prog 8 #[] w' fun e w2 => e = .returned (.bool true) ∧ Below w'.heap.size w' w2
theorem cloP_eq {ls : List (List Int)} {s : Int} {l m : List Int} (h1 : CloP ls s l) (h2 : CloP ls s m) : l = m := by
 have hp : l.Perm m := (List.perm_ext_iff_of_nodup (h1.1.imp (fun h => by omega)) (h2.1.imp (fun h => by omega))).2 (fun k => (h1.2 k).trans (h2.2 k).symm)
 exact hp.eq_of_pairwise (fun a b _ _ h k => by omega) h1.1 h2.1
theorem below_drewN (w : World) (k : Nat) : Below w.heap.size w (w.drewN k) := ⟨rfl, rfl, rfl, Nat.le_refl _, fun _ _ => rfl⟩
theorem llGreat_false {ls : List (List Int)} (h : llGreat ls = false) : ls.length ≤ 60 ∧ ∀ l ∈ ls, l.length ≤ 100 := by
 unfold llGreat at h
 simp only [Bool.or_eq_false_iff, decide_eq_false_iff_not, List.any_eq_false, decide_eq_true_eq] at h
 exact ⟨by omega, fun l hl => by have := h.2 l hl; omega⟩
set_option maxRecDepth 100000 in
set_option maxHeartbeats 8000000 in
theorem depsTurns_walk0 (w : World) (hW : WkOk w) (A : Option Addr) (c : Nat) (ls : List (List Int)) (h : LL w A c ls) (s : Int) :
 Calls Tryz.prog 5 #[.slice A ls.length c, .int .i64 s] w fun e w' => e = .returned (.bool true) ∧ Below w.heap.size w w' := by
 have HW := Lib.hid hW
 have HL := Lib.hid h
 have HG := Lib.hid (llgreat_any w A c ls h)
 clear hW h
 cases hg : llGreat ls with
 | true =>
   rw [hg] at HG
   have HK := Lib.hid (HW.out w (Below.refl _ _))
   clear hg
   go_enter Tryz.func5, Tryz.ntmps5
   go_wp2_with fail
   refine HG.out.mono ?_
   rintro e w2 ⟨rfl, hw⟩
   obtain rfl := hw.symm
   go_wp2_with fail
   refine HK.out.mono ?_
   rintro e w3 ⟨rfl, hb⟩
   have HB := Lib.hid hb
   clear hb
   go_wp2_with fail
   go_ret
   exact ⟨rfl, HB.out⟩
 | false =>
   rw [hg] at HG
   obtain ⟨hn, h100⟩ := llGreat_false hg
   have H100 := Lib.hid h100
   have HT1 := Lib.hid (turned_any w A c ls HL.out hn h100)
   clear hg h100
   go_enter Tryz.func5, Tryz.ntmps5
   go_wp2_with fail
   refine HG.out.mono ?_
   rintro e w2 ⟨rfl, hw⟩
   obtain rfl := hw.symm
   clear HG
   go_wp2_with fail
   refine HT1.out.mono ?_
   rintro e w3 ⟨A3, c3, ms, rfl, hl3, hb3, ht3⟩
   have HB3 := Lib.hid hb3
   have HL3 := Lib.hid hl3
   have HP3 := Lib.hid ht3
   have HT2 := Lib.hid (refturned_any w3 A c ls (HL.out.below hb3) hn H100.out)
   clear hb3 hl3 ht3
   go_wp2_with fail
   refine HT2.out.mono ?_
   rintro e w4 ⟨A4, c4, ns, rfl, hl4, hb4, ht4⟩
   have HB4 := Lib.hid (HB3.out.trans (hb4.mono HB3.out.size))
   have hmn : ms = ns := turnP_eq HP3.out ht4
   subst hmn
   have HS := Lib.hid (same_any w4 A3 A4 c3 c4 ms ms (HL3.out.below hb4) hl4)
   rw [show decide (ms = ms) = true from decide_eq_true rfl] at HS
   clear hb4 hl4 ht4
   go_wp2_with fail
   refine HS.out.mono ?_
   rintro e w5 ⟨rfl, k, hk⟩
   have hb5 : Below w.heap.size w w5 := by subst hk; exact HB4.out.trans ((below_drewN w4 k).mono HB4.out.size)
   have HB5 := Lib.hid hb5
   have HC1 := Lib.hid (closure_any w5 A c ls s (HL.out.below hb5) hn H100.out)
   clear hb5 hk
   go_wp2_with fail
   refine HC1.out.mono ?_
   rintro e w6 ⟨A6, c6, l6, rfl, hr6, hb6, hc6⟩
   have hb7 := HB5.out.trans (hb6.mono HB5.out.size)
   have HB6 := Lib.hid hb7
   have HR6 := Lib.hid hr6
   have HP6 := Lib.hid hc6
   have HC2 := Lib.hid (refclosure_any w6 A c ls s (HL.out.below hb7) hn H100.out)
   clear hb7 hb6 hr6 hc6
   go_wp2_with fail
   refine HC2.out.mono ?_
   rintro e w7 ⟨A7, c7, l7, rfl, hr7, hb7, hc7⟩
   have hll : l6 = l7 := cloP_eq HP6.out hc7
   subst hll
   have HB7 := Lib.hid (HB6.out.trans (hb7.mono HB6.out.size))
   have HI := Lib.hid (ints_any w7 A6 A7 c6 c7 l6 l6 (HR6.out.below hb7) hr7)
   rw [show decide (l6 = l6) = true from decide_eq_true rfl] at HI
   clear hb7 hr7 hc7
   go_wp2_with fail
   refine HI.out.mono ?_
   rintro e w8 ⟨rfl, k8, hk8⟩
   have hb8 : Below w.heap.size w w8 := by subst hk8; exact HB7.out.trans ((below_drewN w7 k8).mono HB7.out.size)
   have HB8 := Lib.hid hb8
   have HK := Lib.hid (HW.out w8 hb8)
   clear hb8 hk8
   go_wp2_with fail
   refine HK.out.mono ?_
   rintro e w9 ⟨rfl, hb9⟩
   have HB9 := Lib.hid (HB8.out.trans (hb9.mono HB8.out.size))
   clear hb9
   go_wp2_with fail
   go_ret
   exact ⟨rfl, HB9.out⟩
open Go.RowKit Go.Maps
set_option linter.unusedVariables false
set_option linter.unusedSimpArgs false
def MZ (w : World) (b : Nat) (V : List Int) : Prop :=
 ∃ D : DataW Unit, w.ownsMap Tryz.prog 3 (plainElem Tryz.prog 4) b V.length D ∧ Go.Maps.IsMap D ∧ (∀ k : Int, D.atKey (.int .i64 k) (.lit (.bool false)) = .lit (.bool (tZ V k)) ∧ Go.Maps.has D (.int .i64 k) = tZ V k) ∧ Go.Maps.size D = V.length
section
variable {w w' : World} {b : Nat} {V : List Int}
theorem MZ.mt (h : MZ w b V) : MT w b V.length (tZ V) := by obtain ⟨D, h1, h2, h3, _⟩ := h; exact ⟨D, h1, h2, h3⟩
theorem MZ.new (w : World) : MZ (w.alloc (.map #[] 0)) w.heap.size [] := ⟨.map [], World.ownsMap_made _ _ _ _, ⟨[], rfl⟩, fun k => ⟨rfl, rfl⟩, rfl⟩
theorem MZ.only {F : Nat → Prop} (h : MZ w b V) (ho : Only F w w') (hF : ¬ F b) : MZ w' b V := by
 obtain ⟨D, h1, h2, h3⟩ := h
 exact ⟨D, ownsMapT_same h1 (ho.block b h1.lt hF), h2, h3⟩
theorem MZ.below (h : MZ w b V) (hb : Below w.heap.size w w') : MZ w' b V := h.only (Only.of_below hb (fun _ => False)) (fun h => h)
theorem MZ.lt (h : MZ w b V) : b < w.heap.size := h.mt.lt
theorem MZ.len (h : MZ w b V) (ty : TypeId) : (Builtin.len_ #[52] ty #[.map (some b)]).run Tryz.prog w = .ok (.int .i64 V.length) w := by
 obtain ⟨D, h1, h2, h3, h4⟩ := h
 rw [h1.len Tryz.underlying52 ty, h4]
end
theorem wp_put_MZ {w : World} {ops : Array Oper} {rest : List Oper} {o : Oper} {a : Act} {Q : Exit → Act → World → Prop} (hg : o.guard = none) (m x v : Operand) (hop : o.op = Op.mapUpdate 52 m x v) (b : Nat) (V : List Int) (hm : a.eval m = .map (some b)) (h : MZ w b V) (hn : V.length < maxLen)
 (k : Int) (hk1 : -9223372036854775808 ≤ k) (hk2 : k ≤ 9223372036854775807) (hkV : k ∉ V) (hx : a.eval x = .int .i64 k) (hv : a.eval v = .bool true)
 (hK : ∀ w', MZ w' b (V ++ [k]) → w.grownBy w' (some b) → wpList Tryz.prog ops Q rest (a.put o.dst undef) w') : wpList Tryz.prog ops Q (o :: rest) a w := by
 obtain ⟨D, g1, g2, g3, g4⟩ := h
 have ht := g1.tidy key_int
 refine wpList_mapUpdate_own w hg m x v 52 hop 3 4 key_int Tryz.underlying52 _ b V.length D hm g1 hn _ _ (.int .i64 k) hx hv (key_of hk1 hk2) (.lit (.bool true)) [] (plainElem_bool Tryz.underlying4 true) (fun w' h1 h2 => hK w' ⟨_, by simpa using h1, g2.put _ _, fun j => ?_, ?_⟩ h2)
 ·rw [← tZ_put]
  by_cases hj : j = k
  ·subst hj
   exact ⟨by rw [Go.Maps.atKey_put_same g2 (isKey_int j), fput_same], by rw [Go.Maps.has_put_same g2 (isKey_int j), fput_same]⟩
  ·have hne : (Lit.int .i64 j) ≠ (Lit.int .i64 k) := fun e => hj (by injection e)
   exact ⟨by rw [Go.Maps.atKey_put_other hne, (g3 j).1, fput_other _ true hj], by rw [Go.Maps.has_put_other hne, (g3 j).2, fput_other _ true hj]⟩
 ·rw [Go.Maps.size_put ht, (g3 k).2, g4]
  have : tZ V k = false := by
   cases hq : tZ V k with
   | false => rfl
   | true => exact absurd (tZ_iff.1 hq) hkV
  rw [this]; simp
theorem ow_none {w : World} {q base : Nat} {e : TypeId} {sz : Nat} (h : Blk w q #[] e) (hb : base ≤ q) : Ow w base e sz (some ⟨q, 0, none⟩) 0 0 [] :=
 ⟨by simp, .inr ⟨q, #[], rfl, hb, h, Nat.le_refl _, Nat.zero_le _, by simp, by simp⟩⟩
theorem TurnP.len {ls ms : List (List Int)} (h : TurnP ls ms) : ∀ m ∈ ms, m.length ≤ ls.length := fun m hm => by
 obtain ⟨k, hk⟩ := List.mem_iff_getElem?.1 hm
 have hr := h.2 k m hk
 exact valid_len (ls := ls) (hr.1.imp (fun h => by omega)) (fun z hz => by
  have := turnF_iff.1 ((hr.2 z).1 hz)
  exact ⟨this.1, this.2.1⟩)
theorem TurnP.row {ls ms : List (List Int)} (h : TurnP ls ms) {k : Nat} (hk : k < ls.length) (i : Int) : i ∈ rowAt ms (k : Int) ↔ turnF ls k i = true := by
 obtain ⟨m, hm⟩ := get_lt (l := ms) (i := k) (by rw [h.1]; exact hk)
 rw [rowAt_nat hm]
 exact (h.2 k m hm).2 i
theorem turn4 {l a b c d : List (List Int)} (h1 : TurnP l a) (h2 : TurnP a b) (h3 : TurnP b c) (h4 : TurnP c d) : d = b := by
 refine turnP_eq (ls := a) ⟨by rw [h4.1, h3.1, h2.1], fun k m hm => ?_⟩ h2
 have hr := h4.2 k m hm
 have hkc : k < c.length := by rw [← h4.1]; exact (List.getElem?_eq_some_iff.1 hm).1
 have hkb : k < b.length := by rw [← h3.1]; exact hkc
 have hka : k < a.length := by rw [← h2.1]; exact hkb
 refine ⟨hr.1, fun i => ?_⟩
 rw [hr.2 i]
 have e : turnF c k i = true ↔ turnF a k i = true := by
  rw [turnF_iff, turnF_iff]
  constructor
  ·rintro ⟨h5, h6, h7⟩
   obtain ⟨p, rfl⟩ : ∃ p : Nat, i = (p : Int) := ⟨i.toNat, by omega⟩
   have hp : p < b.length := by rw [← h3.1]; omega
   have h8 := turnF_iff.1 ((h3.row hp _).1 h7)
   have h9 := turnF_iff.1 ((h2.row hka _).1 h8.2.2)
   exact ⟨h5, by rw [← h2.1]; omega, h9.2.2⟩
  ·rintro ⟨h5, h6, h7⟩
   obtain ⟨p, rfl⟩ : ∃ p : Nat, i = (p : Int) := ⟨i.toNat, by omega⟩
   have hp : p < b.length := by rw [h2.1]; omega
   have h8 : (p : Int) ∈ rowAt b (k : Int) := (h2.row hka _).2 (turnF_iff.2 ⟨h5, h6, h7⟩)
   exact ⟨h5, by rw [h3.1]; omega, (h3.row hp _).2 (turnF_iff.2 ⟨by omega, by omega, h8⟩)⟩
 exact e
theorem LL.only {F : Nat → Prop} {w0 w w' : World} {A : Option Addr} {c : Nat} {ls : List (List Int)} (h : LL w0 A c ls) (hb : Below w0.heap.size w0 w) (ho : Only F w w') (hF : ∀ k, F k → w0.heap.size ≤ k) : LL w' A c ls :=
 h.below (ho.belowB hb hF)
set_option maxRecDepth 100000 in
set_option maxHeartbeats 16000000 in
theorem depsClosure_walk0 (w : World) (hW : WkOk w) (A : Option Addr) (c : Nat) (ls : List (List Int)) (h : LL w A c ls) (s : Int) :
 Calls Tryz.prog 6 #[.slice A ls.length c, .int .i64 s] w fun e w' => e = .returned (.bool true) ∧ Below w.heap.size w w' := by
 have HW := Lib.hid hW
 have HL := Lib.hid h
 have hcap := h.cap
 have hmax := h.max
 unfold maxLen at hmax
 have HG := Lib.hid (llgreat_any w A c ls h)
 clear hW h
 cases hg : llGreat ls with
 | true =>
   rw [hg] at HG
   have HK := Lib.hid (HW.out w (Below.refl _ _))
   clear hg
   go_enter Tryz.func6, Tryz.ntmps6
   go_wp2_with fail
   refine HG.out.mono ?_
   rintro e w2 ⟨rfl, hw⟩
   obtain rfl := hw.symm
   go_wp2_with fail
   refine HK.out.mono ?_
   rintro e w3 ⟨rfl, hb⟩
   have HB := Lib.hid hb
   clear hb
   go_wp2_with fail
   go_ret
   exact ⟨rfl, HB.out⟩
 | false =>
   rw [hg] at HG
   obtain ⟨hn, h100⟩ := llGreat_false hg
   have H100 := Lib.hid h100
   have HC := Lib.hid (closure_any w A c ls s HL.out hn h100)
   clear hg h100
   by_cases hv : vld ls s
   ·obtain ⟨q, rfl⟩ : ∃ q : Nat, s = (q : Int) := ⟨s.toNat, by have := hv.1; omega⟩
    have hqn : q < ls.length := by have := hv.2; omega
    have hd0 : decide ((q : Int) < 0) = false := decide_eq_false (by omega)
    have hd1 : decide (ls.length ≤ q) = false := decide_eq_false (by omega)
    have hqi : (0 : Int) ≤ (q : Int) ∧ (q : Int) < (ls.length : Int) := by omega
    have HV := Lib.hid hv
    have hmm := @run_makeMap Tryz.prog
    have HMM := Lib.hid hmm
    clear hv
    go_enter Tryz.func6, Tryz.ntmps6
    go_wp2_with fail
    refine HG.out.mono ?_
    rintro e w2 ⟨rfl, hw⟩
    obtain rfl := hw.symm
    clear HG
    go_wp2_with fail
    refine HC.out.mono ?_
    rintro e w6 ⟨A6, c6, l6, rfl, hr6, hb6, hc6⟩
    have hcc6 := hr6.cap
    have hb7 : Below w6.heap.size w6 (w6.alloc (.map #[] 0)) := (Below.refl _ w6).alloc (Nat.le_refl _) _
    have HB6 := Lib.hid hb6
    have HR7 := Lib.hid (hr6.below hb7)
    have HP6 := Lib.hid hc6
    have HM0 : Hid (MT (w6.alloc (.map #[] 0)) w6.heap.size 0 (tZ [])) := Lib.hid (by rw [tZ_nil]; exact MT.new w6)
    have HB7 := Lib.hid (hb6.trans (hb7.mono hb6.size))
    have HLT : Hid (∀ ad, A6 = some ad → 0 < l6.length → ad.block < w6.heap.size) := Lib.hid (fun ad e hl => hr6.lt0 e hl)
    have hl6 : l6.length ≤ 60 := by
     have := valid_len (ls := ls) (hc6.1.imp (fun h => by omega)) (fun z hz => ((hc6.2 z).1 hz).2.vld)
     omega
    clear hr6 hb6 hb7 hc6 HC
    go_wp2_with fail
    clear hmm
    go_loopg [42] l6.length (fun g i wr => ∃ j : Nat, j + g = l6.length ∧ i = .int .i64 (j : Nat) ∧ Hid (MT wr w6.heap.size j (tZ (l6.take j))) ∧ Hid (Only (fun k => k = w6.heap.size) (w6.alloc (.map #[] 0)) wr))
    case atStart => exact ⟨0, by omega, rfl, HM0, Lib.hid (Only.refl _ _)⟩
    case round =>
     obtain ⟨j, hj, rfl, HM, HO⟩ := hrel
     rename World => wo
     have HRO : Hid (Rd wo 1 A6 l6.length c6 (cZ l6)) := Lib.hid (HR7.out.only HO.out (fun ad e hl e2 => by have := HLT.out ad e hl; omega))
     have HBO : Hid (Below w.heap.size w wo) := Lib.hid (HO.out.belowB HB7.out (fun k hk => by rw [hk]; exact HB6.out.size))
     cases gk with
     | succ g =>
       have hjj : (j : Int) < (l6.length : Int) := by omega
       have hji : (0 : Int) ≤ (j : Int) ∧ (j : Int) < (l6.length : Int) := by omega
       obtain ⟨z, hz⟩ := get_lt (l := l6) (i := j) (by omega)
       obtain ⟨zd, hA6, hzc⟩ := HRO.out.zcell hz
       subst hA6
       have hzv : vld ls z := ((HP6.out.2 z).1 (List.mem_of_getElem? hz)).2.vld
       obtain ⟨y, rfl⟩ : ∃ y : Nat, z = (y : Int) := ⟨z.toNat, by have := hzv.1; omega⟩
       have ez0 : decide ((y : Int) < 0) = false := decide_eq_false (by omega)
       have ez1 : decide (ls.length ≤ y) = false := decide_eq_false (by have := hzv.2; omega)
       have HPUT : Hid (fput (tZ (l6.take j)) (y : Int) true = tZ (l6.take (j + 1))) := Lib.hid (by rw [tZ_put, List.take_add_one, hz]; rfl)
       have hjm : j < maxLen := by unfold maxLen; omega
       have hyb : (y : Int) ≤ 9223372036854775807 := by have := hzv.2; omega
       by_cases hj0 : j = 0
       ·have hd3 : decide (0 < j) = false := decide_eq_false (by omega)
        have hd4 : decide ((0 : Int) < (j : Int)) = false := decide_eq_false (by omega)
        clear hz hzv hj0
        go_wp2_with (refine wp_put_MT rfl _ _ _ rfl w6.heap.size j _ rfl HM.out hjm (y : Int) (by omega) (by omega) rfl rfl ?_; intro w8 hm8 hg8; have HM8 := Lib.hid hm8; have HG8 := Lib.hid hg8; clear hm8 hg8)
        go_roundg g
        case measure => omega
        case rel => exact ⟨j + 1, by omega, by go_num, Lib.hid (by have := HM8.out; rwa [HPUT.out] at this), Lib.hid (HO.out.trans (Only.of_grown HG8.out) (fun k _ e => by injection e))⟩
       ·obtain ⟨p, hpj⟩ : ∃ p, j = p + 1 := ⟨j - 1, by omega⟩
        have hd3 : decide (0 < j) = true := decide_eq_true (by omega)
        have hd4 : decide ((0 : Int) < (j : Int)) = true := decide_eq_true (by omega)
        obtain ⟨x, hx⟩ := get_lt (l := l6) (i := p) (by omega)
        obtain ⟨xd, hA7, hxc⟩ := HRO.out.zcell hx
        injection hA7 with hA7
        subst hA7
        have hlt : x < (y : Int) := by
         have h1 := HP6.out.1
         rw [List.pairwise_iff_getElem] at h1
         obtain ⟨hx1, hx2⟩ := List.getElem?_eq_some_iff.1 hx
         obtain ⟨hz1, hz2⟩ := List.getElem?_eq_some_iff.1 hz
         have := h1 p j hx1 hz1 (by omega)
         rw [hx2, hz2] at this
         exact this
        have hxy : decide ((y : Int) ≤ x) = false := decide_eq_false (by omega)
        have hpi : (0 : Int) ≤ (p : Int) ∧ (p : Int) < (l6.length : Int) := by omega
        have hpw : IntKind.i64.wrap ((j : Int) - 1) = (p : Int) := by rw [hpj, show (((p + 1 : Nat) : Int) - 1) = (p : Int) by omega]; rw [IntKind.wrap_i64]; omega
        clear hz hzv hx hlt hj0 hpj
        go_wp2_with (refine wp_put_MT rfl _ _ _ rfl w6.heap.size j _ rfl HM.out hjm (y : Int) (by omega) (by omega) rfl rfl ?_; intro w8 hm8 hg8; have HM8 := Lib.hid hm8; have HG8 := Lib.hid hg8; clear hm8 hg8)
        go_roundg g
        case measure => omega
        case rel => exact ⟨j + 1, by omega, by go_num, Lib.hid (by have := HM8.out; rwa [HPUT.out] at this), Lib.hid (HO.out.trans (Only.of_grown HG8.out) (fun k _ e => by injection e))⟩
     | zero =>
       have hjj : ¬ ((j : Int) < (l6.length : Int)) := by omega
       have HIN : Hid (∀ k : Int, (Instr.lookup 52 (.map (some w6.heap.size)) (.int .i64 k) false).run Tryz.prog wo = .ok (.bool (tZ l6 k)) wo ∨ ¬ (-9223372036854775808 ≤ k ∧ k ≤ 9223372036854775807)) := Lib.hid (fun k => by
        by_cases hk : -9223372036854775808 ≤ k ∧ k ≤ 9223372036854775807
        ·left
         have := HM.out.look hk.1 hk.2
         rwa [List.take_of_length_le (by omega)] at this
        ·exact .inr hk)
       have HMZ0 := Lib.hid (MZ.new wo)
       clear HM HR7 HO
       go_wp2_with fail
       go_loopg [73] ls.length (fun g i wr => ∃ p : Nat, p + g = ls.length ∧ i = .int .i64 (p : Nat) ∧ wr = wo)
       case atStart => exact ⟨0, by omega, rfl, rfl⟩
       case round =>
        obtain ⟨p, hp, rfl, hwr⟩ := hrel
        obtain rfl := hwr.symm
        cases gk with
        | succ g =>
          have hpp : (p : Int) < (ls.length : Int) := by omega
          have hpi : (0 : Int) ≤ (p : Int) ∧ (p : Int) < (ls.length : Int) := by omega
          have hlk := (HIN.out (p : Int)).resolve_right (by omega)
          obtain ⟨y, hy⟩ := get_lt (l := ls) (i := p) (by omega)
          obtain ⟨ad, Ay, cy, rfl, hcy, hry⟩ := (HL.out.below HBO.out).row p y hy
          have HRY := Lib.hid hry
          have hyc := hry.cap
          have hyl : y.length ≤ 100 := H100.out y (List.mem_of_getElem? hy)
          have HYR := Lib.hid (rowAt_nat hy)
          clear hy hry
          by_cases hrun : (p : Int) = (q : Int) ∨ tZ l6 (p : Int) = true
          ·have HKEY : Hid (∀ k ∈ y, vld ls k → tZ l6 k = true) := Lib.hid (fun k hk hkv => by
            rw [tZ_iff, HP6.out.2 k]
            refine ⟨HV.out, ?_⟩
            rcases hrun with h | h
            ·exact .base (by rw [← h, HYR.out]; exact hk) hkv
            ·exact .step ((HP6.out.2 _).1 (tZ_iff.1 h)).2 (by rw [HYR.out]; exact hk) hkv)
           have fin : ∀ b1 : Bool, (b1 = ((p : Int) != (q : Int))) → (b1 = true → tZ l6 (p : Int) = true) → True := fun _ _ _ => trivial
           clear fin
           by_cases hpq : (p : Int) = (q : Int)
           ·have hne : ((p : Int) != (q : Int)) = false := by simp [hpq]
            clear hrun hpq hlk
            go_wp2_with fail
            clear hne
            go_loopg [90] y.length (fun g2 i wr => ∃ a : Nat, a + g2 = y.length ∧ i = .int .i64 (a : Nat) ∧ wr = wo)
            case atStart => exact ⟨0, by omega, rfl, rfl⟩
            case round =>
             obtain ⟨a, ha, rfl, hwr⟩ := hrel
             obtain rfl := hwr.symm
             cases gk with
             | zero =>
               have haa : ¬ ((a : Int) < (y.length : Int)) := by omega
               go_wp2_with fail
               go_roundg g
               case measure => omega
               case rel => exact ⟨p + 1, by omega, by go_num, rfl⟩
             | succ g2 =>
               have haa : (a : Int) < (y.length : Int) := by omega
               have hai : (0 : Int) ≤ (a : Int) ∧ (a : Int) < (y.length : Int) := by omega
               obtain ⟨z, hz⟩ := get_lt (l := y) (i := a) (by omega)
               obtain ⟨zd, rfl, hzc⟩ := HRY.out.zcell hz
               have HZM := Lib.hid (List.mem_of_getElem? hz)
               clear hz
               by_cases hz0 : 0 ≤ z
               ·have ez0 : decide (0 ≤ z) = true := decide_eq_true hz0
                obtain ⟨x, rfl⟩ : ∃ x : Nat, z = (x : Int) := ⟨z.toNat, by omega⟩
                by_cases hz1 : x < ls.length
                ·have ez1 : decide (x < ls.length) = true := decide_eq_true hz1
                 have hlk := (HIN.out (x : Int)).resolve_right (by omega)
                 rw [HKEY.out _ HZM.out ⟨by omega, by omega⟩] at hlk
                 clear hz0 hz1
                 go_wp2_with fail
                 go_roundg g2
                 case measure => omega
                 case rel => exact ⟨a + 1, by omega, by go_num, rfl⟩
                ·have ez1 : decide (x < ls.length) = false := decide_eq_false hz1
                 clear hz0 hz1
                 go_wp2_with fail
                 go_roundg g2
                 case measure => omega
                 case rel => exact ⟨a + 1, by omega, by go_num, rfl⟩
               ·have ez0 : decide (0 ≤ z) = false := decide_eq_false hz0
                clear hz0
                go_wp2_with fail
                go_roundg g2
                case measure => omega
                case rel => exact ⟨a + 1, by omega, by go_num, rfl⟩
           ·have hne : ((p : Int) != (q : Int)) = true := by simpa using hpq
            rw [hrun.resolve_left hpq] at hlk
            clear hrun hpq
            go_wp2_with fail
            clear hne hlk
            go_loopg [90] y.length (fun g2 i wr => ∃ a : Nat, a + g2 = y.length ∧ i = .int .i64 (a : Nat) ∧ wr = wo)
            case atStart => exact ⟨0, by omega, rfl, rfl⟩
            case round =>
             obtain ⟨a, ha, rfl, hwr⟩ := hrel
             obtain rfl := hwr.symm
             cases gk with
             | zero =>
               have haa : ¬ ((a : Int) < (y.length : Int)) := by omega
               go_wp2_with fail
               go_roundg g
               case measure => omega
               case rel => exact ⟨p + 1, by omega, by go_num, rfl⟩
             | succ g2 =>
               have haa : (a : Int) < (y.length : Int) := by omega
               have hai : (0 : Int) ≤ (a : Int) ∧ (a : Int) < (y.length : Int) := by omega
               obtain ⟨z, hz⟩ := get_lt (l := y) (i := a) (by omega)
               obtain ⟨zd, rfl, hzc⟩ := HRY.out.zcell hz
               have HZM := Lib.hid (List.mem_of_getElem? hz)
               clear hz
               by_cases hz0 : 0 ≤ z
               ·have ez0 : decide (0 ≤ z) = true := decide_eq_true hz0
                obtain ⟨x, rfl⟩ : ∃ x : Nat, z = (x : Int) := ⟨z.toNat, by omega⟩
                by_cases hz1 : x < ls.length
                ·have ez1 : decide (x < ls.length) = true := decide_eq_true hz1
                 have hlk := (HIN.out (x : Int)).resolve_right (by omega)
                 rw [HKEY.out _ HZM.out ⟨by omega, by omega⟩] at hlk
                 clear hz0 hz1
                 go_wp2_with fail
                 go_roundg g2
                 case measure => omega
                 case rel => exact ⟨a + 1, by omega, by go_num, rfl⟩
                ·have ez1 : decide (x < ls.length) = false := decide_eq_false hz1
                 clear hz0 hz1
                 go_wp2_with fail
                 go_roundg g2
                 case measure => omega
                 case rel => exact ⟨a + 1, by omega, by go_num, rfl⟩
               ·have ez0 : decide (0 ≤ z) = false := decide_eq_false hz0
                clear hz0
                go_wp2_with fail
                go_roundg g2
                case measure => omega
                case rel => exact ⟨a + 1, by omega, by go_num, rfl⟩
          ·have hne : ((p : Int) != (q : Int)) = true := by simpa using fun h => hrun (.inl h)
           have hf : tZ l6 (p : Int) = false := by
            cases hq : tZ l6 (p : Int) with
            | false => rfl
            | true => exact absurd (.inr hq) hrun
           rw [hf] at hlk
           clear hrun hf
           go_wp2_with fail
           go_roundg g
           case measure => omega
           case rel => exact ⟨p + 1, by omega, by go_num, rfl⟩
        | zero =>
          have hpp : ¬ ((p : Int) < (ls.length : Int)) := by omega
          have hmm := HMM.out
          obtain ⟨x, hx⟩ := get_lt (l := ls) (i := q) (by omega)
          have hb1 : Below wo.heap.size wo (wo.alloc (.map #[] 0)) := (Below.refl _ wo).alloc (Nat.le_refl _) _
          have hb2 : Below wo.heap.size wo ((wo.alloc (.map #[] 0)).alloc (.cells #[] 3)) := hb1.alloc hb1.size _
          have hmz : MZ ((wo.alloc (.map #[] 0)).alloc (.cells #[] 3)) wo.heap.size [] := HMZ0.out.below ((Below.refl _ _).alloc (Nat.le_refl _) _)
          have hsz : ((wo.alloc (.map #[] 0)).alloc (.cells #[] 3)).heap.size = wo.heap.size + 1 + 1 := by simp
          have hbk : Blk ((wo.alloc (.map #[] 0)).alloc (.cells #[] 3)) (wo.heap.size + 1) #[] 3 := by
           have := Blk.new (wo.alloc (.map #[] 0)) #[] 3
           rwa [show (wo.alloc (.map #[] 0)).heap.size = wo.heap.size + 1 by simp] at this
          have how : Ow ((wo.alloc (.map #[] 0)).alloc (.cells #[] 3)) (wo.heap.size + 1) 3 1 (some ⟨wo.heap.size + 1, 0, none⟩) 0 0 (cZ []) := ow_none hbk (Nat.le_refl _)
          have hbw := HBO.out.trans (hb2.mono HBO.out.size)
          obtain ⟨ad, Ai, ci, rfl, hcl, hr⟩ := (HL.out.below hbw).row q x hx
          have hxc := hr.cap
          have hx100 := H100.out x (List.mem_of_getElem? hx)
          have HRX := Lib.hid hr
          have HXR := Lib.hid (rowAt_nat hx)
          have HBW := Lib.hid hbw
          have HMZ := Lib.hid hmz
          have HOW := Lib.hid how
          have HSZ := Lib.hid hsz
          have HB2 := Lib.hid hb2
          clear HIN HMZ0 hx hr hb1 hb2 hmz hsz hbk how hbw
          go_upto_region 26 with fail
          clear hmm
          go_wp2_with (refine wpList_row info_int Tryz.underlying44 rfl (by omega) rfl (.tmp 111) (.tmp 115) rfl (wo.heap.size + 1) (some ⟨wo.heap.size + 1, 0, none⟩) 0 0 (cZ []) rfl HOW.out Ai x.length ci (cZ x) rfl HRX.out (cZ_one _) (by omega) (by omega) (by rw [HSZ.out]; omega) ?_; intro A8 c8 w8 ho8 hg8 hat8; rw [Nat.zero_add] at ho8 ⊢; have HO8 := Lib.hid ho8; have HG8 := Lib.hid hg8; clear ho8 hg8 hat8)
          have HB8 : Hid (Below wo.heap.size wo w8) := Lib.hid (HB2.out.grown HG8.out HB2.out.size (fun k e => by simp at e; omega))
          have HM8 : Hid (MZ w8 wo.heap.size []) := Lib.hid (HMZ.out.only (Only.of_grown HG8.out) (fun e => by simp at e))
          have HO9 : Hid (Ow w8 (wo.heap.size + 1) 3 1 A8 x.length c8 (cZ x)) := Lib.hid (by simpa [cZ] using HO8.out)
          clear HMZ HOW HRX hcl
          go_loopg [13, 14] 6260 (fun g v i wr => ∃ (A9 : Option Addr) (c9 n : Nat) (T V : List Int), v = .slice A9 T.length c9 ∧ i = .int .i64 (n : Nat) ∧ n ≤ T.length ∧ T.length ≤ 100 + 100 * V.length ∧ V.length ≤ ls.length ∧ (T.length - n) + 101 * (ls.length - V.length) ≤ g ∧ Hid (Ow wr (wo.heap.size + 1) 3 1 A9 T.length c9 (cZ T)) ∧ Hid (MZ wr wo.heap.size V) ∧ Hid (Below wo.heap.size wo wr) ∧ Hid (V.Nodup) ∧ Hid (∀ k ∈ V, Rch ls (q : Int) k) ∧ Hid (∀ k ∈ T, vld ls k → Rch ls (q : Int) k) ∧ Hid (∀ i, i = (q : Int) ∨ i ∈ V → ∀ k ∈ rowAt ls i, vld ls k → k ∈ V ∨ k ∈ T.drop n))
          case atStart => exact ⟨A8, c8, 0, x, [], rfl, rfl, by omega, by simp; omega, by simp, by simp; omega, HO9, HM8, HB8, Lib.hid List.nodup_nil, Lib.hid (fun k hk => by cases hk), Lib.hid (fun k hk hv => .base (by rw [HXR.out]; exact hk) hv), Lib.hid (fun i hi k hk hv => by
           rcases hi with rfl | hi
           ·right; rw [HXR.out] at hk; simpa using hk
           ·cases hi)⟩
          case round =>
           obtain ⟨A9, c9, n, T, V, rfl, rfl, hnT, hT100, hVl, hg, HO, HM, HB, HU, HRC, HTR, HCL⟩ := hrel
           rename World => wp
           have htc := HO.out.cap
           have HBP := Lib.hid (HBO.out.trans (HB.out.mono HBO.out.size))
           by_cases hlt : n < T.length
           ·obtain ⟨g, rfl⟩ : ∃ g, gk = g + 1 := ⟨gk - 1, by omega⟩
            have hlti : (n : Int) < (T.length : Int) := by omega
            have hd5 : decide (n < T.length) = true := decide_eq_true hlt
            have hd6 : decide ((n : Int) < 100000) = true := decide_eq_true (by omega)
            have hni : (0 : Int) ≤ (n : Int) ∧ (n : Int) < (T.length : Int) := by omega
            obtain ⟨z, hz⟩ := get_lt (l := T) (i := n) hlt
            obtain ⟨a9, rfl, hcz⟩ := HO.out.rd.zcell hz
            have hdr := drop_cons hz
            have HDR : Hid (∀ k, k ∈ T.drop n ↔ k = z ∨ k ∈ T.drop (n + 1)) := Lib.hid (fun k => by rw [hdr, List.mem_cons])
            have HZM := Lib.hid (List.mem_of_getElem? hz)
            have hcv : ∀ (hz : vld ls z → z ∈ V), ∀ i, i = (q : Int) ∨ i ∈ V → ∀ k ∈ rowAt ls i, vld ls k → k ∈ V ∨ k ∈ T.drop (n + 1) := fun hz i hi k hk hv => by
             rcases HCL.out i hi k hk hv with h | h
             ·exact .inl h
             ·rcases (HDR.out k).1 h with rfl | h
              ·exact .inl (hz hv)
              ·exact .inr h
            have HCV := Lib.hid hcv
            clear hz hdr hcv hlt
            by_cases hz0 : z < 0
            ·have ez0 : decide (z < 0) = true := decide_eq_true hz0
             have HC2 := Lib.hid (HCV.out (fun hv => by have := hv.1; omega))
             clear hz0
             go_wp2_with fail
             go_roundg g
             case measure => omega
             case rel => exact ⟨some a9, c9, n + 1, T, V, rfl, by go_num, by omega, by omega, by omega, by omega, HO, HM, HB, HU, HRC, HTR, HC2⟩
            have ez0 : decide (z < 0) = false := decide_eq_false hz0
            obtain ⟨y, rfl⟩ : ∃ y : Nat, z = (y : Int) := ⟨z.toNat, by omega⟩
            by_cases hz1 : ls.length ≤ y
            ·have ez1 : decide (ls.length ≤ y) = true := decide_eq_true hz1
             have HC2 := Lib.hid (HCV.out (fun hv => by have := hv.2; omega))
             clear hz0 hz1
             go_wp2_with fail
             go_roundg g
             case measure => omega
             case rel => exact ⟨some a9, c9, n + 1, T, V, rfl, by go_num, by omega, by omega, by omega, by omega, HO, HM, HB, HU, HRC, HTR, HC2⟩
            have ez1 : decide (ls.length ≤ y) = false := decide_eq_false hz1
            have hvy : vld ls (y : Int) := ⟨by omega, by omega⟩
            have hlk := HM.out.mt.look (k := (y : Int)) (by omega) (by omega)
            cases hyV : tZ V (y : Int) with
            | true =>
              rw [hyV] at hlk
              have HC2 := Lib.hid (HCV.out (fun _ => tZ_iff.1 hyV))
              clear hz0 hz1 hyV hvy
              go_wp2_with fail
              go_roundg g
              case measure => omega
              case rel => exact ⟨some a9, c9, n + 1, T, V, rfl, by go_num, by omega, by omega, by omega, by omega, HO, HM, HB, HU, HRC, HTR, HC2⟩
            | false =>
              rw [hyV] at hlk
              have hnV : (y : Int) ∉ V := fun h => by rw [tZ_iff.2 h] at hyV; cases hyV
              have HRY : Hid (Rch ls (q : Int) (y : Int)) := Lib.hid (HTR.out _ HZM.out hvy)
              have HU2 : Hid (V ++ [(y : Int)]).Nodup := Lib.hid (by rw [List.nodup_append]; exact ⟨HU.out, by simp, fun a ha b hb e => by rw [List.mem_singleton] at hb; subst hb; subst e; exact hnV ha⟩)
              have HRC2 : Hid (∀ k ∈ V ++ [(y : Int)], Rch ls (q : Int) k) := Lib.hid (fun k hk => by
               rcases List.mem_append.1 hk with hk | hk
               ·exact HRC.out k hk
               ·rw [List.mem_singleton] at hk; rw [hk]; exact HRY.out)
              have hV2 : V.length + 1 ≤ ls.length := by have := valid_len HU2.out (fun k hk => (HRC2.out k hk).vld); simpa using this
              obtain ⟨yr, hyr⟩ := get_lt (l := ls) (i := y) (by omega)
              have hyr100 := H100.out yr (List.mem_of_getElem? hyr)
              have HYR := Lib.hid (rowAt_nat hyr)
              have HYG := Lib.hid hyr
              have HTR3 : Hid (∀ k ∈ T ++ yr, vld ls k → Rch ls (q : Int) k) := Lib.hid (fun k hk hv => by
               rcases List.mem_append.1 hk with hk | hk
               ·exact HTR.out k hk hv
               ·exact .step HRY.out (by rw [HYR.out]; exact hk) hv)
              have HCL2 : Hid (∀ i, i = (q : Int) ∨ i ∈ V ++ [(y : Int)] → ∀ k ∈ rowAt ls i, vld ls k → k ∈ V ++ [(y : Int)] ∨ k ∈ (T ++ yr).drop (n + 1)) := Lib.hid (fun i hi k hk hv => by
               rw [List.drop_append_of_le_length (by omega)]
               have old : (i = (q : Int) ∨ i ∈ V) → k ∈ V ++ [(y : Int)] ∨ k ∈ T.drop (n + 1) ++ yr := fun h => by
                rcases HCL.out i h k hk hv with h | h
                ·exact .inl (by simp [h])
                ·rcases (HDR.out k).1 h with rfl | h
                 ·exact .inl (by simp)
                 ·exact .inr (by simp [h])
               rcases hi with h | h
               ·exact old (.inl h)
               ·rcases List.mem_append.1 h with h | h
                ·exact old (.inr h)
                ·rw [List.mem_singleton] at h
                 subst h
                 rw [HYR.out] at hk
                 exact .inr (by simp [hk]))
              have hVm : V.length < maxLen := by unfold maxLen; omega
              have hqy : (0 : Int) ≤ (y : Int) ∧ (y : Int) < (ls.length : Int) := by omega
              have hyb : (y : Int) ≤ 9223372036854775807 := by omega
              clear hz0 hz1 hyV hvy hyr
              go_upto_region 33 with (refine wp_put_MZ rfl _ _ _ rfl wo.heap.size V rfl HM.out hVm (y : Int) (by omega) (by omega) hnV rfl rfl ?_; intro w10 hm10 hg10; have HM10 := Lib.hid hm10; have HG10 := Lib.hid hg10; clear hm10 hg10)
              have hB10 : Below wo.heap.size wo w10 := HB.out.grown HG10.out HB.out.size (fun k e => by injection e with e; omega)
              have HB10 := Lib.hid hB10
              have HO10 : Hid (Ow w10 (wo.heap.size + 1) 3 1 (some a9) T.length c9 (cZ T)) := Lib.hid (HO.out.grown HG10.out (.inr (fun e => by have := (HO.out.lt e).1; omega)))
              obtain ⟨bd, Ay, cy, hbd, hcy, hry⟩ := (HL.out.below (HBO.out.trans (hB10.mono HBO.out.size))).row y yr HYG.out
              injection hbd with hbd
              subst hbd
              have HRY2 := Lib.hid hry
              have hyc := hry.cap
              clear hry hB10 hcz hlk
              go_wp2_with (refine wpList_row info_int Tryz.underlying44 rfl (by omega) rfl (.tmp 146) (.tmp 150) rfl (wo.heap.size + 1) (some a9) c9 T.length (cZ T) rfl HO10.out Ay yr.length cy (cZ yr) rfl HRY2.out (cZ_one _) (by omega) (by omega) (by have := HB10.out.size; have := HM10.out.lt; omega) ?_; intro A11 c11 w11 ho11 hg11 hat11; have HO11 := Lib.hid ho11; have HG11 := Lib.hid hg11; clear ho11 hg11 hat11)
              go_roundg g
              case measure => omega
              case rel =>
               exact ⟨A11, c11, n + 1, T ++ yr, V ++ [(y : Int)], by simp, by go_num, by simp; omega, by simp; omega, by simpa using hV2, by simp; omega, Lib.hid (by have := HO11.out; simpa [cZ_app] using this), Lib.hid (HM10.out.only (Only.of_grown HG11.out) (fun e => by have := (HO10.out.lt e.symm).1; omega)), Lib.hid (HB10.out.grown HG11.out HB10.out.size (fun k hk => by have := (HO10.out.lt hk).1; omega)), HU2, HRC2, HTR3, HCL2⟩
           ·have hd5 : decide (n < T.length) = false := decide_eq_false hlt
            have hlti : ¬ ((n : Int) < (T.length : Int)) := by omega
            have hlen : V.length = l6.length := by
             have hiff : ∀ k, tZ V k = true ↔ Rch ls (q : Int) k := rch_iff (fun k hk => HRC.out k (tZ_iff.1 hk)) (fun i hi k hk hv => by
              rcases HCL.out i (hi.imp_right tZ_iff.1) k hk hv with h | h
              ·exact tZ_iff.2 h
              ·rw [List.drop_of_length_le (by omega)] at h; cases h)
             have hp : V.Perm l6 := (List.perm_ext_iff_of_nodup HU.out (HP6.out.1.imp (fun h => by omega))).2 (fun k => by rw [← tZ_iff, hiff k, HP6.out.2 k]; exact ⟨fun h => ⟨HV.out, h⟩, fun h => h.2⟩)
             exact hp.length_eq
            have HLEN := Lib.hid hlen
            have HT1 := Lib.hid (turned_any wp (some ad) c ls (HL.out.below HBP.out) hn H100.out)
            clear hlt hlen
            go_wp2_with fail
            refine HT1.out.mono ?_
            rintro e x1 ⟨B1, b1, m1, rfl, hl1, hbb1, ht1⟩
            have HT2 := Lib.hid (turned_any x1 B1 b1 m1 hl1 (by rw [ht1.1]; exact hn) (fun m hm => Nat.le_trans (ht1.len m hm) (by omega)))
            have HX1 := Lib.hid (HB.out.trans (hbb1.mono HB.out.size))
            have HM1 := Lib.hid (HM.out.below hbb1)
            have HTP1 := Lib.hid ht1
            clear hl1 hbb1 ht1
            go_wp2_with fail
            refine HT2.out.mono ?_
            rintro e x2 ⟨B2, b2, m2, rfl, hl2, hbb2, ht2⟩
            have hX2 := HX1.out.trans (hbb2.mono HX1.out.size)
            have HX2 := Lib.hid hX2
            have HMX : Hid (MZ x2 wo.heap.size V) := Lib.hid (HM1.out.below hbb2)
            have hm1 : m1.length ≤ 60 := by rw [HTP1.out.1]; exact hn
            have hm2 : m2.length ≤ 60 := by rw [ht2.1]; exact hm1
            have HT3 := Lib.hid (turned_any x2 B2 b2 m2 hl2 hm2 (fun m hm => Nat.le_trans (ht2.len m hm) (by omega)))
            have HL2 := Lib.hid hl2
            have HTP2 := Lib.hid ht2
            have hmlen := fun ty => HMX.out.len ty
            have heq1 : ((V.length : Int) == (l6.length : Int)) = true := by rw [HLEN.out]; simp
            have heq2 : (V.length == l6.length) = true := by rw [HLEN.out]; simp
            clear hl2 hbb2 ht2 hX2
            go_wp2_with fail
            refine HT3.out.mono ?_
            rintro e x3 ⟨B3, b3, m3, rfl, hl3, hbb3, ht3⟩
            have HX3 := Lib.hid (HX2.out.trans (hbb3.mono HX2.out.size))
            have HT4 := Lib.hid (turned_any x3 B3 b3 m3 hl3 (by rw [ht3.1]; exact hm2) (fun m hm => Nat.le_trans (ht3.len m hm) (by omega)))
            have HL23 := Lib.hid (HL2.out.below hbb3)
            have HTP3 := Lib.hid ht3
            clear hl3 hbb3 ht3
            go_wp2_with fail
            refine HT4.out.mono ?_
            rintro e x4 ⟨B4, b4, m4, rfl, hl4, hbb4, ht4⟩
            have HX4 := Lib.hid (HX3.out.trans (hbb4.mono HX3.out.size))
            have h42 : m4 = m2 := turn4 HTP1.out HTP2.out HTP3.out ht4
            subst h42
            have HS := Lib.hid (same_any x4 B4 B2 b4 b2 m4 m4 hl4 (HL23.out.below hbb4))
            rw [show decide (m4 = m4) = true from decide_eq_true rfl] at HS
            clear hl4 hbb4 ht4
            go_wp2_with fail
            refine HS.out.mono ?_
            rintro e x5 ⟨rfl, k5, hk5⟩
            have hb5 : Below w.heap.size w x5 := by
             have h1 := HBO.out.trans (HX4.out.mono HBO.out.size)
             subst hk5; exact h1.trans ((below_drewN x4 k5).mono h1.size)
            have HB5 := Lib.hid hb5
            have HK := Lib.hid (HW.out x5 hb5)
            clear hb5 hk5
            go_wp2_with fail
            refine HK.out.mono ?_
            rintro e x6 ⟨rfl, hb6⟩
            have HB9 := Lib.hid (HB5.out.trans (hb6.mono HB5.out.size))
            clear hb6
            go_wp2_with fail
            go_ret
            exact ⟨rfl, HB9.out⟩
   ·have hlen : Hid (∀ l6, CloP ls s l6 → l6 = []) := Lib.hid (fun l6 hc => by
     cases l6 with
     | nil => rfl
     | cons z r => exact absurd ((hc.2 z).1 (.head _)).1 hv)
    by_cases hs0 : s < 0
    ·have hd0 : decide (s < 0) = true := decide_eq_true hs0
     clear hs0 hv
     go_enter Tryz.func6, Tryz.ntmps6
     go_wp2_with fail
     refine HG.out.mono ?_
     rintro e w2 ⟨rfl, hw⟩
     obtain rfl := hw.symm
     clear HG
     go_wp2_with fail
     refine HC.out.mono ?_
     rintro e w6 ⟨A6, c6, l6, rfl, -, hb6, hc6⟩
     obtain rfl := hlen.out l6 hc6
     have HB6 := Lib.hid hb6
     have HK := Lib.hid (HW.out w6 hb6)
     clear hb6 hc6
     go_wp2_with fail
     refine HK.out.mono ?_
     rintro e w9 ⟨rfl, hb9⟩
     have HB9 := Lib.hid (HB6.out.trans (hb9.mono HB6.out.size))
     clear hb9
     go_wp2_with fail
     go_ret
     exact ⟨rfl, HB9.out⟩
    ·have hd0 : decide (s < 0) = false := decide_eq_false hs0
     have hd1 : decide ((ls.length : Int) ≤ s) = true := decide_eq_true (by
      rcases (show s < (ls.length : Int) ∨ (ls.length : Int) ≤ s by omega) with h | h
      ·exact absurd ⟨by omega, h⟩ hv
      ·exact h)
     clear hs0 hv
     go_enter Tryz.func6, Tryz.ntmps6
     go_wp2_with fail
     refine HG.out.mono ?_
     rintro e w2 ⟨rfl, hw⟩
     obtain rfl := hw.symm
     clear HG
     go_wp2_with fail
     refine HC.out.mono ?_
     rintro e w6 ⟨A6, c6, l6, rfl, -, hb6, hc6⟩
     obtain rfl := hlen.out l6 hc6
     have HB6 := Lib.hid hb6
     have HK := Lib.hid (HW.out w6 hb6)
     clear hb6 hc6
     go_wp2_with fail
     refine HK.out.mono ?_
     rintro e w9 ⟨rfl, hb9⟩
     have HB9 := Lib.hid (HB6.out.trans (hb9.mono HB6.out.size))
     clear hb9
     go_wp2_with fail
     go_ret
     exact ⟨rfl, HB9.out⟩
end Go.Proofs.YtgdfkbalnpfdgaaGreatDoor
