/- Values: an object's places by its keys (tree.order). -/
/- Values: a value sorted (tree.sorted). -/
/- Values: tree.both, tree.Equal. -/
import Derived.Test.YtmljdppdaaoehaaGreatDoorEq7
import Derived.Test.YtmljdppdaaoehaaGreatDoorEqS
import Derived.Test.YtmljdppdaaoehaaGreatDoorCn5
import Derived.Shelf.SlSortCmp.NoneTotal
import Derived.Test.YtmljdppdaaoehaaGreatDoorSto
import Derived.Test.YtmljdppdaaoehaaGreatDoorRg
import Derived.Test.YtmljdppdaaoehaaGreatDoorRow
import Derived.Deep.CutRange
import Derived.Deep.CutBlock
import Derived.Test.YtmljdppdaaoehaaGreatDoorEq3
import Derived.Test.YtmljdppdaaoehaaGreatDoorCn16
namespace Go.Proofs.YtmljdppdaaoehaaGreatDoor
open Go.RowKit Go.Sort Go.Shelf
set_option linter.unusedVariables false
set_option linter.unusedSimpArgs false
/-! ### Bytes -/
theorem cb_self : ∀ a : List UInt8, Lib.compareBytes a a = 0
  | [] => rfl
  | a :: l => by
    unfold Lib.compareBytes
    rw [if_neg (by simp), if_neg (by simp)]
    exact cb_self l
theorem cb_eq : ∀ {a b : List UInt8}, Lib.compareBytes a b = 0 → a = b
  | [], [], _ => rfl
  | [], _ :: _, h => by simp [Lib.compareBytes] at h
  | _ :: _, [], h => by simp [Lib.compareBytes] at h
  | a :: x, b :: y, h => by
    unfold Lib.compareBytes at h
    split at h
    · omega
    · split at h
      · omega
      · rename_i h1 h2
        have e : a = b := UInt8.le_antisymm (UInt8.not_lt.1 h2) (UInt8.not_lt.1 h1)
        rw [e, cb_eq h]
theorem cb_neg : ∀ (a b : List UInt8), Lib.compareBytes b a = - Lib.compareBytes a b
  | [], [] => rfl
  | [], _ :: _ => rfl
  | _ :: _, [] => rfl
  | a :: x, b :: y => by
    simp only [Lib.compareBytes]
    by_cases h1 : a < b
    · rw [if_pos h1, if_neg (UInt8.not_lt.2 (UInt8.le_of_lt h1)), if_pos h1]; omega
    · by_cases h2 : b < a
      · rw [if_pos h2, if_neg h1, if_pos h2]
      · rw [if_neg h1, if_neg h2, if_neg h2, if_neg h1]
        exact cb_neg x y
theorem cb_lt_trans : ∀ {a b c : List UInt8}, Lib.compareBytes a b < 0 → Lib.compareBytes b c < 0 → Lib.compareBytes a c < 0
  | [], [], _, h, _ => by simp [Lib.compareBytes] at h
  | [], _ :: _, [], _, h => by simp [Lib.compareBytes] at h
  | [], _ :: _, _ :: _, _, _ => by simp [Lib.compareBytes]
  | _ :: _, [], _, h, _ => by simp [Lib.compareBytes] at h
  | _ :: _, _ :: _, [], _, h => by simp [Lib.compareBytes] at h
  | a :: x, b :: y, c :: z, h, k => by
    simp only [Lib.compareBytes] at h k ⊢
    by_cases h1 : a < b
    · by_cases h2 : b < c
      · rw [if_pos (UInt8.lt_trans h1 h2)]; omega
      · rw [if_neg h2] at k
        by_cases h3 : c < b
        · rw [if_pos h3] at k; omega
        · have e : b = c := UInt8.le_antisymm (UInt8.not_lt.1 h3) (UInt8.not_lt.1 h2)
          rw [← e, if_pos h1]; omega
    · rw [if_neg h1] at h
      by_cases h4 : b < a
      · rw [if_pos h4] at h; omega
      · have e : a = b := UInt8.le_antisymm (UInt8.not_lt.1 h4) (UInt8.not_lt.1 h1)
        rw [if_neg h4] at h
        rw [e]
        by_cases h2 : b < c
        · rw [if_pos h2]; omega
        · rw [if_neg h2] at k ⊢
          by_cases h3 : c < b
          · rw [if_pos h3] at k; omega
          · rw [if_neg h3] at k ⊢
            exact cb_lt_trans h k
theorem cb_ge_trans {a b c : List UInt8} (h : ¬ Lib.compareBytes a b < 0) (k : ¬ Lib.compareBytes b c < 0) : ¬ Lib.compareBytes a c < 0 := by
  intro hc
  rcases Int.lt_trichotomy (Lib.compareBytes a b) 0 with h1 | h1 | h1
  · exact h h1
  · rw [cb_eq h1] at hc; exact k hc
  · have h2 : Lib.compareBytes b a < 0 := by rw [cb_neg]; omega
    exact k (cb_lt_trans h2 hc)
/-! ### The order of the places -/
def kcmp (ks : List ByteArray) (x y : Fin ks.length) : Int := Lib.compareBytes ks[x].data.toList ks[y].data.toList
def vOrdF (ks : List ByteArray) : List (Fin ks.length) := (List.finRange ks.length).mergeSort (fun x y => !decide (kcmp ks y x < 0))
/-- the places by their keys -/
def vOrder (ks : List ByteArray) : List Nat := (vOrdF ks).map Fin.val
theorem kcmp_swo (ks : List ByteArray) : SWO (ltOf (kcmp ks)) where
  irrefl x := by unfold ltOf kcmp; rw [cb_self]; simp
  trans x y z h1 h2 := by
    unfold ltOf kcmp at *
    simp only [decide_eq_true_eq] at *
    exact cb_lt_trans h1 h2
  ntrans x y z h1 h2 := by
    unfold ltOf kcmp at *
    simp only [decide_eq_false_iff_not] at *
    exact cb_ge_trans h1 h2
theorem sort_blk {α : Type} [Inhabited α] {enc : α → Value} {w : World} {blk : Nat} {cs : Array Value} {t : TypeId} {D : Array α} (m : Nat) (os : Array Obj) (h : Blk w blk cs t) (hs : cs.size = D.size) :
    Blk (sortWorld enc w blk 0 m D os) blk (D.map enc) t ∧ Only (fun k => k = blk) w (sortWorld enc w blk 0 m D os) := by
  have hlt := h.lt
  have hp : ∀ k, (putRow enc (Sort.ahead w m) blk 0 D).heap[k]? = if blk = k then w.heap[k]?.map (onCells (putCells enc 0 D)) else w.heap[k]? := fun k => by
    simp only [putRow, mapBlock, Sort.ahead, Array.getElem?_modify]
  have hsz : (putRow enc (Sort.ahead w m) blk 0 D).heap.size = w.heap.size := by simp [putRow, mapBlock, Sort.ahead]
  have hg : ∀ k, k < w.heap.size → (sortWorld enc w blk 0 m D os).heap[k]? = (putRow enc (Sort.ahead w m) blk 0 D).heap[k]? := fun k hk => by
    unfold sortWorld
    exact heap_grow_old _ _ (by rw [hsz]; exact hk)
  refine ⟨?_, ⟨rfl, rfl, rfl, ?_, fun k hk hne => ?_⟩⟩
  · show (sortWorld enc w blk 0 m D os).heap[blk]? = _
    rw [hg blk hlt, hp blk, if_pos rfl, show w.heap[blk]? = _ from h]
    simp only [Option.map_some, onCells, Option.some.injEq, Obj.cells.injEq, and_true]
    unfold putCells
    apply Array.ext
    · simp [hs]
    · intro i h1 h2
      simp only [Array.size_mapIdx] at h1
      simp only [Array.getElem_mapIdx, Array.getElem_map]
      rw [if_pos ⟨by omega, by omega⟩, Nat.sub_zero, getElem!_pos D i (by omega)]
  · unfold sortWorld grow
    simp [hsz]
  · rw [hg k hk, hp k, if_neg (fun e => hne e.symm)]
set_option maxRecDepth 100000 in
set_option maxHeartbeats 4000000 in
/-- the closure compares the keys at two places -/
theorem ord1_any (S : Nat → Prop) (ob : Nat) (a : Addr) (v : Vl) (cs : List Value) (x y : Fin v.keys.length) (w : World) (hb : w.cell? ⟨ob, 0, none⟩ = some (.pointer (some a))) (htr : Trs.at S w v.tr cs) (hcel : Cel w a cs) :
    Calls Tryz.prog 102 #[.int .i64 (x.val : Int), .int .i64 (y.val : Int), .pointer (some ⟨ob, 0, none⟩)] w fun e w' => e = .returned (.int .i64 (kcmp v.keys x y)) ∧ w' = w.drew := by
  obtain ⟨A, c, B, d, rfl, _, _, _, _, hks⟩ := Vl.at_iff.1 htr
  obtain ⟨c0, c1, c2, c3, c4, c5⟩ := cel6 hcel
  obtain ⟨q1, e1, g1, _⟩ := hks.str (i := x.val) (s := v.keys[x]) (by simp)
  obtain ⟨q2, e2, g2, _⟩ := hks.str (i := y.val) (s := v.keys[y]) (by simp)
  subst e1
  injection e2 with e2
  subst e2
  have hx := x.isLt
  have hy := y.isLt
  obtain ⟨i, hi⟩ : ∃ i, i = x.val := ⟨_, rfl⟩
  obtain ⟨j, hj⟩ : ∃ j, j = y.val := ⟨_, rfl⟩
  have HSC : Hid (∀ w', Calls Tryz.prog 97 #[.string v.keys[x], .string v.keys[y]] w' fun e w'' => e = .returned (.int .i64 (kcmp v.keys x y)) ∧ w'' = w') := Lib.hid (fun w' => scmp_any _ _ w')
  obtain ⟨z, hz⟩ : ∃ z, z = kcmp v.keys x y := ⟨_, rfl⟩
  obtain ⟨s, hs⟩ : ∃ s, s = v.keys[x] := ⟨_, rfl⟩
  obtain ⟨t, ht⟩ : ∃ t, t = v.keys[y] := ⟨_, rfl⟩
  rw [← hz, ← hs, ← ht] at HSC
  rw [← hs, ← hi] at g1
  rw [← ht, ← hj] at g2
  rw [← hi] at hx
  rw [← hj] at hy
  rw [← hi, ← hj, ← hz]
  have hi2 : (0 : Int) ≤ (i : Int) ∧ (i : Int) < (v.keys.length : Int) := by omega
  have hj2 : (0 : Int) ≤ (j : Int) ∧ (j : Int) < (v.keys.length : Int) := by omega
  clear htr hcel hks hi hj hz hs ht
  go_enter Tryz.func102, Tryz.ntmps102
  go_wp2_with fail
  go_still_tail 15, (by kernel_rfl)
  still_call (HSC.out _)
  repeat still_step
  try refine wpStill_nil ?_
  change wpList _ _ _ _ _ w.drew
  go_wp2_with fail
  go_ret
  exact ⟨rfl, rfl⟩
theorem vDup_far : ∀ {ks pre : List ByteArray}, vDup pre ks = false → ks.Pairwise (fun a b => a ≠ b) ∧ ∀ k ∈ ks, k ∉ pre
  | [], _, _ => ⟨.nil, by simp⟩
  | k :: r, pre, h => by
    unfold vDup at h
    simp only [Bool.or_eq_false_iff] at h
    obtain ⟨h1, h2⟩ := vDup_far h.2
    have hk : k ∉ pre := fun e => by rw [sHas_iff.2 e] at h; cases h.1
    refine ⟨List.pairwise_cons.2 ⟨fun b hb e => ?_, h1⟩, fun z hz => ?_⟩
    · subst e
      exact h2 _ hb (by simp)
    · rcases List.mem_cons.1 hz with rfl | hz
      · exact hk
      · exact fun e => h2 z hz (by simp [e])
theorem keys_apart {ks : List ByteArray} (h : vDup [] ks = false) (x y : Fin ks.length) (e : ks[x] = ks[y]) : x = y := by
  have hp := (vDup_far h).1
  rw [List.pairwise_iff_getElem] at hp
  rcases Nat.lt_trichotomy x.val y.val with h1 | h1 | h1
  · exact absurd e (hp x.val y.val x.isLt y.isLt h1)
  · exact Fin.ext h1
  · exact absurd e.symm (hp y.val x.val y.isLt x.isLt h1)
theorem kcmp_total {ks : List ByteArray} (h : vDup [] ks = false) (x y : Fin ks.length) (h1 : ltOf (kcmp ks) x y = false) (h2 : ltOf (kcmp ks) y x = false) : x = y := by
  unfold ltOf kcmp at h1 h2
  simp only [decide_eq_false_iff_not] at h1 h2
  refine keys_apart h x y (ba_ext (by
    have h3 := cb_neg ks[x].data.toList ks[y].data.toList
    have := cb_eq (a := ks[x].data.toList) (b := ks[y].data.toList) (by omega)
    exact this))
theorem vOrder_len (ks : List ByteArray) : (vOrder ks).length = ks.length := by simp [vOrder, vOrdF]
/-- the sort of the places -/
theorem sortp_any (S : Nat → Prop) (v : Vl) (cs : List Value) (a : Addr) (ob g : Nat) (w : World) (htr : Trs.at (fun k => S k ∧ k < g) w v.tr cs) (hcel : Cel w a cs) (ha : a.block < ob) (hb : Blk w ob #[.pointer (some a)] 110) (hg : Blk w g (cN (List.range v.keys.length)).toArray 3)
    (hd : vDup [] v.keys = false) (hog : ob < g) (hn : v.keys.length ≤ 1000000) :
    Calls Tryz.prog 101 #[.slice (some ⟨g, 0, none⟩) v.keys.length v.keys.length, .func (.func 102) #[] #[.pointer (some ⟨ob, 0, none⟩)]] w fun e w' => e = .returned (.tuple #[]) ∧ Blk w' g (cN (vOrder v.keys)).toArray 3 ∧ Only (fun k => k = g) w w' := by
  by_cases h0 : v.keys.length = 0
  · have hk : v.keys = [] := List.eq_nil_of_length_eq_zero h0
    have h := AnyF.slices_SortFunc_none (P := Tryz.prog) (ρ := renSort) { laySort with } (some ⟨g, 0, none⟩) v.keys.length (.func (.func 102) #[] #[.pointer (some ⟨ob, 0, none⟩)]) w
    rw [h0] at h ⊢
    refine Calls.mono (P := Tryz.prog) h (fun e w' h => ?_)
    obtain ⟨rfl, rfl⟩ := h
    refine ⟨rfl, ?_, Only.refl _ _⟩
    refine hg.eq ?_
    have h9 : (vOrder v.keys).length = 0 := by rw [vOrder_len, h0]
    rw [List.eq_nil_of_length_eq_zero h9, h0]; rfl
  · haveI : Inhabited (Fin v.keys.length) := ⟨⟨0, by omega⟩⟩
    have hsz : ((List.finRange v.keys.length).toArray).size = v.keys.length := by simp
    have h := Any.slices_SortFunc_total (P := Tryz.prog) (ρ := renSort) (α := Fin v.keys.length) laySort (fun x => .int .i64 (x.val : Int)) (fun _ => rfl) (kcmp v.keys) (kcmp_swo v.keys) 102 #[.pointer (some ⟨ob, 0, none⟩)] g 0 v.keys.length (List.finRange v.keys.length).toArray w
      (enters_of Tryz.func102 (by kernel_rfl) rfl) (CmpReads.lays (fun m os dk hs x y => by
        obtain ⟨h1, h2⟩ := sort_blk (enc := fun x : Fin v.keys.length => .int .i64 (x.val : Int)) (D := dk) m os hg (by rw [hs, hsz]; simp [cN])
        refine (ord1_any (fun k => S k ∧ k < g) ob a v cs x y _ ((hb.only h2 (by omega)).cell 0 rfl) (htr.only h2 (fun k hk => by omega)) (hcel.only h2 (by omega))).mono ?_
        rintro e w' ⟨rfl, rfl⟩
        exact ⟨rfl, 1, rfl⟩))
      (fun j hj => by
        rw [hsz] at hj
        rw [Nat.zero_add]
        refine ⟨hg.cell j ?_, hg.frozen j⟩
        rw [getElem!_pos _ j (by rw [hsz]; exact hj)]
        simp [cN, hj]) hg.lt (by rw [hsz]; omega) (kcmp_total hd)
    rw [hsz] at h
    refine Calls.mono (P := Tryz.prog) h (fun e w' h => ?_)
    obtain ⟨rfl, n, os, rfl⟩ := h
    obtain ⟨h1, h2⟩ := sort_blk (enc := fun x : Fin v.keys.length => .int .i64 (x.val : Int)) (D := ((List.finRange v.keys.length).toArray.toList.mergeSort fun x y => !(ltOf (kcmp v.keys)) y x).toArray) n os hg (by simp [cN])
    refine ⟨rfl, h1.eq ?_, h2⟩
    simp [cN, vOrder, vOrdF, ltOf]
set_option maxRecDepth 100000 in
set_option maxHeartbeats 8000000 in
theorem order_any (S : Nat → Prop) (v : Vl) (cs : List Value) (a : Addr) (w : World) (htr : Trs.at S w v.tr cs) (hcel : Cel w a cs) (hd : vDup [] v.keys = false) (hn : v.keys.length ≤ 1000000) :
    Calls Tryz.prog 92 #[.pointer (some a)] w fun e w' => e = .returned (.slice (some ⟨w.heap.size + 1, 0, none⟩) v.keys.length v.keys.length) ∧ Blk w' (w.heap.size + 1) (cN (vOrder v.keys)).toArray 3 ∧ Below w.heap.size w w' := by
  have hmf : ∀ (fn : Fn) (first cap : Array Value) (w : World), (Instr.makeFunc fn first cap).run Tryz.prog w = .ok (.func fn first cap) w := fun _ _ _ _ => rfl
  have hmk : ∀ w', (Instr.makeSlice 98 (.int .i64 (v.keys.length : Int)) (.int .i64 (v.keys.length : Int))).run Tryz.prog w' = .ok (.slice (some ⟨w'.heap.size, 0, none⟩) v.keys.length v.keys.length) (w'.alloc (.cells (cN (List.replicate v.keys.length 0)).toArray 3)) := fun w' => make_cN _ (by omega) w'
  have hb1 : Below w.heap.size w (w.alloc (.cells #[.pointer (some a)] 110)) := (Below.refl _ w).alloc (Nat.le_refl _) _
  obtain ⟨A, c, B, d, rfl, hw1, hw2, hw3, hw4, hks⟩ := Vl.at_iff.1 htr
  obtain ⟨c0, c1, c2, c3, c4, c5⟩ := cel6 (hcel.below hb1)
  have hbw : Below w.heap.size w ((w.alloc (.cells #[.pointer (some a)] 110)).alloc (.cells (cN (List.replicate v.keys.length 0)).toArray 3)) := hb1.alloc (by simp) _
  have kb : Blk ((w.alloc (.cells #[.pointer (some a)] 110)).alloc (.cells (cN (List.replicate v.keys.length 0)).toArray 3)) w.heap.size #[.pointer (some a)] 110 := (Blk.new w _ _).alloc _
  have kg : Blk ((w.alloc (.cells #[.pointer (some a)] 110)).alloc (.cells (cN (List.replicate v.keys.length 0)).toArray 3)) (w.heap.size + 1) (cN (List.replicate v.keys.length 0)).toArray 3 := by
    have := Blk.new (w.alloc (.cells #[.pointer (some a)] 110)) (cN (List.replicate v.keys.length 0)).toArray 3
    rwa [show (w.alloc (.cells #[.pointer (some a)] 110)).heap.size = w.heap.size + 1 by simp] at this
  have HTR := Lib.hid htr
  have HCEL := Lib.hid hcel
  have HD := Lib.hid hd
  have HBW := Lib.hid hbw
  have HKB := Lib.hid kb
  have HKG := Lib.hid kg
  clear htr hcel hd hbw kb kg hw1 hw2 hw3 hw4 hks hb1
  go_enter Tryz.func92, Tryz.ntmps92
  go_wp2_with fail
  go_loopg [13] v.keys.length (fun g i wr => ∃ j : Nat, j + g = v.keys.length ∧ i = .int .i64 (j : Nat) ∧ Hid (Blk wr (w.heap.size + 1) (cN (List.range j ++ List.replicate (v.keys.length - j) 0)).toArray 3) ∧ Hid (Only (fun k => k = w.heap.size + 1) ((w.alloc (.cells #[.pointer (some a)] 110)).alloc (.cells (cN (List.replicate v.keys.length 0)).toArray 3)) wr))
  case atStart => exact ⟨0, by omega, rfl, Lib.hid (by simpa using HKG.out), Lib.hid (Only.refl _ _)⟩
  case round =>
    obtain ⟨j, hj, rfl, HR, HO⟩ := hrel
    rename World => wo
    clear c0 c1 c2 c3 c4 c5
    cases gk with
    | zero =>
      have hjn : j = v.keys.length := by omega
      subst hjn
      have hjj : ¬ ((v.keys.length : Int) < (v.keys.length : Int)) := by omega
      have HB : Hid (Below w.heap.size w wo) := Lib.hid (HBW.out.trans (HO.out.below (by simp; omega) (fun k hk => by omega)))
      have HKO := Lib.hid (HKB.out.only HO.out (by omega))
      have HRO : Hid (Blk wo (w.heap.size + 1) (cN (List.range v.keys.length)).toArray 3) := Lib.hid (by simpa using HR.out)
      have HSO : Hid (Calls Tryz.prog 101 #[.slice (some ⟨w.heap.size + 1, 0, none⟩) v.keys.length v.keys.length, (.func (.func 102) #[] #[.pointer (some ⟨w.heap.size, 0, none⟩)])] wo fun e w' => e = .returned (.tuple #[]) ∧ Blk w' (w.heap.size + 1) (cN (vOrder v.keys)).toArray 3 ∧ Below w.heap.size w w') := Lib.hid (by
        have hs := sortp_any S v _ a w.heap.size (w.heap.size + 1) wo ((HTR.out.bound.below HB.out).mono (fun k hk => ⟨hk.1, by omega⟩)) (HCEL.out.below HB.out) (World.block_lt_of_cell? w _ (HCEL.out 0 _ rfl)) HKO.out HRO.out HD.out (by omega) (by omega)
        exact hs.mono (fun e w' h => ⟨h.1, h.2.1, h.2.2.belowB HB.out (fun k hk => by omega)⟩))
      clear HR HO
      go_wp2_with fail
      refine HSO.out.mono ?_
      rintro e w5 ⟨rfl, hg, hb⟩
      have HG := Lib.hid hg
      have HB5 := Lib.hid hb
      clear hg hb HSO
      go_wp2_with fail
      go_ret
      exact ⟨rfl, HG.out, HB5.out⟩
    | succ g =>
      have hjj : (j : Int) < (v.keys.length : Int) := by omega
      have hj0 : (0 : Int) ≤ (j : Int) ∧ (j : Int) < (v.keys.length : Int) := by omega
      have hcs : (cN (List.range j ++ List.replicate (v.keys.length - j) 0)).toArray[j]? = some (.int .i64 0) := by
        simp only [cN, List.map_append, List.map_replicate]
        simp only [List.getElem?_toArray]
        rw [List.getElem?_append_right (by simp), List.getElem?_replicate]
        simp; omega
      have x0 := HR.out.cell j hcs
      have z0 := HR.out.frozen j
      have HR2 : Hid (Blk (wo.setCell ⟨w.heap.size + 1, j, none⟩ (.int .i64 (j : Int))) (w.heap.size + 1) (cN (List.range (j + 1) ++ List.replicate (v.keys.length - (j + 1)) 0)).toArray 3) := Lib.hid ((HR.out.set j (.int .i64 (j : Int))).eq (by
        apply Array.ext'
        simp only [Array.toList_setIfInBounds, List.toList_toArray]
        rw [show v.keys.length - j = (v.keys.length - (j + 1)) + 1 by omega, List.replicate_succ, List.range_succ]
        simp only [cN, List.map_append, List.map_cons, List.map_nil, List.append_assoc, List.singleton_append]
        rw [List.set_append_right _ _ (by simp)]
        simp))
      have HO2 := Lib.hid (HO.out.setCell ⟨w.heap.size + 1, j, none⟩ (.int .i64 (j : Int)) (fun _ => rfl))
      clear hcs
      go_wp2_with fail
      go_roundg g
      case measure => omega
      case rel => exact ⟨j + 1, by omega, by go_num, HR2, HO2⟩
end Go.Proofs.YtmljdppdaaoehaaGreatDoor
namespace Go.Proofs.YtmljdppdaaoehaaGreatDoor
open Go.RowKit
set_option linter.unusedVariables false
set_option linter.unusedSimpArgs false

def vSort : Nat → Vl → Vl
  | 0, v => v
  | k + 1, v => if v.kind = 5 then ⟨v.kind, v.bool, v.num, v.text, (vOrder v.keys).filterMap fun i => (v.list[i]?).map (vSort k), (vOrder v.keys).filterMap fun i => v.keys[i]?⟩
    else ⟨v.kind, v.bool, v.num, v.text, v.list.map (vSort k), []⟩
/-- an object's keys are as many as its values, and apart; rows that are not too long; k deep -/
def vGood : Nat → Vl → Prop
  | 0, _ => False
  | k + 1, v => (v.kind = 5 → v.keys.length = v.list.length ∧ vDup [] v.keys = false) ∧ v.keys.length ≤ 1000000 ∧ v.list.length ≤ 1000000 ∧ ∀ x ∈ v.list, vGood k x
theorem vOrder_lt {ks : List ByteArray} {j i : Nat} (h : (vOrder ks)[j]? = some i) : i < ks.length := by
  have := List.mem_of_getElem? h
  simp only [vOrder, List.mem_map] at this
  obtain ⟨x, _, rfl⟩ := this
  exact x.isLt
theorem info_val : (Tryz.prog.info? 37).map (fun i => (i.zero, i.size, i.bytes)) = some (some (.agg #[.int .i8 0, .bool false, .int .i64 0, .string ByteArray.empty, .slice none 0 0, .slice none 0 0]), 6, 80) := by kernel_rfl
/-- the blocks that are written -/
def Fq (q : Nat) (LA KA : Option Addr) (k : Nat) : Prop := k = q ∨ blk LA = some k ∨ blk KA = some k
/-- the value under way -/
structure So (b : Nat) (v : Vl) (q : Nat) (LA : Option Addr) (lc : Nat) (xs : List Value) (l : List Vl) (KA : Option Addr) (kc : Nat) (ks : List ByteArray) (w : World) : Prop where
  box : Blk w q #[.int .i8 v.kind, .bool v.bool, .int .i64 v.num, .string v.text, .slice LA l.length lc, .slice KA ks.length kc] 37
  hq : b ≤ q
  ls : Ow w b 37 6 LA l.length lc xs
  kr : Ow w b 9 1 KA ks.length kc (ks.map .string)
  tr : Trs.at (fun k => ¬ Fq q LA KA k ∧ b ≤ k ∧ k < w.heap.size) w (l.flatMap Vl.tr) xs
  bx : blk LA ≠ some q
section
variable {b q : Nat} {v : Vl} {LA KA : Option Addr} {lc kc : Nat} {xs : List Value} {l : List Vl} {ks : List ByteArray} {w w' w5 w6 : World}
theorem So.below (h : So b v q LA lc xs l KA kc ks w) (hb : Below w.heap.size w w') : So b v q LA lc xs l KA kc ks w' :=
  ⟨h.box.below hb, h.hq, h.ls.below hb, h.kr.below hb, Trs.at.keep (fun _ hp _ => hb.cell hp) (fun k hk => ⟨hk.1, hk.2.1, Nat.lt_of_lt_of_le hk.2.2 hb.size⟩) _ _ h.tr, h.bx⟩
theorem So.addL (h : So b v q LA lc xs l KA kc ks w) (hb5 : Below w.heap.size w w5) {x : Vl} {cs : List Value} (ht : Trs.at (fun k => w.heap.size ≤ k) w5 x.tr cs) {A' : Option Addr} {c' : Nat}
    (ho : Ow w6 b 37 6 A' (l.length + 1) c' (xs ++ cs)) (hg : w5.grownBy w6 (blk LA)) (hat : A' = LA ∨ A' = some ⟨w5.heap.size, 0, none⟩) :
    So b v q A' c' (xs ++ cs) (l ++ [x]) KA kc ks (w6.setCell ⟨q, 4, none⟩ (.slice A' (l.length + 1) c')) ∧ Only (fun k => blk LA = some k ∨ k = q) w (w6.setCell ⟨q, 4, none⟩ (.slice A' (l.length + 1) c')) := by
  have hlt := h.box.lt
  have hs5 := hb5.size
  have hs6 := hg.size
  have hbx6 := (h.box.below hb5).grown hg h.bx
  have hnq : blk A' ≠ some q := by
    rcases hat with rfl | rfl
    · exact h.bx
    · simp only [blk, Option.map_some]; intro e; injection e with e; omega
  have hon : Only (fun k => blk LA = some k ∨ k = q) w5 (w6.setCell ⟨q, 4, none⟩ (.slice A' (l.length + 1) c')) := ((Only.refl _ w5).grown hg (fun g hg _ => .inl hg)).setCell _ _ (fun _ => .inr rfl)
  have hkl : blk KA = none ∨ blk KA ≠ blk LA := h.kr.ne h.ls (by decide)
  refine ⟨⟨(hbx6.set 4 _).eq (by simp), h.hq, ?_, ((h.kr.below hb5).grown hg hkl).setOther _ _ (h.kr.ne_blk h.box (by decide)), ?_, hnq⟩, (Only.of_below hb5 _).trans hon (fun i _ hi => hi)⟩
  · have := ho.setOther ⟨q, 4, none⟩ (.slice A' (l.length + 1) c') hnq
    simpa using this
  · rw [List.flatMap_append]
    refine Trs.at.app.2 ⟨_, _, rfl, ?_, ?_⟩
    · refine Trs.at.keep (fun p hp hs => ?_) (fun k hk => ?_) _ _ h.tr
      · have h1 : ¬ (blk LA = some p.block ∨ p.block = q) := fun e => hs.1 (by
          rcases e with e | e
          · exact .inr (.inl e)
          · exact .inl e)
        rw [cell_only hon (Nat.lt_of_lt_of_le hp hs5) h1]
        exact hb5.cell hp
      · refine ⟨fun e => hk.1 ?_, hk.2.1, by simp; omega⟩
        rcases e with e | e | e
        · exact .inl e
        · rcases hat with rfl | rfl
          · exact .inr (.inl e)
          · simp only [blk, Option.map_some] at e; injection e with e; omega
        · exact .inr (.inr e)
    · rw [List.flatMap_singleton]
      refine Trs.at.keep (fun p hp hs => ?_) (fun k hk => ?_) _ _ ht.bound
      · refine cell_only hon hs.2 (fun e => ?_)
        rcases e with e | e
        · have := (h.ls.lt e).2; omega
        · omega
      · refine ⟨fun e => ?_, ?_, by simp; omega⟩
        · rcases e with e | e | e
          · omega
          · rcases hat with rfl | rfl
            · have := (h.ls.lt e).2; omega
            · simp only [blk, Option.map_some] at e; injection e with e; omega
          · have := (h.kr.lt e).2; omega
        · have := h.hq; omega
theorem So.addK (h : So b v q LA lc xs l KA kc ks w) (hb5 : Below w.heap.size w w5) {x : ByteArray} {A' : Option Addr} {c' : Nat}
    (ho : Ow w6 b 9 1 A' (ks.length + 1) c' (ks.map .string ++ [.string x])) (hg : w5.grownBy w6 (blk KA)) (hat : A' = KA ∨ A' = some ⟨w5.heap.size, 0, none⟩) :
    So b v q LA lc xs l A' c' (ks ++ [x]) (w6.setCell ⟨q, 5, none⟩ (.slice A' (ks.length + 1) c')) ∧ Only (fun k => blk KA = some k ∨ k = q) w (w6.setCell ⟨q, 5, none⟩ (.slice A' (ks.length + 1) c')) := by
  have hlt := h.box.lt
  have hs5 := hb5.size
  have hs6 := hg.size
  have hkb := h.kr.ne_blk h.box (by decide)
  have hbx6 := (h.box.below hb5).grown hg hkb
  have hnq : blk A' ≠ some q := by
    rcases hat with rfl | rfl
    · exact hkb
    · simp only [blk, Option.map_some]; intro e; injection e with e; omega
  have hon : Only (fun k => blk KA = some k ∨ k = q) w5 (w6.setCell ⟨q, 5, none⟩ (.slice A' (ks.length + 1) c')) := ((Only.refl _ w5).grown hg (fun g hg _ => .inl hg)).setCell _ _ (fun _ => .inr rfl)
  have hkl : blk LA = none ∨ blk LA ≠ blk KA := h.ls.ne h.kr (by decide)
  refine ⟨⟨(hbx6.set 5 _).eq (by simp), h.hq, ((h.ls.below hb5).grown hg hkl).setOther _ _ h.bx, ?_, ?_, h.bx⟩, (Only.of_below hb5 _).trans hon (fun i _ hi => hi)⟩
  · have := ho.setOther ⟨q, 5, none⟩ (.slice A' (ks.length + 1) c') hnq
    simpa using this
  · refine Trs.at.keep (fun p hp hs => ?_) (fun k hk => ?_) _ _ h.tr
    · have h1 : ¬ (blk KA = some p.block ∨ p.block = q) := fun e => hs.1 (by
        rcases e with e | e
        · exact .inr (.inr e)
        · exact .inl e)
      rw [cell_only hon (Nat.lt_of_lt_of_le hp hs5) h1]
      exact hb5.cell hp
    · refine ⟨fun e => hk.1 ?_, hk.2.1, by simp; omega⟩
      rcases e with e | e | e
      · exact .inl e
      · exact .inr (.inl e)
      · rcases hat with rfl | rfl
        · exact .inr (.inr e)
        · simp only [blk, Option.map_some] at e; injection e with e; omega
/-- the value that has come -/
theorem So.val (h : So b v q LA lc xs l KA kc ks w) (hw1 : (Lit.int .i8 v.kind).wf = true) (hw2 : (Lit.int .i64 v.num).wf = true) (hw3 : v.text.size ≤ 140737488351232) (hl : l.length ≤ 1000000) (hk : ks.length ≤ 1000000) (hks : ∀ s ∈ ks, s.size ≤ 140737488351232) :
    Trs.at (fun k => b ≤ k) w (Vl.tr ⟨v.kind, v.bool, v.num, v.text, l, ks⟩) [.int .i8 v.kind, .bool v.bool, .int .i64 v.num, .string v.text, .slice LA l.length lc, .slice KA ks.length kc] := by
  refine Vl.at_iff.2 ⟨LA, lc, KA, kc, rfl, hw1, hw2, hw3, ⟨by omega, by show l.length * 80 ≤ _; omega, h.ls.cap, h.ls.max, fun ad e h0 => ?_, xs, h.ls.rd, h.tr.mono (fun k hk => hk.2.1)⟩, Ls.mk_strs h.kr.rd (by show ks.length ≤ _; omega) hks (fun ad e h0 => ?_)⟩
  · subst e; exact (h.ls.lt rfl).1
  · subst e; exact (h.kr.lt rfl).1
end
/-- an answer: a value of fresh memory -/
def ValB (x : Vl) (w : World) (e : Ending) (w' : World) : Prop := Below w.heap.size w w' ∧ ∃ A c B d, e = .returned (.agg #[.int .i8 x.kind, .bool x.bool, .int .i64 x.num, .string x.text, .slice A x.list.length c, .slice B x.keys.length d]) ∧ Trs.at (fun k => w.heap.size ≤ k) w' x.tr [.int .i8 x.kind, .bool x.bool, .int .i64 x.num, .string x.text, .slice A x.list.length c, .slice B x.keys.length d]
def SoC (k : Nat) : Prop := ∀ (S : Nat → Prop) (v : Vl) (cs : List Value) (a : Addr) (w : World), vGood k v → Trs.at S w v.tr cs → Cel w a cs → Calls Tryz.prog 84 #[.pointer (some a)] w (ValB (vSort k v) w)
set_option maxRecDepth 100000 in
set_option maxHeartbeats 8000000 in
theorem so_step (k : Nat) (IH : SoC k) : SoC (k + 1) := by
  intro S v cs a w hgd htr hcel
  obtain ⟨A, c, B, d, rfl, hw1, hw2, hw3, hl, hks⟩ := Vl.at_iff.1 htr
  have hal : a.block < w.heap.size := World.block_lt_of_cell? w _ (hcel 0 _ rfl)
  have hlcap := hl.cap
  have hkcap := hks.cap
  obtain ⟨hg1, hg2, hg3, hg4⟩ := hgd
  have HW := Lib.hid (⟨hw1, hw2, hw3⟩ : (Lit.int .i8 v.kind).wf = true ∧ (Lit.int .i64 v.num).wf = true ∧ v.text.size ≤ 140737488351232)
  have HL := Lib.hid hl
  have HKS := Lib.hid hks
  have HTR := Lib.hid htr
  have HCEL := Lib.hid hcel
  have HG := Lib.hid hg1
  have HG4 := Lib.hid hg4
  have HIH := Lib.hid IH
  have hb1 : Below w.heap.size w (w.alloc (.cells #[.int .i8 0, .bool false, .int .i64 0, .string ⟨#[]⟩, .slice none 0 0, .slice none 0 0] 37)) := (Below.refl _ w).alloc (Nat.le_refl _) _
  have HB1 := Lib.hid hb1
  have HKR : Hid (Blk (w.alloc (.cells #[.int .i8 0, .bool false, .int .i64 0, .string ⟨#[]⟩, .slice none 0 0, .slice none 0 0] 37)) w.heap.size #[.int .i8 0, .bool false, .int .i64 0, .string ⟨#[]⟩, .slice none 0 0, .slice none 0 0] 37) := Lib.hid (Blk.new w _ _)
  obtain ⟨c0, c1, c2, c3, c4, c5⟩ := cel6 (hcel.below hb1)
  clear htr hcel hl hks hg1 hg4 IH hb1 hw1 hw2 hw3
  go_enter Tryz.func84, Tryz.ntmps84
  go_upto_region 1 with fail
  go_cut [3] from 7 to 23 (fun v3 wx => v3 = .pointer (some ⟨w.heap.size + 1, 0, none⟩) ∧ Hid (Blk wx (w.heap.size + 1) #[.int .i8 v.kind, .bool v.bool, .int .i64 v.num, .string v.text, .slice none 0 0, .slice none 0 0] 37) ∧ Hid (Blk wx w.heap.size #[.int .i8 0, .bool false, .int .i64 0, .string ⟨#[]⟩, .slice none 0 0, .slice none 0 0] 37) ∧ Hid (Below w.heap.size w wx) ∧ wx.heap.size = w.heap.size + 2)
  case first =>
    go_wp2_with fail
    refine Rg.start 18 (fun w' => w'.cell? a = some (.int .i8 v.kind) ∧ w'.cell? ⟨a.block, a.off + 1, none⟩ = some (.bool v.bool) ∧ w'.cell? ⟨a.block, a.off + 2, none⟩ = some (.int .i64 v.num) ∧ w'.cell? ⟨a.block, a.off + 3, none⟩ = some (.string v.text)) (by kernel_rfl) (by go_keep) (fun hH0 => ?_)
    simp only [List.length_cons, List.length_nil, List.replicate_succ, List.replicate_zero, Nat.zero_add, Nat.reduceAdd]
    refine Rg.take (v := ?_) hH0 0 rfl (by kernel_rfl) (fun _ _ _ h => h) (by rfl) ?_ ?_
    rotate_left
    · (intro w hSw; (try dsimp only at hSw); go_simp <;> with_reducible rfl)
    try simp only [Act.put, List.setIfInBounds_toArray, List.set_cons_zero, List.set_cons_succ]
    refine Rg.take (v := ?_) hH0 1 rfl (by kernel_rfl) (fun _ _ _ h => h) (by rfl) ?_ ?_
    rotate_left
    · (intro w hSw; (try dsimp only at hSw); go_simp <;> with_reducible rfl)
    try simp only [Act.put, List.setIfInBounds_toArray, List.set_cons_zero, List.set_cons_succ]
    refine Rg.take (v := ?_) hH0 2 rfl (by kernel_rfl) (fun _ _ _ h => h) (by rfl) ?_ ?_
    rotate_left
    · (intro w hSw; (try dsimp only at hSw); go_simp <;> with_reducible rfl)
    try simp only [Act.put, List.setIfInBounds_toArray, List.set_cons_zero, List.set_cons_succ]
    refine Rg.take (v := ?_) hH0 3 rfl (by kernel_rfl) (fun _ _ _ h => h) (by rfl) ?_ ?_
    rotate_left
    · (intro w hSw; (try dsimp only at hSw); go_simp <;> with_reducible rfl)
    try simp only [Act.put, List.setIfInBounds_toArray, List.set_cons_zero, List.set_cons_succ]
    refine Rg.take (v := ?_) hH0 4 rfl (by kernel_rfl) (fun _ _ _ h => h) (by rfl) ?_ ?_
    rotate_left
    · (intro w hSw; (try dsimp only at hSw); go_simp <;> with_reducible rfl)
    try simp only [Act.put, List.setIfInBounds_toArray, List.set_cons_zero, List.set_cons_succ]
    refine Rg.take (v := ?_) hH0 5 rfl (by kernel_rfl) (fun _ _ _ h => h) (by rfl) ?_ ?_
    rotate_left
    · (intro w hSw; (try dsimp only at hSw); go_simp <;> with_reducible rfl)
    try simp only [Act.put, List.setIfInBounds_toArray, List.set_cons_zero, List.set_cons_succ]
    refine Rg.take (v := ?_) hH0 6 rfl (by kernel_rfl) (fun _ _ _ h => h) (by rfl) ?_ ?_
    rotate_left
    · (intro w hSw; (try dsimp only at hSw); go_simp <;> with_reducible rfl)
    try simp only [Act.put, List.setIfInBounds_toArray, List.set_cons_zero, List.set_cons_succ]
    refine Rg.take (v := ?_) hH0 7 rfl (by kernel_rfl) (fun _ _ _ h => h) (by rfl) ?_ ?_
    rotate_left
    · (intro w hSw; (try dsimp only at hSw); go_simp <;> with_reducible rfl)
    try simp only [Act.put, List.setIfInBounds_toArray, List.set_cons_zero, List.set_cons_succ]
    refine Rg.take (v := ?_) hH0 8 rfl (by kernel_rfl) (fun _ _ _ h => h) (by rfl) ?_ ?_
    rotate_left
    · (intro w hSw; (try dsimp only at hSw); go_simp <;> with_reducible rfl)
    try simp only [Act.put, List.setIfInBounds_toArray, List.set_cons_zero, List.set_cons_succ]
    refine Rg.take (v := ?_) hH0 9 rfl (by kernel_rfl) (fun _ _ _ h => h) (by rfl) ?_ ?_
    rotate_left
    · (intro w hSw; (try dsimp only at hSw); go_simp <;> with_reducible rfl)
    try simp only [Act.put, List.setIfInBounds_toArray, List.set_cons_zero, List.set_cons_succ]
    refine Rg.take (v := ?_) hH0 10 rfl (by kernel_rfl) (fun _ _ _ h => h) (by rfl) ?_ ?_
    rotate_left
    · (intro w hSw; (try dsimp only at hSw); go_simp <;> with_reducible rfl)
    try simp only [Act.put, List.setIfInBounds_toArray, List.set_cons_zero, List.set_cons_succ]
    refine Rg.take (v := ?_) hH0 11 rfl (by kernel_rfl) (fun _ _ _ h => h) (by rfl) ?_ ?_
    rotate_left
    · (intro w hSw; (try dsimp only at hSw); go_simp <;> with_reducible rfl)
    try simp only [Act.put, List.setIfInBounds_toArray, List.set_cons_zero, List.set_cons_succ]
    refine Rg.take (v := ?_) hH0 12 rfl (by kernel_rfl) (fun _ _ _ h => h) (by rfl) ?_ ?_
    rotate_left
    · (intro w hSw; (try dsimp only at hSw); go_simp <;> with_reducible rfl)
    try simp only [Act.put, List.setIfInBounds_toArray, List.set_cons_zero, List.set_cons_succ]
    refine Rg.take (v := ?_) hH0 13 rfl (by kernel_rfl) (fun _ _ _ h => h) (by rfl) ?_ ?_
    rotate_left
    · (intro w hSw; (try dsimp only at hSw); go_simp <;> with_reducible rfl)
    try simp only [Act.put, List.setIfInBounds_toArray, List.set_cons_zero, List.set_cons_succ]
    refine Rg.take (v := ?_) hH0 14 rfl (by kernel_rfl) (fun _ _ _ h => h) (by rfl) ?_ ?_
    rotate_left
    · (intro w hSw; (try dsimp only at hSw); go_simp <;> with_reducible rfl)
    try simp only [Act.put, List.setIfInBounds_toArray, List.set_cons_zero, List.set_cons_succ]
    refine Rg.take (v := ?_) hH0 15 rfl (by kernel_rfl) (fun _ _ _ h => h) (by rfl) ?_ ?_
    rotate_left
    · (intro w hSw; (try dsimp only at hSw); go_simp <;> with_reducible rfl)
    try simp only [Act.put, List.setIfInBounds_toArray, List.set_cons_zero, List.set_cons_succ]
    refine Rg.take (v := ?_) hH0 16 rfl (by kernel_rfl) (fun _ _ _ h => h) (by rfl) ?_ ?_
    rotate_left
    · (intro w hSw; (try dsimp only at hSw); go_simp <;> with_reducible rfl)
    try simp only [Act.put, List.setIfInBounds_toArray, List.set_cons_zero, List.set_cons_succ]
    refine Rg.step 17 (by kernel_rfl) rfl (fun K hK => ?_)
    go_simp
    refine hK.out _ _ ?_ (fun hH1 => ?_)
    · ((try dsimp only) <;> go_keep)
    clear hK K hH0
    try simp only [Act.put, List.setIfInBounds_toArray, List.set_cons_zero, List.set_cons_succ]
    refine Rg.last (by kernel_rfl) (by kernel_rfl) rfl (fun K hK => ?_)
    go_simp
    refine hK.out _ _ ?_
    clear hK K hH1
    all_goals
      go_wp2_with fail
      go_meet
      refine ⟨rfl, Lib.hid ?_, Lib.hid (((Blk.new w _ _).alloc _).drew), Lib.hid (((Below.refl _ w).alloc (Nat.le_refl _) _).alloc (by simp) _).drew, by simp⟩
      have := Blk.new (w.alloc (.cells #[.int .i8 0, .bool false, .int .i64 0, .string ⟨#[]⟩, .slice none 0 0, .slice none 0 0] 37)) #[.int .i8 v.kind, .bool v.bool, .int .i64 v.num, .string v.text, .slice none 0 0, .slice none 0 0] 37
      rw [show (w.alloc (.cells #[.int .i8 0, .bool false, .int .i64 0, .string ⟨#[]⟩, .slice none 0 0, .slice none 0 0] 37)).heap.size = w.heap.size + 1 by simp] at this
      exact this.drew
  case rest =>
    obtain ⟨rfl, HQ, HR, HBX, hsx⟩ := hcut
    rename World => wx
    clear HKR HB1
    have HS0 : Hid (So (w.heap.size + 1) v (w.heap.size + 1) none 0 [] [] none 0 [] wx) := Lib.hid ⟨HQ.out, Nat.le_refl _, Ow.nil _ _ _ _, Ow.nil _ _ _ _, by simp only [List.flatMap_nil]; exact at_nil.2 rfl, by simp [blk]⟩
    clear c0 c1 c2 c3 c4 c5
    obtain ⟨c0, c1, c2, c3, c4, c5⟩ := cel6 (HCEL.out.below HBX.out)
    by_cases h5 : v.kind = 5
    · have e5 : (v.kind == 5) = true := by simpa using h5
      obtain ⟨hkl, hdup⟩ := HG.out h5
      have HDUP := Lib.hid hdup
      have HKL := Lib.hid hkl
      clear hkl
      have HVS : Hid (vSort (k + 1) v = ⟨v.kind, v.bool, v.num, v.text, (vOrder v.keys).filterMap fun i => (v.list[i]?).map (vSort k), (vOrder v.keys).filterMap fun i => v.keys[i]?⟩) := Lib.hid (by simp only [vSort]; rw [if_pos h5])
      have HOC : Hid (Calls Tryz.prog 92 #[.pointer (some a)] wx fun e w' => e = .returned (.slice (some ⟨w.heap.size + 3, 0, none⟩) v.keys.length v.keys.length) ∧ Blk w' (w.heap.size + 3) (cN (vOrder v.keys)).toArray 3 ∧ Below wx.heap.size wx w') := Lib.hid (by
        have := order_any S v [.int .i8 v.kind, .bool v.bool, .int .i64 v.num, .string v.text, .slice A v.list.length c, .slice B v.keys.length d] a wx (HTR.out.below HBX.out) (HCEL.out.below HBX.out) HDUP.out hg2
        rw [hsx] at this ⊢
        exact this)
      clear h5 HQ hdup
      go_wp2_with fail
      refine HOC.out.mono ?_
      rintro e w1 ⟨rfl, hg, hb⟩
      have HR1 := Lib.hid (HR.out.below hb)
      have HS1 := Lib.hid (HS0.out.below hb)
      have HB1 : Hid (Below w.heap.size w w1) := Lib.hid (HBX.out.trans (hb.mono HBX.out.size))
      have HG1 := Lib.hid hg
      have hs1 := hb.size
      have hs1' := hg.lt
      clear hg hb HOC HR HS0 HBX c0 c1 c2 c3 c4 c5
      go_wp2_with fail
      go_loopg [32] v.keys.length (fun g i wr => ∃ (j : Nat) (LA : Option Addr) (lc : Nat) (xs : List Value) (L : List Vl) (KA : Option Addr) (kc : Nat) (ks : List ByteArray), j + g = v.keys.length ∧ i = .int .i64 (j : Nat) ∧ Hid (L = ((vOrder v.keys).take j).filterMap fun i => (v.list[i]?).map (vSort k)) ∧ Hid (ks = ((vOrder v.keys).take j).filterMap fun i => v.keys[i]?) ∧ Hid (L.length = j ∧ ks.length = j) ∧ L.length ≤ j ∧ ks.length ≤ j ∧ Hid (∀ s ∈ ks, s.size ≤ 140737488351232) ∧ Hid (So (w.heap.size + 1) v (w.heap.size + 1) LA lc xs L KA kc ks wr) ∧ Hid (Blk wr w.heap.size #[.int .i8 0, .bool false, .int .i64 0, .string ⟨#[]⟩, .slice none 0 0, .slice none 0 0] 37) ∧ Hid (Blk wr (w.heap.size + 3) (cN (vOrder v.keys)).toArray 3) ∧ Hid (Below w.heap.size w wr))
      case atStart => exact ⟨0, none, 0, [], [], none, 0, [], by omega, rfl, Lib.hid (by simp), Lib.hid (by simp), Lib.hid ⟨rfl, rfl⟩, Nat.le_refl _, Nat.le_refl _, Lib.hid (by simp), HS1, HR1, HG1, HB1⟩
      case round =>
        obtain ⟨j, LA, lc, xs, L, KA, kc, ks, hj, rfl, HLE, HKE, HLK, hLl, hKl, HKZ, HSO, HRO, HGO, HBO⟩ := hrel
        rename World => wo
        obtain ⟨c0, c1, c2, c3, c4, c5⟩ := cel6 (HCEL.out.below HBO.out)
        obtain ⟨q0, q1, q2, q3, q4, q5⟩ := blk6 HSO.out.box
        cases gk with
        | zero =>
          have hjn : j = v.keys.length := by omega
          have hjj : ¬ ((j : Int) < (v.keys.length : Int)) := by omega
          have HVE : Hid (vSort (k + 1) v = ⟨v.kind, v.bool, v.num, v.text, L, ks⟩) := Lib.hid (by rw [HVS.out, HLE.out, HKE.out, List.take_of_length_le (by rw [vOrder_len]; omega)])
          go_wp2_with ((with_reducible refine is_store ?_); refine wpList_store_blk rfl 37 _ _ rfl w.heap.size #[.int .i8 v.kind, .bool v.bool, .int .i64 v.num, .string v.text, .slice LA L.length lc, .slice KA ks.length kc] #[.int .i8 0, .bool false, .int .i64 0, .string ⟨#[]⟩, .slice none 0 0, .slice none 0 0] 37 rfl rfl HRO.out rfl (by kernel_rfl) (by simp [Value.oneCell']) ?_; intro w5 hk5 ho5; have HK5 := Lib.hid hk5; have HO5 := Lib.hid ho5; clear hk5 ho5)
          obtain ⟨r0, r1, r2, r3, r4, r5⟩ := blk6 HK5.out
          refine bodyPost_ret (v := .agg #[.int .i8 v.kind, .bool v.bool, .int .i64 v.num, .string v.text, .slice LA L.length lc, .slice KA ks.length kc]) (by simp [results, Tryz.results84, go_sem, r0, r1, r2, r3, r4, r5]) rfl ?_
          rw [HVE.out]
          have hval := HSO.out.val HW.out.1 HW.out.2.1 HW.out.2.2 (by omega) (by omega) HKZ.out
          refine ⟨HO5.out.belowB HBO.out (fun k hk => by omega), LA, lc, KA, kc, rfl, ?_⟩
          exact (hval.only HO5.out (fun k hk e => by omega)).mono (fun k hk => by omega)
        | succ g =>
          have hjj : (j : Int) < (v.keys.length : Int) := by omega
          have hj0 : (0 : Int) ≤ (j : Int) ∧ (j : Int) < (v.keys.length : Int) := by omega
          obtain ⟨ix, hix⟩ := get_lt (l := vOrder v.keys) (i := j) (by rw [vOrder_len]; omega)
          have hixl := vOrder_lt hix
          have hi0 : (0 : Int) ≤ (ix : Int) ∧ (ix : Int) < (v.keys.length : Int) := by omega
          have hi1 : (0 : Int) ≤ (ix : Int) ∧ (ix : Int) < (v.list.length : Int) := by have := HKL.out; omega
          obtain ⟨x, hx⟩ := get_lt (l := v.list) (i := ix) (by have := HKL.out; omega)
          obtain ⟨s, hs⟩ := get_lt (l := v.keys) (i := ix) (by omega)
          obtain ⟨ad, xcs, rfl, hxt, hxc⟩ := HL.out.elem Vl.trlen hx
          obtain ⟨bd, rfl, hsc, hsz⟩ := HKS.out.str hs
          have g0 := HGO.out.cell j (v := .int .i64 (ix : Int)) (by simp [cN, hix])
          obtain ⟨y, hy⟩ : ∃ y, y = vSort k x := ⟨_, rfl⟩
          have HCL : Hid (∀ w', Below w.heap.size w w' → Calls Tryz.prog 84 #[.pointer (some (ad.add (ix * 6)))] w' (ValB y w')) := Lib.hid (fun w' hb2 => by
            rw [hy]
            exact HIH.out S x xcs _ w' (HG4.out x (List.mem_of_getElem? hx)) (hxt.below hb2) (hxc.below hb2))
          have HLE2 : Hid (L ++ [y] = ((vOrder v.keys).take (j + 1)).filterMap fun i => (v.list[i]?).map (vSort k)) := Lib.hid (by rw [HLE.out, List.take_add_one, hix, hy]; simp [hx])
          have HKE2 : Hid (ks ++ [s] = ((vOrder v.keys).take (j + 1)).filterMap fun i => v.keys[i]?) := Lib.hid (by rw [HKE.out, List.take_add_one, hix]; simp [hs])
          have s0 := (HBO.out.cell (World.block_lt_of_cell? w _ hsc)).trans hsc
          have HBD : Hid ((bd.add ix).block < w.heap.size) := Lib.hid (World.block_lt_of_cell? w _ hsc)
          have HKZ2 : Hid (∀ r ∈ ks ++ [s], r.size ≤ 140737488351232) := Lib.hid (by intro r hr; rcases List.mem_append.1 hr with hr | hr; exact HKZ.out r hr; rw [List.mem_singleton.1 hr]; exact hsz)
          clear hx hs hxt hxc hy hsc hsz hix
          go_wp2_with fail
          refine Rg.start 12 (fun w' => w'.cell? ⟨w.heap.size + 1, 5, none⟩ = some (.slice KA ks.length kc) ∧ w'.cell? ⟨a.block, a.off + 5, none⟩ = some (.slice (some bd) v.keys.length d) ∧ w'.cell? (bd.add ix) = some (.string s)) (by kernel_rfl) (by go_keep) (fun hH0 => ?_)
          simp only [List.length_cons, List.length_nil, List.replicate_succ, List.replicate_zero, Nat.zero_add, Nat.reduceAdd]
          refine Rg.take (v := ?_) hH0 0 rfl (by kernel_rfl) (fun _ _ _ h => h) (by rfl) ?_ ?_
          rotate_left
          · (intro w hSw; (try dsimp only at hSw); go_simp <;> with_reducible rfl)
          try simp only [Act.put, List.setIfInBounds_toArray, List.set_cons_zero, List.set_cons_succ]
          refine Rg.take (v := ?_) hH0 1 rfl (by kernel_rfl) (fun _ _ _ h => h) (by rfl) ?_ ?_
          rotate_left
          · (intro w hSw; (try dsimp only at hSw); go_simp <;> with_reducible rfl)
          try simp only [Act.put, List.setIfInBounds_toArray, List.set_cons_zero, List.set_cons_succ]
          refine Rg.take (v := ?_) hH0 2 rfl (by kernel_rfl) (fun _ _ _ h => h) (by rfl) ?_ ?_
          rotate_left
          · (intro w hSw; (try dsimp only at hSw); go_simp <;> with_reducible rfl)
          try simp only [Act.put, List.setIfInBounds_toArray, List.set_cons_zero, List.set_cons_succ]
          refine Rg.take (v := ?_) hH0 3 rfl (by kernel_rfl) (fun _ _ _ h => h) (by rfl) ?_ ?_
          rotate_left
          · (intro w hSw; (try dsimp only at hSw); go_simp <;> with_reducible rfl)
          try simp only [Act.put, List.setIfInBounds_toArray, List.set_cons_zero, List.set_cons_succ]
          refine Rg.take (v := ?_) hH0 4 rfl (by kernel_rfl) (fun _ _ _ h => h) (by rfl) ?_ ?_
          rotate_left
          · (intro w hSw; (try dsimp only at hSw); go_simp <;> with_reducible rfl)
          try simp only [Act.put, List.setIfInBounds_toArray, List.set_cons_zero, List.set_cons_succ]
          refine Rg.take (v := ?_) hH0 5 rfl (by kernel_rfl) (fun _ _ _ h => h) (by rfl) ?_ ?_
          rotate_left
          · (intro w hSw; (try dsimp only at hSw); go_simp <;> with_reducible rfl)
          try simp only [Act.put, List.setIfInBounds_toArray, List.set_cons_zero, List.set_cons_succ]
          refine Rg.take (v := ?_) hH0 6 rfl (by kernel_rfl) (fun _ _ _ h => h) (by rfl) ?_ ?_
          rotate_left
          · (intro w hSw; (try dsimp only at hSw); go_simp <;> with_reducible rfl)
          try simp only [Act.put, List.setIfInBounds_toArray, List.set_cons_zero, List.set_cons_succ]
          refine Rg.take (v := ?_) hH0 7 rfl (by kernel_rfl) (fun _ _ _ h => h) (by rfl) ?_ ?_
          rotate_left
          · (intro w hSw; (try dsimp only at hSw); go_simp <;> with_reducible rfl)
          try simp only [Act.put, List.setIfInBounds_toArray, List.set_cons_zero, List.set_cons_succ]
          refine Rg.take (v := ?_) hH0 8 rfl (by kernel_rfl) (fun _ _ _ h => h) (by rfl) ?_ ?_
          rotate_left
          · (intro w hSw; (try dsimp only at hSw); go_simp <;> with_reducible rfl)
          try simp only [Act.put, List.setIfInBounds_toArray, List.set_cons_zero, List.set_cons_succ]
          refine Rg.step 9 (by kernel_rfl) rfl (fun K hK => ?_)
          go_simp
          refine hK.out _ _ ?_ (fun hH1 => ?_)
          · ((try dsimp only) <;> go_keep)
          clear hK K hH0
          try simp only [Act.put, List.setIfInBounds_toArray, List.set_cons_zero, List.set_cons_succ]
          refine Rg.step 10 (by kernel_rfl) rfl (fun K hK => ?_)
          refine step_row info_str Tryz.underlying35 rfl (by omega) rfl (.tmp 37) (.tmp 45) rfl (w.heap.size + 1) KA kc ks.length (ks.map .string) (by rfl) (HSO.out.kr.drew.alloc (.cells #[.string s] 9)) (some ⟨wo.drew.heap.size, 0, none⟩) 1 1 [.string s] (by rfl) (Rd.lit wo.drew 1 1 #[.string s] 9 (0, 0) rfl (by simp [maxLen])) (by simp [Value.oneCell']) (by omega) (by omega) (by have := HSO.out.box.lt; simp; omega) ?_; intro A6 c6 w6 ho6 hg6 hat6; have HO6 := Lib.hid ho6; have HG6 := Lib.hid hg6; have HT6 := Lib.hid hat6; have hbA : Below wo.heap.size wo (wo.drew.alloc (.cells #[.string s] 9)) := (Below.refl _ wo).drew.alloc (Nat.le_refl _) _; have HBA6 := Lib.hid hbA; have hk6 := (HSO.out.box.below hbA).grown hg6 (HSO.out.kr.ne_blk HSO.out.box (by decide)); have f6 := hk6.frozen 5; have g6 := hk6.cell 5 (v := .slice KA ks.length kc) rfl; have hon6 : Only (fun k => blk KA = some k) wo w6 := ((Only.of_below hbA _).grown hg6 (fun g hg _ => hg)); obtain ⟨y0, y1, y2, y3, y4, y5⟩ := cel6 ((HCEL.out.below HBO.out).only hon6 (fun e => by have := (HSO.out.kr.lt e).1; omega)); have z0 := (cell_only hon6 (p := bd.add ix) (Nat.lt_of_lt_of_le HBD.out HBO.out.size) (fun e => by have h1 := (HSO.out.kr.lt e).1; have h2 := HBD.out; omega)).trans s0; clear ho6 hg6 hat6 hk6 hbA hon6
          refine hK.out _ _ ?_ (fun hH2 => ?_)
          · ((try dsimp only) <;> go_keep)
          clear hK K hH1
          try simp only [Act.put, List.setIfInBounds_toArray, List.set_cons_zero, List.set_cons_succ]
          refine Rg.take (v := ?_) hH2 11 rfl (by kernel_rfl) (fun _ _ _ h => h) (by rfl) ?_ ?_
          rotate_left
          · (intro w hSw; (try dsimp only at hSw); go_simp <;> with_reducible rfl)
          try simp only [Act.put, List.setIfInBounds_toArray, List.set_cons_zero, List.set_cons_succ]
          refine Rg.last (by kernel_rfl) (by kernel_rfl) rfl (fun K hK => ?_)
          go_simp
          refine hK.out _ _ ?_
          clear hK K hH2
          all_goals
            obtain ⟨h1, h2⟩ := HSO.out.addK HBA6.out HO6.out HG6.out HT6.out
            have hF : ∀ k, (blk KA = some k ∨ k = w.heap.size + 1) → w.heap.size + 1 ≤ k ∧ k ≠ w.heap.size + 3 := fun k e => e.elim (fun e => ⟨(HSO.out.kr.lt e).1, fun e2 => HSO.out.kr.ne_blk HGO.out (by decide) (by rw [e, e2])⟩) (fun e => by omega)
            have HA := Lib.hid h1
            have HRA := Lib.hid (HRO.out.only h2 (fun e => by have := hF _ e; omega))
            have HGA := Lib.hid (HGO.out.only h2 (fun e => (hF _ e).2 rfl))
            have HBA := Lib.hid (h2.belowB HBO.out (fun k e => by have := hF _ e; omega))
            clear h1 h2 hF HBA6 HG6 HT6 HO6 HSO HRO HGO HBO f6 g6 c0 c1 c2 c3 c4 c5 q0 q1 q2 q3 q4 q5 s0 g0
            obtain ⟨wv, hwv⟩ : ∃ wv, wv = w6.setCell ⟨w.heap.size + 1, 5, none⟩ (.slice A6 (ks.length + 1) c6) := ⟨_, rfl⟩
            rw [← hwv] at HA HRA HGA HBA
            rw [← hwv]
            clear hwv y0 y1 y2 y3 y4 y5 z0
            obtain ⟨c0, c1, c2, c3, c4, c5⟩ := cel6 (HCEL.out.below HBA.out)
            obtain ⟨q0, q1, q2, q3, q4, q5⟩ := blk6 HA.out.box
            go_wp2_with fail
            refine Rg.start 12 (fun w' => w'.cell? ⟨w.heap.size + 1, 4, none⟩ = some (.slice LA L.length lc) ∧ w'.cell? ⟨a.block, a.off + 4, none⟩ = some (.slice (some ad) v.list.length c)) (by kernel_rfl) (by go_keep) (fun hH0 => ?_)
            simp only [List.length_cons, List.length_nil, List.replicate_succ, List.replicate_zero, Nat.zero_add, Nat.reduceAdd]
            refine Rg.take (v := ?_) hH0 0 rfl (by kernel_rfl) (fun _ _ _ h => h) (by rfl) ?_ ?_
            rotate_left
            · (intro w hSw; (try dsimp only at hSw); go_simp <;> with_reducible rfl)
            try simp only [Act.put, List.setIfInBounds_toArray, List.set_cons_zero, List.set_cons_succ]
            refine Rg.take (v := ?_) hH0 1 rfl (by kernel_rfl) (fun _ _ _ h => h) (by rfl) ?_ ?_
            rotate_left
            · (intro w hSw; (try dsimp only at hSw); go_simp <;> with_reducible rfl)
            try simp only [Act.put, List.setIfInBounds_toArray, List.set_cons_zero, List.set_cons_succ]
            refine Rg.take (v := ?_) hH0 2 rfl (by kernel_rfl) (fun _ _ _ h => h) (by rfl) ?_ ?_
            rotate_left
            · (intro w hSw; (try dsimp only at hSw); go_simp <;> with_reducible rfl)
            try simp only [Act.put, List.setIfInBounds_toArray, List.set_cons_zero, List.set_cons_succ]
            refine Rg.take (v := ?_) hH0 3 rfl (by kernel_rfl) (fun _ _ _ h => h) (by rfl) ?_ ?_
            rotate_left
            · (intro w hSw; (try dsimp only at hSw); go_simp <;> with_reducible rfl)
            try simp only [Act.put, List.setIfInBounds_toArray, List.set_cons_zero, List.set_cons_succ]
            refine Rg.take (v := ?_) hH0 4 rfl (by kernel_rfl) (fun _ _ _ h => h) (by rfl) ?_ ?_
            rotate_left
            · (intro w hSw; (try dsimp only at hSw); go_simp <;> with_reducible rfl)
            try simp only [Act.put, List.setIfInBounds_toArray, List.set_cons_zero, List.set_cons_succ]
            refine Rg.take (v := ?_) hH0 5 rfl (by kernel_rfl) (fun _ _ _ h => h) (by rfl) ?_ ?_
            rotate_left
            · (intro w hSw; (try dsimp only at hSw); go_simp <;> with_reducible rfl)
            try simp only [Act.put, List.setIfInBounds_toArray, List.set_cons_zero, List.set_cons_succ]
            refine Rg.take (v := ?_) hH0 6 rfl (by kernel_rfl) (fun _ _ _ h => h) (by rfl) ?_ ?_
            rotate_left
            · (intro w hSw; (try dsimp only at hSw); go_simp <;> with_reducible rfl)
            try simp only [Act.put, List.setIfInBounds_toArray, List.set_cons_zero, List.set_cons_succ]
            refine Rg.take (v := ?_) hH0 7 rfl (by kernel_rfl) (fun _ _ _ h => h) (by rfl) ?_ ?_
            rotate_left
            · (intro w hSw; (try dsimp only at hSw); go_simp <;> with_reducible rfl)
            try simp only [Act.put, List.setIfInBounds_toArray, List.set_cons_zero, List.set_cons_succ]
            refine Rg.step 8 (by kernel_rfl) rfl (fun K hK => ?_)
            go_simp; go_at_call 84; (with_reducible refine (HCL.out wv.drew HBA.out.drew).mono ?_); rintro e w5 ⟨hb5, A5, n5, B5, m5, rfl, ht5⟩; have hb5' : Below wv.heap.size wv w5 := (Below.refl _ wv).drew.trans hb5; have k4 := (HA.out.box.below hb5').cell 4 (v := .slice LA L.length lc) rfl; obtain ⟨u0, u1, u2, u3, u4, u5⟩ := cel6 ((HCEL.out.below HBA.out).below hb5'); have hz5 := hb5'.size; have HB5 := Lib.hid hb5'; have HT5 := Lib.hid ht5; clear hb5 hb5' ht5
            refine hK.out _ _ ?_ (fun hH1 => ?_)
            · ((try dsimp only) <;> go_keep)
            clear hK K hH0
            try simp only [Act.put, List.setIfInBounds_toArray, List.set_cons_zero, List.set_cons_succ]
            refine Rg.step 9 (by kernel_rfl) rfl (fun K hK => ?_)
            go_simp
            refine hK.out _ _ ?_ (fun hH2 => ?_)
            · ((try dsimp only) <;> go_keep)
            clear hK K hH1
            try simp only [Act.put, List.setIfInBounds_toArray, List.set_cons_zero, List.set_cons_succ]
            refine Rg.step 10 (by kernel_rfl) rfl (fun K hK => ?_)
            refine step_row info_val Tryz.underlying34 rfl (by omega) rfl (.tmp 49) (.tmp 57) rfl (w.heap.size + 1) LA lc L.length xs (by rfl) ((HA.out.ls.below HB5.out).alloc (.cells #[.int .i8 y.kind, .bool y.bool, .int .i64 y.num, .string y.text, .slice A5 y.list.length n5, .slice B5 y.keys.length m5] 37)) (some ⟨w5.heap.size, 0, none⟩) 1 1 [.int .i8 y.kind, .bool y.bool, .int .i64 y.num, .string y.text, .slice A5 y.list.length n5, .slice B5 y.keys.length m5] (by rfl) (Rd.lit w5 6 1 #[.int .i8 y.kind, .bool y.bool, .int .i64 y.num, .string y.text, .slice A5 y.list.length n5, .slice B5 y.keys.length m5] 37 (0, 0) rfl (by simp [maxLen])) (by simp [Value.oneCell']) (by omega) (by omega) (by have := HA.out.box.lt; simp; omega) ?_; intro A8 c8 w8 ho8 hg8 hat8; have HO8 := Lib.hid ho8; have HG8 := Lib.hid hg8; have HT8 := Lib.hid hat8; have hbA : Below wv.heap.size wv (w5.alloc (.cells #[.int .i8 y.kind, .bool y.bool, .int .i64 y.num, .string y.text, .slice A5 y.list.length n5, .slice B5 y.keys.length m5] 37)) := HB5.out.alloc HB5.out.size _; have hk6 := (HA.out.box.below hbA).grown hg8 HA.out.bx; have f6 := hk6.frozen 4; have g6 := hk6.cell 4 (v := .slice LA L.length lc) rfl; have hon6 : Only (fun k => blk LA = some k) wv w8 := ((Only.of_below hbA _).grown hg8 (fun g hg _ => hg)); obtain ⟨y0, y1, y2, y3, y4, y5⟩ := cel6 ((HCEL.out.below HBA.out).only hon6 (fun e => by have := (HA.out.ls.lt e).1; omega)); clear ho8 hg8 hat8 hk6 hbA hon6
            refine hK.out _ _ ?_ (fun hH3 => ?_)
            · ((try dsimp only) <;> go_keep)
            clear hK K hH2
            try simp only [Act.put, List.setIfInBounds_toArray, List.set_cons_zero, List.set_cons_succ]
            refine Rg.take (v := ?_) hH3 11 rfl (by kernel_rfl) (fun _ _ _ h => h) (by rfl) ?_ ?_
            rotate_left
            · (intro w hSw; (try dsimp only at hSw); go_simp <;> with_reducible rfl)
            try simp only [Act.put, List.setIfInBounds_toArray, List.set_cons_zero, List.set_cons_succ]
            refine Rg.last (by kernel_rfl) (by kernel_rfl) rfl (fun K hK => ?_)
            go_simp
            refine hK.out _ _ ?_
            clear hK K hH3
            all_goals
              go_wp2_with fail
              obtain ⟨h1, h2⟩ := HA.out.addL (HB5.out.alloc HB5.out.size (.cells #[.int .i8 y.kind, .bool y.bool, .int .i64 y.num, .string y.text, .slice A5 y.list.length n5, .slice B5 y.keys.length m5] 37)) (HT5.out.alloc _) HO8.out HG8.out HT8.out
              have hF : ∀ k, (blk LA = some k ∨ k = w.heap.size + 1) → w.heap.size + 1 ≤ k ∧ k ≠ w.heap.size + 3 := fun k e => e.elim (fun e => ⟨(HA.out.ls.lt e).1, fun e2 => HA.out.ls.ne_blk HGA.out (by decide) (by rw [e, e2])⟩) (fun e => by omega)
              have HE := Lib.hid h1
              have HRE := Lib.hid (HRA.out.only h2 (fun e => by have := hF _ e; omega))
              have HGE := Lib.hid (HGA.out.only h2 (fun e => (hF _ e).2 rfl))
              have HBE := Lib.hid (h2.belowB HBA.out (fun k e => by have := hF _ e; omega))
              go_roundg g
              case measure => omega
              case rel => exact ⟨j + 1, A8, c8, xs ++ [.int .i8 y.kind, .bool y.bool, .int .i64 y.num, .string y.text, .slice A5 y.list.length n5, .slice B5 y.keys.length m5], L ++ [y], A6, c6, ks ++ [s], by omega, by go_num, HLE2, HKE2, Lib.hid (by have := HLK.out; simp; omega), by simp; omega, by simp; omega, HKZ2, HE, HRE, HGE, HBE⟩
    · have e5 : (v.kind == 5) = false := by simpa using h5
      have HVS : Hid (vSort (k + 1) v = ⟨v.kind, v.bool, v.num, v.text, v.list.map (vSort k), []⟩) := Lib.hid (by simp only [vSort]; rw [if_neg h5])
      clear h5 HQ
      go_wp2_with fail
      go_loopg [67] v.list.length (fun g i wr => ∃ (j : Nat) (LA : Option Addr) (lc : Nat) (xs : List Value) (L : List Vl), j + g = v.list.length ∧ i = .int .i64 (j : Nat) ∧ Hid (L = (v.list.take j).map (vSort k)) ∧ L.length ≤ 1000000 ∧ Hid (So (w.heap.size + 1) v (w.heap.size + 1) LA lc xs L none 0 [] wr) ∧ Hid (Blk wr w.heap.size #[.int .i8 0, .bool false, .int .i64 0, .string ⟨#[]⟩, .slice none 0 0, .slice none 0 0] 37) ∧ Hid (Below w.heap.size w wr) ∧ w.heap.size + 2 ≤ wr.heap.size)
      case atStart => exact ⟨0, none, 0, [], [], by omega, rfl, Lib.hid (by simp), by simp, HS0, HR, HBX, by omega⟩
      case round =>
        obtain ⟨j, LA, lc, xs, L, hj, rfl, HLE, hLL, HSO, HRO, HBO, hso⟩ := hrel
        rename World => wo
        clear c0 c1 c2 c3 c4 c5
        obtain ⟨c0, c1, c2, c3, c4, c5⟩ := cel6 (HCEL.out.below HBO.out)
        obtain ⟨q0, q1, q2, q3, q4, q5⟩ := blk6 HSO.out.box
        cases gk with
        | zero =>
          have hjj : ¬ ((j : Int) < (v.list.length : Int)) := by omega
          have HVE : Hid (vSort (k + 1) v = ⟨v.kind, v.bool, v.num, v.text, L, []⟩) := Lib.hid (by rw [HVS.out, HLE.out, List.take_of_length_le (by omega)])
          go_wp2_with ((with_reducible refine is_store ?_); refine wpList_store_blk rfl 37 _ _ rfl w.heap.size #[.int .i8 v.kind, .bool v.bool, .int .i64 v.num, .string v.text, .slice LA L.length lc, .slice none 0 0] #[.int .i8 0, .bool false, .int .i64 0, .string ⟨#[]⟩, .slice none 0 0, .slice none 0 0] 37 rfl rfl HRO.out rfl (by kernel_rfl) (by simp [Value.oneCell']) ?_; intro w5 hk5 ho5; have HK5 := Lib.hid hk5; have HO5 := Lib.hid ho5; clear hk5 ho5)
          obtain ⟨r0, r1, r2, r3, r4, r5⟩ := blk6 HK5.out
          refine bodyPost_ret (v := .agg #[.int .i8 v.kind, .bool v.bool, .int .i64 v.num, .string v.text, .slice LA L.length lc, .slice none 0 0]) (by simp [results, Tryz.results84, go_sem, r0, r1, r2, r3, r4, r5]) rfl ?_
          rw [HVE.out]
          have hval := HSO.out.val HW.out.1 HW.out.2.1 HW.out.2.2 hLL (by simp) (by simp)
          refine ⟨HO5.out.belowB HBO.out (fun k hk => by omega), LA, lc, none, 0, rfl, ?_⟩
          exact (hval.only HO5.out (fun k hk e => by omega)).mono (fun k hk => by omega)
        | succ g =>
          have hjj : (j : Int) < (v.list.length : Int) := by omega
          have hj0 : (0 : Int) ≤ (j : Int) ∧ (j : Int) < (v.list.length : Int) := by omega
          obtain ⟨x, hx⟩ := get_lt (l := v.list) (i := j) (by omega)
          obtain ⟨ad, xcs, rfl, hxt, hxc⟩ := HL.out.elem Vl.trlen hx
          obtain ⟨y, hy⟩ : ∃ y, y = vSort k x := ⟨_, rfl⟩
          have HCL : Hid (∀ w', Below wo.heap.size wo w' → Calls Tryz.prog 84 #[.pointer (some (ad.add (j * 6)))] w' (ValB y w')) := Lib.hid (fun w' hb => by
            have hb2 : Below w.heap.size w w' := HBO.out.trans (hb.mono HBO.out.size)
            rw [hy]
            exact HIH.out S x xcs _ w' (HG4.out x (List.mem_of_getElem? hx)) (hxt.below hb2) (hxc.below hb2))
          have HLE2 : Hid (L ++ [y] = (v.list.take (j + 1)).map (vSort k)) := Lib.hid (by rw [HLE.out, List.take_add_one, hx, hy]; simp)
          have hLj : L.length + 1 ≤ 1000000 := by
            have := congrArg List.length HLE.out
            simp at this; omega
          clear hx hxt hxc hy
          go_wp2_with fail
          refine Rg.start 12 (fun w' => w'.cell? ⟨w.heap.size + 1, 4, none⟩ = some (.slice LA L.length lc) ∧ w'.cell? ⟨a.block, a.off + 4, none⟩ = some (.slice (some ad) v.list.length c)) (by kernel_rfl) (by go_keep) (fun hH0 => ?_)
          simp only [List.length_cons, List.length_nil, List.replicate_succ, List.replicate_zero, Nat.zero_add, Nat.reduceAdd]
          refine Rg.take (v := ?_) hH0 0 rfl (by kernel_rfl) (fun _ _ _ h => h) (by rfl) ?_ ?_
          rotate_left
          · (intro w hSw; (try dsimp only at hSw); go_simp <;> with_reducible rfl)
          try simp only [Act.put, List.setIfInBounds_toArray, List.set_cons_zero, List.set_cons_succ]
          refine Rg.take (v := ?_) hH0 1 rfl (by kernel_rfl) (fun _ _ _ h => h) (by rfl) ?_ ?_
          rotate_left
          · (intro w hSw; (try dsimp only at hSw); go_simp <;> with_reducible rfl)
          try simp only [Act.put, List.setIfInBounds_toArray, List.set_cons_zero, List.set_cons_succ]
          refine Rg.take (v := ?_) hH0 2 rfl (by kernel_rfl) (fun _ _ _ h => h) (by rfl) ?_ ?_
          rotate_left
          · (intro w hSw; (try dsimp only at hSw); go_simp <;> with_reducible rfl)
          try simp only [Act.put, List.setIfInBounds_toArray, List.set_cons_zero, List.set_cons_succ]
          refine Rg.take (v := ?_) hH0 3 rfl (by kernel_rfl) (fun _ _ _ h => h) (by rfl) ?_ ?_
          rotate_left
          · (intro w hSw; (try dsimp only at hSw); go_simp <;> with_reducible rfl)
          try simp only [Act.put, List.setIfInBounds_toArray, List.set_cons_zero, List.set_cons_succ]
          refine Rg.take (v := ?_) hH0 4 rfl (by kernel_rfl) (fun _ _ _ h => h) (by rfl) ?_ ?_
          rotate_left
          · (intro w hSw; (try dsimp only at hSw); go_simp <;> with_reducible rfl)
          try simp only [Act.put, List.setIfInBounds_toArray, List.set_cons_zero, List.set_cons_succ]
          refine Rg.take (v := ?_) hH0 5 rfl (by kernel_rfl) (fun _ _ _ h => h) (by rfl) ?_ ?_
          rotate_left
          · (intro w hSw; (try dsimp only at hSw); go_simp <;> with_reducible rfl)
          try simp only [Act.put, List.setIfInBounds_toArray, List.set_cons_zero, List.set_cons_succ]
          refine Rg.take (v := ?_) hH0 6 rfl (by kernel_rfl) (fun _ _ _ h => h) (by rfl) ?_ ?_
          rotate_left
          · (intro w hSw; (try dsimp only at hSw); go_simp <;> with_reducible rfl)
          try simp only [Act.put, List.setIfInBounds_toArray, List.set_cons_zero, List.set_cons_succ]
          refine Rg.take (v := ?_) hH0 7 rfl (by kernel_rfl) (fun _ _ _ h => h) (by rfl) ?_ ?_
          rotate_left
          · (intro w hSw; (try dsimp only at hSw); go_simp <;> with_reducible rfl)
          try simp only [Act.put, List.setIfInBounds_toArray, List.set_cons_zero, List.set_cons_succ]
          refine Rg.step 8 (by kernel_rfl) rfl (fun K hK => ?_)
          go_simp; go_at_call 84; (with_reducible refine (HCL.out wo.drew (Below.refl _ wo).drew).mono ?_); rintro e w5 ⟨hb5, A5, n5, B5, m5, rfl, ht5⟩; have hb5' : Below wo.heap.size wo w5 := (Below.refl _ wo).drew.trans hb5; have k4 := (HSO.out.box.below hb5').cell 4 (v := .slice LA L.length lc) rfl; obtain ⟨u0, u1, u2, u3, u4, u5⟩ := cel6 ((HCEL.out.below HBO.out).below hb5'); have hz5 := hb5'.size; have HB5 := Lib.hid hb5'; have HT5 := Lib.hid ht5; clear hb5 hb5' ht5
          refine hK.out _ _ ?_ (fun hH1 => ?_)
          · ((try dsimp only) <;> go_keep)
          clear hK K hH0
          try simp only [Act.put, List.setIfInBounds_toArray, List.set_cons_zero, List.set_cons_succ]
          refine Rg.step 9 (by kernel_rfl) rfl (fun K hK => ?_)
          go_simp
          refine hK.out _ _ ?_ (fun hH2 => ?_)
          · ((try dsimp only) <;> go_keep)
          clear hK K hH1
          try simp only [Act.put, List.setIfInBounds_toArray, List.set_cons_zero, List.set_cons_succ]
          refine Rg.step 10 (by kernel_rfl) rfl (fun K hK => ?_)
          refine step_row info_val Tryz.underlying34 rfl (by omega) rfl (.tmp 71) (.tmp 79) rfl (w.heap.size + 1) LA lc L.length xs (by rfl) ((HSO.out.ls.below HB5.out).alloc (.cells #[.int .i8 y.kind, .bool y.bool, .int .i64 y.num, .string y.text, .slice A5 y.list.length n5, .slice B5 y.keys.length m5] 37)) (some ⟨w5.heap.size, 0, none⟩) 1 1 [.int .i8 y.kind, .bool y.bool, .int .i64 y.num, .string y.text, .slice A5 y.list.length n5, .slice B5 y.keys.length m5] (by rfl) (Rd.lit w5 6 1 #[.int .i8 y.kind, .bool y.bool, .int .i64 y.num, .string y.text, .slice A5 y.list.length n5, .slice B5 y.keys.length m5] 37 (0, 0) rfl (by simp [maxLen])) (by simp [Value.oneCell']) (by omega) (by omega) (by simp; omega) ?_; intro A6 c6 w6 ho6 hg6 hat6; have HO6 := Lib.hid ho6; have HG6 := Lib.hid hg6; have HT6 := Lib.hid hat6; have hbA : Below wo.heap.size wo (w5.alloc (.cells #[.int .i8 y.kind, .bool y.bool, .int .i64 y.num, .string y.text, .slice A5 y.list.length n5, .slice B5 y.keys.length m5] 37)) := HB5.out.alloc HB5.out.size _; have hk6 := (HSO.out.box.below hbA).grown hg6 HSO.out.bx; have f6 := hk6.frozen 4; have g6 := hk6.cell 4 (v := .slice LA L.length lc) rfl; have hon6 : Only (fun k => blk LA = some k) wo w6 := ((Only.of_below hbA _).grown hg6 (fun g hg _ => hg)); obtain ⟨y0, y1, y2, y3, y4, y5⟩ := cel6 ((HCEL.out.below HBO.out).only hon6 (fun e => by have := (HSO.out.ls.lt e).1; omega)); clear ho6 hg6 hat6 hk6 hbA hon6
          refine hK.out _ _ ?_ (fun hH3 => ?_)
          · ((try dsimp only) <;> go_keep)
          clear hK K hH2
          try simp only [Act.put, List.setIfInBounds_toArray, List.set_cons_zero, List.set_cons_succ]
          refine Rg.take (v := ?_) hH3 11 rfl (by kernel_rfl) (fun _ _ _ h => h) (by rfl) ?_ ?_
          rotate_left
          · (intro w hSw; (try dsimp only at hSw); go_simp <;> with_reducible rfl)
          try simp only [Act.put, List.setIfInBounds_toArray, List.set_cons_zero, List.set_cons_succ]
          refine Rg.last (by kernel_rfl) (by kernel_rfl) rfl (fun K hK => ?_)
          go_simp
          refine hK.out _ _ ?_
          clear hK K hH3
          all_goals
            go_wp2_with fail
            obtain ⟨h1, h2⟩ := HSO.out.addL (HB5.out.alloc HB5.out.size (.cells #[.int .i8 y.kind, .bool y.bool, .int .i64 y.num, .string y.text, .slice A5 y.list.length n5, .slice B5 y.keys.length m5] 37)) (HT5.out.alloc _) HO6.out HG6.out HT6.out
            have hF : ∀ k, (blk LA = some k ∨ k = w.heap.size + 1) → w.heap.size + 1 ≤ k := fun k e => e.elim (fun e => (HSO.out.ls.lt e).1) (fun e => by omega)
            have HA := Lib.hid h1
            have HRA := Lib.hid (HRO.out.only h2 (fun e => by have := hF _ e; omega))
            have HBA := Lib.hid (h2.belowB HBO.out (fun k e => by have := hF _ e; omega))
            have hsA := h2.size
            go_roundg g
            case measure => omega
            case rel => exact ⟨j + 1, A6, c6, xs ++ [.int .i8 y.kind, .bool y.bool, .int .i64 y.num, .string y.text, .slice A5 y.list.length n5, .slice B5 y.keys.length m5], L ++ [y], by omega, by go_num, HLE2, by simp; omega, HA, HRA, HBA, by omega⟩
theorem sorted_any (k : Nat) : SoC k := by
  induction k with
  | zero => intro S v cs a w hg; exact hg.elim
  | succ k ih => exact so_step k ih
end Go.Proofs.YtmljdppdaaoehaaGreatDoor
namespace Go.Proofs.YtmljdppdaaoehaaGreatDoor
open Go.RowKit
set_option linter.unusedVariables false
set_option linter.unusedSimpArgs false

theorem cm_all : ∀ k, CmC k
  | 0 => by intro S a b ca cb pa pb w h; exact h.elim
  | k + 1 => cm_step k (cm_all k)
theorem vAlone_zero {v : Vl} (h : vAlone v = 0) : (v.kind = 5 → v.keys.length = v.list.length) ∧ vDup [] v.keys = false := by
  unfold vAlone at h
  split at h
  · simp at h
  · split at h
    · simp at h
    · next h2 =>
      split at h
      · simp at h
      · unfold vWrong at h
        split at h
        · simp at h
        · split at h
          · simp at h
          · split at h
            · simp at h
            · next h5 =>
              exact ⟨fun e => Decidable.byContradiction fun h3 => h2 ⟨e, h3⟩, by simpa using h5⟩
theorem vGood_of : ∀ (k : Nat) (v : Vl), vDeep k v → (∀ x ∈ vWalk k v, vAlone x = 0 ∧ x.keys.length ≤ 1000000 ∧ x.list.length ≤ 1000000) → vGood k v
  | 0, v, h, _ => h.elim
  | k + 1, v, h, ha => by
    obtain ⟨h1, h2, h3⟩ := ha v (by simp [vWalk])
    obtain ⟨h4, h5⟩ := vAlone_zero h1
    refine ⟨fun e => ⟨h4 e, h5⟩, h2, h3, fun x hx => vGood_of k x (h x hx) (fun y hy => ha y ?_)⟩
    simp only [vWalk, List.mem_cons, List.mem_flatMap]
    exact .inr ⟨x, hx, hy⟩
theorem vChk_zero {v : Vl} (h : vChk v = 0) : vDeep 24 v ∧ (∀ x ∈ vWalk 24 v, vAlone x = 0) := by
  unfold vChk at h
  split at h
  · simp at h
  · next h1 =>
    refine ⟨vDepth_deep 24 v (by omega), fun x hx => ?_⟩
    cases hf : (vWalk 24 v).find? (fun x => decide (vAlone x ≠ 0)) with
    | some y =>
      rw [hf] at h
      have := List.find?_some hf
      simp at this
      exact absurd h this
    | none =>
      have := List.find?_eq_none.1 hf x hx
      simpa using this
theorem vGood_chk {v : Vl} (h : vChk v = 0) (hs : vSmall v) : vGood 24 v := by
  obtain ⟨h1, h2⟩ := vChk_zero h
  exact vGood_of 24 v h1 (fun x hx => ⟨h2 x hx, hs.2 x hx⟩)
theorem filterMap_len {α β : Type} {f : α → Option β} : ∀ (l : List α), (∀ a ∈ l, (f a).isSome = true) → (l.filterMap f).length = l.length
  | [], _ => rfl
  | a :: l, h => by
    obtain ⟨b, hb⟩ := Option.isSome_iff_exists.1 (h a (by simp))
    rw [List.filterMap_cons_some hb, List.length_cons, List.length_cons, filterMap_len l (fun x hx => h x (by simp [hx]))]
theorem vSort_fit : ∀ (k : Nat) (v : Vl), vGood k v → vFit k (vSort k v)
  | 0, v, h => h.elim
  | k + 1, v, h => by
    obtain ⟨h1, _, _, h4⟩ := h
    simp only [vSort]
    split
    · next e =>
      have hlt : ∀ i ∈ vOrder v.keys, i < v.keys.length := fun i hi => by
        obtain ⟨j, hj, e⟩ := List.getElem_of_mem hi
        exact vOrder_lt (j := j) (by rw [List.getElem?_eq_getElem hj, e])
      have hkl := (h1 e).1
      refine ⟨fun _ => ?_, fun x hx => ?_⟩
      · show ((vOrder v.keys).filterMap _).length = ((vOrder v.keys).filterMap _).length
        rw [filterMap_len _ (fun i hi => by have := hlt i hi; simp [this]), filterMap_len _ (fun i hi => by have := hlt i hi; rw [hkl] at this; simp [this])]
      · obtain ⟨i, _, hi⟩ := List.mem_filterMap.1 hx
        cases hx2 : v.list[i]? with
        | none => rw [hx2] at hi; simp at hi
        | some z =>
          rw [hx2] at hi
          simp only [Option.map_some, Option.some.injEq] at hi
          subst hi
          exact vSort_fit k z (h4 z (List.mem_of_getElem? hx2))
    · next e =>
      refine ⟨fun h => absurd h e, fun x hx => ?_⟩
      obtain ⟨z, hz, rfl⟩ := List.mem_map.1 hx
      exact vSort_fit k z (h4 z hz)
/-- what tree.both tells -/
def vBoth (x y : Vl) : Int × Bool := if vChk x ≠ 0 ∨ vChk y ≠ 0 then (0, false) else (vCmp 24 (vSort 24 x) (vSort 24 y), true)
def vEq (x y : Vl) : Bool := (vBoth x y).2 && decide ((vBoth x y).1 = 0)
theorem cel_blk {w : World} {q : Nat} {cs : List Value} {t : TypeId} (h : Blk w q cs.toArray t) : Cel w ⟨q, 0, none⟩ cs := fun j u hu => by
  have := h.cell j (v := u) (by simpa using hu)
  by_cases hj : j = 0
  · subst hj; simpa using this
  · rw [if_neg hj]; simpa using this
set_option maxRecDepth 100000 in
set_option maxHeartbeats 8000000 in
theorem both_any (S : Nat → Prop) (x y : Vl) (xs ys : List Value) (w : World) (hV : VOk w) (hx : vSmall x) (hy : vSmall y) (htx : Trs.at S w x.tr xs) (hty : Trs.at S w y.tr ys) :
    Calls Tryz.prog 70 #[.agg xs.toArray, .agg ys.toArray] w fun e w' => e = .returned (.tuple #[.int .i64 (vBoth x y).1, .bool (vBoth x y).2]) ∧ Below w.heap.size w w' := by
  obtain ⟨A1, n1, K1, m1, rfl, _, _, hx1, hl1, hk1⟩ := Vl.at_iff.1 htx
  obtain ⟨A2, n2, K2, m2, rfl, _, _, hx2, hl2, hk2⟩ := Vl.at_iff.1 hty
  have kx : Blk ((w.alloc (.cells #[.int .i8 x.kind, .bool x.bool, .int .i64 x.num, .string x.text, .slice A1 x.list.length n1, .slice K1 x.keys.length m1] 37)).alloc (.cells #[.int .i8 y.kind, .bool y.bool, .int .i64 y.num, .string y.text, .slice A2 y.list.length n2, .slice K2 y.keys.length m2] 37)) w.heap.size #[.int .i8 x.kind, .bool x.bool, .int .i64 x.num, .string x.text, .slice A1 x.list.length n1, .slice K1 x.keys.length m1] 37 := (Blk.new w _ _).alloc _
  have ky : Blk ((w.alloc (.cells #[.int .i8 x.kind, .bool x.bool, .int .i64 x.num, .string x.text, .slice A1 x.list.length n1, .slice K1 x.keys.length m1] 37)).alloc (.cells #[.int .i8 y.kind, .bool y.bool, .int .i64 y.num, .string y.text, .slice A2 y.list.length n2, .slice K2 y.keys.length m2] 37)) (w.heap.size + 1) #[.int .i8 y.kind, .bool y.bool, .int .i64 y.num, .string y.text, .slice A2 y.list.length n2, .slice K2 y.keys.length m2] 37 := by
    have := Blk.new (w.alloc (.cells #[.int .i8 x.kind, .bool x.bool, .int .i64 x.num, .string x.text, .slice A1 x.list.length n1, .slice K1 x.keys.length m1] 37)) #[.int .i8 y.kind, .bool y.bool, .int .i64 y.num, .string y.text, .slice A2 y.list.length n2, .slice K2 y.keys.length m2] 37
    rwa [show (w.alloc (.cells #[.int .i8 x.kind, .bool x.bool, .int .i64 x.num, .string x.text, .slice A1 x.list.length n1, .slice K1 x.keys.length m1] 37)).heap.size = w.heap.size + 1 by simp] at this
  obtain ⟨W, hW⟩ : ∃ W, W = (w.alloc (.cells #[.int .i8 x.kind, .bool x.bool, .int .i64 x.num, .string x.text, .slice A1 x.list.length n1, .slice K1 x.keys.length m1] 37)).alloc (.cells #[.int .i8 y.kind, .bool y.bool, .int .i64 y.num, .string y.text, .slice A2 y.list.length n2, .slice K2 y.keys.length m2] 37) := ⟨_, rfl⟩
  have hb : Below w.heap.size w W := by rw [hW]; exact ((Below.refl _ w).alloc (Nat.le_refl _) _).alloc (by simp) _
  have hVW : VOk W := hV.below hb
  rw [← hW] at kx ky
  have HB := Lib.hid hb
  have HX := Lib.hid kx
  have HY := Lib.hid ky
  have HC1 : Hid (Calls Tryz.prog 83 #[.agg #[.int .i8 x.kind, .bool x.bool, .int .i64 x.num, .string x.text, .slice A1 x.list.length n1, .slice K1 x.keys.length m1]] W fun e w' => e = .returned (.int .i64 (vChk x : Nat)) ∧ Below W.heap.size W w') := Lib.hid (tchk_any S x A1 n1 K1 m1 W hVW (htx.below hb) hx)
  have HC2 : Hid (∀ w', Below W.heap.size W w' → Calls Tryz.prog 83 #[.agg #[.int .i8 y.kind, .bool y.bool, .int .i64 y.num, .string y.text, .slice A2 y.list.length n2, .slice K2 y.keys.length m2]] w' fun e w'' => e = .returned (.int .i64 (vChk y : Nat)) ∧ Below w'.heap.size w' w'') := Lib.hid (fun w' h' => tchk_any S y A2 n2 K2 m2 w' (hVW.below h') ((hty.below hb).below h') hy)
  have HS1 : Hid (vChk x = 0 → ∀ w', Below W.heap.size W w' → Calls Tryz.prog 84 #[.pointer (some ⟨w.heap.size, 0, none⟩)] w' (ValB (vSort 24 x) w')) := Lib.hid (fun h w' h' => sorted_any 24 S x _ _ w' (vGood_chk h hx) ((htx.below hb).below h') (cel_blk (kx.below h')))
  have HS2 : Hid (vChk y = 0 → ∀ w', Below W.heap.size W w' → Calls Tryz.prog 84 #[.pointer (some ⟨w.heap.size + 1, 0, none⟩)] w' (ValB (vSort 24 y) w')) := Lib.hid (fun h w' h' => sorted_any 24 S y _ _ w' (vGood_chk h hy) ((hty.below hb).below h') (cel_blk (ky.below h')))
  obtain ⟨sx, hsx⟩ : ∃ sx, sx = vSort 24 x := ⟨_, rfl⟩
  obtain ⟨sy, hsy⟩ : ∃ sy, sy = vSort 24 y := ⟨_, rfl⟩
  have HFX : Hid (vChk x = 0 → vFit 24 sx) := Lib.hid (fun h => by rw [hsx]; exact vSort_fit 24 x (vGood_chk h hx))
  have HFY : Hid (vChk y = 0 → vFit 24 sy) := Lib.hid (fun h => by rw [hsy]; exact vSort_fit 24 y (vGood_chk h hy))
  have HBO : Hid (vBoth x y = if vChk x ≠ 0 ∨ vChk y ≠ 0 then (0, false) else (vCmp 24 sx sy, true)) := Lib.hid (by rw [hsx, hsy]; rfl)
  rw [← hsx] at HS1
  rw [← hsy] at HS2
  clear hsx hsy
  obtain ⟨cx, hcx⟩ : ∃ cx, cx = vChk x := ⟨_, rfl⟩
  obtain ⟨cy, hcy⟩ : ∃ cy, cy = vChk y := ⟨_, rfl⟩
  rw [← hcx] at HC1 HS1 HFX HBO
  rw [← hcy] at HC2 HS2 HFY HBO
  obtain ⟨r, hr⟩ : ∃ r, r = vBoth x y := ⟨_, rfl⟩
  rw [← hr] at HBO ⊢
  clear hr hcx hcy hx hy htx hty hl1 hk1 hl2 hk2 hV hVW hb kx ky hx1 hx2
  obtain ⟨x0, x1, x2, x3, x4, x5⟩ := blk6 HX.out
  obtain ⟨y0, y1, y2, y3, y4, y5⟩ := blk6 HY.out
  go_enter Tryz.func70, Tryz.ntmps70
  go_upto_region 1 with fail
  rw [← hW]
  clear hW
  go_wp2_with fail
  refine HC1.out.mono ?_
  rintro e w1 ⟨rfl, hb1⟩
  have HB1 := Lib.hid hb1
  obtain ⟨y0, y1, y2, y3, y4, y5⟩ := blk6 (HY.out.below hb1)
  clear hb1 x0 x1 x2 x3 x4 x5
  by_cases e1 : cx = 0
  · subst e1
    go_wp2_with fail
    refine (HC2.out w1 HB1.out).mono ?_
    rintro e w2 ⟨rfl, hb2⟩
    have HB2 : Hid (Below W.heap.size W w2) := Lib.hid (HB1.out.trans (hb2.mono HB1.out.size))
    clear hb2 y0 y1 y2 y3 y4 y5 HB1
    by_cases e2 : cy = 0
    · subst e2
      go_wp2_with fail
      refine (HS1.out trivial w2 HB2.out).mono ?_
      rintro e w3 ⟨hb3, B1, p1, L1, q1, rfl, ht1⟩
      have HB3 : Hid (Below W.heap.size W w3) := Lib.hid (HB2.out.trans (hb3.mono HB2.out.size))
      have HT1 := Lib.hid ht1
      clear hb3 ht1
      go_wp2_with fail
      refine (HS2.out trivial w3 HB3.out).mono ?_
      rintro e w4 ⟨hb4, B2, p2, L2, q2, rfl, ht2⟩
      have HB4 : Hid (Below W.heap.size W w4) := Lib.hid (HB3.out.trans (hb4.mono HB3.out.size))
      have HT2 := Lib.hid ht2
      have HT3 := Lib.hid (HT1.out.below hb4)
      clear hb4 ht2
      have hfx : vFit 24 sx := HFX.out trivial
      have hfy : vFit 24 sy := HFY.out trivial
      have HR : Hid (r = (vCmp 24 sx sy, true)) := Lib.hid (by rw [HBO.out, if_neg (by simp)])
      have hbb : Below W.heap.size W ((w4.alloc (.cells #[.int .i8 sx.kind, .bool sx.bool, .int .i64 sx.num, .string sx.text, .slice B1 sx.list.length p1, .slice L1 sx.keys.length q1] 37)).alloc (.cells #[.int .i8 sy.kind, .bool sy.bool, .int .i64 sy.num, .string sy.text, .slice B2 sy.list.length p2, .slice L2 sy.keys.length q2] 37)) := (HB4.out.alloc HB4.out.size _).alloc (by have := HB4.out.size; simp; omega) _
      have hc1 : Cel ((w4.alloc (.cells #[.int .i8 sx.kind, .bool sx.bool, .int .i64 sx.num, .string sx.text, .slice B1 sx.list.length p1, .slice L1 sx.keys.length q1] 37)).alloc (.cells #[.int .i8 sy.kind, .bool sy.bool, .int .i64 sy.num, .string sy.text, .slice B2 sy.list.length p2, .slice L2 sy.keys.length q2] 37)) ⟨w4.heap.size, 0, none⟩ #[.int .i8 sx.kind, .bool sx.bool, .int .i64 sx.num, .string sx.text, .slice B1 sx.list.length p1, .slice L1 sx.keys.length q1].toList := cel_blk ((Blk.new w4 _ _).alloc _)
      have hc2 : Cel ((w4.alloc (.cells #[.int .i8 sx.kind, .bool sx.bool, .int .i64 sx.num, .string sx.text, .slice B1 sx.list.length p1, .slice L1 sx.keys.length q1] 37)).alloc (.cells #[.int .i8 sy.kind, .bool sy.bool, .int .i64 sy.num, .string sy.text, .slice B2 sy.list.length p2, .slice L2 sy.keys.length q2] 37)) ⟨w4.heap.size + 1, 0, none⟩ #[.int .i8 sy.kind, .bool sy.bool, .int .i64 sy.num, .string sy.text, .slice B2 sy.list.length p2, .slice L2 sy.keys.length q2].toList := by
        have := Blk.new (w4.alloc (.cells #[.int .i8 sx.kind, .bool sx.bool, .int .i64 sx.num, .string sx.text, .slice B1 sx.list.length p1, .slice L1 sx.keys.length q1] 37)) #[.int .i8 sy.kind, .bool sy.bool, .int .i64 sy.num, .string sy.text, .slice B2 sy.list.length p2, .slice L2 sy.keys.length q2] 37
        rw [show (w4.alloc (.cells #[.int .i8 sx.kind, .bool sx.bool, .int .i64 sx.num, .string sx.text, .slice B1 sx.list.length p1, .slice L1 sx.keys.length q1] 37)).heap.size = w4.heap.size + 1 by simp] at this
        exact cel_blk this
      have HCM := Lib.hid (cm_all 24 (fun _ => True) sx sy _ _ _ _ _ hfx hfy (((HT3.out.mono (fun _ _ => trivial)).alloc _).alloc _) hc1 (((HT2.out.mono (fun _ _ => trivial)).alloc _).alloc _) hc2)
      have HBB := Lib.hid hbb
      clear hbb hc1 hc2 hfx hfy
      obtain ⟨n, hn⟩ : ∃ n, n = vCmp 24 sx sy := ⟨_, rfl⟩
      rw [← hn] at HCM HR
      go_upto_region 4 with fail
      obtain ⟨V, hV⟩ : ∃ V, V = ((w4.alloc (.cells #[.int .i8 sx.kind, .bool sx.bool, .int .i64 sx.num, .string sx.text, .slice B1 sx.list.length p1, .slice L1 sx.keys.length q1] 37)).alloc (.cells #[.int .i8 sy.kind, .bool sy.bool, .int .i64 sy.num, .string sy.text, .slice B2 sy.list.length p2, .slice L2 sy.keys.length q2] 37)) := ⟨_, rfl⟩
      rw [← hV] at HCM HBB
      rw [← hV]
      clear hV hn
      go_wp2_with fail
      refine HCM.out.mono ?_
      rintro e w5 ⟨rfl, hb5⟩
      have HB5 : Hid (Below w.heap.size w w5) := Lib.hid (HB.out.trans ((HBB.out.trans (hb5.mono HBB.out.size)).mono HB.out.size))
      clear hb5
      go_wp2_with fail
      refine bodyPost_ret (v := .tuple #[.int .i64 n, .bool true]) (by simp [results, Tryz.results70, go_sem]) rfl ?_
      rw [HR.out]
      exact ⟨rfl, HB5.out⟩
    · have e2' : ¬ ((cy : Int) = 0) := by omega
      have HR : Hid (r = (0, false)) := Lib.hid (by rw [HBO.out, if_pos (.inr e2)])
      go_wp2_with fail
      refine bodyPost_ret (v := .tuple #[.int .i64 0, .bool false]) (by simp [results, Tryz.results70, go_sem]) rfl ?_
      rw [HR.out]
      exact ⟨rfl, HB.out.trans (HB2.out.mono HB.out.size)⟩
  · have e1' : ¬ ((cx : Int) = 0) := by omega
    have HR : Hid (r = (0, false)) := Lib.hid (by rw [HBO.out, if_pos (.inl e1)])
    go_wp2_with fail
    refine bodyPost_ret (v := .tuple #[.int .i64 0, .bool false]) (by simp [results, Tryz.results70, go_sem]) rfl ?_
    rw [HR.out]
    exact ⟨rfl, HB.out.trans (HB1.out.mono HB.out.size)⟩
/-- as small as the statements' guard asks -/
def EqOf (w : World) : Prop := EqC vSmall vEq w
set_option maxRecDepth 100000 in
set_option maxHeartbeats 4000000 in
theorem equal_any (w : World) (hV : VOk w) : EqC vSmall vEq w := by
  intro S x y xs ys w0 hx hy hbw htx hty
  have hV0 : VOk w0 := hV.below hbw
  have hcb := fun w' (h : Below w0.heap.size w0 w') => both_any S x y xs ys w' (hV0.below h) hx hy (htx.below h) (hty.below h)
  obtain ⟨A1, n1, K1, m1, rfl, _, _, hx1, hl1, hk1⟩ := Vl.at_iff.1 htx
  obtain ⟨A2, n2, K2, m2, rfl, _, _, hx2, hl2, hk2⟩ := Vl.at_iff.1 hty
  have kx : Blk ((w0.alloc (.cells #[.int .i8 x.kind, .bool x.bool, .int .i64 x.num, .string x.text, .slice A1 x.list.length n1, .slice K1 x.keys.length m1] 37)).alloc (.cells #[.int .i8 y.kind, .bool y.bool, .int .i64 y.num, .string y.text, .slice A2 y.list.length n2, .slice K2 y.keys.length m2] 37)) w0.heap.size #[.int .i8 x.kind, .bool x.bool, .int .i64 x.num, .string x.text, .slice A1 x.list.length n1, .slice K1 x.keys.length m1] 37 := (Blk.new w0 _ _).alloc _
  have ky : Blk ((w0.alloc (.cells #[.int .i8 x.kind, .bool x.bool, .int .i64 x.num, .string x.text, .slice A1 x.list.length n1, .slice K1 x.keys.length m1] 37)).alloc (.cells #[.int .i8 y.kind, .bool y.bool, .int .i64 y.num, .string y.text, .slice A2 y.list.length n2, .slice K2 y.keys.length m2] 37)) (w0.heap.size + 1) #[.int .i8 y.kind, .bool y.bool, .int .i64 y.num, .string y.text, .slice A2 y.list.length n2, .slice K2 y.keys.length m2] 37 := by
    have := Blk.new (w0.alloc (.cells #[.int .i8 x.kind, .bool x.bool, .int .i64 x.num, .string x.text, .slice A1 x.list.length n1, .slice K1 x.keys.length m1] 37)) #[.int .i8 y.kind, .bool y.bool, .int .i64 y.num, .string y.text, .slice A2 y.list.length n2, .slice K2 y.keys.length m2] 37
    rwa [show (w0.alloc (.cells #[.int .i8 x.kind, .bool x.bool, .int .i64 x.num, .string x.text, .slice A1 x.list.length n1, .slice K1 x.keys.length m1] 37)).heap.size = w0.heap.size + 1 by simp] at this
  obtain ⟨W, hW⟩ : ∃ W, W = (w0.alloc (.cells #[.int .i8 x.kind, .bool x.bool, .int .i64 x.num, .string x.text, .slice A1 x.list.length n1, .slice K1 x.keys.length m1] 37)).alloc (.cells #[.int .i8 y.kind, .bool y.bool, .int .i64 y.num, .string y.text, .slice A2 y.list.length n2, .slice K2 y.keys.length m2] 37) := ⟨_, rfl⟩
  have hb : Below w0.heap.size w0 W := by rw [hW]; exact ((Below.refl _ w0).alloc (Nat.le_refl _) _).alloc (by simp) _
  rw [← hW] at kx ky
  have HB := Lib.hid hb
  have HC := Lib.hid (hcb W hb)
  have HE : Hid (vEq x y = ((vBoth x y).2 && decide ((vBoth x y).1 = 0))) := Lib.hid rfl
  obtain ⟨r, hr⟩ : ∃ r, r = vEq x y := ⟨_, rfl⟩
  obtain ⟨⟨n, b⟩, hnb⟩ : ∃ p, p = vBoth x y := ⟨_, rfl⟩
  rw [← hr] at HE ⊢
  rw [← hnb] at HC HE
  obtain ⟨x0, x1, x2, x3, x4, x5⟩ := blk6 kx
  obtain ⟨y0, y1, y2, y3, y4, y5⟩ := blk6 ky
  clear hr hnb hcb hx hy htx hty hl1 hk1 hl2 hk2 hV hV0 hb kx ky hx1 hx2 hbw
  go_enter Tryz.func47, Tryz.ntmps47
  go_upto_region 1 with fail
  rw [← hW]
  clear hW
  go_wp2_with fail
  refine HC.out.mono ?_
  rintro e w1 ⟨rfl, hb1⟩
  have HB1 : Hid (Below w0.heap.size w0 w1) := Lib.hid (HB.out.trans (hb1.mono HB.out.size))
  clear hb1 x0 x1 x2 x3 x4 x5 y0 y1 y2 y3 y4 y5
  cases b with
  | false =>
    go_wp2_with fail
    go_ret
    rw [HE.out]
    exact ⟨rfl, HB1.out⟩
  | true =>
    by_cases hn : n = 0
    · subst hn
      go_wp2_with fail
      go_ret
      rw [HE.out]
      exact ⟨rfl, HB1.out⟩
    · go_wp2_with fail
      go_ret
      rw [HE.out]
      exact ⟨by simp [hn], HB1.out⟩
end Go.Proofs.YtmljdppdaaoehaaGreatDoor
