import Derived.Test.YtmljdppdaaoehaaGreatDoorEq5
import Derived.Test.YtmljdppdaaoehaaGreatDoorQa
/- Values, plain: what hoardingref03 makes of one: depth, faults, count, sorted by insertion. -/
namespace Go.Proofs.YtmljdppdaaoehaaGreatDoor
open Go.RowKit Go.Sort Go.Shelf
set_option linter.unusedVariables false
set_option linter.unusedSimpArgs false
theorem bl_eq : ∀ a b : List UInt8, Op.bytesLess a b = decide (Lib.compareBytes a b < 0)
  | [], [] => by simp [Op.bytesLess, Lib.compareBytes]
  | [], _ :: _ => by simp [Op.bytesLess, Lib.compareBytes]
  | _ :: _, [] => by simp [Op.bytesLess, Lib.compareBytes]
  | a :: x, b :: y => by
    have ih := bl_eq x y
    rw [Bool.eq_iff_iff] at ih ⊢
    simp only [Op.bytesLess, Lib.compareBytes, Bool.or_eq_true, Bool.and_eq_true, decide_eq_true_eq, ih]
    by_cases h1 : a < b
    · simp [h1]
    · by_cases h2 : b < a
      · have e : ¬ a = b := fun e => by subst e; exact h1 h2
        simp [h1, h2, e]
      · have e : a = b := UInt8.le_antisymm (UInt8.not_lt.1 h2) (UInt8.not_lt.1 h1)
        subst e
        simp
/-! ### Depth, faults, count -/
def vDpr : Nat → Vl → Bool
  | 0, _ => true
  | k + 1, v => v.list.any (vDpr k)
theorem vDpr_iff : ∀ (k : Nat) (v : Vl), vDpr k v = false ↔ vDeep k v
  | 0, v => by simp [vDpr, vDeep]
  | k + 1, v => by
    unfold vDpr vDeep
    rw [List.any_eq_false]
    exact ⟨fun h x hx => (vDpr_iff k x).1 (by simpa using h x hx), fun h x hx => by simpa using (vDpr_iff k x).2 (h x hx)⟩
theorem deep_vDepth : ∀ (k : Nat) (v : Vl), vDeep k v → vDepth k v ≤ k
  | 0, v, h => h.elim
  | k + 1, v, h => by
    have := (foldmax_le (f := vDepth k) (B := k) v.list 0).2 ⟨by omega, fun x hx => deep_vDepth k x (h x hx)⟩
    simp only [vDepth]; omega
def firstE : List Nat → Nat
  | [] => 0
  | e :: r => if e = 0 then firstE r else e
/-- the first fault of a value and all within -/
def vWr : Nat → Vl → Nat
  | 0, _ => 0
  | k + 1, v => if vAlone v ≠ 0 then vAlone v else firstE (v.list.map (vWr k))
def fault (l : List Vl) : Nat := match l.find? (fun x => decide (vAlone x ≠ 0)) with | some x => vAlone x | none => 0
theorem fault_cons (x : Vl) (l : List Vl) : fault (x :: l) = if vAlone x ≠ 0 then vAlone x else fault l := by
  unfold fault
  rw [List.find?_cons]
  by_cases h : vAlone x ≠ 0
  · rw [decide_eq_true h, if_pos h]
  · rw [decide_eq_false h, if_neg h]
theorem fault_app : ∀ (l m : List Vl), fault (l ++ m) = if fault l = 0 then fault m else fault l
  | [], m => by simp [fault]
  | x :: l, m => by
    rw [List.cons_append, fault_cons, fault_cons, fault_app l m]
    by_cases h : vAlone x ≠ 0
    · rw [if_pos h, if_pos h, if_neg h]
    · rw [if_neg h, if_neg h]
theorem vWr_walk : ∀ (k : Nat) (v : Vl), vWr k v = fault (vWalk k v)
  | 0, v => rfl
  | k + 1, v => by
    have key : ∀ l : List Vl, firstE (l.map (vWr k)) = fault (l.flatMap (vWalk k)) := by
      intro l
      induction l with
      | nil => rfl
      | cons x l ih =>
        rw [List.map_cons, List.flatMap_cons, fault_app, ← vWr_walk k x, ← ih]
        rfl
    simp only [vWr, vWalk]
    rw [fault_cons, key]
theorem vChk_eq (v : Vl) : vChk v = if vDpr 24 v = true then 30 else if vWr 24 v ≠ 0 then vWr 24 v else if 4096 < (vWalk 24 v).length then 3 else 0 := by
  unfold vChk
  by_cases h : vDpr 24 v = true
  · have : 24 < vDepth 24 v := Decidable.byContradiction fun hn => by
      have := (vDpr_iff 24 v).2 (vDepth_deep 24 v (by omega))
      rw [this] at h; cases h
    rw [if_pos this, if_pos h]
  · have hd := (vDpr_iff 24 v).1 (by simpa using h)
    have := deep_vDepth 24 v hd
    rw [if_neg (by omega), if_neg h, vWr_walk]
    unfold fault
    cases hf : (vWalk 24 v).find? (fun x => decide (vAlone x ≠ 0)) with
    | none => simp
    | some x =>
      have := List.find?_some hf
      rw [decide_eq_true_eq] at this
      simp only
      rw [if_pos this]
/-- how many values -/
def vCnt : Nat → Vl → Nat
  | 0, _ => 0
  | k + 1, v => 1 + (v.list.map (vCnt k)).sum
theorem vCnt_eq : ∀ (k : Nat) (v : Vl), vCnt k v = (vWalk k v).length
  | 0, v => rfl
  | k + 1, v => by
    simp only [vCnt, vWalk, List.length_cons, List.length_flatMap]
    rw [List.map_congr_left (fun x _ => vCnt_eq k x)]; omega
/-! ### Sorted -/
abbrev KV := ByteArray × Vl
def kLe (x y : KV) : Prop := ¬ Lib.compareBytes y.1.data.toList x.1.data.toList < 0
def insP (x : KV) : List KV → List KV
  | [] => [x]
  | y :: l => if Lib.compareBytes y.1.data.toList x.1.data.toList < 0 then y :: insP x l else x :: y :: l
theorem insP_at (x : KV) : ∀ (l : List KV) (k : Nat), k ≤ l.length → (∀ j y, j < k → l[j]? = some y → Lib.compareBytes y.1.data.toList x.1.data.toList < 0) → (∀ y, l[k]? = some y → ¬ Lib.compareBytes y.1.data.toList x.1.data.toList < 0) → insP x l = l.take k ++ x :: l.drop k
  | [], 0, _, _, _ => rfl
  | [], k + 1, h, _, _ => by simp at h
  | y :: l, 0, _, _, h => by
    unfold insP
    rw [if_neg (h y rfl)]; rfl
  | y :: l, k + 1, hk, h1, h2 => by
    unfold insP
    rw [if_pos (h1 0 y (by omega) rfl), insP_at x l k (by simpa using hk) (fun j z hj hz => h1 (j + 1) z (by omega) hz) (fun z hz => h2 z hz)]
    rfl
theorem insP_perm (x : KV) : ∀ l : List KV, (insP x l).Perm (x :: l)
  | [] => .refl _
  | y :: l => by
    unfold insP
    split
    · exact ((insP_perm x l).cons y).trans (.swap x y l)
    · exact .refl _
theorem insP_le (x : KV) : ∀ l : List KV, l.Pairwise kLe → (insP x l).Pairwise kLe
  | [], _ => by simp [insP]
  | y :: l, h => by
    obtain ⟨h1, h2⟩ := List.pairwise_cons.1 h
    unfold insP
    split
    · next hlt =>
      refine List.pairwise_cons.2 ⟨fun z hz => ?_, insP_le x l h2⟩
      rcases List.mem_cons.1 ((insP_perm x l).mem_iff.1 hz) with rfl | hz
      · unfold kLe; rw [cb_neg]; omega
      · exact h1 z hz
    · next hlt =>
      refine List.pairwise_cons.2 ⟨fun z hz => ?_, h⟩
      rcases List.mem_cons.1 hz with rfl | hz
      · exact hlt
      · exact cb_ge_trans (h1 z hz) hlt
def foldI (l : List KV) : List KV := l.foldl (fun a x => insP x a) []
theorem foldI_snoc (l : List KV) (x : KV) : foldI (l ++ [x]) = insP x (foldI l) := by simp [foldI, List.foldl_append]
theorem foldI_gen : ∀ (l a : List KV), a.Pairwise kLe → (l.foldl (fun a x => insP x a) a).Perm (l ++ a) ∧ (l.foldl (fun a x => insP x a) a).Pairwise kLe
  | [], a, h => ⟨.refl _, h⟩
  | x :: l, a, h => by
    obtain ⟨h1, h2⟩ := foldI_gen l (insP x a) (insP_le x a h)
    refine ⟨h1.trans ?_, h2⟩
    exact ((insP_perm x a).append_left l).trans List.perm_middle
theorem foldI_perm (l : List KV) : (foldI l).Perm l := by
  have := (foldI_gen l [] .nil).1
  rw [List.append_nil] at this
  exact this
theorem foldI_le (l : List KV) : (foldI l).Pairwise kLe := (foldI_gen l [] .nil).2
theorem foldI_len (l : List KV) : (foldI l).length = l.length := (foldI_perm l).length_eq
/-- the pairs of an object -/
def prs (ks : List ByteArray) (g : Nat → Vl) : List KV := (List.finRange ks.length).map fun i => (ks[i], g i.val)
theorem foldI_ord {ks : List ByteArray} (hd : vDup [] ks = false) (g : Nat → Vl) : foldI (prs ks g) = (vOrdF ks).map fun i => (ks[i], g i.val) := by
  have hp : (vOrdF ks).Perm (List.finRange ks.length) := List.mergeSort_perm _ _
  refine List.Perm.eq_of_pairwise (le := kLe) ?_ (foldI_le _) ?_ ((foldI_perm _).trans (hp.symm.map _))
  · intro a b ha hb h1 h2
    have ha' := (foldI_perm _).mem_iff.1 ha
    obtain ⟨i, _, rfl⟩ := List.mem_map.1 ha'
    obtain ⟨j, _, rfl⟩ := List.mem_map.1 hb
    have e : i = j := keys_apart hd i j (ba_ext (by
      unfold kLe at h1 h2
      have h3 := cb_neg ks[i].data.toList ks[j].data.toList
      exact cb_eq (by simp only at h1 h2; omega)))
    rw [e]
  · rw [List.pairwise_map]
    have := List.pairwise_mergeSort (le := fun x y => !decide (kcmp ks y x < 0)) (fun a b c h1 h2 => by
        simp only [Bool.not_eq_true', decide_eq_false_iff_not] at *
        exact cb_ge_trans h2 h1) (fun a b => by
        simp only [Bool.or_eq_true, Bool.not_eq_true', decide_eq_false_iff_not]
        by_cases h : kcmp ks b a < 0
        · refine .inr ?_
          unfold kcmp at *
          rw [cb_neg]; omega
        · exact .inl h) (List.finRange ks.length)
    refine this.imp ?_
    intro a b h
    unfold kLe
    have h' := h
    simp only [Bool.not_eq_true', decide_eq_false_iff_not] at h'
    exact h'
theorem zip_prs {ks : List ByteArray} {M : List Vl} (h : ks.length = M.length) : ks.zip M = prs ks (fun i => (M[i]?).getD zeroV) := by
  apply List.ext_getElem
  · simp [prs, h]
  · intro i h1 h2
    simp only [prs, List.getElem_zip, List.getElem_map, List.getElem_finRange]
    have : i < M.length := by simp at h1; omega
    simp [this]
theorem filterMap_some {α β : Type} {f : α → Option β} {g : α → β} : ∀ (l : List α), (∀ a ∈ l, f a = some (g a)) → l.filterMap f = l.map g
  | [], _ => rfl
  | a :: l, h => by rw [List.filterMap_cons_some (h a (by simp)), List.map_cons, filterMap_some l (fun x hx => h x (by simp [hx]))]
/-- an object sorted: its pairs, each put in its place -/
theorem vSort_obj (k : Nat) {v : Vl} (h5 : v.kind = 5) (hkl : v.keys.length = v.list.length) (hd : vDup [] v.keys = false) :
    (vSort (k + 1) v).keys = (foldI (v.keys.zip (v.list.map (vSort k)))).map Prod.fst ∧ (vSort (k + 1) v).list = (foldI (v.keys.zip (v.list.map (vSort k)))).map Prod.snd := by
  rw [zip_prs (by simpa using hkl), foldI_ord hd, List.map_map, List.map_map]
  simp only [vSort]
  rw [if_pos h5]
  constructor
  · show (vOrder v.keys).filterMap (fun i => v.keys[i]?) = _
    unfold vOrder
    rw [List.filterMap_map]
    exact filterMap_some _ (fun a _ => by simp)
  · show (vOrder v.keys).filterMap (fun i => (v.list[i]?).map (vSort k)) = _
    unfold vOrder
    rw [List.filterMap_map]
    refine filterMap_some _ (fun a _ => ?_)
    have : a.val < v.list.length := by rw [← hkl]; exact a.isLt
    simp [this]
theorem vSort_lst (k : Nat) {v : Vl} (h5 : v.kind ≠ 5) : (vSort (k + 1) v).list = v.list.map (vSort k) ∧ (vSort (k + 1) v).keys = [] := by
  simp only [vSort]
  rw [if_neg h5]
  exact ⟨rfl, rfl⟩
theorem vSort_head (k : Nat) (v : Vl) : (vSort (k + 1) v).kind = v.kind ∧ (vSort (k + 1) v).bool = v.bool ∧ (vSort (k + 1) v).num = v.num ∧ (vSort (k + 1) v).text = v.text := by
  simp only [vSort]
  split <;> exact ⟨rfl, rfl, rfl, rfl⟩
end Go.Proofs.YtmljdppdaaoehaaGreatDoor

/- hoardingref03's deeper, Count, plain, wrong, Check: walks. -/
namespace Go.Proofs.YtmljdppdaaoehaaGreatDoor
open Go.RowKit Go.Lib
set_option linter.unusedVariables false
set_option linter.unusedSimpArgs false
set_option maxRecDepth 100000
/-- what a value's walk knows at its start -/
theorem lany_drop {α : Type} {p : α → Bool} {l : List α} {j : Nat} {x : α} (h : l[j]? = some x) : (l.drop j).any p = (p x || (l.drop (j + 1)).any p) := by rw [drop_cons h]; rfl
def DprC (k : Nat) : Prop := ∀ (S : Nat → Prop) (v : Vl) (cs : List Value) (w : World), Trs.at S w v.tr cs → Calls Tryz.prog 78 #[.agg cs.toArray, .int .i64 (k : Nat)] w (BoolB (vDpr k v) w)
set_option maxHeartbeats 8000000 in
theorem dpr_zero : DprC 0 := by
  intro S v cs w htr
  obtain ⟨A, c, B, d, rfl, _, _, ht, hl, hks⟩ := Vl.at_iff.1 htr
  have HB0 : Hid (Below w.heap.size w (w.alloc (.cells #[.int .i8 v.kind, .bool v.bool, .int .i64 v.num, .string v.text, .slice A v.list.length c, .slice B v.keys.length d] 37))) := Lib.hid ((Below.refl _ w).alloc (Nat.le_refl _) _)
  clear htr hl hks
  go_enter Tryz.func78, Tryz.ntmps78
  go_wp2_with fail
  go_ret
  exact ⟨rfl, HB0.out⟩
set_option maxHeartbeats 8000000 in
theorem dpr_step (k : Nat) (hk : k ≤ 100) (IH : DprC k) : DprC (k + 1) := by
  intro S v cs w htr
  obtain ⟨A, c, B, d, rfl, _, _, ht, hl, hks⟩ := Vl.at_iff.1 htr
  have hcap := hl.cap
  have hbyt := hl.bytes
  have HL := Lib.hid hl
  have HIH := Lib.hid IH
  have HBX : Hid (Blk (w.alloc (.cells #[.int .i8 v.kind, .bool v.bool, .int .i64 v.num, .string v.text, .slice A v.list.length c, .slice B v.keys.length d] 37)) w.heap.size #[.int .i8 v.kind, .bool v.bool, .int .i64 v.num, .string v.text, .slice A v.list.length c, .slice B v.keys.length d] 37) := Lib.hid (Blk.new _ _ _)
  have HB0 : Hid (Below w.heap.size w (w.alloc (.cells #[.int .i8 v.kind, .bool v.bool, .int .i64 v.num, .string v.text, .slice A v.list.length c, .slice B v.keys.length d] 37))) := Lib.hid ((Below.refl _ w).alloc (Nat.le_refl _) _)
  obtain ⟨r, hr⟩ : ∃ r, r = vDpr (k + 1) v := ⟨_, rfl⟩
  have HV : Hid (r = (v.list.drop 0).any (vDpr k)) := Lib.hid hr
  rw [← hr]
  have hkw : IntKind.i64.wrap (((k + 1 : Nat) : Int) - 1) = (k : Int) := by rw [IntKind.wrap_i64]; omega
  clear htr hl hks hr
  go_enter Tryz.func78, Tryz.ntmps78
  go_wp2_with fail
  go_loopg [5] v.list.length (fun g i wr => ∃ j : Nat, j + g = v.list.length ∧ i = .int .i64 (j : Nat) ∧ Hid (r = (v.list.drop j).any (vDpr k)) ∧ Hid (Below w.heap.size w wr) ∧ Hid (Blk wr w.heap.size #[.int .i8 v.kind, .bool v.bool, .int .i64 v.num, .string v.text, .slice A v.list.length c, .slice B v.keys.length d] 37))
  case atStart => exact ⟨0, by omega, rfl, HV, HB0, HBX⟩
  case round =>
    clear HB0 HBX
    obtain ⟨j, hj, rfl, HVJ, HB, HBX⟩ := hrel
    rename World => wo
    have b4 := HBX.out.cell 4 (v := .slice A v.list.length c) rfl
    cases gk with
    | zero =>
      have hjj : ¬ ((j : Int) < (v.list.length : Int)) := by omega
      have HE : Hid (r = false) := Lib.hid (by rw [HVJ.out, List.drop_of_length_le (by omega)]; rfl)
      go_wp2_with fail
      go_ret
      exact ⟨by rw [HE.out]; rfl, HB.out⟩
    | succ g =>
      have hjj : (j : Int) < (v.list.length : Int) := by omega
      have hj0 : (0 : Int) ≤ (j : Int) ∧ (j : Int) < (v.list.length : Int) := by omega
      obtain ⟨x, hx⟩ := get_lt (l := v.list) (i := j) (by omega)
      obtain ⟨ad, xs, rfl, hxt, hxc⟩ := (HL.out.below HB.out).elem Vl.trlen hx
      have HC := Lib.hid (HIH.out S x xs wo hxt)
      have hst := lany_drop (p := vDpr k) hx
      obtain ⟨b, hb⟩ : ∃ b, b = vDpr k x := ⟨_, rfl⟩
      rw [← hb] at HC hst
      have HST := Lib.hid hst
      obtain ⟨A2, c2, B2, d2, rfl, _⟩ := Vl.at_iff.1 hxt
      obtain ⟨e0, e1, e2, e3, e4, e5⟩ := cel6 hxc
      clear hx hxt hxc hst hb
      go_wp2_with fail
      refine HC.out.mono ?_
      rintro e w3 ⟨rfl, hb3⟩
      have HB3 := Lib.hid (HB.out.trans (hb3.mono HB.out.size))
      have HBX3 := Lib.hid (HBX.out.below hb3)
      clear hb3 HC e0 e1 e2 e3 e4 e5 b4
      cases b with
      | true =>
        have HE : Hid (r = true) := Lib.hid (by rw [HVJ.out, HST.out]; rfl)
        go_wp2_with fail
        go_ret
        exact ⟨by rw [HE.out]; rfl, HB3.out⟩
      | false =>
        have HE : Hid (r = (v.list.drop (j + 1)).any (vDpr k)) := Lib.hid (by rw [HVJ.out, HST.out]; rfl)
        go_wp2_with fail
        go_roundg g
        case measure => omega
        case rel => exact ⟨j + 1, by omega, by go_num, HE, HB3, HBX3⟩
theorem dpr_any (k : Nat) (hk : k ≤ 101) : DprC k := by
  induction k with
  | zero => exact dpr_zero
  | succ k ih => exact dpr_step k (by omega) (ih (by omega))
/-! ### Count -/
def CntC (k : Nat) : Prop := ∀ (S : Nat → Prop) (v : Vl) (cs : List Value) (w : World), vDeep k v → vCnt k v ≤ 1000000 → Trs.at S w v.tr cs → Calls Tryz.prog 80 #[.agg cs.toArray] w fun e w' => e = .returned (.int .i64 (vCnt k v : Nat)) ∧ Below w.heap.size w w'
theorem sum_drop {f : Vl → Nat} {l : List Vl} {j : Nat} {x : Vl} (h : l[j]? = some x) : ((l.drop j).map f).sum = f x + ((l.drop (j + 1)).map f).sum := by rw [drop_cons h]; simp
set_option maxHeartbeats 8000000 in
theorem cnt_step (k : Nat) (IH : CntC k) : CntC (k + 1) := by
  intro S v cs w hd hs htr
  obtain ⟨A, c, B, d, rfl, _, _, ht, hl, hks⟩ := Vl.at_iff.1 htr
  have hcap := hl.cap
  have hbyt := hl.bytes
  have HL := Lib.hid hl
  have HIH := Lib.hid IH
  have HD := Lib.hid hd
  have HBX : Hid (Blk (w.alloc (.cells #[.int .i8 v.kind, .bool v.bool, .int .i64 v.num, .string v.text, .slice A v.list.length c, .slice B v.keys.length d] 37)) w.heap.size #[.int .i8 v.kind, .bool v.bool, .int .i64 v.num, .string v.text, .slice A v.list.length c, .slice B v.keys.length d] 37) := Lib.hid (Blk.new _ _ _)
  have HB0 : Hid (Below w.heap.size w (w.alloc (.cells #[.int .i8 v.kind, .bool v.bool, .int .i64 v.num, .string v.text, .slice A v.list.length c, .slice B v.keys.length d] 37))) := Lib.hid ((Below.refl _ w).alloc (Nat.le_refl _) _)
  obtain ⟨r, hr⟩ : ∃ r, r = vCnt (k + 1) v := ⟨_, rfl⟩
  have HV : Hid (r = 1 + ((v.list.drop 0).map (vCnt k)).sum) := Lib.hid hr
  rw [← hr] at hs ⊢
  clear htr hl hks hr hd
  go_enter Tryz.func80, Tryz.ntmps80
  go_wp2_with fail
  go_loopg [3, 4] v.list.length (fun g n i wr => ∃ j m : Nat, j + g = v.list.length ∧ i = .int .i64 (j : Nat) ∧ n = .int .i64 (m : Nat) ∧ Hid (r = m + ((v.list.drop j).map (vCnt k)).sum) ∧ Hid (Below w.heap.size w wr) ∧ Hid (Blk wr w.heap.size #[.int .i8 v.kind, .bool v.bool, .int .i64 v.num, .string v.text, .slice A v.list.length c, .slice B v.keys.length d] 37))
  case atStart => exact ⟨0, 1, by omega, rfl, rfl, HV, HB0, HBX⟩
  case round =>
    clear HB0 HBX
    obtain ⟨j, m, hj, rfl, rfl, HVJ, HB, HBX⟩ := hrel
    rename World => wo
    have b4 := HBX.out.cell 4 (v := .slice A v.list.length c) rfl
    cases gk with
    | zero =>
      have hjj : ¬ ((j : Int) < (v.list.length : Int)) := by omega
      have HE : Hid (r = m) := Lib.hid (by rw [HVJ.out, List.drop_of_length_le (by omega)]; rfl)
      go_wp2_with fail
      go_ret
      exact ⟨by rw [HE.out]; rfl, HB.out⟩
    | succ g =>
      have hjj : (j : Int) < (v.list.length : Int) := by omega
      have hj0 : (0 : Int) ≤ (j : Int) ∧ (j : Int) < (v.list.length : Int) := by omega
      obtain ⟨x, hx⟩ := get_lt (l := v.list) (i := j) (by omega)
      obtain ⟨ad, xs, rfl, hxt, hxc⟩ := (HL.out.below HB.out).elem Vl.trlen hx
      have hst := sum_drop (f := vCnt k) hx
      have hle : m + vCnt k x ≤ 1000000 := by have := HVJ.out; omega
      have HC := Lib.hid (HIH.out S x xs wo (HD.out x (List.mem_of_getElem? hx)) (by omega) hxt)
      obtain ⟨q, hq⟩ : ∃ q, q = vCnt k x := ⟨_, rfl⟩
      rw [← hq] at HC hst hle
      have HST := Lib.hid hst
      have hw1 : IntKind.i64.wrap ((m : Int) + (q : Int)) = ((m + q : Nat) : Int) := by rw [IntKind.wrap_i64]; omega
      obtain ⟨A2, c2, B2, d2, rfl, _⟩ := Vl.at_iff.1 hxt
      obtain ⟨e0, e1, e2, e3, e4, e5⟩ := cel6 hxc
      clear hx hxt hxc hst hq
      go_wp2_with fail
      refine HC.out.mono ?_
      rintro e w3 ⟨rfl, hb3⟩
      have HB3 := Lib.hid (HB.out.trans (hb3.mono HB.out.size))
      have HBX3 := Lib.hid (HBX.out.below hb3)
      clear hb3 HC e0 e1 e2 e3 e4 e5 b4
      go_wp2_with fail
      go_roundg g
      case measure => omega
      case rel => exact ⟨j + 1, m + q, by omega, by go_num, rfl, Lib.hid (by rw [HVJ.out, HST.out]; omega), HB3, HBX3⟩
theorem cnt_any (k : Nat) : CntC k := by
  induction k with
  | zero => exact fun _ _ _ _ h => h.elim
  | succ k ih => exact cnt_step k ih
end Go.Proofs.YtmljdppdaaoehaaGreatDoor
