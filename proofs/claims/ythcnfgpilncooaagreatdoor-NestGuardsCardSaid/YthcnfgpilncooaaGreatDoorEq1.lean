/- Values: depth, the values within, what is wrong with one; tree.depth. -/
/- Values: what is wrong with one, but for its parts (tree.alone). -/
import Derived.Test.YthcnfgpilncooaaGreatDoorCn16
import Derived.Deep.CutRange
import Derived.Deep.CutBlock
namespace Go.RowKit
theorem Below.drewN {B : Nat} {w w' : World} (h : Below B w w') (n : Nat) : Below B w (w'.drewN n) := ⟨h.os, h.tape, h.output, h.size, h.block⟩
end Go.RowKit
namespace Go.Proofs.YthcnfgpilncooaaGreatDoor
open Go.RowKit
set_option linter.unusedVariables false
set_option linter.unusedSimpArgs false

def vDepth : Nat → Vl → Nat
  | 0, _ => 1
  | k + 1, v => (v.list.map (vDepth k)).foldl max 0 + 1
/-- a value and all within, k deep -/
def vWalk : Nat → Vl → List Vl
  | 0, _ => []
  | k + 1, v => v :: v.list.flatMap (vWalk k)
/-- how deep a value is at most -/
def vDeep : Nat → Vl → Prop
  | 0, _ => False
  | k + 1, v => ∀ x ∈ v.list, vDeep k x
theorem foldmax_le {α : Type} {f : α → Nat} {B : Nat} : ∀ (l : List α) (a : Nat), (l.map f).foldl max a ≤ B ↔ a ≤ B ∧ ∀ x ∈ l, f x ≤ B
  | [], a => by simp
  | x :: l, a => by
    simp only [List.map_cons, List.foldl_cons, foldmax_le l, List.mem_cons, forall_eq_or_imp]
    rw [Nat.max_le, and_assoc]
theorem vDepth_le : ∀ (k : Nat) (v : Vl), vDepth k v ≤ k + 1
  | 0, v => by simp [vDepth]
  | k + 1, v => by
    have := (foldmax_le (f := vDepth k) (B := k + 1) v.list 0).2 ⟨by omega, fun x _ => vDepth_le k x⟩
    simp only [vDepth]; omega
theorem vDepth_deep : ∀ (k : Nat) (v : Vl), vDepth k v ≤ k → vDeep k v
  | 0, v, h => by simp [vDepth] at h
  | k + 1, v, h => fun x hx => by
    simp only [vDepth] at h
    have := ((foldmax_le (f := vDepth k) (B := k) v.list 0).1 (by omega)).2 x hx
    exact vDepth_deep k x this
theorem run_max {P : Program} {w : World} {ts : Array TypeId} {t : TypeId} {a b : Int} {n : Int} (h : max a b = n) : (Builtin.max_ ts t #[.int .i64 a, .int .i64 b]).run P w = .ok (.int .i64 n) w := by
  subst h
  simp only [Builtin.max_, List.foldlM, Builtin.max2]
  by_cases hab : a ≤ b
  · simp [Builtin.max2]; split <;> omega
  · simp [Builtin.max2]; split <;> omega
def DepC (k : Nat) : Prop := ∀ (S : Nat → Prop) (v : Vl) (cs : List Value) (a : Addr) (w : World), Trs.at S w v.tr cs → Cel w a cs → Calls Tryz.prog 103 #[.pointer (some a), .int .i64 (k : Int)] w fun e w' => e = .returned (.int .i64 (vDepth k v : Nat)) ∧ w' = w
set_option maxRecDepth 100000 in
set_option maxHeartbeats 4000000 in
theorem dep_step (k : Nat) (hk : k ≤ 1000) (IH : ∀ j, j + 1 = k → DepC j) : DepC k := by
  intro S v cs a w htr hcel
  obtain ⟨A, c, B, d, rfl, _, _, ht, hl, hks⟩ := Vl.at_iff.1 htr
  obtain ⟨c0, c1, c2, c3, c4, c5⟩ := cel6 hcel
  have hcap := hl.cap
  have hbyt := hl.bytes
  have HL := Lib.hid hl
  have hnn : IntKind.i64.wrap ((k : Int) - 1) = ((k : Int) - 1) := IntWalk.i64_in _ (by omega)
  have HIH : Hid (∀ j, j + 1 = k → DepC j) := Lib.hid IH
  have HLE : Hid (∀ j, j + 1 = k → ∀ x, vDepth j x ≤ 1001) := Lib.hid (fun j hj x => by have := vDepth_le j x; omega)
  clear htr hcel hl hks IH
  by_cases h0 : k = 0
  · subst h0
    go_enter Tryz.func103, Tryz.ntmps103
    go_wp2_with fail
    go_loopg [12, 5] v.list.length (fun g i x wr => ∃ j : Nat, j + g = v.list.length ∧ i = .int .i64 (j : Nat) ∧ x = .int .i64 0 ∧ wr = w)
    case atStart => exact ⟨0, by omega, rfl, rfl, rfl⟩
    case round =>
      obtain ⟨j, hj, rfl, rfl, rfl⟩ := hrel
      cases gk with
      | zero =>
        have hjj : ¬ ((j : Int) < (v.list.length : Int)) := by omega
        go_wp2_with fail
        go_ret
        exact ⟨rfl, rfl⟩
      | succ g =>
        have hjj : (j : Int) < (v.list.length : Int) := by omega
        go_wp2_with fail
        go_roundg g
        case measure => omega
        case rel => exact ⟨j + 1, by omega, by go_num, rfl, rfl⟩
  · obtain ⟨q, hq⟩ : ∃ q, q + 1 = k := ⟨k - 1, by omega⟩
    have hkp : (0 : Int) < (k : Int) := by omega
    have hnq : IntKind.i64.wrap ((k : Int) - 1) = (q : Int) := by rw [hnn]; omega
    clear hnn
    have HIQ := Lib.hid (HIH.out q hq)
    have HLQ := Lib.hid (HLE.out q hq)
    have HV : Hid (vDepth k v = (v.list.map (vDepth q)).foldl max 0 + 1) := Lib.hid (by rw [← hq]; rfl)
    clear HIH HLE
    go_enter Tryz.func103, Tryz.ntmps103
    go_wp2_with fail
    go_loopg [12, 5] v.list.length (fun g i x wr => ∃ (j m : Nat), j + g = v.list.length ∧ i = .int .i64 (j : Nat) ∧ x = .int .i64 (m : Nat) ∧ wr = w ∧ m ≤ 1001 ∧ Hid ((v.list.map (vDepth q)).foldl max 0 = ((v.list.drop j).map (vDepth q)).foldl max m))
    case atStart => exact ⟨0, 0, by omega, rfl, rfl, rfl, by omega, Lib.hid rfl⟩
    case round =>
      obtain ⟨j, m, hj, rfl, rfl, rfl, hm, HF⟩ := hrel
      cases gk with
      | zero =>
        have hjj : ¬ ((j : Int) < (v.list.length : Int)) := by omega
        have HE : Hid (vDepth k v = m + 1) := Lib.hid (by rw [HV.out, HF.out, List.drop_of_length_le (by omega)]; rfl)
        go_wp2_with fail
        go_ret
        exact ⟨by rw [HE.out]; go_num, rfl⟩
      | succ g =>
        have hjj : (j : Int) < (v.list.length : Int) := by omega
        obtain ⟨x, hx⟩ := get_lt (l := v.list) (i := j) (by omega)
        obtain ⟨ad, xs, rfl, hxt, hxc⟩ := HL.out.elem Vl.trlen hx
        have HCL := Lib.hid (HIQ.out S x xs _ _ hxt hxc)
        have hle := HLQ.out x
        obtain ⟨y, hy⟩ : ∃ y, y = vDepth q x := ⟨_, rfl⟩
        obtain ⟨z, hz⟩ : ∃ z, z = max m y := ⟨_, rfl⟩
        have HF2 : Hid ((v.list.map (vDepth q)).foldl max 0 = ((v.list.drop (j + 1)).map (vDepth q)).foldl max z) := Lib.hid (by rw [HF.out, drop_cons hx, hz, hy]; rfl)
        rw [← hy] at HCL hle
        have hmz : max (m : Int) (y : Int) = (z : Int) := by omega
        have hz1 : z ≤ 1001 := by omega
        have hmx : ∀ w', (Builtin.max_ #[3, 3] 3 #[.int .i64 (m : Nat), .int .i64 (y : Nat)]).run Tryz.prog w' = .ok (.int .i64 (z : Nat)) w' := fun w' => run_max hmz
        clear hx hxt hxc hy hmz hz
        go_wp2_with fail
        refine HCL.out.mono ?_
        rintro e w2 ⟨rfl, rfl⟩
        go_wp2_with fail
        go_roundg g
        case measure => omega
        case rel => exact ⟨j + 1, z, by omega, by go_num, rfl, rfl, by omega, HF2⟩
theorem depth_any (k : Nat) (hk : k ≤ 1000) : DepC k := by
  induction k with
  | zero => exact dep_step 0 hk (fun j hj => by omega)
  | succ k ih =>
    refine dep_step (k + 1) hk (fun j hj => ?_)
    obtain rfl : j = k := by omega
    exact ih (by omega)
end Go.Proofs.YthcnfgpilncooaaGreatDoor
namespace Go.Proofs.YthcnfgpilncooaaGreatDoor
open Go.RowKit
set_option linter.unusedVariables false
set_option linter.unusedSimpArgs false

def AskA (p : ByteArray → Bool) (N : List ByteArray) (w : World) : Prop :=
  ∀ s ∈ N, ∀ w', Below w.heap.size w w' → Calls Tryz.prog 115 #[.string s] w' (BoolB (p s) w')
set_option maxRecDepth 100000 in
set_option maxHeartbeats 4000000 in
theorem aidxf_any (p : ByteArray → Bool) (A : Option Addr) (c : Nat) (O : List ByteArray) (w : World) (hr : Rd w 1 A O.length c (O.map .string)) (hO : O.length ≤ 1000000) (hf : AskA p O w) :
    Calls Tryz.prog 75 #[.slice A O.length c, .func (.func 115) #[] #[]] w fun e w' => e = .returned (.int .i64 (idxS p O)) ∧ Below w.heap.size w w' := by
  have HR := Lib.hid hr
  have hcap := hr.cap
  have HF := Lib.hid hf
  clear hr hf
  go_enter Tryz.func75, Tryz.ntmps75
  go_wp2_with fail
  go_loopg [8] O.length (fun g i wr => ∃ j : Nat, j + g = O.length ∧ i = .int .i64 (j : Nat) ∧ Hid ((O.take j).findIdx? p = none) ∧ Hid (Below w.heap.size w wr))
  case atStart => exact ⟨0, by omega, rfl, Lib.hid (by simp), Lib.hid (Below.refl _ _)⟩
  case round =>
    obtain ⟨j, hj, rfl, HN, HB⟩ := hrel
    rename World => wo
    cases gk with
    | zero =>
      have hjj : ¬ ((j : Int) < (O.length : Int)) := by omega
      have HE : Hid (idxS p O = -1) := Lib.hid (by
        have := HN.out
        rw [List.take_of_length_le (by omega)] at this
        unfold idxS; rw [this])
      go_wp2_with fail
      go_ret
      rw [HE.out]
      exact ⟨rfl, HB.out⟩
    | succ g =>
      have hjj : (j : Int) < (O.length : Int) := by omega
      obtain ⟨k, hk⟩ := get_lt (l := O) (i := j) (by omega)
      obtain ⟨ad, rfl, hc⟩ := (HR.out.below HB.out).at_ j (.string k) (by simp [hk])
      have HCL := Lib.hid (HF.out k (List.mem_of_getElem? hk) wo HB.out)
      have HTK : Hid ((O.take (j + 1)).findIdx? p = ((O.take j).findIdx? p).or (if p k then some j else none)) := Lib.hid (by
        rw [List.take_add_one, hk, List.findIdx?_append]
        congr 1
        simp only [Option.toList_some, List.findIdx?_singleton, List.length_take]
        split <;> simp <;> omega)
      have HFI : Hid (p k = true → O.findIdx? p = some j) := Lib.hid (fun hp => by
        have h1 := HTK.out
        rw [HN.out, hp] at h1
        rw [← List.take_append_drop (j + 1) O, List.findIdx?_append, h1]; rfl)
      clear hk
      cases hp : p k with
      | true =>
        rw [hp] at HCL
        have HE : Hid (idxS p O = (j : Int)) := Lib.hid (by unfold idxS; rw [HFI.out hp])
        clear hp
        go_wp2_with fail
        refine HCL.out.mono ?_
        rintro e w2 ⟨rfl, hb2⟩
        have HB2 := Lib.hid (HB.out.trans (hb2.mono HB.out.size))
        clear hb2
        go_wp2_with fail
        go_ret
        rw [HE.out]
        exact ⟨rfl, HB2.out⟩
      | false =>
        rw [hp] at HCL HTK
        clear hp HFI
        go_wp2_with fail
        refine HCL.out.mono ?_
        rintro e w2 ⟨rfl, hb2⟩
        have HB2 := Lib.hid (HB.out.trans (hb2.mono HB.out.size))
        clear hb2
        go_wp2_with fail
        go_roundg g
        case measure => omega
        case rel => exact ⟨j + 1, by omega, by go_num, Lib.hid (by rw [HTK.out, HN.out]; rfl), HB2⟩
set_option maxRecDepth 100000 in
set_option maxHeartbeats 4000000 in
theorem acontf_any (p : ByteArray → Bool) (A : Option Addr) (c : Nat) (O : List ByteArray) (w : World) (hr : Rd w 1 A O.length c (O.map .string)) (hO : O.length ≤ 1000000) (hf : AskA p O w) :
    Calls Tryz.prog 57 #[.slice A O.length c, .func (.func 115) #[] #[]] w (BoolB (O.any p) w) := by
  have HI := Lib.hid (aidxf_any p A c O w hr hO hf)
  have HG := Lib.hid (idxS_ge p O)
  obtain ⟨z, hz⟩ : ∃ z, z = idxS p O := ⟨_, rfl⟩
  rw [← hz] at HI HG
  clear hr hf hz
  go_enter Tryz.func57, Tryz.ntmps57
  go_wp2_with fail
  refine HI.out.mono ?_
  rintro e w2 ⟨rfl, hb2⟩
  have HB2 := Lib.hid hb2
  clear hb2
  go_wp2_with fail
  go_ret
  exact ⟨by rw [← HG.out]; rfl, HB2.out⟩
set_option maxRecDepth 100000 in
theorem al1_any (s : ByteArray) (w : World) (hV : VOk w) (hs : s.size ≤ 140737488351232) : Calls Tryz.prog 115 #[.string s] w (BoolB (!Lib.validD s.data.toList) w) := by
  have HC := Lib.hid (hV s w hs (Below.refl _ _))
  obtain ⟨b, hb⟩ : ∃ b, b = Lib.validD s.data.toList := ⟨_, rfl⟩
  rw [← hb] at HC ⊢
  clear hV hb
  go_enter Tryz.func115, Tryz.ntmps115
  go_wp2_with fail
  refine HC.out.mono ?_
  rintro e w2 ⟨rfl, hb⟩
  have HB := Lib.hid hb
  clear hb
  go_wp2_with fail
  go_ret
  exact ⟨rfl, HB.out⟩
theorem MB.look {w : World} {b n : Nat} {f : ByteArray → Option Bool} (h : MB w b n f) {d : ByteArray} (hd : d.size ≤ maxLen) : (Instr.lookup 73 (.map (some b)) (.string d) false).run Tryz.prog w = .ok (.bool ((f d).getD false)) w := by
  obtain ⟨D, g1, g2, g3⟩ := h
  obtain ⟨v, ps, hrun, hv⟩ := g1.lookup key_str Tryz.underlying73 (zero_bool w) (plainElem_bool Tryz.underlying4 false) (skey_of hd)
  rw [(g3 d).1] at hv
  rw [hrun]
  have hu : Tryz.prog.underlying 4 = some .bool := Tryz.underlying4
  unfold plainElem at hv
  rw [hu] at hv
  cases v <;> simp_all
theorem MB.eq {w : World} {b n : Nat} {f g : ByteArray → Option Bool} (h : MB w b n f) (e : ∀ s, f s = g s) : MB w b n g := by
  have : f = g := funext e
  exact this ▸ h
/-- the texts that have come -/
def seenF (l : List ByteArray) (s : ByteArray) : Option Bool := if sHas s l = true then some true else none
theorem seenF_getD (l : List ByteArray) (s : ByteArray) : (seenF l s).getD false = sHas s l := by unfold seenF; cases sHas s l <;> rfl
theorem seenF_snoc (l : List ByteArray) (k s : ByteArray) : (if s = k then some true else seenF l s) = seenF (l ++ [k]) s := by
  unfold seenF
  have : sHas s (l ++ [k]) = (sHas s l || bEq s k) := by simp [sHas, List.any_append]
  rw [this]
  by_cases e : s = k
  · rw [if_pos e, bEq_iff.2 e]; simp
  · rw [if_neg e, bEq_ne e]; simp
/-- has a value what its kind does not name? -/
def rBad (v : Vl) : Bool := (decide (v.kind ≠ 1) && v.bool) || ((decide (v.kind ≠ 2) && decide (v.num ≠ 0)) || ((decide (v.kind ≠ 3) && !bEq v.text ByteArray.empty) || decide (0 < (if v.kind = 4 ∨ v.kind = 5 then 0 else v.list.length) + (if v.kind = 5 then 0 else v.keys.length))))
def vDup : List ByteArray → List ByteArray → Bool
  | _, [] => false
  | pre, k :: r => sHas k pre || vDup (pre ++ [k]) r
/-- what is wrong behind that -/
def vWrong (v : Vl) : Nat := if v.num < -9007199254740992 ∨ 9007199254740992 < v.num then 20 else if (!Lib.validD v.text.data.toList || v.keys.any fun s => !Lib.validD s.data.toList) = true then 10 else if vDup [] v.keys = true then 41 else 0
def vAlone (v : Vl) : Nat := if ¬ (0 ≤ v.kind ∧ v.kind ≤ 5) then 2 else if v.kind = 5 ∧ v.keys.length ≠ v.list.length then 2 else if rBad v = true then 2 else vWrong v
theorem vDup_drop {l : List ByteArray} {j : Nat} {k : ByteArray} (h : l[j]? = some k) : vDup (l.take j) (l.drop j) = (sHas k (l.take j) || vDup (l.take (j + 1)) (l.drop (j + 1))) := by
  rw [drop_cons h, List.take_add_one, h]; rfl
set_option maxRecDepth 100000 in
set_option maxHeartbeats 8000000 in
theorem alone_any (S : Nat → Prop) (v : Vl) (cs : List Value) (a : Addr) (w : World) (hV : VOk w) (htr : Trs.at S w v.tr cs) (hcel : Cel w a cs) (hkl : v.keys.length ≤ 1000000) (hll : v.list.length ≤ 1000000) :
    Calls Tryz.prog 105 #[.pointer (some a)] w fun e w' => e = .returned (.int .i64 (vAlone v : Nat)) ∧ Below w.heap.size w w' := by
  have hmm := @run_makeMap Tryz.prog
  obtain ⟨A, c, B, d, rfl, hwk, hwn, ht, hl, hks⟩ := Vl.at_iff.1 htr
  obtain ⟨c0, c1, c2, c3, c4, c5⟩ := cel6 hcel
  have hkcap := hks.cap
  have hlcap := hl.cap
  have hal : a.block < w.heap.size := World.block_lt_of_cell? w _ c0
  have HL := Lib.hid hl
  have HKS := Lib.hid hks
  have HV := Lib.hid hV
  have HCE := Lib.hid hcel
  clear htr hcel hl hks hV
  obtain ⟨K, hK⟩ : ∃ K, v.kind = K := ⟨_, rfl⟩
  rw [hK] at c0 hwk
  have hk8 := wf_i8 hwk
  have HAL : Hid (vAlone v = if ¬ (0 ≤ K ∧ K ≤ 5) then 2 else if K = 5 ∧ v.keys.length ≠ v.list.length then 2 else if rBad v = true then 2 else vWrong v) := Lib.hid (by rw [← hK]; rfl)
  have HRB : Hid (rBad v = ((decide (K ≠ 1) && v.bool) || ((decide (K ≠ 2) && decide (v.num ≠ 0)) || ((decide (K ≠ 3) && !bEq v.text ByteArray.empty) || decide (0 < (if K = 4 ∨ K = 5 then 0 else v.list.length) + (if K = 5 then 0 else v.keys.length)))))) := Lib.hid (by rw [← hK]; rfl)
  go_enter Tryz.func105, Tryz.ntmps105
  go_upto_block 0 with fail
  go_cut [3] from 14 to 42 (fun v3 wx => ∃ (b : Bool) (n : Int) (t : ByteArray) (L : Option Addr) (ll lc : Nat) (KA : Option Addr) (kk kc : Nat), v3 = .pointer (some ⟨w.heap.size, 0, none⟩) ∧ Hid (Blk wx w.heap.size #[.int .i8 K, .bool b, .int .i64 n, .string t, .slice L ll lc, .slice KA kk kc] 57) ∧ Hid (Below w.heap.size w wx) ∧
    Hid (vAlone v = if (b || (decide (n ≠ 0) || (!bEq t ByteArray.empty || decide (0 < ll + kk)))) = true then 2 else vWrong v) ∧ t.size ≤ 140737488351232 ∧ ll ≤ 1000000 ∧ kk ≤ 1000000)
  case first =>
    clear hK
    by_cases h0 : K = 0
    · subst h0
      go_wp2_with fail
      go_meet
      exact ⟨v.bool, v.num, v.text, A, v.list.length, c, B, v.keys.length, d, rfl, Lib.hid (Blk.new w _ _), Lib.hid ((Below.refl _ w).alloc (Nat.le_refl _) _), Lib.hid (by rw [HAL.out, HRB.out]; simp), ht, hll, hkl⟩
    by_cases h1 : K = 1
    · subst h1
      go_wp2_with fail
      go_meet
      exact ⟨false, v.num, v.text, A, v.list.length, c, B, v.keys.length, d, rfl, Lib.hid (Blk.new w _ _), Lib.hid ((Below.refl _ w).alloc (Nat.le_refl _) _), Lib.hid (by rw [HAL.out, HRB.out]; simp), ht, hll, hkl⟩
    by_cases h2 : K = 2
    · subst h2
      go_wp2_with fail
      go_meet
      exact ⟨v.bool, 0, v.text, A, v.list.length, c, B, v.keys.length, d, rfl, Lib.hid (Blk.new w _ _), Lib.hid ((Below.refl _ w).alloc (Nat.le_refl _) _), Lib.hid (by rw [HAL.out, HRB.out]; simp), ht, hll, hkl⟩
    by_cases h3 : K = 3
    · subst h3
      go_wp2_with fail
      go_meet
      exact ⟨v.bool, v.num, ByteArray.empty, A, v.list.length, c, B, v.keys.length, d, rfl, Lib.hid (Blk.new w _ _), Lib.hid ((Below.refl _ w).alloc (Nat.le_refl _) _), Lib.hid (by rw [HAL.out, HRB.out]; simp [bEq]), by decide, hll, hkl⟩
    by_cases h4 : K = 4
    · subst h4
      go_wp2_with fail
      go_meet
      exact ⟨v.bool, v.num, v.text, none, 0, 0, B, v.keys.length, d, rfl, Lib.hid (Blk.new w _ _), Lib.hid ((Below.refl _ w).alloc (Nat.le_refl _) _), Lib.hid (by rw [HAL.out, HRB.out]; simp), ht, by omega, hkl⟩
    by_cases h5 : K = 5
    · subst h5
      have c4' := (World.cell?_alloc_lt w (.cells #[.int .i8 5, .bool v.bool, .int .i64 v.num, .string v.text, .slice A v.list.length c, .slice B v.keys.length d] 57) ⟨a.block, a.off + 4, none⟩ hal).trans c4
      have c5' := (World.cell?_alloc_lt w (.cells #[.int .i8 5, .bool v.bool, .int .i64 v.num, .string v.text, .slice A v.list.length c, .slice B v.keys.length d] 57) ⟨a.block, a.off + 5, none⟩ hal).trans c5
      by_cases hne : (v.keys.length : Int) = (v.list.length : Int)
      · have hq : ((v.keys.length : Int) != (v.list.length : Int)) = false := by simp; omega
        have H5 : Hid (v.keys.length = v.list.length) := Lib.hid (by omega)
        clear hne
        go_wp2_with fail
        go_quiet (fail)
        go_wp2_with fail
        go_meet
        exact ⟨v.bool, v.num, v.text, none, 0, 0, none, 0, 0, rfl, Lib.hid (((((Blk.new w _ _).drewN nq).set 4 (.slice none 0 0)).set 5 (.slice none 0 0)).eq (by simp)), Lib.hid ((((Below.refl _ w).alloc (Nat.le_refl _) _).drewN nq |>.setCell (p := ⟨w.heap.size, 4, none⟩) (Nat.le_refl _) _).setCell (p := ⟨w.heap.size, 5, none⟩) (Nat.le_refl _) _), Lib.hid (by rw [HAL.out, HRB.out]; simp [H5.out]), ht, by omega, by omega⟩
      · have hq : ((v.keys.length : Int) != (v.list.length : Int)) = true := by simp; omega
        have H5 : Hid (v.keys.length ≠ v.list.length) := Lib.hid (by omega)
        clear hne
        go_wp2_with fail
        go_quiet (fail)
        go_wp2_with fail
        go_ret
        exact ⟨by rw [HAL.out]; simp [H5.out], ((Below.refl _ w).alloc (Nat.le_refl _) _).drewN nq⟩
    · have e0 : (K == 0) = false := by simpa using h0
      have e1 : (K == 1) = false := by simpa using h1
      have e2 : (K == 2) = false := by simpa using h2
      have e3 : (K == 3) = false := by simpa using h3
      have e4 : (K == 4) = false := by simpa using h4
      have e5 : (K == 5) = false := by simpa using h5
      go_wp2_with fail
      go_ret
      exact ⟨by rw [HAL.out, if_pos (by omega)]; rfl, (Below.refl _ w).alloc (Nat.le_refl _) _⟩
  case rest =>
    obtain ⟨b, n, t, L, ll, lc, KA, kk, kc, rfl, HX, HBX, HA, htt, hll2, hkk2⟩ := hcut
    rename World => wx
    obtain ⟨r0, r1, r2, r3, r4, r5⟩ := blk6 HX.out
    cases hbad : (b || (decide (n ≠ 0) || (!bEq t ByteArray.empty || decide (0 < ll + kk)))) with
    | true =>
      have HA2 : Hid (vAlone v = 2) := Lib.hid (by rw [HA.out, hbad]; rfl)
      have hX := HX.out.alloc (.map #[] 0)
      obtain ⟨q0, q1, q2, q3, q4, q5⟩ := blk6 hX
      clear hX HA
      cases b with
      | true =>
        clear hbad
        go_wp2_with fail
        go_ret
        exact ⟨by rw [HA2.out]; rfl, HBX.out.alloc HBX.out.size _⟩
      | false =>
        by_cases hn : n = 0
        · subst hn
          by_cases htq : t = ByteArray.empty
          · subst htq
            have hlk : decide ((0 : Int) < (ll : Int) + (kk : Int)) = true := by
              simp [bEq] at hbad
              simp; omega
            clear hbad
            go_wp2_with fail
            go_ret
            exact ⟨by rw [HA2.out]; rfl, HBX.out.alloc HBX.out.size _⟩
          · have hqt : ¬ t.toList = [] := fun e => htq (ba_ext (by rw [← Lib.toList_data, e]; rfl))
            clear hbad htq
            go_wp2_with fail
            go_ret
            exact ⟨by rw [HA2.out]; rfl, HBX.out.alloc HBX.out.size _⟩
        · have hnq : (n != 0) = true := by simpa using hn
          clear hbad
          go_wp2_with fail
          go_ret
          exact ⟨by rw [HA2.out]; rfl, HBX.out.alloc HBX.out.size _⟩
    | false =>
      have HA2 : Hid (vAlone v = vWrong v) := Lib.hid (by rw [HA.out, hbad]; rfl)
      obtain ⟨rfl, rfl, rfl, rfl, rfl⟩ : b = false ∧ n = 0 ∧ t = ByteArray.empty ∧ ll = 0 ∧ kk = 0 := by
        simp [bEq] at hbad
        exact ⟨hbad.1, hbad.2.1, ba_ext (by rw [hbad.2.2.1]; rfl), by omega, by omega⟩
      have hX := HX.out.alloc (.map #[] 0)
      obtain ⟨q0, q1, q2, q3, q4, q5⟩ := blk6 hX
      have hba := (Below.refl _ wx).alloc (Nat.le_refl _) (.map #[] 0)
      have HBA := Lib.hid hba
      have hcw := (HCE.out.below HBX.out).below hba
      rw [hK] at hcw
      obtain ⟨d0, d1, d2, d3, d4, d5⟩ := cel6 hcw
      have HM0 := Lib.hid (MB.new wx)
      have HKB := Lib.hid hK
      clear hX hba hcw HA hbad hK c0 c1 c2 c3 c4 c5 r0 r1 r2 r3 r4 r5
      by_cases hn1 : v.num < -9007199254740992
      · have HW : Hid (vAlone v = 20) := Lib.hid (by rw [HA2.out]; unfold vWrong; rw [if_pos (.inl hn1)])
        go_wp2_with fail
        go_ret
        exact ⟨by rw [HW.out]; rfl, HBX.out.alloc HBX.out.size _⟩
      by_cases hn2 : 9007199254740992 < v.num
      · have HW : Hid (vAlone v = 20) := Lib.hid (by rw [HA2.out]; unfold vWrong; rw [if_pos (.inr hn2)])
        go_wp2_with fail
        go_ret
        exact ⟨by rw [HW.out]; rfl, HBX.out.alloc HBX.out.size _⟩
      have HWR : Hid (vWrong v = if (!Lib.validD v.text.data.toList || v.keys.any fun s => !Lib.validD s.data.toList) = true then 10 else if vDup [] v.keys = true then 41 else 0) := Lib.hid (by unfold vWrong; rw [if_neg (by omega)])
      have HVC := Lib.hid (HV.out v.text (wx.alloc (.map #[] 0)) ht ((HBX.out).trans (HBA.out.mono HBX.out.size)))
      have HSS := Lib.hid HKS.out.strs
      have hxs := HBX.out.size
      obtain ⟨tv, htv⟩ : ∃ tv, tv = Lib.validD v.text.data.toList := ⟨_, rfl⟩
      rw [← htv] at HVC HWR
      clear htv
      cases tv with
      | false =>
        have HW : Hid (vAlone v = 10) := Lib.hid (by rw [HA2.out, HWR.out]; simp)
        go_wp2_with fail
        refine HVC.out.mono ?_
        rintro e w3 ⟨rfl, hb3⟩
        have HB3 := Lib.hid ((HBX.out.trans (HBA.out.mono hxs)).trans (hb3.mono (by simp; omega)))
        clear hb3
        go_wp2_with fail
        go_ret
        exact ⟨by rw [HW.out]; rfl, HB3.out⟩
      | true =>
        have hbw : Below w.heap.size w (wx.alloc (.map #[] 0)) := HBX.out.trans (HBA.out.mono hxs)
        have HBW := Lib.hid hbw
        have HCF : Hid (∀ w', Below (wx.alloc (.map #[] 0)).heap.size (wx.alloc (.map #[] 0)) w' → Calls Tryz.prog 57 #[.slice B v.keys.length d, .func (.func 115) #[] #[]] w' (BoolB (v.keys.any fun s => !Lib.validD s.data.toList) w')) := Lib.hid (fun w' hb => by
          have hb2 : Below w.heap.size w w' := hbw.trans (hb.mono hbw.size)
          exact acontf_any _ B d v.keys w' (HSS.out.1.below hb2) hkl (fun s hs w'' hb'' => al1_any s w'' (HV.out.below (hb2.trans (hb''.mono hb2.size))) (HSS.out.2 s hs)))
        have HM1 : Hid (MB (wx.alloc (.map #[] 0)) wx.heap.size 0 (fun _ => none)) := HM0
        have HC1 : Hid (Cel (wx.alloc (.map #[] 0)) a [.int .i8 v.kind, .bool v.bool, .int .i64 v.num, .string v.text, .slice A v.list.length c, .slice B v.keys.length d]) := Lib.hid (HCE.out.below hbw)
        clear hbw HM0
        go_wp2_with fail
        refine HVC.out.mono ?_
        rintro e w3 ⟨rfl, hb3⟩
        have HB3 := Lib.hid hb3
        have HCF3 := Lib.hid (HCF.out w3 hb3)
        have hcel3 := HC1.out.below hb3
        have hs3 := hb3.size
        rw [HKB.out] at hcel3
        obtain ⟨g0, g1, g2, g3, g4, g5⟩ := cel6 hcel3
        obtain ⟨kv, hkv⟩ : ∃ kv, kv = v.keys.any fun s => !Lib.validD s.data.toList := ⟨_, rfl⟩
        rw [← hkv] at HCF3 HWR
        clear hb3 hcel3 HCF HVC d0 d1 d2 d3 d4 d5 q0 q1 q2 q3 q4 q5 hkv
        go_wp2_with fail
        refine HCF3.out.mono ?_
        rintro e w4 ⟨rfl, hb4⟩
        have hb34 := HB3.out.trans (hb4.mono hs3)
        have HB4 := Lib.hid (HBW.out.trans (hb34.mono HBW.out.size))
        have HM4 := Lib.hid (HM1.out.below hb34)
        have hcel4 := HC1.out.below hb34
        rw [HKB.out] at hcel4
        clear g0 g1 g2 g3 g4 g5
        obtain ⟨g0, g1, g2, g3, g4, g5⟩ := cel6 hcel4
        have hs4 := HB4.out.size
        clear hb4 hb34 hcel4
        cases kv with
        | true =>
          have HW : Hid (vAlone v = 10) := Lib.hid (by rw [HA2.out, HWR.out]; simp)
          go_wp2_with fail
          go_ret
          exact ⟨by rw [HW.out]; rfl, HB4.out⟩
        | false =>
          have HW : Hid (vAlone v = if vDup [] v.keys = true then 41 else 0) := Lib.hid (by rw [HA2.out, HWR.out]; simp)
          have HR4 := Lib.hid (HSS.out.1.below HB4.out)
          go_wp2_with fail
          go_loopg [99] v.keys.length (fun g i wr => ∃ j : Nat, j + g = v.keys.length ∧ i = .int .i64 (j : Nat) ∧ Hid (MB wr wx.heap.size j (seenF (v.keys.take j))) ∧ Hid (vDup [] v.keys = vDup (v.keys.take j) (v.keys.drop j)) ∧ Hid (Below w.heap.size w wr))
          case atStart => exact ⟨0, by omega, rfl, Lib.hid (HM4.out.eq (fun s => by simp [seenF, sHas])), Lib.hid (by simp), HB4⟩
          case round =>
            obtain ⟨j, hj, rfl, HM, HD, HB⟩ := hrel
            rename World => wo
            cases gk with
            | zero =>
              have hjj : ¬ ((j : Int) < (v.keys.length : Int)) := by omega
              have HE : Hid (vAlone v = 0) := Lib.hid (by rw [HW.out, HD.out, List.drop_of_length_le (by omega)]; rfl)
              go_wp2_with fail
              go_ret
              exact ⟨by rw [HE.out]; rfl, HB.out⟩
            | succ g =>
              have hjj : (j : Int) < (v.keys.length : Int) := by omega
              obtain ⟨k, hk⟩ := get_lt (l := v.keys) (i := j) (by omega)
              obtain ⟨ad, rfl, hc⟩ := (HSS.out.1.below HB.out).at_ j (.string k) (by simp [hk])
              have hksz : k.size ≤ maxLen := by have := HSS.out.2 k (List.mem_of_getElem? hk); unfold maxLen; omega
              have hlk := HM.out.look hksz
              rw [seenF_getD] at hlk
              have HD2 := Lib.hid (HD.out.trans (vDup_drop hk))
              have HTK : Hid (v.keys.take (j + 1) = v.keys.take j ++ [k]) := Lib.hid (by rw [List.take_add_one, hk]; rfl)
              obtain ⟨sb, hsb⟩ : ∃ sb, sb = sHas k (v.keys.take j) := ⟨_, rfl⟩
              rw [← hsb] at hlk HD2
              clear hk hsb
              cases sb with
              | true =>
                have HE : Hid (vAlone v = 41) := Lib.hid (by rw [HW.out, HD2.out]; simp)
                go_wp2_with fail
                go_ret
                exact ⟨by rw [HE.out]; rfl, HB.out⟩
              | false =>
                have HD3 : Hid (vDup [] v.keys = vDup (v.keys.take (j + 1)) (v.keys.drop (j + 1))) := Lib.hid (by rw [HD2.out]; simp)
                go_wp2_with (refine wp_put_MB rfl _ _ _ rfl wx.heap.size j _ rfl HM.out (by unfold maxLen; omega) k hksz rfl true rfl ?_; intro w6 hm6 hg6; have HM6 := Lib.hid hm6; have HG6 := Lib.hid hg6; clear hm6 hg6)
                go_roundg g
                case measure => omega
                case rel => exact ⟨j + 1, by omega, by go_num, Lib.hid (HM6.out.eq (fun s => by rw [seenF_snoc, HTK.out])), HD3, Lib.hid (HB.out.grown HG6.out HB.out.size (fun q hq => by injection hq with hq; omega))⟩
end Go.Proofs.YthcnfgpilncooaaGreatDoor
