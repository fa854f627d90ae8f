/- Values: their order (tree.compare). -/
import Derived.Test.YtmljdppdaaoehaaGreatDoorEq3
import Derived.Test.YtmljdppdaaoehaaGreatDoorEqL
import Derived.Lib.Small
import Derived.StillTail
import Derived.StillTailTactics
namespace Go.Proofs.YtmljdppdaaoehaaGreatDoor
open Go.RowKit
set_option linter.unusedVariables false
set_option linter.unusedSimpArgs false
theorem isn8_any (x : Int) (w : World) : Calls Tryz.prog 103 #[.int .i8 x] w fun e w' => e = .returned (.bool false) ∧ w' = w := by
  go_enter Tryz.func103, Tryz.ntmps103
  go_wp2
  go_ret
  exact ⟨by simp, rfl⟩
theorem isni_any (x : Int) (w : World) : Calls Tryz.prog 104 #[.int .i64 x] w fun e w' => e = .returned (.bool false) ∧ w' = w := by
  go_enter Tryz.func104, Tryz.ntmps104
  go_wp2
  go_ret
  exact ⟨by simp, rfl⟩
theorem cmp8_any (x y : Int) (w : World) : Calls Tryz.prog 94 #[.int .i8 x, .int .i8 y] w fun e w' => e = .returned (.int .i64 (Lib.compareInt x y)) ∧ w' = w := by
  go_enter Tryz.func94, Tryz.ntmps94
  go_wp2_with fail
  refine (isn8_any x w).mono ?_
  rintro e w1 ⟨rfl, rfl⟩
  go_wp2_with fail
  refine (isn8_any y _).mono ?_
  rintro e w1 ⟨rfl, rfl⟩
  by_cases h1 : x < y
  · have HE : Hid (Lib.compareInt x y = -1) := Lib.hid (by unfold Lib.compareInt; rw [if_pos h1])
    go_wp2_with fail
    go_ret
    exact ⟨by rw [HE.out]; rfl, rfl⟩
  · by_cases h2 : y < x
    · have HE : Hid (Lib.compareInt x y = 1) := Lib.hid (by unfold Lib.compareInt; rw [if_neg h1, if_pos h2])
      go_wp2_with fail
      go_ret
      exact ⟨by rw [HE.out]; rfl, rfl⟩
    · have HE : Hid (Lib.compareInt x y = 0) := Lib.hid (by unfold Lib.compareInt; rw [if_neg h1, if_neg h2])
      go_wp2_with fail
      go_ret
      exact ⟨by rw [HE.out]; rfl, rfl⟩
theorem cmpi_any (x y : Int) (w : World) : Calls Tryz.prog 96 #[.int .i64 x, .int .i64 y] w fun e w' => e = .returned (.int .i64 (Lib.compareInt x y)) ∧ w' = w := by
  go_enter Tryz.func96, Tryz.ntmps96
  go_wp2_with fail
  refine (isni_any x w).mono ?_
  rintro e w1 ⟨rfl, rfl⟩
  go_wp2_with fail
  refine (isni_any y _).mono ?_
  rintro e w1 ⟨rfl, rfl⟩
  by_cases h1 : x < y
  · have HE : Hid (Lib.compareInt x y = -1) := Lib.hid (by unfold Lib.compareInt; rw [if_pos h1])
    go_wp2_with fail
    go_ret
    exact ⟨by rw [HE.out]; rfl, rfl⟩
  · by_cases h2 : y < x
    · have HE : Hid (Lib.compareInt x y = 1) := Lib.hid (by unfold Lib.compareInt; rw [if_neg h1, if_pos h2])
      go_wp2_with fail
      go_ret
      exact ⟨by rw [HE.out]; rfl, rfl⟩
    · have HE : Hid (Lib.compareInt x y = 0) := Lib.hid (by unfold Lib.compareInt; rw [if_neg h1, if_neg h2])
      go_wp2_with fail
      go_ret
      exact ⟨by rw [HE.out]; rfl, rfl⟩
theorem bit_any (b : Bool) (w : World) : Calls Tryz.prog 95 #[.bool b] w fun e w' => e = .returned (.int .i64 (b.toNat : Nat)) ∧ w' = w := by
  go_enter Tryz.func95, Tryz.ntmps95
  cases b
  · go_wp2_with fail
    go_ret
    exact ⟨rfl, rfl⟩
  · go_wp2_with fail
    go_ret
    exact ⟨rfl, rfl⟩
/-- the first number that is not 0 -/
def firstNZ (l : List Int) : Int := (l.find? (fun x => decide (x ≠ 0))).getD 0
set_option maxRecDepth 100000 in
theorem or_any (A : Option Addr) (c : Nat) (l : List Int) (w : World) (hr : Rd w 1 A l.length c (l.map (.int .i64))) (hl : l.length ≤ 1000) :
    Calls Tryz.prog 93 #[.slice A l.length c] w fun e w' => e = .returned (.int .i64 (firstNZ l)) ∧ w' = w := by
  have hcap := hr.cap
  have HR := Lib.hid hr
  clear hr
  go_enter Tryz.func93, Tryz.ntmps93
  go_wp2_with fail
  go_loopg [8] l.length (fun g i wr => ∃ j : Nat, j + g = l.length ∧ i = .int .i64 (j : Nat) ∧ wr = w ∧ Hid (firstNZ l = firstNZ (l.drop j)))
  case atStart => exact ⟨0, by omega, rfl, rfl, Lib.hid rfl⟩
  case round =>
    obtain ⟨j, hj, rfl, rfl, HF⟩ := hrel
    cases gk with
    | zero =>
      have hjj : ¬ ((j : Int) < (l.length : Int)) := by omega
      have HE : Hid (firstNZ l = 0) := Lib.hid (by rw [HF.out, List.drop_of_length_le (by omega)]; rfl)
      go_wp2_with fail
      go_ret
      exact ⟨by rw [HE.out]; rfl, rfl⟩
    | succ g =>
      have hjj : (j : Int) < (l.length : Int) := by omega
      obtain ⟨x, hx⟩ := get_lt (l := l) (i := j) (by omega)
      obtain ⟨ad, rfl, hc⟩ := HR.out.at_ j (.int .i64 x) (by simp [hx])
      have HD : Hid (firstNZ (l.drop j) = if x ≠ 0 then x else firstNZ (l.drop (j + 1))) := Lib.hid (by
        rw [drop_cons hx]
        unfold firstNZ
        rw [List.find?_cons]
        by_cases hz : x = 0
        · simp [hz]
        · simp [hz])
      clear hx
      by_cases hz : x = 0
      · subst hz
        have HF2 : Hid (firstNZ l = firstNZ (l.drop (j + 1))) := Lib.hid (by rw [HF.out, HD.out]; simp)
        go_wp2_with fail
        go_roundg g
        case measure => omega
        case rel => exact ⟨j + 1, by omega, by go_num, rfl, HF2⟩
      · have hq : (x != 0) = true := by simpa using hz
        have HE : Hid (firstNZ l = x) := Lib.hid (by rw [HF.out, HD.out, if_pos hz])
        clear hz
        go_wp2_with fail
        go_ret
        exact ⟨by rw [HE.out]; rfl, rfl⟩
/-! ### The order -/
def vHead (a b : Vl) : Int := firstNZ [Lib.compareInt a.kind b.kind, (a.bool.toNat : Int) - (b.bool.toNat : Int), Lib.compareInt a.num b.num, Lib.compareBytes a.text.data.toList b.text.data.toList]
/-- what the parts at a place say; none: nothing -/
def vRow (f : Vl → Vl → Int) (a b : Vl) (i : Nat) : Option Int :=
  let c := if a.kind = 5 then Lib.compareBytes (a.keys.getD i ByteArray.empty).data.toList (b.keys.getD i ByteArray.empty).data.toList else 0
  if c ≠ 0 then some c else match a.list[i]?, b.list[i]? with
    | some x, some y => if f x y ≠ 0 then some (f x y) else none
    | _, _ => none
def vTail (f : Vl → Vl → Int) (a b : Vl) : Int := ((List.range (min a.list.length b.list.length)).findSome? (vRow f a b)).getD (Lib.compareInt a.list.length b.list.length)
def vCmp : Nat → Vl → Vl → Int
  | 0, _, _ => 0
  | k + 1, a, b => if vHead a b ≠ 0 then vHead a b else vTail (vCmp k) a b
/-- an object's keys are as many as its values, k deep -/
def vFit : Nat → Vl → Prop
  | 0, _ => False
  | k + 1, v => (v.kind = 5 → v.keys.length = v.list.length) ∧ ∀ x ∈ v.list, vFit k x
theorem compareInt_le (x y : Int) : -1 ≤ Lib.compareInt x y ∧ Lib.compareInt x y ≤ 1 := by
  unfold Lib.compareInt
  split <;> (try split) <;> omega
theorem compareBytes_le : ∀ (a b : List UInt8), -1 ≤ Lib.compareBytes a b ∧ Lib.compareBytes a b ≤ 1
  | [], [] => by simp [Lib.compareBytes]
  | [], _ :: _ => by simp [Lib.compareBytes]
  | _ :: _, [] => by simp [Lib.compareBytes]
  | a :: x, b :: y => by
    unfold Lib.compareBytes
    split
    · omega
    · split
      · omega
      · exact compareBytes_le x y
theorem vHead_kind {a b : Vl} (h : vHead a b = 0) : a.kind = b.kind := by
  unfold vHead firstNZ at h
  rw [List.find?_cons] at h
  by_cases hz : Lib.compareInt a.kind b.kind = 0
  · unfold Lib.compareInt at hz
    split at hz
    · omega
    · split at hz <;> omega
  · rw [show decide (Lib.compareInt a.kind b.kind ≠ 0) = true by simpa using hz] at h
    exact absurd h hz
def CmC (k : Nat) : Prop := ∀ (S : Nat → Prop) (a b : Vl) (ca cb : List Value) (pa pb : Addr) (w : World), vFit k a → vFit k b → Trs.at S w a.tr ca → Cel w pa ca → Trs.at S w b.tr cb → Cel w pb cb →
  Calls Tryz.prog 85 #[.pointer (some pa), .pointer (some pb)] w fun e w' => e = .returned (.int .i64 (vCmp k a b)) ∧ Below w.heap.size w w'
set_option maxRecDepth 100000 in
set_option maxHeartbeats 8000000 in
theorem cm_step (k : Nat) (IH : CmC k) : CmC (k + 1) := by
  intro S a b ca cb pa pb w hfa hfb hta hca htb hcb
  obtain ⟨A1, n1, K1, m1, rfl, _, _, hx1, hl1, hk1⟩ := Vl.at_iff.1 hta
  obtain ⟨A2, n2, K2, m2, rfl, _, _, hx2, hl2, hk2⟩ := Vl.at_iff.1 htb
  obtain ⟨c0, c1, c2, c3, c4, c5⟩ := cel6 hca
  obtain ⟨d0, d1, d2, d3, d4, d5⟩ := cel6 hcb
  have hcap1 := hl1.cap
  have hcap2 := hl2.cap
  have hbyt1 := hl1.bytes
  have HL1 := Lib.hid hl1
  have HL2 := Lib.hid hl2
  have HK1 := Lib.hid hk1
  have HK2 := Lib.hid hk2
  have HCA := Lib.hid hca
  have HCB := Lib.hid hcb
  have HFA := Lib.hid hfa
  have HFB := Lib.hid hfb
  have HIH := Lib.hid IH
  clear hta htb hca hcb hl1 hl2 hk1 hk2 hfa hfb IH
  have hwr : IntKind.i64.wrap ((a.bool.toNat : Int) - (b.bool.toNat : Int)) = (a.bool.toNat : Int) - (b.bool.toNat : Int) := IntWalk.i64_in _ (by
    have h1 : a.bool.toNat ≤ 1 := by cases a.bool <;> simp
    have h2 : b.bool.toNat ≤ 1 := by cases b.bool <;> simp
    omega)
  go_enter Tryz.func85, Tryz.ntmps85
  go_wp2_with fail
  go_still_tail 38, (by kernel_rfl)
  still_call (cmp8_any _ _ _)
  repeat still_step
  still_call (bit_any _ _)
  repeat still_step
  still_call (bit_any _ _)
  repeat still_step
  still_call (cmpi_any _ _ _)
  repeat still_step
  still_call (scmp_any _ _ _)
  repeat still_step
  try refine wpStill_nil ?_
  change wpList _ _ _ _ _ w.drew
  have hb1 : Below w.heap.size w (w.drew.alloc (.cells #[.int .i64 (Lib.compareInt a.kind b.kind), .int .i64 ((a.bool.toNat : Int) - (b.bool.toNat : Int)), .int .i64 (Lib.compareInt a.num b.num), .int .i64 (Lib.compareBytes a.text.data.toList b.text.data.toList)] 3)) := (Below.refl _ w).drew.alloc (by simp) _
  have hor := or_any (some ⟨w.heap.size, 0, none⟩) 4 [Lib.compareInt a.kind b.kind, (a.bool.toNat : Int) - (b.bool.toNat : Int), Lib.compareInt a.num b.num, Lib.compareBytes a.text.data.toList b.text.data.toList] (w.drew.alloc (.cells #[.int .i64 (Lib.compareInt a.kind b.kind), .int .i64 ((a.bool.toNat : Int) - (b.bool.toNat : Int)), .int .i64 (Lib.compareInt a.num b.num), .int .i64 (Lib.compareBytes a.text.data.toList b.text.data.toList)] 3))
    (by simpa using Rd.lit w.drew 1 4 #[.int .i64 (Lib.compareInt a.kind b.kind), .int .i64 ((a.bool.toNat : Int) - (b.bool.toNat : Int)), .int .i64 (Lib.compareInt a.num b.num), .int .i64 (Lib.compareBytes a.text.data.toList b.text.data.toList)] 3 (0, 0) rfl (by simp [maxLen])) (by simp)
  obtain ⟨z, hz⟩ : ∃ z, z = vHead a b := ⟨_, rfl⟩
  have HOR : Hid (Calls Tryz.prog 93 #[.slice (some ⟨w.heap.size, 0, none⟩) 4 4] (w.drew.alloc (.cells #[.int .i64 (Lib.compareInt a.kind b.kind), .int .i64 ((a.bool.toNat : Int) - (b.bool.toNat : Int)), .int .i64 (Lib.compareInt a.num b.num), .int .i64 (Lib.compareBytes a.text.data.toList b.text.data.toList)] 3)) fun e w' => e = .returned (.int .i64 z) ∧ Below w.heap.size w w') := Lib.hid (hor.mono (by
    rintro e w' ⟨rfl, rfl⟩
    exact ⟨by rw [hz]; rfl, hb1⟩))
  have HZ := Lib.hid hz
  clear hb1 hor c0 c1 c2 c3 c4 c5 d0 d1 d2 d3 d4 d5 hz
  go_wp2_with fail
  refine HOR.out.mono ?_
  rintro e w2 ⟨rfl, hb2⟩
  have HB2 := Lib.hid hb2
  have hs2 := hb2.size
  clear hb2 HOR
  by_cases h0 : z = 0
  · subst h0
    have HCV : Hid (vCmp (k + 1) a b = vTail (vCmp k) a b) := Lib.hid (by simp only [vCmp]; rw [← HZ.out]; simp)
    have HKK : Hid (a.kind = b.kind) := Lib.hid (vHead_kind HZ.out.symm)
    obtain ⟨c0, c1, c2, c3, c4, c5⟩ := cel6 (HCA.out.below HB2.out)
    obtain ⟨d0, d1, d2, d3, d4, d5⟩ := cel6 (HCB.out.below HB2.out)
    obtain ⟨mn, hmn⟩ : ∃ mn, mn = min a.list.length b.list.length := ⟨_, rfl⟩
    have hmi : min (a.list.length : Int) (b.list.length : Int) = (mn : Int) := by omega
    have hmx : ∀ w', (Builtin.min_ #[3, 3] 3 #[.int .i64 (a.list.length : Nat), .int .i64 (b.list.length : Nat)]).run Tryz.prog w' = .ok (.int .i64 (mn : Nat)) w' := fun w' => run_min hmi
    have hma : mn ≤ a.list.length := by omega
    have hmb : mn ≤ b.list.length := by omega
    have HMN := Lib.hid hmn
    clear hmi hmn
    go_wp2_with fail
    go_still (by kernel_rfl)
    change Exit.then _ _ _ _ w2.drew
    have HB3 := Lib.hid HB2.out.drew
    generalize w2.drew = w3 at HB3 ⊢
    clear c0 c1 c2 c3 c4 c5 d0 d1 d2 d3 d4 d5 hmx HB2 hs2
    go_wp2_with fail
    go_loopg [63] mn (fun g i wr => ∃ j : Nat, j + g = mn ∧ i = .int .i64 (j : Nat) ∧ Hid ((List.range j).findSome? (vRow (vCmp k) a b) = none) ∧ Hid (Below w.heap.size w wr))
    case atStart => exact ⟨0, by omega, rfl, Lib.hid rfl, HB3⟩
    case round =>
      obtain ⟨j, hj, rfl, HN, HB⟩ := hrel
      rename World => wo
      clear HB3
      obtain ⟨c0, c1, c2, c3, c4, c5⟩ := cel6 (HCA.out.below HB.out)
      obtain ⟨d0, d1, d2, d3, d4, d5⟩ := cel6 (HCB.out.below HB.out)
      have hso := HB.out.size
      cases gk with
      | zero =>
        have hjj : ¬ ((j : Int) < (mn : Int)) := by omega
        have HE : Hid (vCmp (k + 1) a b = Lib.compareInt a.list.length b.list.length) := Lib.hid (by
          rw [HCV.out]
          unfold vTail
          rw [← HMN.out, show mn = j by omega, HN.out]; rfl)
        go_wp2_with fail
        go_still_tail 11, (by kernel_rfl)
        still_call (cmpi_any _ _ _)
        repeat still_step
        try refine wpStill_nil ?_
        change wpList _ _ _ _ _ wo.drew
        go_wp2_with fail
        go_ret
        exact ⟨by rw [HE.out]; rfl, HB.out.drew⟩
      | succ g =>
        have hjj : (j : Int) < (mn : Int) := by omega
        have hj1 : (0 : Int) ≤ (j : Int) ∧ (j : Int) < (a.list.length : Int) := by omega
        have hj2 : (0 : Int) ≤ (j : Int) ∧ (j : Int) < (b.list.length : Int) := by omega
        obtain ⟨x, hx⟩ := get_lt (l := a.list) (i := j) (by omega)
        obtain ⟨y, hy⟩ := get_lt (l := b.list) (i := j) (by omega)
        obtain ⟨ad1, xs, rfl, hxt, hxc⟩ := HL1.out.elem Vl.trlen hx
        obtain ⟨ad2, ys, rfl, hyt, hyc⟩ := HL2.out.elem Vl.trlen hy
        have HCL : Hid (∀ w', Below w.heap.size w w' → Calls Tryz.prog 85 #[.pointer (some (ad1.add (j * 6))), .pointer (some (ad2.add (j * 6)))] w' fun e w'' => e = .returned (.int .i64 (vCmp k x y)) ∧ Below w'.heap.size w' w'') :=
          Lib.hid (fun w' hb => HIH.out S x y xs ys _ _ w' (HFA.out.2 x (List.mem_of_getElem? hx)) (HFB.out.2 y (List.mem_of_getElem? hy)) (hxt.below hb) (hxc.below hb) (hyt.below hb) (hyc.below hb))
        have HRW : Hid (vRow (vCmp k) a b j = if (if a.kind = 5 then Lib.compareBytes (a.keys.getD j ByteArray.empty).data.toList (b.keys.getD j ByteArray.empty).data.toList else 0) ≠ 0 then some (if a.kind = 5 then Lib.compareBytes (a.keys.getD j ByteArray.empty).data.toList (b.keys.getD j ByteArray.empty).data.toList else 0) else if vCmp k x y ≠ 0 then some (vCmp k x y) else none) := Lib.hid (by
          unfold vRow
          simp only [hx, hy])
        have HSN : Hid (∀ o, vRow (vCmp k) a b j = o → (List.range (j + 1)).findSome? (vRow (vCmp k) a b) = o) := Lib.hid (fun o ho => by
          rw [List.range_succ, List.findSome?_append, HN.out, List.findSome?_cons, ho]
          cases o <;> rfl)
        have HFD : Hid (∀ c, vRow (vCmp k) a b j = some c → vCmp (k + 1) a b = c) := Lib.hid (fun c hc => by
          rw [HCV.out]
          unfold vTail
          have h1 := HSN.out _ hc
          have h2 : (List.range mn).findSome? (vRow (vCmp k) a b) = some c := by
            have : List.range mn = List.range (j + 1) ++ (List.range (mn - (j + 1))).map (j + 1 + ·) := by
              rw [← List.range_add]; congr 1; omega
            rw [this, List.findSome?_append, h1]; rfl
          rw [← HMN.out, h2]; rfl)
        obtain ⟨v2, hv2⟩ : ∃ v2, v2 = vCmp k x y := ⟨_, rfl⟩
        rw [← hv2] at HCL HRW
        clear hx hy hxt hxc hyt hyc hv2
        by_cases h5 : a.kind = 5
        · have e5 : (a.kind == 5) = true := by rw [h5]; rfl
          have hka := HFA.out.1 h5
          have hkb := HFB.out.1 (by rw [← HKK.out]; exact h5)
          obtain ⟨s, hs⟩ := get_lt (l := a.keys) (i := j) (by omega)
          obtain ⟨t, ht⟩ := get_lt (l := b.keys) (i := j) (by omega)
          obtain ⟨ka, rfl, hsc, hss⟩ := (HK1.out.below HB.out).str hs
          obtain ⟨kb, rfl, htc, hts⟩ := (HK2.out.below HB.out).str ht
          have hk1 : (0 : Int) ≤ (j : Int) ∧ (j : Int) < (a.keys.length : Int) := by omega
          have hk2 : (0 : Int) ≤ (j : Int) ∧ (j : Int) < (b.keys.length : Int) := by omega
          have HR2 : Hid (vRow (vCmp k) a b j = if Lib.compareBytes s.data.toList t.data.toList ≠ 0 then some (Lib.compareBytes s.data.toList t.data.toList) else if v2 ≠ 0 then some v2 else none) := Lib.hid (by
            rw [HRW.out]
            simp only [if_pos h5, List.getD_eq_getElem?_getD, hs, ht, Option.getD_some])
          clear hka hkb hs ht h5
          obtain ⟨z2, hz2⟩ : ∃ z2, z2 = Lib.compareBytes s.data.toList t.data.toList := ⟨_, rfl⟩
          rw [← hz2] at HR2
          have HSC : Hid (∀ w', Calls Tryz.prog 97 #[.string s, .string t] w' fun e w'' => e = .returned (.int .i64 z2) ∧ w'' = w') := Lib.hid (fun w' => by rw [hz2]; exact scmp_any s t w')
          clear hz2
          go_wp2_with fail
          go_still_tail 15, (by kernel_rfl)
          still_call (HSC.out _)
          repeat still_step
          try refine wpStill_nil ?_
          change wpList _ _ _ _ _ wo.drew
          have HBD := Lib.hid HB.out.drew
          generalize wo.drew = wd at HBD ⊢
          clear c0 c1 c2 c3 c4 c5 d0 d1 d2 d3 d4 d5 hsc htc
          obtain ⟨c0, c1, c2, c3, c4, c5⟩ := cel6 (HCA.out.below HBD.out)
          obtain ⟨d0, d1, d2, d3, d4, d5⟩ := cel6 (HCB.out.below HBD.out)
          by_cases hz0 : z2 = 0
          · subst hz0
            have HR3 : Hid (vRow (vCmp k) a b j = if v2 ≠ 0 then some v2 else none) := Lib.hid (by rw [HR2.out]; simp)
            clear HR2
            have HR2 := HR3
            clear HR3
            go_wp2_with fail
            go_still_tail 12, (by kernel_rfl)
            change wpList _ _ _ _ _ wd.drew
            have HCW := Lib.hid (HCL.out wd.drew HBD.out.drew)
            have HBW := Lib.hid (HBD.out.drew)
            generalize wd.drew = w5 at HCW HBW ⊢
            clear c0 c1 c2 c3 c4 c5 d0 d1 d2 d3 d4 d5
            go_wp2_with fail
            refine HCW.out.mono ?_
            rintro e w6 ⟨rfl, hb6⟩
            have HB6 := Lib.hid (HBW.out.trans (hb6.mono HBW.out.size))
            clear hb6 HCW
            by_cases hv : v2 = 0
            · subst hv
              have HNX : Hid ((List.range (j + 1)).findSome? (vRow (vCmp k) a b) = none) := Lib.hid (HSN.out _ (by rw [HR2.out]; simp))
              go_wp2_with fail
              go_roundg g
              case measure => omega
              case rel => exact ⟨j + 1, by omega, by go_num, HNX, HB6⟩
            · have hvq : (v2 != 0) = true := by simpa using hv
              have HE : Hid (vCmp (k + 1) a b = v2) := Lib.hid (HFD.out _ (by rw [HR2.out, if_pos hv]))
              clear hv
              go_wp2_with fail
              go_ret
              exact ⟨by rw [HE.out]; rfl, HB6.out⟩
          · have hzq : (z2 != 0) = true := by simpa using hz0
            have HE : Hid (vCmp (k + 1) a b = z2) := Lib.hid (HFD.out _ (by rw [HR2.out, if_pos hz0]))
            clear hz0
            go_wp2_with fail
            go_ret
            exact ⟨by rw [HE.out]; rfl, HBD.out⟩
        · have e5 : (a.kind == 5) = false := by simpa using h5
          have HR2 : Hid (vRow (vCmp k) a b j = if v2 ≠ 0 then some v2 else none) := Lib.hid (by
            rw [HRW.out]
            simp only [if_neg h5]; simp)
          clear h5
          go_wp2_with fail
          go_still_tail 12, (by kernel_rfl)
          change wpList _ _ _ _ _ wo.drew
          have HCW := Lib.hid (HCL.out wo.drew HB.out.drew)
          have HBW := Lib.hid (HB.out.drew)
          generalize wo.drew = w5 at HCW HBW ⊢
          clear c0 c1 c2 c3 c4 c5 d0 d1 d2 d3 d4 d5
          go_wp2_with fail
          refine HCW.out.mono ?_
          rintro e w6 ⟨rfl, hb6⟩
          have HB6 := Lib.hid (HBW.out.trans (hb6.mono HBW.out.size))
          clear hb6 HCW
          by_cases hv : v2 = 0
          · subst hv
            have HNX : Hid ((List.range (j + 1)).findSome? (vRow (vCmp k) a b) = none) := Lib.hid (HSN.out _ (by rw [HR2.out]; simp))
            go_wp2_with fail
            go_roundg g
            case measure => omega
            case rel => exact ⟨j + 1, by omega, by go_num, HNX, HB6⟩
          · have hvq : (v2 != 0) = true := by simpa using hv
            have HE : Hid (vCmp (k + 1) a b = v2) := Lib.hid (HFD.out _ (by rw [HR2.out, if_pos hv]))
            clear hv
            go_wp2_with fail
            go_ret
            exact ⟨by rw [HE.out]; rfl, HB6.out⟩
  · have hq : (z != 0) = true := by simpa using h0
    have HE : Hid (vCmp (k + 1) a b = z) := Lib.hid (by simp only [vCmp]; rw [← HZ.out, if_pos h0])
    clear h0
    go_wp2_with fail
    go_ret
    exact ⟨by rw [HE.out]; rfl, HB2.out⟩
end Go.Proofs.YtmljdppdaaoehaaGreatDoor
