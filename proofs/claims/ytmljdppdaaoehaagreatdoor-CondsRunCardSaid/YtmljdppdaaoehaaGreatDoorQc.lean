import Derived.Test.YtmljdppdaaoehaaGreatDoorCr1
import Derived.Test.YtmljdppdaaoehaaGreatDoorQb
import Derived.StillTail
import Derived.StillTailTactics
import Derived.Deep.CutRange
import Derived.Deep.CutBlock
/- hoardingref15's bare, zero: walks (for CondsRun). -/
namespace Go.Proofs.YtmljdppdaaoehaaGreatDoor
open Go.RowKit
set_option linter.unusedVariables false
set_option linter.unusedSimpArgs false
def rBare (e : Ex) (t n m : Bool) : Bool := (t || bEq e.text ByteArray.empty) && (n || decide (e.num = 0)) && (m || bEq e.name ByteArray.empty) && bEq e.attr ByteArray.empty && decide (e.l.length = 0)
theorem bEq_nil (s : ByteArray) : bEq s ByteArray.empty = decide (s.toList = []) := by
  by_cases h : s = ByteArray.empty
  · rw [bEq_iff.2 h, h, show ByteArray.empty.toList = [] by rw [Lib.toList_data]; rfl]; rfl
  · rw [bEq_ne h]
    refine (decide_eq_false (fun e => h (ba_ext ?_))).symm
    rw [← Lib.toList_data, e]; rfl
set_option maxRecDepth 100000 in
set_option maxHeartbeats 8000000 in
theorem rbare_any (e : Ex) (A : Option Addr) (c : Nat) (t n m : Bool) (hc : e.l.length ≤ c) (hm : c ≤ maxLen) (w : World) : Calls Tryz.prog 56 #[.agg #[.int .i8 e.kind, .string e.text, .int .i64 e.num, .string e.name, .string e.attr, .slice A e.l.length c], .bool t, .bool n, .bool m] w (BoolB (rBare e t n m) w) := by
  unfold maxLen at hm
  have HR : Hid (rBare e t n m = ((t || decide (e.text.toList = [])) && (n || decide (e.num = 0)) && (m || decide (e.name.toList = [])) && decide (e.attr.toList = []) && decide ((e.l.length : Int) = 0))) := Lib.hid (by
    unfold rBare
    rw [bEq_nil, bEq_nil, bEq_nil]
    congr 1
    rw [decide_eq_decide]; omega)
  obtain ⟨r, hr⟩ : ∃ r, r = rBare e t n m := ⟨_, rfl⟩
  rw [← hr] at HR ⊢
  clear hr
  cases t <;> cases n <;> cases m <;>
    (go_enter Tryz.func56, Tryz.ntmps56
     go_wp2_with fail
     all_goals
       go_ret
       refine ⟨?_, (Below.refl _ w).alloc (Nat.le_refl _) _⟩
       rw [HR.out]
       clear HR
       first
         | (simp [*]; done)
         | (refine congrArg (fun b => Ending.returned (Value.bool b)) ?_; rw [Bool.eq_iff_iff]; simp [*]; done))
theorem rBare_only (e : Ex) : rBare e false false false = xOnly e := by
  unfold rBare xOnly
  simp only [Bool.false_or]
set_option maxRecDepth 100000 in
set_option maxHeartbeats 4000000 in
theorem rzero_any (e : Ex) (A : Option Addr) (c : Nat) (hc : e.l.length ≤ c) (hm : c ≤ maxLen) (w : World) : Calls Tryz.prog 73 #[.agg #[.int .i8 e.kind, .string e.text, .int .i64 e.num, .string e.name, .string e.attr, .slice A e.l.length c]] w (BoolB (xNothing e) w) := by
  have HB : Hid (Below w.heap.size w (w.alloc (.cells #[.int .i8 e.kind, .string e.text, .int .i64 e.num, .string e.name, .string e.attr, .slice A e.l.length c] 27))) := Lib.hid ((Below.refl _ w).alloc (Nat.le_refl _) _)
  have HC := Lib.hid (rbare_any e A c false false false hc hm (w.alloc (.cells #[.int .i8 e.kind, .string e.text, .int .i64 e.num, .string e.name, .string e.attr, .slice A e.l.length c] 27)))
  rw [rBare_only] at HC
  have HX : Hid (xNothing e = (decide (e.kind = 0) && xOnly e)) := Lib.hid rfl
  obtain ⟨r, hr⟩ : ∃ r, r = xNothing e := ⟨_, rfl⟩
  obtain ⟨x, hx⟩ : ∃ x, x = xOnly e := ⟨_, rfl⟩
  rw [← hr] at HX ⊢
  rw [← hx] at HX HC
  clear hr hx
  by_cases h0 : e.kind = 0
  · have e0 : (e.kind == 0) = true := by rw [beq_iff_eq]; exact h0
    have HE : Hid (r = x) := Lib.hid (by rw [HX.out, decide_eq_true h0]; rfl)
    clear h0 HX
    go_enter Tryz.func73, Tryz.ntmps73
    go_wp2_with fail
    refine HC.out.mono ?_
    rintro e' w2 ⟨rfl, hb2⟩
    have HB2 := Lib.hid (HB.out.trans (hb2.mono HB.out.size))
    clear hb2
    cases x <;>
      (go_wp2_with fail
       go_ret
       exact ⟨by rw [HE.out]; rfl, HB2.out⟩)
  · have e0 : (e.kind == 0) = false := beq_eq_false_iff_ne.2 h0
    have HE : Hid (r = false) := Lib.hid (by rw [HX.out, decide_eq_false h0]; rfl)
    clear h0 HX
    go_enter Tryz.func73, Tryz.ntmps73
    go_wp2_with fail
    go_ret
    exact ⟨by rw [HE.out]; rfl, HB.out⟩
end Go.Proofs.YtmljdppdaaoehaaGreatDoor

/- hoardingref03's plain, wrong, Check: walks. -/
namespace Go.Proofs.YtmljdppdaaoehaaGreatDoor
open Go.RowKit Go.Lib
set_option linter.unusedVariables false
set_option linter.unusedSimpArgs false
set_option maxRecDepth 100000
/-- has a value what its kind names alone? -/
def vPl (v : Vl) : Bool := decide (0 ≤ v.kind ∧ v.kind ≤ 5) && (!decide (v.kind = 5 ∧ v.keys.length ≠ v.list.length) && !rBad v)
theorem vAlone_pl (v : Vl) : vAlone v = if vPl v = true then vWrong v else 2 := by
  unfold vAlone vPl
  by_cases h1 : 0 ≤ v.kind ∧ v.kind ≤ 5
  · rw [if_neg (fun h => h h1), decide_eq_true h1]
    by_cases h2 : v.kind = 5 ∧ v.keys.length ≠ v.list.length
    · rw [if_pos h2, decide_eq_true h2]; simp
    · rw [if_neg h2, decide_eq_false h2]
      cases rBad v <;> simp
  · rw [if_pos h1, decide_eq_false h1]; simp
set_option maxHeartbeats 16000000 in
theorem rpln_any (S : Nat → Prop) (v : Vl) (cs : List Value) (w : World) (htr : Trs.at S w v.tr cs) : Calls Tryz.prog 87 #[.agg cs.toArray] w (BoolB (vPl v) w) := by
  obtain ⟨A, c, B, d, rfl, _, _, ht, hl, hks⟩ := Vl.at_iff.1 htr
  have hcap := hl.cap
  have hbyt := hl.bytes
  have hcap2 := hks.cap
  have hbyt2 := hks.bytes
  have HB0 : Hid (Below w.heap.size w (w.alloc (.cells #[.int .i8 v.kind, .bool v.bool, .int .i64 v.num, .string v.text, .slice A v.list.length c, .slice B v.keys.length d] 37))) := Lib.hid ((Below.refl _ w).alloc (Nat.le_refl _) _)
  have HX : Hid (vPl v = (decide (0 ≤ v.kind ∧ v.kind ≤ 5) && (!(v.bool && decide (v.kind ≠ 1)) && (!(decide (v.num ≠ 0) && decide (v.kind ≠ 2)) && (!(!(v.text.toList == []) && decide (v.kind ≠ 3)) && (!(decide ((0 : Int) < (v.list.length : Int)) && (decide (v.kind ≠ 4) && decide (v.kind ≠ 5))) && (if v.kind = 5 then decide ((v.keys.length : Int) = (v.list.length : Int)) else decide ((v.keys.length : Int) = 0)))))))) := Lib.hid (by
    have he : (bEq v.text ByteArray.empty) = (v.text.toList == []) := by
      rw [bEq_nil, Bool.eq_iff_iff]; simp
    unfold vPl rBad
    rw [he, Bool.eq_iff_iff]
    by_cases h5 : v.kind = 5
    · simp [h5]
      exact ⟨fun ⟨a, b, c, d⟩ => ⟨b, c, d, by omega⟩, fun ⟨b, c, d, a⟩ => ⟨by omega, b, c, d⟩⟩
    · by_cases h4 : v.kind = 4
      · simp [h4]
      · simp [h5, h4]
        intros
        exact ⟨fun ⟨a, b, c, d, e⟩ => ⟨a.symm, b.symm, c.symm, d, e⟩, fun ⟨a, b, c, d, e⟩ => ⟨a.symm, b.symm, c.symm, d, e⟩⟩)
  obtain ⟨r, hr⟩ : ∃ r, r = vPl v := ⟨_, rfl⟩
  rw [← hr] at HX ⊢
  clear hr htr hl hks
  obtain ⟨vb, hvb⟩ : ∃ vb, vb = v.bool := ⟨_, rfl⟩
  obtain ⟨kd, hkd⟩ : ∃ kd, kd = v.kind := ⟨_, rfl⟩
  rw [← hvb, ← hkd] at HX ⊢
  clear hvb hkd HB0
  have hc : kd < 0 ∨ kd = 0 ∨ kd = 1 ∨ kd = 2 ∨ kd = 3 ∨ kd = 4 ∨ kd = 5 ∨ (5 < kd ∧ ¬ kd < 0) := by omega
  rcases hc with hc | rfl | rfl | rfl | rfl | rfl | rfl | ⟨hc, hc0⟩ <;> cases vb <;>
    (go_enter Tryz.func87, Tryz.ntmps87
     go_wp2_with fail
     all_goals
       go_ret
       refine ⟨?_, (Below.refl _ w).alloc (Nat.le_refl _) _⟩
       rw [HX.out]
       clear HX
       refine congrArg (fun b => Ending.returned (Value.bool b)) ?_
       rw [Bool.eq_iff_iff]
       simp [*] <;> omega)
/-! ### wrong -/
def vTxt (v : Vl) : Prop := v.text.size ≤ 30000 ∧ ∀ s ∈ v.keys, s.size ≤ 30000
def badK (l : List ByteArray) : Bool := l.any fun s => !validD s.data.toList
theorem vWr_step (k : Nat) (v : Vl) : (vPl v = false → vWr (k + 1) v = 2) ∧ (vPl v = true → (v.num < -9007199254740992 ∨ 9007199254740992 < v.num) → vWr (k + 1) v = 20) ∧
    (vPl v = true → ¬ (v.num < -9007199254740992 ∨ 9007199254740992 < v.num) → (validD v.text.data.toList = false → vWr (k + 1) v = 10) ∧ (validD v.text.data.toList = true → (badK v.keys = true → vWr (k + 1) v = 10) ∧ (badK v.keys = false → (vDup [] v.keys = true → vWr (k + 1) v = 41) ∧ (vDup [] v.keys = false → vWr (k + 1) v = firstE (v.list.map (vWr k)))))) := by
  have e : vWr (k + 1) v = if vAlone v ≠ 0 then vAlone v else firstE (v.list.map (vWr k)) := rfl
  rw [e, vAlone_pl]
  refine ⟨fun h => by rw [h]; simp, fun h h2 => ?_, fun h h2 => ⟨fun h3 => ?_, fun h3 => ⟨fun h4 => ?_, fun h4 => ⟨fun h5 => ?_, fun h5 => ?_⟩⟩⟩⟩
  · have hw : vWrong v = 20 := by unfold vWrong; rw [if_pos h2]
    rw [if_pos h, hw]; simp
  · have hw : vWrong v = 10 := by unfold vWrong; rw [if_neg h2, if_pos (by rw [h3]; rfl)]
    rw [if_pos h, hw]; simp
  · have hw : vWrong v = 10 := by unfold vWrong; unfold badK at h4; rw [if_neg h2, if_pos (by rw [h4]; simp)]
    rw [if_pos h, hw]; simp
  · have hw : vWrong v = 41 := by unfold vWrong; unfold badK at h4; rw [if_neg h2, if_neg (by rw [h3, h4]; simp), if_pos h5]
    rw [if_pos h, hw]; simp
  · have hw : vWrong v = 0 := by unfold vWrong; unfold badK at h4; rw [if_neg h2, if_neg (by rw [h3, h4]; simp), if_neg (by rw [h5]; simp)]
    rw [if_pos h, hw]; simp
theorem badK_drop {l : List ByteArray} {j : Nat} {x : ByteArray} (h : l[j]? = some x) : badK (l.drop j) = (!validD x.data.toList || badK (l.drop (j + 1))) := lany_drop h
theorem firstE_drop {f : Vl → Nat} {l : List Vl} {j : Nat} {x : Vl} (h : l[j]? = some x) : firstE ((l.drop j).map f) = if f x = 0 then firstE ((l.drop (j + 1)).map f) else f x := by rw [drop_cons h]; rfl
def WrC (k : Nat) : Prop := ∀ (S : Nat → Prop) (v : Vl) (cs : List Value) (w : World), vDeep k v → (∀ x ∈ vWalk k v, vTxt x) → Trs.at S w v.tr cs → Calls Tryz.prog 79 #[.agg cs.toArray] w fun e w' => e = .returned (.int .i64 (vWr k v : Nat)) ∧ Below w.heap.size w w'
set_option maxHeartbeats 16000000 in
theorem wr_step (k : Nat) (IH : WrC k) : WrC (k + 1) := by
  intro S v cs w hd hs htr
  obtain ⟨hst, hsk⟩ := hs v (by simp [vWalk])
  have HS := Lib.hid (fun x (hx : x ∈ v.list) y (hy : y ∈ vWalk k x) => hs y (by simp only [vWalk, List.mem_cons, List.mem_flatMap]; exact .inr ⟨x, hx, hy⟩))
  have HPL := Lib.hid (fun w' (h : Below w.heap.size w w') => rpln_any S v cs w' (htr.below h))
  obtain ⟨A, c, B, d, rfl, _, _, ht, hl, hks⟩ := Vl.at_iff.1 htr
  have hcap := hl.cap
  have hbyt := hl.bytes
  have hcap2 := hks.cap
  have hbyt2 := hks.bytes
  have HL := Lib.hid hl
  have HK := Lib.hid hks
  have HIH := Lib.hid IH
  have HD := Lib.hid hd
  have HBX : Hid (Blk (w.alloc (.cells #[.int .i8 v.kind, .bool v.bool, .int .i64 v.num, .string v.text, .slice A v.list.length c, .slice B v.keys.length d] 37)) w.heap.size #[.int .i8 v.kind, .bool v.bool, .int .i64 v.num, .string v.text, .slice A v.list.length c, .slice B v.keys.length d] 37) := Lib.hid (Blk.new _ _ _)
  have HB0 : Hid (Below w.heap.size w (w.alloc (.cells #[.int .i8 v.kind, .bool v.bool, .int .i64 v.num, .string v.text, .slice A v.list.length c, .slice B v.keys.length d] 37))) := Lib.hid ((Below.refl _ w).alloc (Nat.le_refl _) _)
  have HP := Lib.hid (HPL.out _ HB0.out)
  obtain ⟨g1, g2, g3⟩ := vWr_step k v
  have G1 := Lib.hid g1
  have G2 := Lib.hid g2
  have G3 := Lib.hid g3
  have HT := Lib.hid (fun w' => rval_any v.text hst w')
  obtain ⟨r, hr⟩ : ∃ r, r = vWr (k + 1) v := ⟨_, rfl⟩
  rw [← hr] at G1 G2 G3 ⊢
  obtain ⟨p, hp⟩ : ∃ p, p = vPl v := ⟨_, rfl⟩
  rw [← hp] at G1 G2 G3 HP
  have HSK := Lib.hid hsk
  have HV0 : Hid (badK v.keys = badK (v.keys.drop 0)) := Lib.hid rfl
  have HV1 : Hid (vDup [] v.keys = vDup (v.keys.take 0) (v.keys.drop 0)) := Lib.hid rfl
  clear htr hl hks hr hp hd hs hsk g1 g2 g3 HPL
  go_enter Tryz.func79, Tryz.ntmps79
  go_wp2_with fail
  refine HP.out.mono ?_
  rintro e w1 ⟨rfl, hb1⟩
  have HB1 := Lib.hid (HB0.out.trans (hb1.mono HB0.out.size))
  have HBX1 := Lib.hid (HBX.out.below hb1)
  have b2 := HBX1.out.cell 2 (v := .int .i64 v.num) rfl
  have b3 := HBX1.out.cell 3 (v := .string v.text) rfl
  clear hb1 HP HB0 HBX
  cases p with
  | false =>
    have HE : Hid (r = 2) := Lib.hid (G1.out rfl)
    go_wp2_with fail
    go_ret; exact ⟨by rw [HE.out]; rfl, HB1.out⟩
  | true =>
    by_cases hn1 : v.num < -9007199254740992
    · have HE : Hid (r = 20) := Lib.hid (G2.out rfl (.inl hn1))
      go_wp2_with fail
      go_ret; exact ⟨by rw [HE.out]; rfl, HB1.out⟩
    by_cases hn2 : 9007199254740992 < v.num
    · have HE : Hid (r = 20) := Lib.hid (G2.out rfl (.inr hn2))
      go_wp2_with fail
      go_ret; exact ⟨by rw [HE.out]; rfl, HB1.out⟩
    have G4 := Lib.hid (G3.out rfl (fun h => h.elim hn1 hn2))
    have HTX := Lib.hid (HT.out w1)
    obtain ⟨b, hb⟩ : ∃ b, b = validD v.text.data.toList := ⟨_, rfl⟩
    rw [← hb] at G4 HTX
    clear hb G1 G2 G3
    cases b with
    | false =>
      have HE : Hid (r = 10) := Lib.hid (G4.out.1 rfl)
      go_wp2_with fail
      refine HTX.out.mono ?_
      rintro e w2 ⟨rfl, rfl⟩
      go_wp2_with fail
      go_ret; exact ⟨by rw [HE.out]; rfl, HB1.out⟩
    | true =>
      have G5 := Lib.hid (G4.out.2 rfl)
      go_wp2_with fail
      refine HTX.out.mono ?_
      rintro e w2 ⟨rfl, rfl⟩
      clear hn1 hn2 b2 b3 HTX G4
      go_wp2_with fail
      go_loopg [3] v.keys.length (fun g i wr => ∃ j : Nat, j + g = v.keys.length ∧ i = .int .i64 (j : Nat) ∧ Hid (badK v.keys = badK (v.keys.drop j)) ∧ Hid (Below w.heap.size w wr) ∧ Hid (Blk wr w.heap.size #[.int .i8 v.kind, .bool v.bool, .int .i64 v.num, .string v.text, .slice A v.list.length c, .slice B v.keys.length d] 37))
      case atStart => exact ⟨0, by omega, rfl, HV0, HB1, HBX1⟩
      case round =>
        clear HB1 HBX1
        obtain ⟨j, hj, rfl, HVJ, HB1, HBX1⟩ := hrel
        rename World => wo
        have b5 := HBX1.out.cell 5 (v := .slice B v.keys.length d) rfl
        cases gk with
        | succ g =>
          have hjj : (j : Int) < (v.keys.length : Int) := by omega
          have hj0 : (0 : Int) ≤ (j : Int) ∧ (j : Int) < (v.keys.length : Int) := by omega
          obtain ⟨x, hx⟩ := get_lt (l := v.keys) (i := j) (by omega)
          obtain ⟨nd, rfl, hcy, _⟩ := (HK.out.below HB1.out).str hx
          have HC := Lib.hid (rval_any x (HSK.out x (List.mem_of_getElem? hx)) wo)
          have hstp := badK_drop hx
          obtain ⟨b, hb⟩ : ∃ b, b = validD x.data.toList := ⟨_, rfl⟩
          rw [← hb] at HC hstp
          have HST := Lib.hid hstp
          clear hx hb hstp
          go_wp2_with fail
          refine HC.out.mono ?_
          rintro e w3 ⟨rfl, rfl⟩
          cases b with
          | false =>
            have HE : Hid (r = 10) := Lib.hid (G5.out.1 (by rw [HVJ.out, HST.out]; rfl))
            go_wp2_with fail
            go_ret; exact ⟨by rw [HE.out]; rfl, HB1.out⟩
          | true =>
            have HVN : Hid (badK v.keys = badK (v.keys.drop (j + 1))) := Lib.hid (by rw [HVJ.out, HST.out]; rfl)
            go_wp2_with fail
            go_roundg g
            case measure => omega
            case rel => exact ⟨j + 1, by omega, by go_num, HVN, HB1, HBX1⟩
        | zero =>
          have hjj : ¬ ((j : Int) < (v.keys.length : Int)) := by omega
          have G6 := Lib.hid (G5.out.2 (by rw [HVJ.out, List.drop_of_length_le (by omega)]; rfl))
          clear HVJ G5 HV0
          go_wp2_with fail
          clear hjj hj
          go_loopg [4] v.keys.length (fun g i wr => ∃ j : Nat, j + g = v.keys.length ∧ i = .int .i64 (j : Nat) ∧ Hid (vDup [] v.keys = vDup (v.keys.take j) (v.keys.drop j)) ∧ Hid (Below w.heap.size w wr) ∧ Hid (Blk wr w.heap.size #[.int .i8 v.kind, .bool v.bool, .int .i64 v.num, .string v.text, .slice A v.list.length c, .slice B v.keys.length d] 37))
          case atStart => exact ⟨0, by omega, rfl, HV1, HB1, HBX1⟩
          case round =>
            clear HB1 HBX1
            obtain ⟨j, hj, rfl, HVJ, HB1, HBX1⟩ := hrel
            rename World => wp
            clear b5
            have b5 := HBX1.out.cell 5 (v := .slice B v.keys.length d) rfl
            cases gk with
            | succ g =>
              have hjj : (j : Int) < (v.keys.length : Int) := by omega
              have hj0 : (0 : Int) ≤ (j : Int) ∧ (j : Int) < (v.keys.length : Int) := by omega
              obtain ⟨x, hx⟩ := get_lt (l := v.keys) (i := j) (by omega)
              have HST := Lib.hid (vDup_drop hx)
              have HXX := Lib.hid hx
              have HVH : Hid (sHas x (v.keys.take j) = sHas x ((v.keys.take j).drop 0)) := Lib.hid rfl
              clear hx
              go_wp2_with fail
              go_loopg [5] j (fun g i wr => ∃ m : Nat, m + g = j ∧ i = .int .i64 (m : Nat) ∧ Hid (sHas x (v.keys.take j) = sHas x ((v.keys.take j).drop m)) ∧ Hid (Below w.heap.size w wr) ∧ Hid (Blk wr w.heap.size #[.int .i8 v.kind, .bool v.bool, .int .i64 v.num, .string v.text, .slice A v.list.length c, .slice B v.keys.length d] 37))
              case atStart => exact ⟨0, by omega, rfl, HVH, HB1, HBX1⟩
              case round =>
                clear HB1 HBX1
                obtain ⟨m, hm, rfl, HVM, HB1, HBX1⟩ := hrel
                rename World => wq
                clear b5
                have b5 := HBX1.out.cell 5 (v := .slice B v.keys.length d) rfl
                cases gk with
                | succ g2 =>
                  have hmm : (m : Int) < (j : Int) := by omega
                  have hm0 : (0 : Int) ≤ (m : Int) ∧ (m : Int) < (v.keys.length : Int) := by omega
                  obtain ⟨y, hy⟩ := get_lt (l := v.keys) (i := m) (by omega)
                  obtain ⟨nd, hB, hcy, _⟩ := (HK.out.below HB1.out).str hy
                  subst hB
                  obtain ⟨nd2, hB, hcx, _⟩ := (HK.out.below HB1.out).str HXX.out
                  injection hB with hB
                  subst hB
                  have hst2 : sHas x ((v.keys.take j).drop m) = (bEq x y || sHas x ((v.keys.take j).drop (m + 1))) := sHas_drop (by rw [List.getElem?_take, if_pos (by omega)]; exact hy)
                  clear hy
                  by_cases he : y = x
                  · have hE : (y.toList == x.toList) = true := by rw [he]; simp
                    have HE : Hid (r = 41) := Lib.hid (G6.out.1 (by rw [HVJ.out, HST.out, HVM.out, hst2, bEq_iff.2 he.symm]; rfl))
                    clear hst2 he
                    go_wp2_with fail
                    go_quiet (fail)
                    go_wp2_with fail
                    go_ret
                    exact ⟨by rw [HE.out]; rfl, HB1.out.trans ((below_drewN' _ _).mono HB1.out.size)⟩
                  · have hE := str_ne he
                    have HVN : Hid (sHas x (v.keys.take j) = sHas x ((v.keys.take j).drop (m + 1))) := Lib.hid (by rw [HVM.out, hst2, bEq_ne (fun e => he e.symm)]; rfl)
                    clear hst2 he
                    go_wp2_with fail
                    go_quiet (fail)
                    go_wp2_with fail
                    go_roundg g2
                    case measure => omega
                    case rel => exact ⟨m + 1, by omega, by go_num, HVN, Lib.hid (HB1.out.trans ((below_drewN' _ _).mono HB1.out.size)), Lib.hid (HBX1.out.drewN _)⟩
                | zero =>
                  have hmm : ¬ ((m : Int) < (j : Int)) := by omega
                  have HVN : Hid (vDup [] v.keys = vDup (v.keys.take (j + 1)) (v.keys.drop (j + 1))) := Lib.hid (by rw [HVJ.out, HST.out, HVM.out, List.drop_of_length_le (by rw [List.length_take]; omega)]; rfl)
                  go_wp2_with fail
                  go_roundg g
                  case measure => omega
                  case rel => exact ⟨j + 1, by omega, by go_num, HVN, HB1, HBX1⟩
            | zero =>
              have hjj : ¬ ((j : Int) < (v.keys.length : Int)) := by omega
              have HE0 := Lib.hid (G6.out.2 (by rw [HVJ.out, List.drop_of_length_le (by omega)]; rfl))
              have HF0 : Hid (r = firstE ((v.list.drop 0).map (vWr k))) := Lib.hid HE0.out
              clear HVJ G6 HV1 HE0
              go_wp2_with fail
              clear hjj hj b5
              go_loopg [6] v.list.length (fun g i wr => ∃ j : Nat, j + g = v.list.length ∧ i = .int .i64 (j : Nat) ∧ Hid (r = firstE ((v.list.drop j).map (vWr k))) ∧ Hid (Below w.heap.size w wr) ∧ Hid (Blk wr w.heap.size #[.int .i8 v.kind, .bool v.bool, .int .i64 v.num, .string v.text, .slice A v.list.length c, .slice B v.keys.length d] 37))
              case atStart => exact ⟨0, by omega, rfl, HF0, HB1, HBX1⟩
              case round =>
                clear HB1 HBX1
                obtain ⟨j, hj, rfl, HVJ, HB1, HBX1⟩ := hrel
                rename World => wq
                have b4 := HBX1.out.cell 4 (v := .slice A v.list.length c) rfl
                cases gk with
                | zero =>
                  have hjj : ¬ ((j : Int) < (v.list.length : Int)) := by omega
                  have HE : Hid (r = 0) := Lib.hid (by rw [HVJ.out, List.drop_of_length_le (by omega)]; rfl)
                  go_wp2_with fail
                  go_ret; exact ⟨by rw [HE.out]; rfl, HB1.out⟩
                | succ g =>
                  have hjj : (j : Int) < (v.list.length : Int) := by omega
                  have hj0 : (0 : Int) ≤ (j : Int) ∧ (j : Int) < (v.list.length : Int) := by omega
                  obtain ⟨x, hx⟩ := get_lt (l := v.list) (i := j) (by omega)
                  obtain ⟨ad, xs, rfl, hxt, hxc⟩ := (HL.out.below HB1.out).elem Vl.trlen hx
                  have hxm := List.mem_of_getElem? hx
                  have HC := Lib.hid (HIH.out S x xs wq (HD.out x hxm) (HS.out x hxm) hxt)
                  have hstp := firstE_drop (f := vWr k) hx
                  obtain ⟨q, hq⟩ : ∃ q, q = vWr k x := ⟨_, rfl⟩
                  rw [← hq] at HC hstp
                  have HST := Lib.hid hstp
                  obtain ⟨A2, c2, B2, d2, rfl, _⟩ := Vl.at_iff.1 hxt
                  obtain ⟨e0, e1, e2, e3, e4, e5⟩ := cel6 hxc
                  clear hx hxt hxc hstp hq hxm
                  go_wp2_with fail
                  refine HC.out.mono ?_
                  rintro e w3 ⟨rfl, hb3⟩
                  have HB3 := Lib.hid (HB1.out.trans (hb3.mono HB1.out.size))
                  have HBX3 := Lib.hid (HBX1.out.below hb3)
                  clear hb3 HC e0 e1 e2 e3 e4 e5 b4 HB1 HBX1
                  by_cases h0 : q = 0
                  · have HE : Hid (r = firstE ((v.list.drop (j + 1)).map (vWr k))) := Lib.hid (by rw [HVJ.out, HST.out, if_pos h0])
                    have hq0 : ((q : Int) != 0) = false := by rw [h0]; rfl
                    clear h0
                    go_wp2_with fail
                    go_roundg g
                    case measure => omega
                    case rel => exact ⟨j + 1, by omega, by go_num, HE, HB3, HBX3⟩
                  · have HE : Hid (r = q) := Lib.hid (by rw [HVJ.out, HST.out, if_neg h0])
                    have hq0 : ((q : Int) != 0) = true := by rw [bne_iff_ne]; omega
                    clear h0
                    go_wp2_with fail
                    go_ret
                    exact ⟨by rw [HE.out]; rfl, HB3.out⟩
theorem wr_any (k : Nat) : WrC k := by
  induction k with
  | zero => exact fun _ _ _ _ h => h.elim
  | succ k ih => exact wr_step k ih
def CkTxt (v : Vl) : Prop := vSmall v ∧ ∀ x ∈ vWalk 24 v, vTxt x
set_option maxHeartbeats 8000000 in
theorem rchk_any (S : Nat → Prop) (v : Vl) (cs : List Value) (w : World) (hs : CkTxt v) (htr : Trs.at S w v.tr cs) : Calls Tryz.prog 58 #[.agg cs.toArray] w fun e w' => e = .returned (.int .i64 (vChk v : Nat)) ∧ Below w.heap.size w w' := by
  have HTR := Lib.hid htr
  have HS := Lib.hid hs
  obtain ⟨A, c, B, d, rfl, _⟩ := Vl.at_iff.1 htr
  have HBX : Hid (Blk (w.alloc (.cells #[.int .i8 v.kind, .bool v.bool, .int .i64 v.num, .string v.text, .slice A v.list.length c, .slice B v.keys.length d] 37)) w.heap.size #[.int .i8 v.kind, .bool v.bool, .int .i64 v.num, .string v.text, .slice A v.list.length c, .slice B v.keys.length d] 37) := Lib.hid (Blk.new _ _ _)
  have HB0 : Hid (Below w.heap.size w (w.alloc (.cells #[.int .i8 v.kind, .bool v.bool, .int .i64 v.num, .string v.text, .slice A v.list.length c, .slice B v.keys.length d] 37))) := Lib.hid ((Below.refl _ w).alloc (Nat.le_refl _) _)
  have HD := Lib.hid (dpr_any 24 (by omega) S v _ _ (htr.below HB0.out))
  have HCK := Lib.hid (vChk_eq v)
  have HDP := Lib.hid (vDpr_iff 24 v)
  have HCN := Lib.hid (vCnt_eq 24 v)
  obtain ⟨r, hr⟩ : ∃ r, r = vChk v := ⟨_, rfl⟩
  rw [← hr] at HCK ⊢
  clear hr htr hs
  obtain ⟨b, hb⟩ : ∃ b, b = vDpr 24 v := ⟨_, rfl⟩
  rw [← hb] at HCK HDP HD
  clear hb
  go_enter Tryz.func58, Tryz.ntmps58
  go_wp2_with fail
  refine HD.out.mono ?_
  rintro e w1 ⟨rfl, hb1⟩
  have HB1 := Lib.hid (HB0.out.trans (hb1.mono HB0.out.size))
  have HBX1 := Lib.hid (HBX.out.below hb1)
  clear hb1 HB0 HBX HD
  cases b with
  | true =>
    have HE : Hid (r = 30) := Lib.hid (by rw [HCK.out]; rfl)
    go_wp2_with fail
    go_ret; exact ⟨by rw [HE.out]; rfl, HB1.out⟩
  | false =>
    have hdeep := HDP.out.1 rfl
    have HW := Lib.hid (wr_any 24 S v _ w1 hdeep HS.out.2 (HTR.out.below HB1.out))
    have HCT := Lib.hid (fun w' (h : Below w.heap.size w w') => cnt_any 24 S v _ w' hdeep (by rw [HCN.out]; exact HS.out.1.1) (HTR.out.below h))
    obtain ⟨q, hq⟩ : ∃ q, q = vWr 24 v := ⟨_, rfl⟩
    rw [← hq] at HCK HW
    clear hq hdeep HDP
    obtain ⟨b0, b1, b2, b3, b4, b5⟩ := blk6 HBX1.out
    go_wp2_with fail
    refine HW.out.mono ?_
    rintro e w2 ⟨rfl, hb2⟩
    have HB2 := Lib.hid (HB1.out.trans (hb2.mono HB1.out.size))
    have HBX2 := Lib.hid (HBX1.out.below hb2)
    clear hb2 HBX1 HW b0 b1 b2 b3 b4 b5
    by_cases h0 : q = 0
    · have hq0 : ((q : Int) != 0) = false := by rw [h0]; rfl
      obtain ⟨n, hn⟩ : ∃ n, n = vCnt 24 v := ⟨_, rfl⟩
      rw [← hn] at HCN
      have HCC : Hid (Calls Tryz.prog 80 #[.agg #[.int .i8 v.kind, .bool v.bool, .int .i64 v.num, .string v.text, .slice A v.list.length c, .slice B v.keys.length d]] w2 fun e w' => e = .returned (.int .i64 (n : Nat)) ∧ Below w2.heap.size w2 w') := Lib.hid (by rw [hn]; exact HCT.out w2 HB2.out)
      have HE : Hid (r = if 4096 < n then 3 else 0) := Lib.hid (by rw [HCK.out, if_neg (by simp), if_neg (by omega), HCN.out])
      obtain ⟨b0, b1, b2, b3, b4, b5⟩ := blk6 HBX2.out
      clear h0 hn HCK HCN HCT
      go_wp2_with fail
      refine HCC.out.mono ?_
      rintro e w3 ⟨rfl, hb3⟩
      have HB1 := Lib.hid (HB2.out.trans (hb3.mono HB2.out.size))
      clear hb3 b0 b1 b2 b3 b4 b5 HBX2
      by_cases hm : 4096 < n
      · have hmi : (4096 : Int) < (n : Int) := by omega
        have HE2 : Hid (r = 3) := Lib.hid (by rw [HE.out, if_pos hm])
        go_wp2_with fail
        go_ret
        exact ⟨by rw [HE2.out]; rfl, HB1.out⟩
      · have hmi : ¬ (4096 : Int) < (n : Int) := by omega
        have HE2 : Hid (r = 0) := Lib.hid (by rw [HE.out, if_neg hm])
        go_wp2_with fail
        go_ret
        exact ⟨by rw [HE2.out]; rfl, HB1.out⟩
    · have hq0 : ((q : Int) != 0) = true := by rw [bne_iff_ne]; omega
      have HE : Hid (r = q) := Lib.hid (by rw [HCK.out, if_neg (by simp), if_pos h0])
      clear h0 HCK HCT
      go_wp2_with fail
      go_ret
      exact ⟨by rw [HE.out]; rfl, HB2.out⟩
end Go.Proofs.YtmljdppdaaoehaaGreatDoor

/- hoardingref03.compare: the walk. -/
namespace Go.Proofs.YtmljdppdaaoehaaGreatDoor
open Go.RowKit Go.Lib
set_option linter.unusedVariables false
set_option linter.unusedSimpArgs false
set_option maxRecDepth 100000
theorem ci_ne {x y : Int} (h : x ≠ y) : compareInt x y = if x < y then -1 else 1 := by
  unfold compareInt
  split <;> (try split) <;> (try split) <;> omega
theorem cb_ne {a b : List UInt8} (h : a ≠ b) : compareBytes a b = if compareBytes a b < 0 then -1 else 1 := by
  have h1 := compareBytes_le a b
  have h2 : compareBytes a b ≠ 0 := fun e => h (cb_eq e)
  split <;> omega
theorem vCmp_kind (k : Nat) {a b : Vl} (h : a.kind ≠ b.kind) : vCmp (k + 1) a b = if a.kind < b.kind then -1 else 1 := by
  have h1 := ci_ne h
  have h2 : compareInt a.kind b.kind ≠ 0 := by rw [h1]; split <;> omega
  have h3 : vHead a b = compareInt a.kind b.kind := by
    unfold vHead firstNZ
    rw [List.find?_cons, decide_eq_true h2]; rfl
  simp only [vCmp]
  rw [h3, if_pos h2, h1]
theorem ci_self (x : Int) : compareInt x x = 0 := by unfold compareInt; simp
theorem vCmp_bool (k : Nat) {a b : Vl} (h0 : a.kind = b.kind) (h : a.bool ≠ b.bool) : vCmp (k + 1) a b = if b.bool = true then -1 else 1 := by
  have h2 : (a.bool.toNat : Int) - (b.bool.toNat : Int) = if b.bool = true then -1 else 1 := by
    cases ha : a.bool <;> cases hb : b.bool <;> simp_all
  have h2' : (a.bool.toNat : Int) - (b.bool.toNat : Int) ≠ 0 := by rw [h2]; split <;> omega
  have h3 : vHead a b = (a.bool.toNat : Int) - (b.bool.toNat : Int) := by
    unfold vHead firstNZ
    rw [List.find?_cons, h0, ci_self, decide_eq_false (by simp), List.find?_cons, decide_eq_true h2']; rfl
  simp only [vCmp]
  rw [h3, if_pos h2', h2]
theorem vCmp_num (k : Nat) {a b : Vl} (h0 : a.kind = b.kind) (h1 : a.bool = b.bool) (h : a.num ≠ b.num) : vCmp (k + 1) a b = if a.num < b.num then -1 else 1 := by
  have h2 := ci_ne h
  have h2' : compareInt a.num b.num ≠ 0 := by rw [h2]; split <;> omega
  have h3 : vHead a b = compareInt a.num b.num := by
    unfold vHead firstNZ
    rw [List.find?_cons, h0, ci_self, decide_eq_false (by simp), List.find?_cons, h1, decide_eq_false (by simp), List.find?_cons, decide_eq_true h2']; rfl
  simp only [vCmp]
  rw [h3, if_pos h2', h2]
theorem vCmp_text (k : Nat) {a b : Vl} (h0 : a.kind = b.kind) (h1 : a.bool = b.bool) (h2 : a.num = b.num) (h : a.text.data.toList ≠ b.text.data.toList) : vCmp (k + 1) a b = if compareBytes a.text.data.toList b.text.data.toList < 0 then -1 else 1 := by
  have h4 := cb_ne h
  have h4' : compareBytes a.text.data.toList b.text.data.toList ≠ 0 := by rw [h4]; split <;> omega
  have h3 : vHead a b = compareBytes a.text.data.toList b.text.data.toList := by
    unfold vHead firstNZ
    rw [List.find?_cons, h0, ci_self, decide_eq_false (by simp), List.find?_cons, h1, decide_eq_false (by simp), List.find?_cons, h2, ci_self, decide_eq_false (by simp), List.find?_cons, decide_eq_true h4']; rfl
  simp only [vCmp]
  rw [h3, if_pos h4', ← h4]
theorem vCmp_tail (k : Nat) {a b : Vl} (h0 : a.kind = b.kind) (h1 : a.bool = b.bool) (h2 : a.num = b.num) (h : a.text.data.toList = b.text.data.toList) : vCmp (k + 1) a b = vTail (vCmp k) a b := by
  have h3 : vHead a b = 0 := by
    unfold vHead firstNZ
    rw [h0, h1, h2, h, ci_self, ci_self, cb_self]; simp
  simp only [vCmp]
  rw [h3]; simp
def RcC (k : Nat) : Prop := ∀ (S : Nat → Prop) (a b : Vl) (ca cb : List Value) (w : World), vFit k a → vFit k b → Trs.at S w a.tr ca → Trs.at S w b.tr cb → Calls Tryz.prog 59 #[.agg ca.toArray, .agg cb.toArray] w fun e w' => e = .returned (.int .i64 (vCmp k a b)) ∧ Below w.heap.size w w'
set_option maxHeartbeats 16000000 in
theorem rc_step (k : Nat) (IH : RcC k) : RcC (k + 1) := by
  intro S a b ca cb w hfa hfb hta htb
  obtain ⟨A1, n1, K1, m1, rfl, _, _, hx1, hl1, hk1⟩ := Vl.at_iff.1 hta
  obtain ⟨A2, n2, K2, m2, rfl, _, _, hx2, hl2, hk2⟩ := Vl.at_iff.1 htb
  have hcap1 := hl1.cap
  have hcap2 := hl2.cap
  have hbyt1 := hl1.bytes
  have hbyt2 := hl2.bytes
  have hcap3 := hk1.cap
  have hcap4 := hk2.cap
  have HL1 := Lib.hid hl1
  have HL2 := Lib.hid hl2
  have HK1 := Lib.hid hk1
  have HK2 := Lib.hid hk2
  have HFA := Lib.hid hfa
  have HFB := Lib.hid hfb
  have HIH := Lib.hid IH
  obtain ⟨ab, hab⟩ : ∃ ab, ab = a.bool := ⟨_, rfl⟩
  obtain ⟨bb, hbb⟩ : ∃ bb, bb = b.bool := ⟨_, rfl⟩
  rw [← hab, ← hbb]
  have HB0 : Hid (Below w.heap.size w ((w.alloc (.cells #[.int .i8 a.kind, .bool ab, .int .i64 a.num, .string a.text, .slice A1 a.list.length n1, .slice K1 a.keys.length m1] 37)).alloc (.cells #[.int .i8 b.kind, .bool bb, .int .i64 b.num, .string b.text, .slice A2 b.list.length n2, .slice K2 b.keys.length m2] 37))) := Lib.hid (((Below.refl _ w).alloc (Nat.le_refl _) _).alloc (by simp) _)
  have HXA : Hid (Blk ((w.alloc (.cells #[.int .i8 a.kind, .bool ab, .int .i64 a.num, .string a.text, .slice A1 a.list.length n1, .slice K1 a.keys.length m1] 37)).alloc (.cells #[.int .i8 b.kind, .bool bb, .int .i64 b.num, .string b.text, .slice A2 b.list.length n2, .slice K2 b.keys.length m2] 37)) w.heap.size #[.int .i8 a.kind, .bool ab, .int .i64 a.num, .string a.text, .slice A1 a.list.length n1, .slice K1 a.keys.length m1] 37) := Lib.hid ((Blk.new _ _ _).alloc _)
  have HXB : Hid (Blk ((w.alloc (.cells #[.int .i8 a.kind, .bool ab, .int .i64 a.num, .string a.text, .slice A1 a.list.length n1, .slice K1 a.keys.length m1] 37)).alloc (.cells #[.int .i8 b.kind, .bool bb, .int .i64 b.num, .string b.text, .slice A2 b.list.length n2, .slice K2 b.keys.length m2] 37)) (w.heap.size + 1) #[.int .i8 b.kind, .bool bb, .int .i64 b.num, .string b.text, .slice A2 b.list.length n2, .slice K2 b.keys.length m2] 37) := Lib.hid (by
    have := Blk.new (w.alloc (.cells #[.int .i8 a.kind, .bool ab, .int .i64 a.num, .string a.text, .slice A1 a.list.length n1, .slice K1 a.keys.length m1] 37)) #[.int .i8 b.kind, .bool bb, .int .i64 b.num, .string b.text, .slice A2 b.list.length n2, .slice K2 b.keys.length m2] 37
    rwa [show (w.alloc (.cells #[.int .i8 a.kind, .bool ab, .int .i64 a.num, .string a.text, .slice A1 a.list.length n1, .slice K1 a.keys.length m1] 37)).heap.size = w.heap.size + 1 by simp] at this)
  obtain ⟨r, hr⟩ : ∃ r, r = vCmp (k + 1) a b := ⟨_, rfl⟩
  rw [← hr]
  have HR := Lib.hid hr
  have HAB := Lib.hid hab
  have HBB := Lib.hid hbb
  clear hta htb hl1 hl2 hk1 hk2 hfa hfb IH hr hab hbb
  go_enter Tryz.func59, Tryz.ntmps59
  by_cases h1 : a.kind = b.kind
  case neg =>
    have e1 : (a.kind != b.kind) = true := by simpa using h1
    have HE0 := Lib.hid (vCmp_kind k h1)
    clear h1
    by_cases h2 : a.kind < b.kind
    · have HE : Hid (r = -1) := Lib.hid (by rw [HR.out, HE0.out, if_pos h2])
      go_wp2_with fail; go_ret; exact ⟨by rw [HE.out]; rfl, HB0.out⟩
    · have HE : Hid (r = 1) := Lib.hid (by rw [HR.out, HE0.out, if_neg h2])
      go_wp2_with fail; go_ret; exact ⟨by rw [HE.out]; rfl, HB0.out⟩
  have e1 : (a.kind != b.kind) = false := by simpa using h1
  have H1 := Lib.hid h1
  clear h1
  by_cases h2 : ab = bb
  case neg =>
    have HE0 := Lib.hid (vCmp_bool k H1.out (by rw [← HAB.out, ← HBB.out]; exact h2))
    rw [← HBB.out] at HE0
    clear HAB HBB
    cases ab <;> cases bb
    · exact absurd rfl h2
    · have HE : Hid (r = -1) := Lib.hid (by rw [HR.out, HE0.out]; rfl)
      clear h2
      go_wp2_with fail; go_ret; exact ⟨by rw [HE.out]; rfl, HB0.out⟩
    · have HE : Hid (r = 1) := Lib.hid (by rw [HR.out, HE0.out]; rfl)
      clear h2
      go_wp2_with fail; go_ret; exact ⟨by rw [HE.out]; rfl, HB0.out⟩
    · exact absurd rfl h2
  subst h2
  have H2 : Hid (a.bool = b.bool) := Lib.hid (by rw [← HAB.out, ← HBB.out])
  have e2 : (ab != ab) = false := by cases ab <;> rfl
  clear HAB HBB
  by_cases h3 : a.num = b.num
  case neg =>
    have e3 : (a.num != b.num) = true := by simpa using h3
    have HE0 := Lib.hid (vCmp_num k H1.out H2.out h3)
    clear h3
    by_cases h2 : a.num < b.num
    · have HE : Hid (r = -1) := Lib.hid (by rw [HR.out, HE0.out, if_pos h2])
      go_wp2_with fail; go_ret; exact ⟨by rw [HE.out]; rfl, HB0.out⟩
    · have HE : Hid (r = 1) := Lib.hid (by rw [HR.out, HE0.out, if_neg h2])
      go_wp2_with fail; go_ret; exact ⟨by rw [HE.out]; rfl, HB0.out⟩
  have e3 : (a.num != b.num) = false := by simpa using h3
  have H3 := Lib.hid h3
  clear h3
  by_cases h4 : a.text.toList = b.text.toList
  case neg =>
    have e4 : (a.text.toList == b.text.toList) = false := by simpa using h4
    have HE0 := Lib.hid (vCmp_text k H1.out H2.out H3.out (by rw [← Lib.toList_data, ← Lib.toList_data]; exact h4))
    have hb := bl_eq a.text.toList b.text.toList
    rw [Lib.toList_data, Lib.toList_data] at hb
    clear h4
    by_cases h2 : Lib.compareBytes a.text.data.toList b.text.data.toList < 0
    · have HE : Hid (r = -1) := Lib.hid (by rw [HR.out, HE0.out, if_pos h2])
      have e5 : Op.bytesLess a.text.toList b.text.toList = true := by rw [Lib.toList_data, Lib.toList_data, hb, decide_eq_true h2]
      clear h2 hb
      go_wp2_with fail; go_ret; exact ⟨by rw [HE.out]; rfl, HB0.out⟩
    · have HE : Hid (r = 1) := Lib.hid (by rw [HR.out, HE0.out, if_neg h2])
      have e5 : Op.bytesLess a.text.toList b.text.toList = false := by rw [Lib.toList_data, Lib.toList_data, hb, decide_eq_false h2]
      clear h2 hb
      go_wp2_with fail; go_ret; exact ⟨by rw [HE.out]; rfl, HB0.out⟩
  have e4 : (a.text.toList == b.text.toList) = true := by simpa using h4
  have HCV : Hid (r = vTail (vCmp k) a b) := Lib.hid (by rw [HR.out, vCmp_tail k H1.out H2.out H3.out (by rw [← Lib.toList_data, ← Lib.toList_data]; exact h4)])
  clear h4 HR
  obtain ⟨mn, hmn⟩ : ∃ mn, mn = min a.list.length b.list.length := ⟨_, rfl⟩
  have hma : mn ≤ a.list.length := by omega
  have hmb : mn ≤ b.list.length := by omega
  have HMN := Lib.hid hmn
  clear hmn
  go_wp2_with fail
  clear e1 e2 e3 e4
  go_loopg [5] mn (fun g i wr => ∃ j : Nat, j + g = mn ∧ i = .int .i64 (j : Nat) ∧ Hid ((List.range j).findSome? (vRow (vCmp k) a b) = none) ∧ Hid (Below w.heap.size w wr) ∧ Hid (Blk wr w.heap.size #[.int .i8 a.kind, .bool ab, .int .i64 a.num, .string a.text, .slice A1 a.list.length n1, .slice K1 a.keys.length m1] 37) ∧ Hid (Blk wr (w.heap.size + 1) #[.int .i8 b.kind, .bool ab, .int .i64 b.num, .string b.text, .slice A2 b.list.length n2, .slice K2 b.keys.length m2] 37))
  case atStart => exact ⟨0, by omega, rfl, Lib.hid rfl, HB0, HXA, HXB⟩
  case round =>
    clear HB0 HXA HXB
    obtain ⟨j, hj, rfl, HN, HB, HXA, HXB⟩ := hrel
    rename World => wo
    obtain ⟨c0, c1, c2, c3, c4, c5⟩ := blk6 HXA.out
    obtain ⟨d0, d1, d2, d3, d4, d5⟩ := blk6 HXB.out
    cases gk with
    | zero =>
      have HE : Hid (r = Lib.compareInt a.list.length b.list.length) := Lib.hid (by
        rw [HCV.out]
        unfold vTail
        rw [← HMN.out, show mn = j by omega, HN.out]; rfl)
      have hmn := HMN.out
      rcases Nat.lt_trichotomy a.list.length b.list.length with hc | hc | hc
      · have hjj : ¬ ((j : Int) < (a.list.length : Int)) := by omega
        have hci : (a.list.length : Int) < (b.list.length : Int) := by omega
        have hcn : ((a.list.length : Int) != (b.list.length : Int)) = true := by simp; omega
        have HE2 : Hid (r = -1) := Lib.hid (by rw [HE.out, ci_ne (by omega), if_pos (by omega)])
        clear hmn hj
        go_wp2_with fail
        go_ret
        exact ⟨by rw [HE2.out]; rfl, HB.out⟩
      · have hjj : ¬ ((j : Int) < (a.list.length : Int)) := by omega
        have hcn : ((a.list.length : Int) != (b.list.length : Int)) = false := by simp; omega
        have HE2 : Hid (r = 0) := Lib.hid (by rw [HE.out, hc, ci_self])
        clear hmn hj hc
        go_wp2_with fail
        go_ret
        exact ⟨by rw [HE2.out]; rfl, HB.out⟩
      · have hjj : ((j : Int) < (a.list.length : Int)) := by omega
        have hjk : ¬ ((j : Int) < (b.list.length : Int)) := by omega
        have hci : ¬ (a.list.length : Int) < (b.list.length : Int) := by omega
        have hcn : ((a.list.length : Int) != (b.list.length : Int)) = true := by simp; omega
        have HE2 : Hid (r = 1) := Lib.hid (by rw [HE.out, ci_ne (by omega), if_neg (by omega)])
        clear hmn hj
        go_wp2_with fail
        go_ret
        exact ⟨by rw [HE2.out]; rfl, HB.out⟩
    | succ g =>
      have hjj : (j : Int) < (a.list.length : Int) := by omega
      have hjk : (j : Int) < (b.list.length : Int) := by omega
      have hj1 : (0 : Int) ≤ (j : Int) ∧ (j : Int) < (a.list.length : Int) := by omega
      have hj2 : (0 : Int) ≤ (j : Int) ∧ (j : Int) < (b.list.length : Int) := by omega
      obtain ⟨x, hx⟩ := get_lt (l := a.list) (i := j) (by omega)
      obtain ⟨y, hy⟩ := get_lt (l := b.list) (i := j) (by omega)
      obtain ⟨ad1, xs, rfl, hxt, hxc⟩ := HL1.out.elem Vl.trlen hx
      obtain ⟨ad2, ys, rfl, hyt, hyc⟩ := HL2.out.elem Vl.trlen hy
      obtain ⟨A3, n3, K3, m3, rfl, _⟩ := Vl.at_iff.1 hxt
      obtain ⟨A4, n4, K4, m4, rfl, _⟩ := Vl.at_iff.1 hyt
      have HXC := Lib.hid hxc
      have HYC := Lib.hid hyc
      have HCL : Hid (∀ w', Below w.heap.size w w' → Calls Tryz.prog 59 #[.agg #[.int .i8 x.kind, .bool x.bool, .int .i64 x.num, .string x.text, .slice A3 x.list.length n3, .slice K3 x.keys.length m3], .agg #[.int .i8 y.kind, .bool y.bool, .int .i64 y.num, .string y.text, .slice A4 y.list.length n4, .slice K4 y.keys.length m4]] w' fun e w'' => e = .returned (.int .i64 (vCmp k x y)) ∧ Below w'.heap.size w' w'') :=
        Lib.hid (fun w' hb => HIH.out S x y _ _ w' (HFA.out.2 x (List.mem_of_getElem? hx)) (HFB.out.2 y (List.mem_of_getElem? hy)) (hxt.below hb) (hyt.below hb))
      have HRW : Hid (vRow (vCmp k) a b j = if (if a.kind = 5 then Lib.compareBytes (a.keys.getD j ByteArray.empty).data.toList (b.keys.getD j ByteArray.empty).data.toList else 0) ≠ 0 then some (if a.kind = 5 then Lib.compareBytes (a.keys.getD j ByteArray.empty).data.toList (b.keys.getD j ByteArray.empty).data.toList else 0) else if vCmp k x y ≠ 0 then some (vCmp k x y) else none) := Lib.hid (by
        unfold vRow
        simp only [hx, hy])
      have HSN : Hid (∀ o, vRow (vCmp k) a b j = o → (List.range (j + 1)).findSome? (vRow (vCmp k) a b) = o) := Lib.hid (fun o ho => by
        rw [List.range_succ, List.findSome?_append, HN.out, List.findSome?_cons, ho]
        cases o <;> rfl)
      have HFD : Hid (∀ c, vRow (vCmp k) a b j = some c → r = c) := Lib.hid (fun c hc => by
        rw [HCV.out]
        unfold vTail
        have h1 := HSN.out _ hc
        have h2 : (List.range mn).findSome? (vRow (vCmp k) a b) = some c := by
          have : List.range mn = List.range (j + 1) ++ (List.range (mn - (j + 1))).map (j + 1 + ·) := by
            rw [← List.range_add]; congr 1; omega
          rw [this, List.findSome?_append, h1]; rfl
        rw [← HMN.out, h2]; rfl)
      obtain ⟨v2, hv2⟩ : ∃ v2, v2 = vCmp k x y := ⟨_, rfl⟩
      rw [← hv2] at HCL HRW
      clear hx hy hxt hxc hyt hyc hv2
      by_cases h5 : a.kind = 5
      · have e5 : (a.kind == 5) = true := by rw [h5]; rfl
        have hka := HFA.out.1 h5
        have hkb := HFB.out.1 (by rw [← H1.out]; exact h5)
        obtain ⟨s, hs⟩ := get_lt (l := a.keys) (i := j) (by omega)
        obtain ⟨t, ht⟩ := get_lt (l := b.keys) (i := j) (by omega)
        obtain ⟨ka, rfl, hsc, hss⟩ := (HK1.out.below HB.out).str hs
        obtain ⟨kb, rfl, htc, hts⟩ := (HK2.out.below HB.out).str ht
        have hk1 : (0 : Int) ≤ (j : Int) ∧ (j : Int) < (a.keys.length : Int) := by omega
        have hk2 : (0 : Int) ≤ (j : Int) ∧ (j : Int) < (b.keys.length : Int) := by omega
        have HR2 : Hid (vRow (vCmp k) a b j = if Lib.compareBytes s.data.toList t.data.toList ≠ 0 then some (Lib.compareBytes s.data.toList t.data.toList) else if v2 ≠ 0 then some v2 else none) := Lib.hid (by
          rw [HRW.out]
          simp only [if_pos h5, List.getD_eq_getElem?_getD, hs, ht, Option.getD_some])
        clear hka hkb hs ht h5 HRW
        have HBL := Lib.hid (bl_eq s.data.toList t.data.toList)
        by_cases hz : s.toList = t.toList
        · have ez : (s.toList == t.toList) = true := by simpa using hz
          have HR3 : Hid (vRow (vCmp k) a b j = if v2 ≠ 0 then some v2 else none) := Lib.hid (by rw [HR2.out, ← Lib.toList_data, hz, Lib.toList_data, cb_self]; simp)
          clear HR2 hz
          go_wp2_with fail
          go_still (by kernel_rfl)
          change Exit.then _ _ _ _ wo.drew
          have HBD := Lib.hid HB.out.drew
          have HXAD := Lib.hid HXA.out.drew
          have HXBD := Lib.hid HXB.out.drew
          generalize wo.drew = wd at HBD HXAD HXBD ⊢
          clear c0 c1 c2 c3 c4 c5 d0 d1 d2 d3 d4 d5 hsc htc HB HXA HXB
          have HR2 := HR3
          clear HR3
          obtain ⟨c0, c1, c2, c3, c4, c5⟩ := blk6 HXAD.out
          obtain ⟨d0, d1, d2, d3, d4, d5⟩ := blk6 HXBD.out
          have HCW := Lib.hid (HCL.out wd.drew HBD.out.drew)
          have HBW := Lib.hid HBD.out.drew
          have HXAW := Lib.hid HXAD.out.drew
          have HXBW := Lib.hid HXBD.out.drew
          have hxw := (HXC.out.below HBW.out)
          have hyw := (HYC.out.below HBW.out)
          obtain ⟨x0, x1, x2, x3, x4, x5⟩ := cel6 (HXC.out.below HBD.out)
          obtain ⟨y0, y1, y2, y3, y4, y5⟩ := cel6 (HYC.out.below HBD.out)
          clear hxw hyw
          go_wp2_with fail
          go_still_tail 10, (by kernel_rfl)
          change wpList _ _ _ _ _ wd.drew
          generalize wd.drew = w5 at HCW HBW HXAW HXBW ⊢
          clear c0 c1 c2 c3 c4 c5 d0 d1 d2 d3 d4 d5 x0 x1 x2 x3 x4 x5 y0 y1 y2 y3 y4 y5
          go_wp2_with fail
          refine HCW.out.mono ?_
          rintro e w6 ⟨rfl, hb6⟩
          have HB6 := Lib.hid (HBW.out.trans (hb6.mono HBW.out.size))
          have HXA6 := Lib.hid (HXAW.out.below hb6)
          have HXB6 := Lib.hid (HXBW.out.below hb6)
          clear hb6 HCW HBW HXAW HXBW
          by_cases hv : v2 = 0
          · subst hv
            have HNX : Hid ((List.range (j + 1)).findSome? (vRow (vCmp k) a b) = none) := Lib.hid (HSN.out _ (by rw [HR2.out]; simp))
            go_wp2_with fail
            go_roundg g
            case measure => omega
            case rel => exact ⟨j + 1, by omega, by go_num, HNX, HB6, HXA6, HXB6⟩
          · have hvq : (v2 != 0) = true := by simpa using hv
            have HE : Hid (r = v2) := Lib.hid (HFD.out _ (by rw [HR2.out, if_pos hv]))
            clear hv
            go_wp2_with fail
            go_ret
            exact ⟨by rw [HE.out]; rfl, HB6.out⟩
        · have ez : (s.toList == t.toList) = false := by simpa using hz
          have hz0 : Lib.compareBytes s.data.toList t.data.toList ≠ 0 := fun e => hz (by rw [Lib.toList_data, Lib.toList_data]; exact cb_eq e)
          have hzn := cb_ne (a := s.data.toList) (b := t.data.toList) (fun e => hz (by rw [Lib.toList_data, Lib.toList_data]; exact e))
          have HE0 : Hid (r = Lib.compareBytes s.data.toList t.data.toList) := Lib.hid (HFD.out _ (by rw [HR2.out, if_pos hz0]))
          clear hz hz0 HR2
          have hsd := hsc
          have htd := htc
          go_wp2_with fail
          go_still (by kernel_rfl)
          change Exit.then _ _ _ _ wo.drew
          have HBD := Lib.hid HB.out.drew
          have HXAD := Lib.hid HXA.out.drew
          have HXBD := Lib.hid HXB.out.drew
          have hse : wo.drew.cell? (ka.add j) = some (.string s) := hsd
          have hte : wo.drew.cell? (kb.add j) = some (.string t) := htd
          generalize wo.drew = wd at HBD HXAD HXBD hse hte ⊢
          clear c0 c1 c2 c3 c4 c5 d0 d1 d2 d3 d4 d5 hsc htc hsd htd HB HXA HXB
          obtain ⟨c0, c1, c2, c3, c4, c5⟩ := blk6 HXAD.out
          obtain ⟨d0, d1, d2, d3, d4, d5⟩ := blk6 HXBD.out
          have hbl := HBL.out
          by_cases hlt : Lib.compareBytes s.data.toList t.data.toList < 0
          · have HE : Hid (r = -1) := Lib.hid (by rw [HE0.out, hzn, if_pos hlt])
            have e6 : Op.bytesLess s.toList t.toList = true := by rw [Lib.toList_data, Lib.toList_data, hbl, decide_eq_true hlt]
            clear hlt hbl hzn
            go_wp2_with fail
            go_still (by kernel_rfl)
            change Exit.then _ _ _ _ wd.drew
            go_wp2_with fail
            go_ret
            exact ⟨by rw [HE.out]; rfl, HBD.out.drew⟩
          · have HE : Hid (r = 1) := Lib.hid (by rw [HE0.out, hzn, if_neg hlt])
            have e6 : Op.bytesLess s.toList t.toList = false := by rw [Lib.toList_data, Lib.toList_data, hbl, decide_eq_false hlt]
            clear hlt hbl hzn
            go_wp2_with fail
            go_still (by kernel_rfl)
            change Exit.then _ _ _ _ wd.drew
            go_wp2_with fail
            go_ret
            exact ⟨by rw [HE.out]; rfl, HBD.out.drew⟩
      · have e5 : (a.kind == 5) = false := by simpa using h5
        have HR2 : Hid (vRow (vCmp k) a b j = if v2 ≠ 0 then some v2 else none) := Lib.hid (by
          rw [HRW.out]
          simp only [if_neg h5]; simp)
        clear h5 HRW
        go_wp2_with fail
        go_quiet (fail)
        have HBD := Lib.hid (HB.out.trans ((below_drewN' _ nq).mono HB.out.size))
        have HXAD := Lib.hid (HXA.out.drewN nq)
        have HXBD := Lib.hid (HXB.out.drewN nq)
        generalize wo.drewN nq = wd at HBD HXAD HXBD ⊢
        clear c0 c1 c2 c3 c4 c5 d0 d1 d2 d3 d4 d5 HB HXA HXB
        obtain ⟨c0, c1, c2, c3, c4, c5⟩ := blk6 HXAD.out
        obtain ⟨d0, d1, d2, d3, d4, d5⟩ := blk6 HXBD.out
        have HCW := Lib.hid (HCL.out wd.drew HBD.out.drew)
        have HBW := Lib.hid HBD.out.drew
        have HXAW := Lib.hid HXAD.out.drew
        have HXBW := Lib.hid HXBD.out.drew
        have hxw := (HXC.out.below HBW.out)
        have hyw := (HYC.out.below HBW.out)
        obtain ⟨x0, x1, x2, x3, x4, x5⟩ := cel6 (HXC.out.below HBD.out)
        obtain ⟨y0, y1, y2, y3, y4, y5⟩ := cel6 (HYC.out.below HBD.out)
        clear hxw hyw
        go_wp2_with fail
        go_still_tail 10, (by kernel_rfl)
        change wpList _ _ _ _ _ wd.drew
        generalize wd.drew = w5 at HCW HBW HXAW HXBW ⊢
        clear c0 c1 c2 c3 c4 c5 d0 d1 d2 d3 d4 d5 x0 x1 x2 x3 x4 x5 y0 y1 y2 y3 y4 y5
        go_wp2_with fail
        refine HCW.out.mono ?_
        rintro e w6 ⟨rfl, hb6⟩
        have HB6 := Lib.hid (HBW.out.trans (hb6.mono HBW.out.size))
        have HXA6 := Lib.hid (HXAW.out.below hb6)
        have HXB6 := Lib.hid (HXBW.out.below hb6)
        clear hb6 HCW HBW HXAW HXBW
        by_cases hv : v2 = 0
        · subst hv
          have HNX : Hid ((List.range (j + 1)).findSome? (vRow (vCmp k) a b) = none) := Lib.hid (HSN.out _ (by rw [HR2.out]; simp))
          go_wp2_with fail
          go_roundg g
          case measure => omega
          case rel => exact ⟨j + 1, by omega, by go_num, HNX, HB6, HXA6, HXB6⟩
        · have hvq : (v2 != 0) = true := by simpa using hv
          have HE : Hid (r = v2) := Lib.hid (HFD.out _ (by rw [HR2.out, if_pos hv]))
          clear hv
          go_wp2_with fail
          go_ret
          exact ⟨by rw [HE.out]; rfl, HB6.out⟩
theorem rc_any (k : Nat) : RcC k := by
  induction k with
  | zero => exact fun _ _ _ _ _ _ h => h.elim
  | succ k ih => exact rc_step k ih
end Go.Proofs.YtmljdppdaaoehaaGreatDoor

/- hoardingref15's params: the walk (for CondsRun). -/
namespace Go.Proofs.YtmljdppdaaoehaaGreatDoor
open Go.RowKit
set_option linter.unusedVariables false
set_option linter.unusedSimpArgs false
/-- the parameters that a condition refers to, a name's parts too -/
def rPs : Nat → Cd → List ByteArray
  | 0, _ => []
  | k + 1, c => (if c.kind = 0 then xRef c.a ++ xRef c.b else []) ++ c.l.flatMap (rPs k)
theorem rPs_sizes {S : Nat → Prop} {w : World} : ∀ (k : Nat) (c : Cd) (cs : List Value), Trs.at S w c.tr cs → ∀ z ∈ rPs k c, z.size ≤ 140737488351232
  | 0, _, _, _, z, hz => by cases hz
  | k + 1, c, cs, h, z, hz => by
    obtain ⟨xs, ys, L, lc, rfl, _, _, hxa, hxb, hl⟩ := Cd.at_iff.1 h
    obtain ⟨_, _, _, ha⟩ := ex_cells hxa
    obtain ⟨_, _, _, hb⟩ := ex_cells hxb
    unfold rPs at hz
    rcases List.mem_append.1 hz with hz | hz
    · split at hz
      · rcases List.mem_append.1 hz with hz | hz
        · unfold xRef at hz
          split at hz
          · rw [List.mem_singleton.1 hz]; exact ha
          · cases hz
        · unfold xRef at hz
          split at hz
          · rw [List.mem_singleton.1 hz]; exact hb
          · cases hz
      · cases hz
    · obtain ⟨p, hp, hz⟩ := List.mem_flatMap.1 hz
      obtain ⟨i, hi, rfl⟩ := List.getElem_of_mem hp
      obtain ⟨_, pcs, _, hpt, _⟩ := hl.elem Cd.trlen (List.getElem?_eq_getElem hi)
      exact rPs_sizes k _ pcs hpt z hz
theorem flatMap_cong {α β : Type} {f g : α → List β} : ∀ {l : List α}, (∀ x ∈ l, f x = g x) → l.flatMap f = l.flatMap g
  | [], _ => rfl
  | a :: l, h => by
    rw [List.flatMap_cons, List.flatMap_cons, h a (by simp), flatMap_cong (l := l) (fun x hx => h x (by simp [hx]))]
/-- an append onto a slice that is none -/
theorem wpList_none {w : World} {ops : Array Oper} {rest : List Oper} {o : Oper} {a : Act} {Q : Exit → Act → World → Prop} {t e : TypeId} {z : Value} {sz b : Nat}
    (hinfo : (Tryz.prog.info? e).map (fun i => (i.zero, i.size, i.bytes)) = some (some z, sz, b)) (ht : Tryz.prog.underlying t = some (.slice e)) (hzs : z.cells.size = sz) (hsz : 0 < sz)
    (hw : Region.wanted o (yielded ops a.tmps) = true) (s x : Operand) (ho : o.op = .call { callee := .builtin .append, args := #[s, x], argTypes := #[t, t] })
    (base : Nat) (hs : a.eval s = .slice none 0 0)
    (A : Option Addr) (m c : Nat) (news : List Value) (hx : a.eval x = .slice A m c) (hr : Rd w sz A m c news) (h1 : ∀ u ∈ news, u.oneCell' = true) (hb : m ≤ 140737488355328) (hb2 : m * b ≤ 140737488355328) (hbase : base ≤ w.heap.size)
    (h : ∀ A' c' w', Ow w' base e sz A' m c' news → w.grownBy w' none → wpList Tryz.prog ops Q rest (a.put o.dst (.slice A' m c')) w') :
    wpList Tryz.prog ops Q (o :: rest) a w :=
  wpList_row hinfo ht hzs hsz hw s x ho base none 0 0 [] hs (Ow.nil _ _ _ _) A m c news hx hr h1 (by omega) (by rwa [Nat.zero_add]) hbase (fun A' c' w' h1 h2 _ => by
    rw [Nat.zero_add] at h1 ⊢
    exact h A' c' w' h1 h2)
theorem rPs_shape : ∀ (k j : Nat) (c : Cd), k ≤ j → cShape k c = true → rPs j c = cPs j c
  | 0, _, _, _, h => by cases h
  | k + 1, 0, _, hj, _ => by omega
  | k + 1, j + 1, c, hj, h => by
    unfold cShape at h
    unfold rPs cPs
    by_cases h0 : c.kind = 0
    · rw [if_pos h0] at h
      simp only [Bool.and_eq_true, decide_eq_true_eq] at h
      rw [List.eq_nil_of_length_eq_zero h.1, if_pos h0, if_neg (show ¬ c.kind = 4 by rw [h0]; decide)]
      simp
    · rw [if_neg h0] at h
      rw [if_neg h0]
      by_cases h4 : c.kind = 4
      · rw [if_pos h4] at h
        simp only [Bool.and_eq_true, decide_eq_true_eq] at h
        rw [List.eq_nil_of_length_eq_zero h.2.1, if_pos h4]
        simp
      · rw [if_neg h4] at h
        simp only [Bool.and_eq_true] at h
        rw [if_neg h4, List.nil_append, List.nil_append]
        refine flatMap_cong (fun p hp => rPs_shape k j p (by omega) ?_)
        have h3 := List.all_eq_true.1 h.2 p hp
        simp only [Bool.and_eq_true] at h3
        exact h3.2
def PsC (k : Nat) : Prop := ∀ (S : Nat → Prop) (c : Cd) (cs : List Value) (w : World), c.deep k → Trs.at S w c.tr cs → (rPs k c).length ≤ 1000000 → Calls Tryz.prog 51 #[.agg cs.toArray] w (TextsOut (rPs k c) w)
theorem ps_zero : PsC 0 := fun _ _ _ _ h => h.elim
set_option maxRecDepth 100000 in
set_option maxHeartbeats 8000000 in
theorem ps_step (k : Nat) (IH : PsC k) : PsC (k + 1) := by
  intro S c cs w hd htr hlen
  obtain ⟨xs, ys, L, lc, rfl, hns, _, hxa, hxb, hl⟩ := Cd.at_iff.1 htr
  obtain ⟨A1, n1, rfl, _⟩ := ex_cells hxa
  obtain ⟨B1, n2, rfl, _⟩ := ex_cells hxb
  have HL := Lib.hid hl
  have hcap := hl.cap
  have hbyt := hl.bytes
  have HIH := Lib.hid IH
  have HSZ := Lib.hid (rPs_sizes (k + 1) c _ htr)
  have hBX : Hid (Blk (w.alloc (.cells #[.string c.name, .int .i8 c.kind, .int .i8 c.a.kind, .string c.a.text, .int .i64 c.a.num, .string c.a.name, .string c.a.attr, .slice A1 c.a.l.length n1, .int .i8 c.b.kind, .string c.b.text, .int .i64 c.b.num, .string c.b.name, .string c.b.attr, .slice B1 c.b.l.length n2, .slice L c.l.length lc] 46)) w.heap.size #[.string c.name, .int .i8 c.kind, .int .i8 c.a.kind, .string c.a.text, .int .i64 c.a.num, .string c.a.name, .string c.a.attr, .slice A1 c.a.l.length n1, .int .i8 c.b.kind, .string c.b.text, .int .i64 c.b.num, .string c.b.name, .string c.b.attr, .slice B1 c.b.l.length n2, .slice L c.l.length lc] 46) := Lib.hid (Blk.new _ _ _)
  have hB0 : Hid (Below w.heap.size w (w.alloc (.cells #[.string c.name, .int .i8 c.kind, .int .i8 c.a.kind, .string c.a.text, .int .i64 c.a.num, .string c.a.name, .string c.a.attr, .slice A1 c.a.l.length n1, .int .i8 c.b.kind, .string c.b.text, .int .i64 c.b.num, .string c.b.name, .string c.b.attr, .slice B1 c.b.l.length n2, .slice L c.l.length lc] 46))) := Lib.hid ((Below.refl _ w).alloc (Nat.le_refl _) _)
  obtain ⟨P, hP⟩ : ∃ P, P = if c.kind = 0 then xRef c.a ++ xRef c.b else [] := ⟨_, rfl⟩
  have hPl : P.length ≤ 2 := by
    rw [hP]
    split
    · unfold xRef; rw [List.length_append]; split <;> split <;> simp
    · simp
  have HN : Hid (rPs (k + 1) c = P ++ c.l.flatMap (rPs k)) := Lib.hid (by unfold rPs; rw [hP])
  have HLEN : Hid (P.length + (c.l.flatMap (rPs k)).length ≤ 1000000) := Lib.hid (by rw [← List.length_append, ← HN.out]; exact hlen)
  have HD := Lib.hid hd
  have HP := Lib.hid hP
  clear hd htr hlen hxa hxb hl hP
  go_enter Tryz.func51, Tryz.ntmps51
  go_upto_if 7 with fail
  go_cut [3] from 7 to 27 (fun v wx => ∃ (B : Option Addr) (bc : Nat), v = .slice B P.length bc ∧ Hid (Ow wx (w.heap.size + 1) 9 1 B P.length bc (P.map .string)) ∧ Hid (Below w.heap.size w wx) ∧ Hid (Blk wx w.heap.size #[.string c.name, .int .i8 c.kind, .int .i8 c.a.kind, .string c.a.text, .int .i64 c.a.num, .string c.a.name, .string c.a.attr, .slice A1 c.a.l.length n1, .int .i8 c.b.kind, .string c.b.text, .int .i64 c.b.num, .string c.b.name, .string c.b.attr, .slice B1 c.b.l.length n2, .slice L c.l.length lc] 46))
  case first =>
    have HS1 : Hid ((w.alloc (.cells #[.string c.name, .int .i8 c.kind, .int .i8 c.a.kind, .string c.a.text, .int .i64 c.a.num, .string c.a.name, .string c.a.attr, .slice A1 c.a.l.length n1, .int .i8 c.b.kind, .string c.b.text, .int .i64 c.b.num, .string c.b.name, .string c.b.attr, .slice B1 c.b.l.length n2, .slice L c.l.length lc] 46)).heap.size = w.heap.size + 1) := Lib.hid (by simp)
    by_cases h0 : c.kind = 0
    · have e0 : (c.kind == 0) = true := by rw [beq_iff_eq]; exact h0
      by_cases ha : c.a.kind = 3
      · have ea : (c.a.kind == 3) = true := by rw [beq_iff_eq]; exact ha
        by_cases hb : c.b.kind = 3
        · have eb : (c.b.kind == 3) = true := by rw [beq_iff_eq]; exact hb
          have HPP : Hid (P = [c.a.name, c.b.name]) := Lib.hid (by rw [HP.out, if_pos h0]; unfold xRef; rw [if_pos ha, if_pos hb]; rfl)
          clear h0 ha hb
          go_wp2_with (first | (at_builtin; refine wpList_none info_str Tryz.underlying35 rfl (by omega) rfl (.tmp 12) (.tmp 16) rfl (w.heap.size + 1) rfl (some ⟨w.heap.size + 1, 0, none⟩) 1 1 [.string c.a.name] rfl (by have h := Rd.lit (w.alloc (.cells #[.string c.name, .int .i8 c.kind, .int .i8 c.a.kind, .string c.a.text, .int .i64 c.a.num, .string c.a.name, .string c.a.attr, .slice A1 c.a.l.length n1, .int .i8 c.b.kind, .string c.b.text, .int .i64 c.b.num, .string c.b.name, .string c.b.attr, .slice B1 c.b.l.length n2, .slice L c.l.length lc] 46)) 1 1 #[.string c.a.name] 9 (0, 0) rfl (by simp [maxLen]); rw [HS1.out] at h; exact h) (by simp [Value.oneCell']) (by omega) (by omega) (by simp) ?_; intro A6 c6 w6 ho hg; have HO6 := Lib.hid ho; have HB6 : Hid (Below w.heap.size w w6) := Lib.hid ((hB0.out.alloc hB0.out.size _).grown hg (hB0.out.alloc hB0.out.size _).size (fun k e => by cases e)); have HX6 : Hid (Blk w6 w.heap.size #[.string c.name, .int .i8 c.kind, .int .i8 c.a.kind, .string c.a.text, .int .i64 c.a.num, .string c.a.name, .string c.a.attr, .slice A1 c.a.l.length n1, .int .i8 c.b.kind, .string c.b.text, .int .i64 c.b.num, .string c.b.name, .string c.b.attr, .slice B1 c.b.l.length n2, .slice L c.l.length lc] 46) := Lib.hid ((hBX.out.alloc _).grown hg (fun e => by cases e)); have x8 := HX6.out.cell 8 (v := .int .i8 c.b.kind) rfl; have x11 := HX6.out.cell 11 (v := .string c.b.name) rfl; clear ho hg) | (at_builtin; refine wpList_row info_str Tryz.underlying35 rfl (by omega) rfl (.tmp 22) (.tmp 26) rfl (w.heap.size + 1) A6 c6 1 [.string c.a.name] rfl (HO6.out.alloc _) (some ⟨w6.heap.size, 0, none⟩) 1 1 [.string c.b.name] rfl (Rd.lit w6 1 1 #[.string c.b.name] 9 (0, 0) rfl (by simp [maxLen])) (by simp [Value.oneCell']) (by omega) (by omega) (by have := HX6.out.lt; simp; omega) ?_; intro A7 c7 w7 ho hg hat; have HO7 := Lib.hid ho; have HB7 : Hid (Below w.heap.size w w7) := Lib.hid ((HB6.out.alloc HB6.out.size _).grown hg (HB6.out.alloc HB6.out.size _).size (fun k e => by have := (HO6.out.lt e).1; omega)); have HX7 : Hid (Blk w7 w.heap.size #[.string c.name, .int .i8 c.kind, .int .i8 c.a.kind, .string c.a.text, .int .i64 c.a.num, .string c.a.name, .string c.a.attr, .slice A1 c.a.l.length n1, .int .i8 c.b.kind, .string c.b.text, .int .i64 c.b.num, .string c.b.name, .string c.b.attr, .slice B1 c.b.l.length n2, .slice L c.l.length lc] 46) := Lib.hid ((HX6.out.alloc _).grown hg (fun e => by have := (HO6.out.lt e).1; omega)); clear ho hg hat))
          go_meet
          exact ⟨A7, c7, by rw [HPP.out]; rfl, Lib.hid (by rw [HPP.out]; exact HO7.out), HB7, HX7⟩
        · have eb : (c.b.kind == 3) = false := beq_eq_false_iff_ne.2 hb
          have HPP : Hid (P = [c.a.name]) := Lib.hid (by rw [HP.out, if_pos h0]; unfold xRef; rw [if_pos ha, if_neg hb]; rfl)
          clear h0 ha hb
          go_wp2_with (at_builtin; refine wpList_none info_str Tryz.underlying35 rfl (by omega) rfl (.tmp 12) (.tmp 16) rfl (w.heap.size + 1) rfl (some ⟨w.heap.size + 1, 0, none⟩) 1 1 [.string c.a.name] rfl (by have h := Rd.lit (w.alloc (.cells #[.string c.name, .int .i8 c.kind, .int .i8 c.a.kind, .string c.a.text, .int .i64 c.a.num, .string c.a.name, .string c.a.attr, .slice A1 c.a.l.length n1, .int .i8 c.b.kind, .string c.b.text, .int .i64 c.b.num, .string c.b.name, .string c.b.attr, .slice B1 c.b.l.length n2, .slice L c.l.length lc] 46)) 1 1 #[.string c.a.name] 9 (0, 0) rfl (by simp [maxLen]); rw [HS1.out] at h; exact h) (by simp [Value.oneCell']) (by omega) (by omega) (by simp) ?_; intro A6 c6 w6 ho hg; have HO6 := Lib.hid ho; have HB6 : Hid (Below w.heap.size w w6) := Lib.hid ((hB0.out.alloc hB0.out.size _).grown hg (hB0.out.alloc hB0.out.size _).size (fun k e => by cases e)); have HX6 : Hid (Blk w6 w.heap.size #[.string c.name, .int .i8 c.kind, .int .i8 c.a.kind, .string c.a.text, .int .i64 c.a.num, .string c.a.name, .string c.a.attr, .slice A1 c.a.l.length n1, .int .i8 c.b.kind, .string c.b.text, .int .i64 c.b.num, .string c.b.name, .string c.b.attr, .slice B1 c.b.l.length n2, .slice L c.l.length lc] 46) := Lib.hid ((hBX.out.alloc _).grown hg (fun e => by cases e)); have x8 := HX6.out.cell 8 (v := .int .i8 c.b.kind) rfl; have x11 := HX6.out.cell 11 (v := .string c.b.name) rfl; clear ho hg)
          go_meet
          exact ⟨A6, c6, by rw [HPP.out]; rfl, Lib.hid (by rw [HPP.out]; exact HO6.out), HB6, HX6⟩
      · have ea : (c.a.kind == 3) = false := beq_eq_false_iff_ne.2 ha
        by_cases hb : c.b.kind = 3
        · have eb : (c.b.kind == 3) = true := by rw [beq_iff_eq]; exact hb
          have HPP : Hid (P = [c.b.name]) := Lib.hid (by rw [HP.out, if_pos h0]; unfold xRef; rw [if_neg ha, if_pos hb]; rfl)
          clear h0 ha hb
          go_wp2_with (at_builtin; refine wpList_none info_str Tryz.underlying35 rfl (by omega) rfl (.tmp 22) (.tmp 26) rfl (w.heap.size + 1) rfl (some ⟨w.heap.size + 1, 0, none⟩) 1 1 [.string c.b.name] rfl (by have h := Rd.lit (w.alloc (.cells #[.string c.name, .int .i8 c.kind, .int .i8 c.a.kind, .string c.a.text, .int .i64 c.a.num, .string c.a.name, .string c.a.attr, .slice A1 c.a.l.length n1, .int .i8 c.b.kind, .string c.b.text, .int .i64 c.b.num, .string c.b.name, .string c.b.attr, .slice B1 c.b.l.length n2, .slice L c.l.length lc] 46)) 1 1 #[.string c.b.name] 9 (0, 0) rfl (by simp [maxLen]); rw [HS1.out] at h; exact h) (by simp [Value.oneCell']) (by omega) (by omega) (by simp) ?_; intro A6 c6 w6 ho hg; have HO6 := Lib.hid ho; have HB6 : Hid (Below w.heap.size w w6) := Lib.hid ((hB0.out.alloc hB0.out.size _).grown hg (hB0.out.alloc hB0.out.size _).size (fun k e => by cases e)); have HX6 : Hid (Blk w6 w.heap.size #[.string c.name, .int .i8 c.kind, .int .i8 c.a.kind, .string c.a.text, .int .i64 c.a.num, .string c.a.name, .string c.a.attr, .slice A1 c.a.l.length n1, .int .i8 c.b.kind, .string c.b.text, .int .i64 c.b.num, .string c.b.name, .string c.b.attr, .slice B1 c.b.l.length n2, .slice L c.l.length lc] 46) := Lib.hid ((hBX.out.alloc _).grown hg (fun e => by cases e)); have x8 := HX6.out.cell 8 (v := .int .i8 c.b.kind) rfl; have x11 := HX6.out.cell 11 (v := .string c.b.name) rfl; clear ho hg)
          go_meet
          exact ⟨A6, c6, by rw [HPP.out]; rfl, Lib.hid (by rw [HPP.out]; exact HO6.out), HB6, HX6⟩
        · have eb : (c.b.kind == 3) = false := beq_eq_false_iff_ne.2 hb
          have HPP : Hid (P = []) := Lib.hid (by rw [HP.out, if_pos h0]; unfold xRef; rw [if_neg ha, if_neg hb]; rfl)
          clear h0 ha hb
          go_wp2_with fail
          go_meet
          exact ⟨none, 0, by rw [HPP.out]; rfl, Lib.hid (by rw [HPP.out]; exact Ow.nil _ _ _ _), hB0, hBX⟩
    · have e0 : (c.kind == 0) = false := beq_eq_false_iff_ne.2 h0
      have HPP : Hid (P = []) := Lib.hid (by rw [HP.out, if_neg h0])
      clear h0
      go_wp2_with fail
      go_meet
      exact ⟨none, 0, by rw [HPP.out]; rfl, Lib.hid (by rw [HPP.out]; exact Ow.nil _ _ _ _), hB0, hBX⟩
  case rest =>
    obtain ⟨B, bc, rfl, HO0, HBC, HBXC⟩ := hcut
    go_wp2_with fail
    go_loopg [3, 4] c.l.length (fun g v i wr => ∃ (j m : Nat) (N : List ByteArray) (A : Option Addr) (ac : Nat), j + g = c.l.length ∧ i = .int .i64 (j : Nat) ∧ v = .slice A m ac ∧ Hid (m = N.length) ∧ Hid (N = P ++ (c.l.take j).flatMap (rPs k)) ∧ Hid (Ow wr (w.heap.size + 1) 9 1 A N.length ac (N.map .string)) ∧ Hid (Below w.heap.size w wr) ∧ Hid (Blk wr w.heap.size #[.string c.name, .int .i8 c.kind, .int .i8 c.a.kind, .string c.a.text, .int .i64 c.a.num, .string c.a.name, .string c.a.attr, .slice A1 c.a.l.length n1, .int .i8 c.b.kind, .string c.b.text, .int .i64 c.b.num, .string c.b.name, .string c.b.attr, .slice B1 c.b.l.length n2, .slice L c.l.length lc] 46))
    case atStart => exact ⟨0, P.length, P, B, bc, by omega, rfl, rfl, Lib.hid rfl, Lib.hid (by simp), HO0, HBC, HBXC⟩
    case round =>
      obtain ⟨j, m, N, A, ac, hj, rfl, rfl, HM, HNJ, HO, HB, HBX⟩ := hrel
      rename World => wo
      have b1 := HBX.out.cell 14 (v := .slice L c.l.length lc) rfl
      cases gk with
      | zero =>
        have hjj : ¬ ((j : Int) < (c.l.length : Int)) := by omega
        go_wp2_with fail
        go_ret
        have hN : N = rPs (k + 1) c := by rw [HNJ.out, HN.out, List.take_of_length_le (by omega)]
        have hm := HM.out
        have ho := HO.out
        subst hN
        subst hm
        exact ⟨A, ac, rfl, ho.le (by omega), HB.out, HSZ.out⟩
      | succ g =>
        have hjj : (j : Int) < (c.l.length : Int) := by omega
        have hj0 : (0 : Int) ≤ (j : Int) ∧ (j : Int) < (c.l.length : Int) := by omega
        obtain ⟨p, hp⟩ := get_lt (l := c.l) (i := j) (by omega)
        obtain ⟨ad, pcs, rfl, hpt, hpc⟩ := (HL.out.below HB.out).elem Cd.trlen hp
        have hpm := List.mem_of_getElem? hp
        have hfl : P ++ ((c.l.take (j + 1)).flatMap (rPs k)) = N ++ rPs k p := by
          rw [List.take_add_one, hp, List.flatMap_append, HNJ.out]; simp
        have hle : N.length + (rPs k p).length ≤ 1000000 := by
          rw [← List.length_append, ← hfl, List.length_append]
          have := len_flat_take (f := rPs k) (l := c.l) (j := j + 1)
          have := HLEN.out
          omega
        have HFL := Lib.hid hfl
        have HC := Lib.hid (HIH.out S p pcs wo (HD.out p hpm) hpt (by omega))
        obtain ⟨N2, hN2⟩ : ∃ N2, N2 = rPs k p := ⟨_, rfl⟩
        rw [← hN2] at HC hle HFL
        obtain ⟨ps, qs, L2, lc2, rfl, _, _, hpa, hpb, _⟩ := Cd.at_iff.1 hpt
        obtain ⟨A3, n3, rfl, _⟩ := ex_cells hpa
        obtain ⟨B3, n4, rfl, _⟩ := ex_cells hpb
        obtain ⟨e0, e1, e2, e3, e4, e5, e6, e7, e8, e9, e10, e11, e12, e13, e14⟩ := cel15 hpc
        clear hp hpt hpc hpa hpb hpm hfl hN2
        go_wp2_with fail
        refine HC.out.mono ?_
        rintro e w3 ⟨PA, pc, rfl, hpo, hpb, _⟩
        have HPR := Lib.hid hpo.rd
        have hpcap := hpo.cap
        have HB3 := Lib.hid (HB.out.trans (hpb.mono HB.out.size))
        have HO3 := Lib.hid (HO.out.below hpb)
        have HBX3 := Lib.hid (HBX.out.below hpb)
        have hm := HM.out
        rw [hm]
        clear hpo hpb hm HM HC e0 e1 e2 e3 e4 e5 e6 e7 e8 e9 e10 e11 e12 e13 e14 b1
        go_wp2_with (at_builtin; refine wpList_row info_str Tryz.underlying35 rfl (by omega) rfl (.tmp 35) (.tmp 41) rfl (w.heap.size + 1) A ac N.length (N.map .string) rfl HO3.out PA N2.length pc (N2.map .string) rfl HPR.out (by intro u hu; obtain ⟨s, _, rfl⟩ := List.mem_map.1 hu; rfl) (by omega) (by omega) (by have := HBX3.out.lt; omega) ?_; intro A' c' w6 ho hg hat; have HO6 := Lib.hid ho; have HG6 := Lib.hid hg; clear ho hg hat)
        go_roundg g
        case measure => omega
        case rel => exact ⟨j + 1, N.length + N2.length, N ++ N2, A', c', by omega, by go_num, rfl, Lib.hid (by simp), Lib.hid HFL.out.symm, Lib.hid (by rw [List.length_append, List.map_append]; exact HO6.out), Lib.hid (HB3.out.grown HG6.out HB3.out.size (fun g hg => by have := (HO3.out.lt hg).1; omega)), Lib.hid (HBX3.out.grown HG6.out (fun e => by have := (HO3.out.lt e).1; omega))⟩
theorem ps_any : ∀ k, PsC k := fun k => by
  induction k with
  | zero => exact ps_zero
  | succ k ih => exact ps_step k ih
end Go.Proofs.YtmljdppdaaoehaaGreatDoor

/- hoardingref03.sorted: the walk. -/
namespace Go.Proofs.YtmljdppdaaoehaaGreatDoor
open Go.RowKit Go.Sort Go.Shelf
set_option linter.unusedVariables false
set_option linter.unusedSimpArgs false
set_option maxRecDepth 100000
/-- what a value that may be has, k deep -/
def vFine : Nat → Vl → Prop
  | 0, _ => False
  | k + 1, v => (v.kind = 5 → v.keys.length = v.list.length ∧ vDup [] v.keys = false) ∧ (v.kind ≠ 4 → v.kind ≠ 5 → v.list = []) ∧ v.keys.length ≤ 1000000 ∧ v.list.length ≤ 1000000 ∧ ∀ x ∈ v.list, vFine k x
theorem vAlone_list {v : Vl} (h : vAlone v = 0) (h4 : v.kind ≠ 4) (h5 : v.kind ≠ 5) : v.list = [] := by
  unfold vAlone at h
  split at h
  · simp at h
  · split at h
    · simp at h
    · split at h
      · simp at h
      · next hb =>
        unfold rBad at hb
        rw [if_neg (by omega), if_neg h5] at hb
        simp only [Bool.or_eq_true, decide_eq_true_eq, not_or] at hb
        exact List.eq_nil_of_length_eq_zero (by omega)
theorem vFine_of : ∀ (k : Nat) (v : Vl), vDeep k v → (∀ x ∈ vWalk k v, vAlone x = 0 ∧ x.keys.length ≤ 1000000 ∧ x.list.length ≤ 1000000) → vFine k v
  | 0, v, h, _ => h.elim
  | k + 1, v, h, ha => by
    obtain ⟨h1, h2, h3⟩ := ha v (by simp [vWalk])
    obtain ⟨h4, h5⟩ := vAlone_zero h1
    refine ⟨fun e => ⟨h4 e, h5⟩, vAlone_list h1, h2, h3, fun x hx => vFine_of k x (h x hx) (fun y hy => ha y ?_)⟩
    simp only [vWalk, List.mem_cons, List.mem_flatMap]
    exact .inr ⟨x, hx, hy⟩
theorem vFine_chk {v : Vl} (h : vChk v = 0) (hs : vSmall v) : vFine 24 v := by
  obtain ⟨h1, h2⟩ := vChk_zero h
  exact vFine_of 24 v h1 (fun x hx => ⟨h2 x hx, hs.2 x hx⟩)
section
variable {b q : Nat} {v : Vl} {LA KA : Option Addr} {lc kc : Nat} {xs : List Value} {l : List Vl} {ks : List ByteArray} {w w6 : World}
theorem So.setK (h : So b v q LA lc xs l KA kc ks w) (ho6 : Only (fun k => blk KA = some k) w w6) {A' : Option Addr} {c' n : Nat} {ks' : List ByteArray} (hn : ks'.length = n)
    (ho : Ow w6 b 9 1 A' n c' (ks'.map .string)) (hat : A' = KA ∨ ∃ g, blk A' = some g ∧ w.heap.size ≤ g) :
    So b v q LA lc xs l A' c' ks' (w6.setCell ⟨q, 5, none⟩ (.slice A' n c')) ∧ Only (fun k => blk KA = some k ∨ k = q) w (w6.setCell ⟨q, 5, none⟩ (.slice A' n c')) ∧
    ∀ ts cs, Trs.at (fun k => ¬ Fq q LA KA k ∧ b ≤ k ∧ k < w.heap.size) w ts cs → Trs.at (fun k => ¬ Fq q LA A' k ∧ b ≤ k ∧ k < (w6.setCell ⟨q, 5, none⟩ (.slice A' n c')).heap.size) (w6.setCell ⟨q, 5, none⟩ (.slice A' n c')) ts cs := by
  subst hn
  have hlt := h.box.lt
  have hs6 := ho6.size
  have hkb := h.kr.ne_blk h.box (by decide)
  have hbx6 := h.box.only ho6 hkb
  have hnq : blk A' ≠ some q := by
    rcases hat with rfl | ⟨g, hg, hge⟩
    · exact hkb
    · rw [hg]; intro e; injection e with e; omega
  have hon : Only (fun k => blk KA = some k ∨ k = q) w (w6.setCell ⟨q, 5, none⟩ (.slice A' ks'.length c')) := (ho6.mono (fun i _ hi => .inl hi)).setCell _ _ (fun _ => .inr rfl)
  have hkl : blk LA = none ∨ blk LA ≠ blk KA := h.ls.ne h.kr (by decide)
  have hlk : ∀ g, blk LA = some g → ¬ blk KA = some g := fun g hg e => by
    rcases hkl with hk | hk
    · rw [hk] at hg; cases hg
    · exact hk (by rw [hg, e])
  have htr : ∀ ts cs, Trs.at (fun k => ¬ Fq q LA KA k ∧ b ≤ k ∧ k < w.heap.size) w ts cs → Trs.at (fun k => ¬ Fq q LA A' k ∧ b ≤ k ∧ k < (w6.setCell ⟨q, 5, none⟩ (.slice A' ks'.length c')).heap.size) (w6.setCell ⟨q, 5, none⟩ (.slice A' ks'.length c')) ts cs := fun ts cs ht => by
    have hA : ∀ p : Addr, p.block < w.heap.size → (¬ Fq q LA KA p.block ∧ b ≤ p.block ∧ p.block < w.heap.size) → (w6.setCell ⟨q, 5, none⟩ (.slice A' ks'.length c')).cell? p = w.cell? p := fun p hp hs => cell_only hon hp (fun e => hs.1 (e.elim (fun e => .inr (.inr e)) .inl))
    refine Trs.at.keep hA (fun k hk => ?_) _ _ ht
    · refine ⟨fun e => hk.1 ?_, hk.2.1, by simp; omega⟩
      rcases e with e | e | e
      · exact .inl e
      · exact .inr (.inl e)
      · rcases hat with rfl | ⟨g, hg, hge⟩
        · exact .inr (.inr e)
        · rw [hg] at e; injection e with e; omega
  refine ⟨⟨(hbx6.set 5 _).eq (by simp), h.hq, (h.ls.only ho6 hlk).setOther _ _ h.bx, ?_, htr _ _ h.tr, h.bx⟩, hon, htr⟩
  exact ho.setOther ⟨q, 5, none⟩ (.slice A' ks'.length c') hnq
theorem So.setL (h : So b v q LA lc xs l KA kc ks w) (ho6 : Only (fun k => blk LA = some k) w w6) {A' : Option Addr} {c' n : Nat} {l' : List Vl} {xs' : List Value} (hn : l'.length = n)
    (ho : Ow w6 b 37 6 A' n c' xs') (hat : A' = LA ∨ ∃ g, blk A' = some g ∧ w.heap.size ≤ g) (ht : Trs.at (fun k => ¬ Fq q LA KA k ∧ b ≤ k ∧ k < w.heap.size) w (l'.flatMap Vl.tr) xs') :
    So b v q A' c' xs' l' KA kc ks (w6.setCell ⟨q, 4, none⟩ (.slice A' n c')) ∧ Only (fun k => blk LA = some k ∨ k = q) w (w6.setCell ⟨q, 4, none⟩ (.slice A' n c')) := by
  subst hn
  have hlt := h.box.lt
  have hs6 := ho6.size
  have hbx6 := h.box.only ho6 h.bx
  have hnq : blk A' ≠ some q := by
    rcases hat with rfl | ⟨g, hg, hge⟩
    · exact h.bx
    · rw [hg]; intro e; injection e with e; omega
  have hon : Only (fun k => blk LA = some k ∨ k = q) w (w6.setCell ⟨q, 4, none⟩ (.slice A' l'.length c')) := (ho6.mono (fun i _ hi => .inl hi)).setCell _ _ (fun _ => .inr rfl)
  have hkl : blk KA = none ∨ blk KA ≠ blk LA := h.kr.ne h.ls (by decide)
  have hlk : ∀ g, blk KA = some g → ¬ blk LA = some g := fun g hg e => by
    rcases hkl with hk | hk
    · rw [hk] at hg; cases hg
    · exact hk (by rw [hg, e])
  refine ⟨⟨(hbx6.set 4 _).eq (by simp), h.hq, ho.setOther ⟨q, 4, none⟩ (.slice A' l'.length c') hnq, (h.kr.only ho6 hlk).setOther _ _ (h.kr.ne_blk h.box (by decide)), ?_, hnq⟩, hon⟩
  have hA : ∀ p : Addr, p.block < w.heap.size → (¬ Fq q LA KA p.block ∧ b ≤ p.block ∧ p.block < w.heap.size) → (w6.setCell ⟨q, 4, none⟩ (.slice A' l'.length c')).cell? p = w.cell? p := fun p hp hs => cell_only hon hp (fun e => hs.1 (e.elim (fun e => .inr (.inl e)) .inl))
  refine Trs.at.keep hA (fun k hk => ?_) _ _ ht
  · refine ⟨fun e => hk.1 ?_, hk.2.1, by simp; omega⟩
    rcases e with e | e | e
    · exact .inl e
    · rcases hat with rfl | ⟨g, hg, hge⟩
      · exact .inr (.inl e)
      · rw [hg] at e; injection e with e; omega
    · exact .inr (.inr e)
/-- a tree among the first m, the rest behind it -/
theorem Trs.at.insert {S : Nat → Prop} {l : List Vl} {xs : List Value} (h : Trs.at S w (l.flatMap Vl.tr) xs) {m : Nat} (hm : m ≤ l.length) {y : Vl} {cs : List Value} (hy : Trs.at S w y.tr cs) :
    Trs.at S w ((l.take m ++ y :: l.drop m).flatMap Vl.tr) (xs.take (m * 6) ++ cs ++ xs.drop (m * 6)) := by
  have h0 : Trs.at S w ((l.take m).flatMap Vl.tr ++ (l.drop m).flatMap Vl.tr) xs := by rw [← List.flatMap_append, List.take_append_drop]; exact h
  obtain ⟨a, c, rfl, ha, hc⟩ := Trs.at.app.1 h0
  have hal : a.length = m * 6 := by
    rw [ha.len, List.length_flatMap, List.map_congr_left (g := fun _ => 6) (fun x _ => Vl.trlen x), List.map_const', List.sum_replicate_nat, List.length_take, Nat.min_eq_left hm]
  rw [List.take_append_of_le_length (by omega), List.take_of_length_le (l := a) (by omega), List.drop_append_of_le_length (by omega), List.drop_of_length_le (l := a) (by omega), List.nil_append, List.flatMap_append, List.flatMap_cons, List.append_assoc]
  exact Trs.at.app.2 ⟨_, _, rfl, ha, Trs.at.app.2 ⟨_, _, rfl, hy, hc⟩⟩
end
theorem vl_oneq {S : Nat → Prop} {w : World} : ∀ {l : List Vl} {vs : List Value}, Trs.at S w (l.flatMap Vl.tr) vs → ∀ u ∈ vs, u.oneCell' = true
  | [], vs, h => by rw [List.flatMap_nil, at_nil] at h; subst h; simp
  | v :: l, vs, h => by
    rw [List.flatMap_cons] at h
    obtain ⟨a, c, rfl, ha, hc⟩ := Trs.at.app.1 h
    obtain ⟨A, n, B, m, rfl, _⟩ := Vl.at_iff.1 ha
    intro u hu
    rcases List.mem_append.1 hu with hu | hu
    · simp only [List.mem_cons, List.not_mem_nil, or_false] at hu
      rcases hu with rfl | rfl | rfl | rfl | rfl | rfl <;> rfl
    · exact vl_oneq hc u hu
def RsoC (k : Nat) : Prop := ∀ (S : Nat → Prop) (v : Vl) (cs : List Value) (w : World), vFine k v → Trs.at S w v.tr cs → Calls Tryz.prog 60 #[.agg cs.toArray] w (ValB (vSort k v) w)
/-- what stands beside the value under way -/
structure Sy (b q : Nat) (v y : Vl) (LA : Option Addr) (lc : Nat) (xs : List Value) (l : List Vl) (KA : Option Addr) (kc : Nat) (ks : List ByteArray) (q1 q2 q5 : Nat) (VC ZV YC : Array Value) (w : World) : Prop where
  so : So b v q LA lc xs l KA kc ks w
  vb : Blk w q1 VC 37
  rb : Blk w q2 ZV 37
  yb : Blk w q5 YC 37
  yt : Trs.at (fun k => ¬ Fq q LA KA k ∧ b ≤ k ∧ k < w.heap.size) w y.tr YC.toList
  yl : blk LA ≠ some q5
  h1 : q1 < b
  h2 : q2 < b
  h5 : q < q5
theorem Sy.drewN {b q : Nat} {v y : Vl} {LA KA : Option Addr} {lc kc : Nat} {xs : List Value} {l : List Vl} {ks : List ByteArray} {q1 q2 q5 : Nat} {VC ZV YC : Array Value} {w : World} (h : Sy b q v y LA lc xs l KA kc ks q1 q2 q5 VC ZV YC w) (n : Nat) : Sy b q v y LA lc xs l KA kc ks q1 q2 q5 VC ZV YC (w.drewN n) :=
  ⟨h.so.below (below_drewN' _ _), h.vb.drewN n, h.rb.drewN n, h.yb.drewN n, h.yt.drewN n, h.yl, h.h1, h.h2, h.h5⟩
theorem Sy.below {b q : Nat} {v y : Vl} {LA KA : Option Addr} {lc kc : Nat} {xs : List Value} {l : List Vl} {ks : List ByteArray} {q1 q2 q5 : Nat} {VC ZV YC : Array Value} {w w' : World} (h : Sy b q v y LA lc xs l KA kc ks q1 q2 q5 VC ZV YC w) (hb : Below w.heap.size w w') : Sy b q v y LA lc xs l KA kc ks q1 q2 q5 VC ZV YC w' :=
  ⟨h.so.below hb, h.vb.below hb, h.rb.below hb, h.yb.below hb, Trs.at.keep (fun _ hp _ => hb.cell hp) (fun k hk => ⟨hk.1, hk.2.1, Nat.lt_of_lt_of_le hk.2.2 hb.size⟩) _ _ h.yt, h.yl, h.h1, h.h2, h.h5⟩
theorem Vl.eta (v : Vl) : v = ⟨v.kind, v.bool, v.num, v.text, v.list, v.keys⟩ := by cases v; rfl
set_option maxHeartbeats 16000000 in
theorem rso_step (k : Nat) (IH : RsoC k) : RsoC (k + 1) := by
  intro S v cs w hgd htr
  obtain ⟨A, c, B, d, rfl, hw1, hw2, hw3, hl, hks⟩ := Vl.at_iff.1 htr
  have hlcap := hl.cap
  have hlbyt := hl.bytes
  have hkcap := hks.cap
  obtain ⟨hg1, hg0, hg2, hg3, hg4⟩ := hgd
  have HW := Lib.hid (⟨hw1, hw2, hw3⟩ : (Lit.int .i8 v.kind).wf = true ∧ (Lit.int .i64 v.num).wf = true ∧ v.text.size ≤ 140737488351232)
  have HL := Lib.hid hl
  have HKS := Lib.hid hks
  have HG := Lib.hid hg1
  have HG0 := Lib.hid hg0
  have HG4 := Lib.hid hg4
  have HIH := Lib.hid IH
  have e1 : (w.alloc (.cells #[.int .i8 v.kind, .bool v.bool, .int .i64 v.num, .string v.text, .slice A v.list.length c, .slice B v.keys.length d] 37)).heap.size = w.heap.size + 1 := by simp
  have e2 : ((w.alloc (.cells #[.int .i8 v.kind, .bool v.bool, .int .i64 v.num, .string v.text, .slice A v.list.length c, .slice B v.keys.length d] 37)).alloc (.cells #[.int .i8 0, .bool false, .int .i64 0, .string ⟨#[]⟩, .slice none 0 0, .slice none 0 0] 37)).heap.size = (w.heap.size + 1 + 1) := by simp
  have HB0 : Hid (Below w.heap.size w (((w.alloc (.cells #[.int .i8 v.kind, .bool v.bool, .int .i64 v.num, .string v.text, .slice A v.list.length c, .slice B v.keys.length d] 37)).alloc (.cells #[.int .i8 0, .bool false, .int .i64 0, .string ⟨#[]⟩, .slice none 0 0, .slice none 0 0] 37)).alloc (.cells #[.int .i8 v.kind, .bool v.bool, .int .i64 v.num, .string v.text, .slice none 0 0, .slice none 0 0] 37))) := Lib.hid ((((Below.refl _ w).alloc (Nat.le_refl _) _).alloc (by rw [e1]; omega) _).alloc (by rw [e2]; omega) _)
  have HV : Hid (Blk (((w.alloc (.cells #[.int .i8 v.kind, .bool v.bool, .int .i64 v.num, .string v.text, .slice A v.list.length c, .slice B v.keys.length d] 37)).alloc (.cells #[.int .i8 0, .bool false, .int .i64 0, .string ⟨#[]⟩, .slice none 0 0, .slice none 0 0] 37)).alloc (.cells #[.int .i8 v.kind, .bool v.bool, .int .i64 v.num, .string v.text, .slice none 0 0, .slice none 0 0] 37)) w.heap.size #[.int .i8 v.kind, .bool v.bool, .int .i64 v.num, .string v.text, .slice A v.list.length c, .slice B v.keys.length d] 37) := Lib.hid (((Blk.new _ _ _).alloc _).alloc _)
  have HR : Hid (Blk (((w.alloc (.cells #[.int .i8 v.kind, .bool v.bool, .int .i64 v.num, .string v.text, .slice A v.list.length c, .slice B v.keys.length d] 37)).alloc (.cells #[.int .i8 0, .bool false, .int .i64 0, .string ⟨#[]⟩, .slice none 0 0, .slice none 0 0] 37)).alloc (.cells #[.int .i8 v.kind, .bool v.bool, .int .i64 v.num, .string v.text, .slice none 0 0, .slice none 0 0] 37)) (w.heap.size + 1) #[.int .i8 0, .bool false, .int .i64 0, .string ⟨#[]⟩, .slice none 0 0, .slice none 0 0] 37) := Lib.hid (by
    have := Blk.new (w.alloc (.cells #[.int .i8 v.kind, .bool v.bool, .int .i64 v.num, .string v.text, .slice A v.list.length c, .slice B v.keys.length d] 37)) #[.int .i8 0, .bool false, .int .i64 0, .string ⟨#[]⟩, .slice none 0 0, .slice none 0 0] 37
    rw [e1] at this
    exact this.alloc _)
  have HQ : Blk (((w.alloc (.cells #[.int .i8 v.kind, .bool v.bool, .int .i64 v.num, .string v.text, .slice A v.list.length c, .slice B v.keys.length d] 37)).alloc (.cells #[.int .i8 0, .bool false, .int .i64 0, .string ⟨#[]⟩, .slice none 0 0, .slice none 0 0] 37)).alloc (.cells #[.int .i8 v.kind, .bool v.bool, .int .i64 v.num, .string v.text, .slice none 0 0, .slice none 0 0] 37)) (w.heap.size + 1 + 1) #[.int .i8 v.kind, .bool v.bool, .int .i64 v.num, .string v.text, .slice none 0 0, .slice none 0 0] 37 := by
    have := Blk.new ((w.alloc (.cells #[.int .i8 v.kind, .bool v.bool, .int .i64 v.num, .string v.text, .slice A v.list.length c, .slice B v.keys.length d] 37)).alloc (.cells #[.int .i8 0, .bool false, .int .i64 0, .string ⟨#[]⟩, .slice none 0 0, .slice none 0 0] 37)) #[.int .i8 v.kind, .bool v.bool, .int .i64 v.num, .string v.text, .slice none 0 0, .slice none 0 0] 37
    rwa [e2] at this
  have HS0 : Hid (So (w.heap.size + 1 + 1) v (w.heap.size + 1 + 1) none 0 [] [] none 0 [] (((w.alloc (.cells #[.int .i8 v.kind, .bool v.bool, .int .i64 v.num, .string v.text, .slice A v.list.length c, .slice B v.keys.length d] 37)).alloc (.cells #[.int .i8 0, .bool false, .int .i64 0, .string ⟨#[]⟩, .slice none 0 0, .slice none 0 0] 37)).alloc (.cells #[.int .i8 v.kind, .bool v.bool, .int .i64 v.num, .string v.text, .slice none 0 0, .slice none 0 0] 37))) := Lib.hid ⟨HQ, Nat.le_refl _, Ow.nil _ _ _ _, Ow.nil _ _ _ _, by simp only [List.flatMap_nil]; exact at_nil.2 rfl, by simp [blk]⟩
  clear htr hl hks hg1 hg0 hg4 IH hw1 hw2 hw3 HQ e1 e2
  go_enter Tryz.func60, Tryz.ntmps60
  by_cases h5 : v.kind = 5
  case neg =>
    have HVS := Lib.hid (vSort_lst k h5)
    have HVH := Lib.hid (vSort_head k v)
    have HL4 : Hid (v.list ≠ [] → v.kind = 4) := Lib.hid (fun hne => Decidable.byContradiction fun h4 => hne (HG0.out h4 h5))
    clear h5
    go_wp2_with fail
    go_loopg [4] v.list.length (fun g i wr => ∃ (j : Nat) (LA : Option Addr) (lc : Nat) (xs : List Value) (L : List Vl), j + g = v.list.length ∧ i = .int .i64 (j : Nat) ∧ Hid (L = (v.list.take j).map (vSort k)) ∧ L.length ≤ 1000000 ∧ Hid (So (w.heap.size + 1 + 1) v (w.heap.size + 1 + 1) LA lc xs L none 0 [] wr) ∧ Hid (Blk wr w.heap.size #[.int .i8 v.kind, .bool v.bool, .int .i64 v.num, .string v.text, .slice A v.list.length c, .slice B v.keys.length d] 37) ∧ Hid (Blk wr (w.heap.size + 1) #[.int .i8 0, .bool false, .int .i64 0, .string ⟨#[]⟩, .slice none 0 0, .slice none 0 0] 37) ∧ Hid (Below w.heap.size w wr))
    case atStart => exact ⟨0, none, 0, [], [], by omega, rfl, Lib.hid (by simp), by simp, HS0, HV, HR, HB0⟩
    case round =>
      clear HS0 HV HR HB0
      obtain ⟨j, LA, lc, xs, L, hj, rfl, HLE, hLL, HSO, HV, HR, HB⟩ := hrel
      rename World => wo
      cases gk with
      | zero =>
        have hjj : ¬ ((j : Int) < (v.list.length : Int)) := by omega
        obtain ⟨c0, c1, c2, c3, c4, c5⟩ := blk6 HV.out
        obtain ⟨q0, q1, q2, q3, q4, q5⟩ := blk6 HSO.out.box
        have HVE : Hid (vSort (k + 1) v = ⟨v.kind, v.bool, v.num, v.text, L, []⟩) := Lib.hid (by
          obtain ⟨a1, a2, a3, a4⟩ := HVH.out
          obtain ⟨a5, a6⟩ := HVS.out
          have hle : L = v.list.map (vSort k) := by rw [HLE.out, List.take_of_length_le (by omega)]
          rw [hle, ← a5, ← a6, ← a1, ← a2, ← a3, ← a4]
          exact Vl.eta _)
        go_wp2_with ((with_reducible refine is_store ?_); refine wpList_store_blk rfl 37 _ _ rfl (w.heap.size + 1) #[.int .i8 v.kind, .bool v.bool, .int .i64 v.num, .string v.text, .slice LA L.length lc, .slice none 0 0] #[.int .i8 0, .bool false, .int .i64 0, .string ⟨#[]⟩, .slice none 0 0, .slice none 0 0] 37 rfl rfl HR.out rfl (by kernel_rfl) (by simp [Value.oneCell']) ?_; intro w5 hk5 ho5; have HK5 := Lib.hid hk5; have HO5 := Lib.hid ho5; clear hk5 ho5)
        obtain ⟨r0, r1, r2, r3, r4, r5⟩ := blk6 HK5.out
        refine bodyPost_ret (v := .agg #[.int .i8 v.kind, .bool v.bool, .int .i64 v.num, .string v.text, .slice LA L.length lc, .slice none 0 0]) (by simp [results, Tryz.results60, go_sem, r0, r1, r2, r3, r4, r5]) rfl ?_
        rw [HVE.out]
        have hval := HSO.out.val HW.out.1 HW.out.2.1 HW.out.2.2 hLL (by simp) (by simp)
        refine ⟨HO5.out.belowB HB.out (fun k hk => by omega), LA, lc, none, 0, rfl, ?_⟩
        exact (hval.only HO5.out (fun k hk e => by omega)).mono (fun k hk => by omega)
      | succ g =>
        have hjj : (j : Int) < (v.list.length : Int) := by omega
        have hj0 : (0 : Int) ≤ (j : Int) ∧ (j : Int) < (v.list.length : Int) := by omega
        obtain ⟨x, hx⟩ := get_lt (l := v.list) (i := j) (by omega)
        have h4 : v.kind = 4 := HL4.out (fun e => by rw [e] at hx; simp at hx)
        have e4 : (v.kind == 4) = true := by rw [h4]; rfl
        obtain ⟨ad, xcs, rfl, hxt, hxc⟩ := (HL.out.below HB.out).elem Vl.trlen hx
        obtain ⟨y, hy⟩ : ∃ y, y = vSort k x := ⟨_, rfl⟩
        have HCL : Hid (Calls Tryz.prog 60 #[.agg xcs.toArray] wo (ValB y wo)) := Lib.hid (by rw [hy]; exact HIH.out S x xcs wo (HG4.out x (List.mem_of_getElem? hx)) hxt)
        have HLE2 : Hid (L ++ [y] = (v.list.take (j + 1)).map (vSort k)) := Lib.hid (by rw [HLE.out, List.take_add_one, hx, hy]; simp)
        have hLj : L.length + 1 ≤ 1000000 := by
          have := congrArg List.length HLE.out
          simp at this; omega
        obtain ⟨A3, n3, B3, m3, rfl, _⟩ := Vl.at_iff.1 hxt
        obtain ⟨x0, x1, x2, x3, x4, x5⟩ := cel6 hxc
        obtain ⟨c0, c1, c2, c3, c4, c5⟩ := blk6 HV.out
        clear hx hxt hxc hy h4
        go_wp2_with fail
        refine HCL.out.mono ?_
        rintro e w5 ⟨hb5, A5, n5, B5, m5, rfl, ht5⟩
        have hbA : Below wo.heap.size wo (w5.alloc (.cells #[.int .i8 y.kind, .bool y.bool, .int .i64 y.num, .string y.text, .slice A5 y.list.length n5, .slice B5 y.keys.length m5] 37)) := hb5.alloc hb5.size _
        have hbA2 : Below wo.heap.size wo ((w5.alloc (.cells #[.int .i8 y.kind, .bool y.bool, .int .i64 y.num, .string y.text, .slice A5 y.list.length n5, .slice B5 y.keys.length m5] 37)).alloc (.cells #[.int .i8 y.kind, .bool y.bool, .int .i64 y.num, .string y.text, .slice A5 y.list.length n5, .slice B5 y.keys.length m5] 37)) := hbA.alloc hbA.size _
        have HBA := Lib.hid hbA
        have HBA2 := Lib.hid hbA2
        have HT5 := Lib.hid ((ht5.alloc (.cells #[.int .i8 y.kind, .bool y.bool, .int .i64 y.num, .string y.text, .slice A5 y.list.length n5, .slice B5 y.keys.length m5] 37)).alloc (.cells #[.int .i8 y.kind, .bool y.bool, .int .i64 y.num, .string y.text, .slice A5 y.list.length n5, .slice B5 y.keys.length m5] 37))
        obtain ⟨y0, y1, y2, y3, y4, y5⟩ := blk6 (Blk.new w5 #[.int .i8 y.kind, .bool y.bool, .int .i64 y.num, .string y.text, .slice A5 y.list.length n5, .slice B5 y.keys.length m5] 37)
        clear x0 x1 x2 x3 x4 x5 c0 c1 c2 c3 c4 c5
        obtain ⟨c0, c1, c2, c3, c4, c5⟩ := blk6 (HV.out.below hbA)
        obtain ⟨q0, q1, q2, q3, q4, q5⟩ := blk6 (HSO.out.box.below hbA)
        have hs5 := hb5.size
        have hqo := HSO.out.box.lt
        have HSL : Hid (Ow ((w5.alloc (.cells #[.int .i8 y.kind, .bool y.bool, .int .i64 y.num, .string y.text, .slice A5 y.list.length n5, .slice B5 y.keys.length m5] 37)).alloc (.cells #[.int .i8 y.kind, .bool y.bool, .int .i64 y.num, .string y.text, .slice A5 y.list.length n5, .slice B5 y.keys.length m5] 37)) (w.heap.size + 1 + 1) 37 6 LA L.length lc xs) := Lib.hid (HSO.out.ls.below hbA2)
        have HRL : Hid (Rd ((w5.alloc (.cells #[.int .i8 y.kind, .bool y.bool, .int .i64 y.num, .string y.text, .slice A5 y.list.length n5, .slice B5 y.keys.length m5] 37)).alloc (.cells #[.int .i8 y.kind, .bool y.bool, .int .i64 y.num, .string y.text, .slice A5 y.list.length n5, .slice B5 y.keys.length m5] 37)) 6 (some ⟨w5.heap.size + 1, 0, none⟩) 1 1 [.int .i8 y.kind, .bool y.bool, .int .i64 y.num, .string y.text, .slice A5 y.list.length n5, .slice B5 y.keys.length m5]) := Lib.hid (by
          have h := Rd.lit (w5.alloc (.cells #[.int .i8 y.kind, .bool y.bool, .int .i64 y.num, .string y.text, .slice A5 y.list.length n5, .slice B5 y.keys.length m5] 37)) 6 1 #[.int .i8 y.kind, .bool y.bool, .int .i64 y.num, .string y.text, .slice A5 y.list.length n5, .slice B5 y.keys.length m5] 37 (0, 0) rfl (by simp [maxLen])
          rwa [show (w5.alloc (.cells #[.int .i8 y.kind, .bool y.bool, .int .i64 y.num, .string y.text, .slice A5 y.list.length n5, .slice B5 y.keys.length m5] 37)).heap.size = w5.heap.size + 1 by simp] at h)
        clear hbA hbA2 hb5 ht5
        go_wp2_with (at_builtin; refine wpList_row info_val Tryz.underlying34 rfl (by omega) rfl (.tmp 35) (.tmp 37) rfl (w.heap.size + 1 + 1) LA lc L.length xs rfl HSL.out (some ⟨w5.heap.size + 1, 0, none⟩) 1 1 [.int .i8 y.kind, .bool y.bool, .int .i64 y.num, .string y.text, .slice A5 y.list.length n5, .slice B5 y.keys.length m5] rfl HRL.out (by simp [Value.oneCell']) (by omega) (by omega) (by simp; omega) ?_; intro A6 c6 w6 ho6 hg6 hat6; have HO6 := Lib.hid ho6; have HG6 := Lib.hid hg6; have HT6 := Lib.hid hat6; have hk6 := (HSO.out.box.below HBA2.out).grown hg6 HSO.out.bx; have f6 := hk6.frozen 4; have g6 := hk6.cell 4 (v := .slice LA L.length lc) rfl; clear ho6 hg6 hat6 hk6)
        obtain ⟨h1, h2⟩ := HSO.out.addL HBA2.out HT5.out HO6.out HG6.out (HT6.out.imp id (fun h => by rw [h]))
        have hF : ∀ k, (blk LA = some k ∨ k = (w.heap.size + 1 + 1)) → (w.heap.size + 1 + 1) ≤ k := fun k e => e.elim (fun e => (HSO.out.ls.lt e).1) (fun e => by omega)
        have HA := Lib.hid h1
        have HRA := Lib.hid (HR.out.only h2 (fun e => by have := hF _ e; omega))
        have HVA := Lib.hid (HV.out.only h2 (fun e => by have := hF _ e; omega))
        have HBA3 := Lib.hid (h2.belowB HB.out (fun k e => by have := hF _ e; omega))
        go_roundg g
        case measure => omega
        case rel => exact ⟨j + 1, A6, c6, xs ++ [.int .i8 y.kind, .bool y.bool, .int .i64 y.num, .string y.text, .slice A5 y.list.length n5, .slice B5 y.keys.length m5], L ++ [y], by omega, by go_num, HLE2, by simp; omega, Lib.hid (by simpa using HA.out), HVA, HRA, HBA3⟩
  have e4 : (v.kind == 4) = false := by rw [h5]; rfl
  obtain ⟨hkl, hdup⟩ := HG.out h5
  have HVS := Lib.hid (vSort_obj k h5 hkl hdup)
  have HVH := Lib.hid (vSort_head k v)
  have HKL := Lib.hid hkl
  obtain ⟨Z, hZ⟩ : ∃ Z, Z = v.keys.zip (v.list.map (vSort k)) := ⟨_, rfl⟩
  rw [← hZ] at HVS
  have HZ := Lib.hid hZ
  have HZL : Hid (Z.length = v.list.length) := Lib.hid (by rw [hZ]; simp [hkl])
  have HP0 : Hid (([] : List KV) = foldI (Z.take 0)) := Lib.hid rfl
  clear h5 hZ hkl hdup
  have hz0 : ([] : List KV).length = 0 := rfl
  go_wp2_with fail
  go_loopg [4] v.list.length (fun g i wr => ∃ (j : Nat) (LA : Option Addr) (lc : Nat) (xs : List Value) (P : List KV) (KA : Option Addr) (kc : Nat), j + g = v.list.length ∧ i = .int .i64 (j : Nat) ∧ Hid (P = foldI (Z.take j)) ∧ Hid (P.length = j) ∧ P.length ≤ 1000000 ∧ Hid (So (w.heap.size + 1 + 1) v (w.heap.size + 1 + 1) LA lc xs (P.map Prod.snd) KA kc (P.map Prod.fst) wr) ∧ Hid (∀ p ∈ P, p.1.size ≤ 140737488351232) ∧ Hid (Blk wr w.heap.size #[.int .i8 v.kind, .bool v.bool, .int .i64 v.num, .string v.text, .slice A v.list.length c, .slice B v.keys.length d] 37) ∧ Hid (Blk wr (w.heap.size + 1) #[.int .i8 0, .bool false, .int .i64 0, .string ⟨#[]⟩, .slice none 0 0, .slice none 0 0] 37) ∧ Hid (Below w.heap.size w wr))
  case atStart => exact ⟨0, none, 0, [], [], none, 0, by omega, rfl, HP0, Lib.hid rfl, by simp, HS0, Lib.hid (by simp), HV, HR, HB0⟩
  case round =>
    clear HS0 HV HR HB0
    obtain ⟨j, LA, lc, xs, P, KA, kc, hj, rfl, HPE, HPJ, hpb, HSO, HPZ, HV, HR, HB⟩ := hrel
    rename World => wo
    have hml : (P.map Prod.snd).length = P.length := List.length_map ..
    have hmk : (P.map Prod.fst).length = P.length := List.length_map ..
    cases gk with
    | zero =>
      have hjj : ¬ ((j : Int) < (v.list.length : Int)) := by omega
      obtain ⟨c0, c1, c2, c3, c4, c5⟩ := blk6 HV.out
      obtain ⟨q0, q1, q2, q3, q4, q5⟩ := blk6 HSO.out.box
      rw [hml] at q4
      rw [hmk] at q5
      have HVE : Hid (vSort (k + 1) v = ⟨v.kind, v.bool, v.num, v.text, P.map Prod.snd, P.map Prod.fst⟩) := Lib.hid (by
        obtain ⟨a1, a2, a3, a4⟩ := HVH.out
        obtain ⟨a5, a6⟩ := HVS.out
        have hle : P = foldI Z := by rw [HPE.out, List.take_of_length_le (by have := HZL.out; omega)]
        rw [hle, ← a5, ← a6, ← a1, ← a2, ← a3, ← a4]
        exact Vl.eta _)
      go_wp2_with ((with_reducible refine is_store ?_); refine wpList_store_blk rfl 37 _ _ rfl (w.heap.size + 1) #[.int .i8 v.kind, .bool v.bool, .int .i64 v.num, .string v.text, .slice LA P.length lc, .slice KA P.length kc] #[.int .i8 0, .bool false, .int .i64 0, .string ⟨#[]⟩, .slice none 0 0, .slice none 0 0] 37 rfl rfl HR.out rfl (by kernel_rfl) (by simp [Value.oneCell']) ?_; intro w5 hk5 ho5; have HK5 := Lib.hid hk5; have HO5 := Lib.hid ho5; clear hk5 ho5)
      obtain ⟨r0, r1, r2, r3, r4, r5⟩ := blk6 HK5.out
      refine bodyPost_ret (v := .agg #[.int .i8 v.kind, .bool v.bool, .int .i64 v.num, .string v.text, .slice LA P.length lc, .slice KA P.length kc]) (by simp [results, Tryz.results60, go_sem, r0, r1, r2, r3, r4, r5]) rfl ?_
      rw [HVE.out]
      have hval := HSO.out.val HW.out.1 HW.out.2.1 HW.out.2.2 (by omega) (by omega) (fun s hs => by obtain ⟨p, hp, rfl⟩ := List.mem_map.1 hs; exact HPZ.out p hp)
      refine ⟨HO5.out.belowB HB.out (fun k hk => by omega), LA, lc, KA, kc, ?_, ?_⟩
      · simp only [hml, hmk]
      · exact (hval.only HO5.out (fun k hk e => by omega)).mono (fun k hk => by omega)
    | succ g =>
      have hjj : (j : Int) < (v.list.length : Int) := by omega
      have hj0 : (0 : Int) ≤ (j : Int) ∧ (j : Int) < (v.list.length : Int) := by omega
      have hjk : (0 : Int) ≤ (j : Int) ∧ (j : Int) < (v.keys.length : Int) := by have := HKL.out; omega
      obtain ⟨x, hx⟩ := get_lt (l := v.list) (i := j) (by omega)
      obtain ⟨s, hs⟩ := get_lt (l := v.keys) (i := j) (by omega)
      obtain ⟨ad, xcs, rfl, hxt, hxc⟩ := (HL.out.below HB.out).elem Vl.trlen hx
      obtain ⟨bd, rfl, hsc0, hsz⟩ := HKS.out.str hs
      have hbdl : (bd.add j).block < w.heap.size := World.block_lt_of_cell? w _ hsc0
      obtain ⟨y, hy⟩ : ∃ y, y = vSort k x := ⟨_, rfl⟩
      have HCL : Hid (Calls Tryz.prog 60 #[.agg xcs.toArray] wo (ValB y wo)) := Lib.hid (by rw [hy]; exact HIH.out S x xcs wo (HG4.out x (List.mem_of_getElem? hx)) hxt)
      have HPN : Hid (foldI (Z.take (j + 1)) = insP (s, y) P) := Lib.hid (by
        have hzj : Z[j]? = some (s, y) := by rw [HZ.out]; exact List.getElem?_zip_eq_some.2 ⟨hs, by rw [List.getElem?_map, hx, hy]; rfl⟩
        rw [List.take_add_one, hzj, HPE.out]
        exact foldI_snoc _ _)
      have HSC0 := Lib.hid hsc0
      obtain ⟨A3, n3, B3, m3, rfl, _⟩ := Vl.at_iff.1 hxt
      obtain ⟨x0, x1, x2, x3, x4, x5⟩ := cel6 hxc
      obtain ⟨c0, c1, c2, c3, c4, c5⟩ := blk6 HV.out
      clear hx hs hxt hxc hy hsc0
      go_wp2_with fail
      refine HCL.out.mono ?_
      rintro e w5 ⟨hb5, A5, n5, B5, m5, rfl, ht5⟩
      have hbA : Below wo.heap.size wo (w5.alloc (.cells #[.int .i8 y.kind, .bool y.bool, .int .i64 y.num, .string y.text, .slice A5 y.list.length n5, .slice B5 y.keys.length m5] 37)) := hb5.alloc hb5.size _
      have HBA : Hid (Below w.heap.size w (w5.alloc (.cells #[.int .i8 y.kind, .bool y.bool, .int .i64 y.num, .string y.text, .slice A5 y.list.length n5, .slice B5 y.keys.length m5] 37))) := Lib.hid (HB.out.trans (hbA.mono HB.out.size))
      have hqo := HSO.out.box.lt
      have hs5 := hb5.size
      have HSY : Hid (Sy (w.heap.size + 1 + 1) (w.heap.size + 1 + 1) v y LA lc xs (P.map Prod.snd) KA kc (P.map Prod.fst) w.heap.size (w.heap.size + 1) w5.heap.size #[.int .i8 v.kind, .bool v.bool, .int .i64 v.num, .string v.text, .slice (some ad) v.list.length c, .slice (some bd) v.keys.length d] #[.int .i8 0, .bool false, .int .i64 0, .string ⟨#[]⟩, .slice none 0 0, .slice none 0 0] #[.int .i8 y.kind, .bool y.bool, .int .i64 y.num, .string y.text, .slice A5 y.list.length n5, .slice B5 y.keys.length m5] (w5.alloc (.cells #[.int .i8 y.kind, .bool y.bool, .int .i64 y.num, .string y.text, .slice A5 y.list.length n5, .slice B5 y.keys.length m5] 37))) := Lib.hid
        ⟨HSO.out.below hbA, HV.out.below hbA, HR.out.below hbA, Blk.new _ _ _, Trs.at.keep (w := w5) (fun p hp _ => World.cell?_alloc_lt w5 _ p hp) (fun k hk => ⟨fun e => by
            rcases e with e | e | e
            · have := hk.1; omega
            · have := (HSO.out.ls.lt e).2; have := hk.1; omega
            · have := (HSO.out.kr.lt e).2; have := hk.1; omega, by have := hk.1; omega, by simp; have := hk.2; omega⟩) _ _ ht5.bound, fun e => by have := (HSO.out.ls.lt e).2; omega, by omega, by omega, by omega⟩
      clear x0 x1 x2 x3 x4 x5 c0 c1 c2 c3 c4 c5
      obtain ⟨c0, c1, c2, c3, c4, c5⟩ := blk6 HSY.out.vb
      go_upto_block 2 with fail
      obtain ⟨qy, hqy⟩ : ∃ qy, qy = w5.heap.size := ⟨_, rfl⟩
      rw [← hqy] at HSY ⊢
      clear hbA hb5 ht5 HSO HV HR HB c0 c1 c2 c3 c4 c5 hqo hs5 hqy HCL
      generalize (w5.alloc (.cells #[.int .i8 y.kind, .bool y.bool, .int .i64 y.num, .string y.text, .slice A5 y.list.length n5, .slice B5 y.keys.length m5] 37)) = wa at HSY HBA ⊢
      obtain ⟨c0, c1, c2, c3, c4, c5⟩ := blk6 HSY.out.vb
      go_cut [6] from 40 to 59 (fun v6 wx => ∃ m : Nat, v6 = .int .i64 (m : Nat) ∧ m ≤ P.length ∧ Hid (insP (s, y) P = P.take m ++ (s, y) :: P.drop m) ∧ Hid (Sy (w.heap.size + 1 + 1) (w.heap.size + 1 + 1) v y LA lc xs (P.map Prod.snd) KA kc (P.map Prod.fst) w.heap.size (w.heap.size + 1) qy #[.int .i8 v.kind, .bool v.bool, .int .i64 v.num, .string v.text, .slice (some ad) v.list.length c, .slice (some bd) v.keys.length d] #[.int .i8 0, .bool false, .int .i64 0, .string ⟨#[]⟩, .slice none 0 0, .slice none 0 0] #[.int .i8 y.kind, .bool y.bool, .int .i64 y.num, .string y.text, .slice A5 y.list.length n5, .slice B5 y.keys.length m5] wx) ∧ Hid (Below w.heap.size w wx))
      case first =>
        go_wp2_with fail
        clear c0 c1 c2 c3 c4 c5
        have HM0 : Hid (∀ i p, i < 0 → P[i]? = some p → Lib.compareBytes p.1.data.toList s.data.toList < 0) := Lib.hid (fun i p hi => by omega)
        go_loopg [6] P.length (fun g2 i wr => ∃ m : Nat, m + g2 = P.length ∧ i = .int .i64 (m : Nat) ∧ Hid (∀ i p, i < m → P[i]? = some p → Lib.compareBytes p.1.data.toList s.data.toList < 0) ∧ Hid (Sy (w.heap.size + 1 + 1) (w.heap.size + 1 + 1) v y LA lc xs (P.map Prod.snd) KA kc (P.map Prod.fst) w.heap.size (w.heap.size + 1) qy #[.int .i8 v.kind, .bool v.bool, .int .i64 v.num, .string v.text, .slice (some ad) v.list.length c, .slice (some bd) v.keys.length d] #[.int .i8 0, .bool false, .int .i64 0, .string ⟨#[]⟩, .slice none 0 0, .slice none 0 0] #[.int .i8 y.kind, .bool y.bool, .int .i64 y.num, .string y.text, .slice A5 y.list.length n5, .slice B5 y.keys.length m5] wr) ∧ Hid (Below w.heap.size w wr))
        case atStart => exact ⟨0, by omega, rfl, HM0, HSY, HBA⟩
        case round =>
          clear HM0 HSY HBA
          obtain ⟨m, hm, rfl, HM, HSY, HBA⟩ := hrel
          rename World => wp
          obtain ⟨c0, c1, c2, c3, c4, c5⟩ := blk6 HSY.out.vb
          obtain ⟨q0, q1, q2, q3, q4, q5⟩ := blk6 HSY.out.so.box
          rw [hml] at q4
          rw [hmk] at q5
          cases gk with
          | zero =>
            have hmm : ¬ ((m : Int) < (P.length : Int)) := by omega
            have hmd : decide ((m : Int) < (P.length : Int)) = false := decide_eq_false hmm
            have HIN : Hid (insP (s, y) P = P.take m ++ (s, y) :: P.drop m) := Lib.hid (insP_at (s, y) P m (by omega) HM.out (fun z hz => by rw [List.getElem?_eq_none (by omega)] at hz; cases hz))
            have hmle : m ≤ P.length := by omega
            have hmn : ¬ m < P.length := by omega
            have hmd2 : decide (m < P.length) = false := decide_eq_false hmn
            clear hm
            go_wp2_with fail
            go_quiet (fail)
            go_wp2_with fail
            go_meet
            exact ⟨m, rfl, hmle, HIN, Lib.hid (HSY.out.drewN _), Lib.hid (HBA.out.trans ((below_drewN' _ _).mono HBA.out.size))⟩
          | succ g2 =>
            have hmm : (m : Int) < (P.length : Int) := by omega
            have hmd : decide ((m : Int) < (P.length : Int)) = true := decide_eq_true hmm
            have hm0 : (0 : Int) ≤ (m : Int) ∧ (m : Int) < (P.length : Int) := by omega
            obtain ⟨p, hp⟩ := get_lt (l := P) (i := m) (by omega)
            obtain ⟨ka, rfl, hkc⟩ := HSY.out.so.kr.rd.at_ m (.string p.1) (by simp [hp])
            have hsc := (HBA.out.cell hbdl).trans HSC0.out
            have hbl := bl_eq p.1.data.toList s.data.toList
            by_cases hlt : Lib.compareBytes p.1.data.toList s.data.toList < 0
            · have e6 : Op.bytesLess p.1.toList s.toList = true := by rw [Lib.toList_data, Lib.toList_data, hbl, decide_eq_true hlt]
              have HM2 : Hid (∀ i z, i < m + 1 → P[i]? = some z → Lib.compareBytes z.1.data.toList s.data.toList < 0) := Lib.hid (fun i z hi hz => by
                rcases Nat.lt_succ_iff_lt_or_eq.1 hi with hi | rfl
                · exact HM.out i z hi hz
                · rw [hp] at hz; injection hz with hz; subst hz; exact hlt)
              clear hlt hbl hp
              go_wp2_with fail
              go_quiet (fail)
              go_wp2_with fail
              go_roundg g2
              case measure => omega
              case rel => exact ⟨m + 1, by omega, by go_num, HM2, Lib.hid (HSY.out.drewN _), Lib.hid (HBA.out.trans ((below_drewN' _ _).mono HBA.out.size))⟩
            · have e6 : Op.bytesLess p.1.toList s.toList = false := by rw [Lib.toList_data, Lib.toList_data, hbl, decide_eq_false hlt]
              have HIN : Hid (insP (s, y) P = P.take m ++ (s, y) :: P.drop m) := Lib.hid (insP_at (s, y) P m (by omega) HM.out (fun z hz => by rw [hp] at hz; injection hz with hz; subst hz; exact hlt))
              clear hlt hbl hp
              go_wp2_with fail
              go_quiet (fail)
              go_wp2_with fail
              go_meet
              exact ⟨m, rfl, by omega, HIN, Lib.hid (HSY.out.drewN _), Lib.hid (HBA.out.trans ((below_drewN' _ _).mono HBA.out.size))⟩
      case rest =>
        clear HSY HBA c0 c1 c2 c3 c4 c5
        obtain ⟨m, rfl, hm, HIN, HSY, HBA⟩ := hcut
        rename World => wb
        have HPN2 : Hid (foldI (Z.take (j + 1)) = P.take m ++ (s, y) :: P.drop m) := Lib.hid (by rw [HPN.out, HIN.out])
        clear HPN HIN
        obtain ⟨c0, c1, c2, c3, c4, c5⟩ := blk6 HSY.out.vb
        obtain ⟨q0, q1, q2, q3, q4, q5⟩ := blk6 HSY.out.so.box
        obtain ⟨y0, y1, y2, y3, y4, y5⟩ := blk6 HSY.out.yb
        have hkc := HSY.out.so.kr.cap
        have hlc := HSY.out.so.ls.cap
        rw [hml] at q4 hlc
        rw [hmk] at q5 hkc
        obtain ⟨KT, hKT⟩ : ∃ KT, KT = (if kc = m then KA else KA.map (·.add (m * 1))) := ⟨_, rfl⟩
        obtain ⟨LT, hLT⟩ : ∃ LT, LT = (if lc = m then LA else LA.map (·.add (m * 6))) := ⟨_, rfl⟩
        have hsk : ∀ W, (Instr.slice 35 (.slice KA P.length kc) (some (.int .i64 (m : Nat))) none none).run Tryz.prog W = .ok (.slice KT (P.length - m) (kc - m)) W := fun W => by rw [hKT]; exact run_slice_from (P := Tryz.prog) (w := W) (A := KA) (c := kc) (t := 35) (e := 9) Tryz.underlying35 (by kernel_rfl) hm .i64
        have hsl : ∀ W, (Instr.slice 34 (.slice LA P.length lc) (some (.int .i64 (m : Nat))) none none).run Tryz.prog W = .ok (.slice LT (P.length - m) (lc - m)) W := fun W => by rw [hLT]; exact run_slice_from (P := Tryz.prog) (w := W) (A := LA) (c := lc) (t := 34) (e := 37) Tryz.underlying34 (by kernel_rfl) hm .i64
        have HKT : Hid (∀ W, Below wb.heap.size wb W → Rd W 1 KT (P.length - m) (kc - m) (((P.map Prod.fst).drop m).map .string)) := Lib.hid (fun W hW => by
          have h := (HSY.out.so.kr.below hW).rd.cut (k := m) (m := P.length) (x := kc) hm (by omega) hkc (Nat.le_refl _)
          rw [← hKT] at h
          simp only [Nat.mul_one] at h
          rw [List.take_of_length_le (by simp)] at h
          rw [List.map_drop]
          exact h)
        have HLT : Hid (∀ W, Below wb.heap.size wb W → Rd W 6 LT (P.length - m) (lc - m) (xs.drop (m * 6))) := Lib.hid (fun W hW => by
          have h := (HSY.out.so.ls.below hW).rd.cut (k := m) (m := P.length) (x := lc) hm (by omega) hlc (Nat.le_refl _)
          rw [← hLT] at h
          have hxl := HSY.out.so.ls.rd.len
          rwa [List.take_of_length_le (by rw [List.length_drop, hxl, hml, Nat.sub_mul]; omega)] at h)
        have H1C : Hid (∀ u ∈ xs.drop (m * 6), u.oneCell' = true) := Lib.hid (fun u hu => vl_oneq HSY.out.so.tr u (List.mem_of_mem_drop hu))
        have hmP : (m : Int) ≤ (P.length : Int) := by omega
        have hbW := HSY.out.so.box.lt
        clear hKT hLT
        go_wp2_with (first | (at_builtin; refine wpList_none info_str Tryz.underlying35 rfl (by omega) rfl (.tmp 60) (.tmp 64) rfl wb.heap.size rfl KT (P.length - m) (kc - m) (((P.map Prod.fst).drop m).map .string) rfl (HKT.out wb (Below.refl _ _)) (by intro u hu; obtain ⟨s, _, rfl⟩ := List.mem_map.1 hu; rfl) (by omega) (by omega) (by omega) ?_; intro K2 k2 w6 ho6 hg6; have HO6 := Lib.hid ho6;  have hb6 : Below wb.heap.size wb w6 := (Below.refl _ wb).grown hg6 (Nat.le_refl _) (fun k e => by cases e); have HB6 := Lib.hid hb6; obtain ⟨q60, q61, q62, q63, q64, q65⟩ := blk6 (HSY.out.so.box.below hb6); rw [hml] at q64; clear ho6 hg6 hb6) | (at_builtin; refine wpList_none info_val Tryz.underlying34 rfl (by omega) rfl (.tmp 66) (.tmp 70) rfl wb.heap.size rfl LT (P.length - m) (lc - m) (xs.drop (m * 6)) rfl (HLT.out w6 HB6.out) H1C.out (by omega) (by omega) (by have := HB6.out.size; omega) ?_; intro L2 l2 w7 ho7 hg7; have HO7 := Lib.hid ho7; have HG7 := Lib.hid hg7; clear ho7 hg7))
        have hb67 : Below w6.heap.size w6 w7 := (Below.refl _ w6).grown HG7.out (Nat.le_refl _) (fun k e => by cases e)
        have hb7 : Below wb.heap.size wb w7 := HB6.out.trans (hb67.mono HB6.out.size)
        have HK7 := Lib.hid (HO6.out.below hb67)
        have HS7 := Lib.hid (HSY.out.below hb7)
        have HBB := Lib.hid (HBA.out.trans (hb7.mono HBA.out.size))
        have HKL : Hid (∀ g, blk KA = some g → g < wb.heap.size) := Lib.hid (fun g hg => (HSY.out.so.kr.lt hg).2)
        have HLLt : Hid (∀ g, blk LA = some g → g < wb.heap.size) := Lib.hid (fun g hg => (HSY.out.so.ls.lt hg).2)
        have hwb7 := hb7.size
        have hQb := HSY.out.so.box.lt
        clear hb67 hb7 HSY HB6 HBA HO6 HG7 HKT HLT H1C c0 c1 c2 c3 c4 c5 q0 q1 q2 q3 q4 q5 q60 q61 q62 q63 q64 q65 y0 y1 y2 y3 y4 y5 hsk hsl
        obtain ⟨c0, c1, c2, c3, c4, c5⟩ := blk6 HS7.out.vb
        obtain ⟨q0, q1, q2, q3, q4, q5⟩ := blk6 HS7.out.so.box
        rw [hml] at q4
        rw [hmk] at q5
        have s0 := (HBB.out.cell hbdl).trans HSC0.out
        have hkt : ∀ W, (Instr.slice 35 (.slice KA P.length kc) none (some (.int .i64 (m : Nat))) none).run Tryz.prog W = .ok (.slice KA m kc) W := fun W => run_slice_to (P := Tryz.prog) (w := W) (A := KA) (n := P.length) (c := kc) (m := m) (x := (m : Int)) rfl (t := 35) (e := 9) (sz := 1) Tryz.underlying35 (by kernel_rfl) (by omega) .i64
        have HCU := Lib.hid (HS7.out.so.kr.cut (m := m) (x := kc) (by rw [hmk]; exact hm) (by omega) (Nat.le_refl _))
        have hqb := HS7.out.so.box.lt
        go_wp2_with fail
        refine Rg.start 14 (fun w' => w'.cell? ⟨(w.heap.size + 1 + 1), 5, none⟩ = some (.slice KA P.length kc) ∧ w'.cell? ⟨w.heap.size, 5, none⟩ = some (.slice (some bd) v.keys.length d) ∧ w'.cell? (bd.add j) = some (.string s)) (by kernel_rfl) (by go_keep) (fun hH0 => ?_)
        simp only [List.length_cons, List.length_nil, List.replicate_succ, List.replicate_zero, Nat.zero_add, Nat.reduceAdd]
        refine Rg.take (v := ?_) hH0 0 rfl (by kernel_rfl) (fun _ _ _ h => h) (by rfl) ?_ ?_
        rotate_left
        · (intro w hSw; (try dsimp only at hSw); go_simp <;> with_reducible rfl)
        try simp only [Act.put, sA, sB, sC]
        refine Rg.take (v := ?_) hH0 1 rfl (by kernel_rfl) (fun _ _ _ h => h) (by rfl) ?_ ?_
        rotate_left
        · (intro w hSw; (try dsimp only at hSw); go_simp <;> with_reducible rfl)
        try simp only [Act.put, sA, sB, sC]
        refine Rg.take (v := ?_) hH0 2 rfl (by kernel_rfl) (fun _ _ _ h => h) (by rfl) ?_ ?_
        rotate_left
        · (intro w hSw; (try dsimp only at hSw); go_simp <;> with_reducible rfl)
        try simp only [Act.put, sA, sB, sC]
        refine Rg.take (v := ?_) hH0 3 rfl (by kernel_rfl) (fun _ _ _ h => h) (by rfl) ?_ ?_
        rotate_left
        · (intro w hSw; (try dsimp only at hSw); go_simp <;> with_reducible rfl)
        try simp only [Act.put, sA, sB, sC]
        refine Rg.take (v := ?_) hH0 4 rfl (by kernel_rfl) (fun _ _ _ h => h) (by rfl) ?_ ?_
        rotate_left
        · (intro w hSw; (try dsimp only at hSw); go_simp <;> with_reducible rfl)
        try simp only [Act.put, sA, sB, sC]
        refine Rg.take (v := ?_) hH0 5 rfl (by kernel_rfl) (fun _ _ _ h => h) (by rfl) ?_ ?_
        rotate_left
        · (intro w hSw; (try dsimp only at hSw); go_simp <;> with_reducible rfl)
        try simp only [Act.put, sA, sB, sC]
        refine Rg.take (v := ?_) hH0 6 rfl (by kernel_rfl) (fun _ _ _ h => h) (by rfl) ?_ ?_
        rotate_left
        · (intro w hSw; (try dsimp only at hSw); go_simp <;> with_reducible rfl)
        try simp only [Act.put, sA, sB, sC]
        refine Rg.take (v := ?_) hH0 7 rfl (by kernel_rfl) (fun _ _ _ h => h) (by rfl) ?_ ?_
        rotate_left
        · (intro w hSw; (try dsimp only at hSw); go_simp <;> with_reducible rfl)
        try simp only [Act.put, sA, sB, sC]
        refine Rg.take (v := ?_) hH0 8 rfl (by kernel_rfl) (fun _ _ _ h => h) (by rfl) ?_ ?_
        rotate_left
        · (intro w hSw; (try dsimp only at hSw); go_simp <;> with_reducible rfl)
        try simp only [Act.put, sA, sB, sC]
        refine Rg.take (v := ?_) hH0 11 rfl (by kernel_rfl) (fun _ _ _ h => h) (by rfl) ?_ ?_
        rotate_left
        · (intro w hSw; (try dsimp only at hSw); go_simp <;> with_reducible rfl)
        try simp only [Act.put, sA, sB, sC]
        refine Rg.step 9 (by kernel_rfl) rfl (fun K hK => ?_)
        go_simp
        refine hK.out _ _ ?_ (fun hH1 => ?_)
        · ((try dsimp only) <;> go_keep)
        clear hK K hH0
        try simp only [Act.put, List.setIfInBounds_toArray, List.set_cons_zero, List.set_cons_succ]
        refine Rg.step 10 (by kernel_rfl) rfl (fun K hK => ?_)
        refine step_row info_str Tryz.underlying35 rfl (by omega) rfl (.tmp 75) (.tmp 81) rfl (w.heap.size + 1 + 1) KA kc m (((P.map Prod.fst).map .string).take (m * 1)) (by rfl) (HCU.out.alloc (.cells #[.string s] 9)).drew (some ⟨w7.heap.size, 0, none⟩) 1 1 [.string s] (by rfl) (Rd.lit w7 1 1 #[.string s] 9 (0, 0) rfl (by simp [maxLen])).drew (by simp [Value.oneCell']) (by omega) (by omega) (by simp; omega) ?_; intro A8 c8 w8 ho8 hg8 hat8; have HO8 := Lib.hid ho8; have HT8 := Lib.hid hat8; have hon8 : Only (fun k => blk KA = some k) w7 w8 := ((Only.of_below ((Below.refl _ w7).alloc (Nat.le_refl _) (.cells #[.string s] 9)).drew _).grown hg8 (fun g hg _ => hg)); have HON8 := Lib.hid hon8; have hk8 := HS7.out.so.box.only hon8 (HS7.out.so.kr.ne_blk HS7.out.so.box (by decide)); have g8 := hk8.cell 5 (v := .slice KA P.length kc) (by simp); have v8 := (HS7.out.vb.only hon8 (fun e => by have := (HS7.out.so.kr.lt e).1; omega)).cell 5 (v := .slice (some bd) v.keys.length d) rfl; have z8 := (cell_only hon8 (p := bd.add j) (Nat.lt_of_lt_of_le hbdl HBB.out.size) (fun e => by have := (HS7.out.so.kr.lt e).1; omega)).trans s0; clear ho8 hg8 hat8 hon8 hk8
        refine hK.out _ _ ?_ (fun hH2 => ?_)
        · ((try dsimp only) <;> go_keep)
        clear hK K hH1
        try simp only [Act.put, List.setIfInBounds_toArray, List.set_cons_zero, List.set_cons_succ]
        refine Rg.step 12 (by kernel_rfl) rfl (fun K hK => ?_)
        refine step_row info_str Tryz.underlying35 rfl (by omega) rfl (.tmp 82) (.tmp 83) rfl (w.heap.size + 1 + 1) A8 c8 (m + 1) _ (by rfl) HO8.out K2 (P.length - m) k2 (((P.map Prod.fst).drop m).map .string) (by rfl) (HK7.out.only HON8.out (fun g hg e => by have := (HK7.out.lt hg).1; have := HKL.out g e; omega)).rd (by intro u hu; obtain ⟨s, _, rfl⟩ := List.mem_map.1 hu; rfl) (by omega) (by omega) (by have := HON8.out.size; omega) ?_; intro A9 c9 w9 ho9 hg9 hat9; have HO9 := Lib.hid ho9; have HT9 := Lib.hid hat9; have hon9 : Only (fun k => blk KA = some k) w7 w9 := HON8.out.grown hg9 (fun g hg hlt => HT8.out.elim (fun e => by rw [e] at hg; exact hg) (fun e => by rw [e] at hg; simp only [blk, Option.map_some] at hg; injection hg with hg; simp at hg; omega)); have HON9 := Lib.hid hon9; have hk9 := HS7.out.so.box.only hon9 (HS7.out.so.kr.ne_blk HS7.out.so.box (by decide)); have g9 := hk9.cell 5 (v := .slice KA P.length kc) (by simp); have f9 := hk9.frozen 5; have v9 := (HS7.out.vb.only hon9 (fun e => by have := (HS7.out.so.kr.lt e).1; omega)).cell 5 (v := .slice (some bd) v.keys.length d) rfl; have z9 := (cell_only hon9 (p := bd.add j) (Nat.lt_of_lt_of_le hbdl HBB.out.size) (fun e => by have := (HS7.out.so.kr.lt e).1; omega)).trans s0; clear ho9 hg9 hat9 hon9 hk9
        refine hK.out _ _ ?_ (fun hH3 => ?_)
        · ((try dsimp only) <;> go_keep)
        clear hK K hH2
        try simp only [Act.put, List.setIfInBounds_toArray, List.set_cons_zero, List.set_cons_succ]
        refine Rg.take (v := ?_) hH3 13 rfl (by kernel_rfl) (fun _ _ _ h => h) (by rfl) ?_ ?_
        rotate_left
        · (intro w hSw; (try dsimp only at hSw); go_simp <;> with_reducible rfl)
        try simp only [Act.put, sA, sB, sC]
        refine Rg.last (by kernel_rfl) (by kernel_rfl) rfl (fun K hK => ?_)
        go_simp
        refine hK.out _ _ ?_
        clear hK K hH3
        obtain ⟨P2, hP2⟩ : ∃ P2, P2 = P.take m ++ (s, y) :: P.drop m := ⟨_, rfl⟩
        have HP2 := Lib.hid hP2
        have hP2l : P2.length = P.length + 1 := by rw [hP2]; simp; omega
        have ho9' : Ow w9 (w.heap.size + 1 + 1) 9 1 A9 (m + 1 + (P.length - m)) c9 ((P2.map Prod.fst).map .string) := by
          have h := HO9.out
          have e : (P2.map Prod.fst).map Value.string = ((P.map Prod.fst).map Value.string).take (m * 1) ++ [.string s] ++ ((P.map Prod.fst).drop m).map .string := by
            rw [hP2]; simp [List.map_take, List.map_drop]
          rw [e]; exact h
        have hat9 : A9 = KA ∨ ∃ g, blk A9 = some g ∧ w7.heap.size ≤ g := by
          rcases HT9.out with e | e
          · rcases HT8.out with e2 | e2
            · exact .inl (e.trans e2)
            · exact .inr ⟨_, by rw [e, e2]; rfl, by simp⟩
          · exact .inr ⟨_, by rw [e]; rfl, by have := HON8.out.size; omega⟩
        obtain ⟨h1, h2, h3⟩ := HS7.out.so.setK HON9.out (by rw [List.length_map, hP2l]; omega) ho9' hat9
        have HF : Hid (∀ k, (blk KA = some k ∨ k = (w.heap.size + 1 + 1)) → (w.heap.size + 1 + 1) ≤ k ∧ k < wb.heap.size ∧ k ≠ qy) := Lib.hid (fun k e => e.elim (fun e => ⟨(HS7.out.so.kr.lt e).1, HKL.out k e, fun e2 => HS7.out.so.kr.ne_blk HS7.out.yb (by decide) (by rw [e, e2])⟩) (fun e => ⟨by omega, by omega, by have := HS7.out.h5; omega⟩))
        have HSV : Hid (Sy (w.heap.size + 1 + 1) (w.heap.size + 1 + 1) v y LA lc xs (P.map Prod.snd) A9 c9 (P2.map Prod.fst) w.heap.size (w.heap.size + 1) qy #[.int .i8 v.kind, .bool v.bool, .int .i64 v.num, .string v.text, .slice (some ad) v.list.length c, .slice (some bd) v.keys.length d] #[.int .i8 0, .bool false, .int .i64 0, .string ⟨#[]⟩, .slice none 0 0, .slice none 0 0] #[.int .i8 y.kind, .bool y.bool, .int .i64 y.num, .string y.text, .slice A5 y.list.length n5, .slice B5 y.keys.length m5] (w9.setCell ⟨(w.heap.size + 1 + 1), 5, none⟩ (.slice A9 (m + 1 + (P.length - m)) c9))) := Lib.hid
          ⟨h1, HS7.out.vb.only h2 (fun e => by have := HF.out _ e; omega), HS7.out.rb.only h2 (fun e => by have := HF.out _ e; omega), HS7.out.yb.only h2 (fun e => (HF.out _ e).2.2 rfl), h3 _ _ HS7.out.yt, HS7.out.yl, HS7.out.h1, HS7.out.h2, HS7.out.h5⟩
        have HLV := Lib.hid (HO7.out.only h2 (fun g hg e => by have := (HO7.out.lt hg).1; have := HF.out _ e; omega))
        have HBV := Lib.hid (h2.belowB HBB.out (fun k e => by have := HF.out _ e; omega))
        have hwv9 := h2.size
        clear h1 h2 h3 ho9' hat9 hP2 HO9 HT9 HT8 HO8 HON8 HON9 HS7 HO7 HK7 HBB HCU HF HKL hkt g8 v8 z8 g9 f9 v9 z9 c0 c1 c2 c3 c4 c5 q0 q1 q2 q3 q4 q5 s0
        generalize (w9.setCell ⟨(w.heap.size + 1 + 1), 5, none⟩ (.slice A9 (m + 1 + (P.length - m)) c9)) = wv at HSV HLV HBV hwv9 ⊢
        obtain ⟨q0, q1, q2, q3, q4, q5⟩ := blk6 HSV.out.so.box
        rw [hml] at q4
        obtain ⟨y0, y1, y2, y3, y4, y5⟩ := blk6 HSV.out.yb
        have hlt : ∀ W, (Instr.slice 34 (.slice LA P.length lc) none (some (.int .i64 (m : Nat))) none).run Tryz.prog W = .ok (.slice LA m lc) W := fun W => run_slice_to (P := Tryz.prog) (w := W) (A := LA) (n := P.length) (c := lc) (m := m) (x := (m : Int)) rfl (t := 34) (e := 37) (sz := 6) Tryz.underlying34 (by kernel_rfl) (by omega) .i64
        have HCU := Lib.hid (HSV.out.so.ls.cut (m := m) (x := lc) (by rw [hml]; exact hm) (by omega) (Nat.le_refl _))
        have hqb := HSV.out.so.box.lt
        have hyb := HSV.out.yb.lt
        have H1C : Hid (∀ u ∈ xs.drop (m * 6), u.oneCell' = true) := Lib.hid (fun u hu => vl_oneq HSV.out.so.tr u (List.mem_of_mem_drop hu))
        have hxl := HSV.out.so.ls.rd.len
        rw [hml] at hxl
        have HXL := Lib.hid hxl
        clear hxl
        go_wp2_with fail
        refine Rg.start 10 (fun w' => w'.cell? ⟨(w.heap.size + 1 + 1), 4, none⟩ = some (.slice LA P.length lc) ∧ w'.cell? ⟨qy, 0, none⟩ = some (.int .i8 y.kind) ∧ w'.cell? ⟨qy, 1, none⟩ = some (.bool y.bool) ∧ w'.cell? ⟨qy, 2, none⟩ = some (.int .i64 y.num) ∧ w'.cell? ⟨qy, 3, none⟩ = some (.string y.text) ∧ w'.cell? ⟨qy, 4, none⟩ = some (.slice A5 y.list.length n5) ∧ w'.cell? ⟨qy, 5, none⟩ = some (.slice B5 y.keys.length m5)) (by kernel_rfl) (by go_keep) (fun hH0 => ?_)
        simp only [List.length_cons, List.length_nil, List.replicate_succ, List.replicate_zero, Nat.zero_add, Nat.reduceAdd]
        refine Rg.take (v := ?_) hH0 0 rfl (by kernel_rfl) (fun _ _ _ h => h) (by rfl) ?_ ?_
        rotate_left
        · (intro w hSw; (try dsimp only at hSw); go_simp <;> with_reducible rfl)
        try simp only [Act.put, sA, sB, sC]
        refine Rg.take (v := ?_) hH0 1 rfl (by kernel_rfl) (fun _ _ _ h => h) (by rfl) ?_ ?_
        rotate_left
        · (intro w hSw; (try dsimp only at hSw); go_simp <;> with_reducible rfl)
        try simp only [Act.put, sA, sB, sC]
        refine Rg.take (v := ?_) hH0 2 rfl (by kernel_rfl) (fun _ _ _ h => h) (by rfl) ?_ ?_
        rotate_left
        · (intro w hSw; (try dsimp only at hSw); go_simp <;> with_reducible rfl)
        try simp only [Act.put, sA, sB, sC]
        refine Rg.take (v := ?_) hH0 3 rfl (by kernel_rfl) (fun _ _ _ h => h) (by rfl) ?_ ?_
        rotate_left
        · (intro w hSw; (try dsimp only at hSw); go_simp <;> with_reducible rfl)
        try simp only [Act.put, sA, sB, sC]
        refine Rg.take (v := ?_) hH0 4 rfl (by kernel_rfl) (fun _ _ _ h => h) (by rfl) ?_ ?_
        rotate_left
        · (intro w hSw; (try dsimp only at hSw); go_simp <;> with_reducible rfl)
        try simp only [Act.put, sA, sB, sC]
        refine Rg.take (v := ?_) hH0 7 rfl (by kernel_rfl) (fun _ _ _ h => h) (by rfl) ?_ ?_
        rotate_left
        · (intro w hSw; (try dsimp only at hSw); go_simp <;> with_reducible rfl)
        try simp only [Act.put, sA, sB, sC]
        refine Rg.step 5 (by kernel_rfl) rfl (fun K hK => ?_)
        go_simp
        refine hK.out _ _ ?_ (fun hH1 => ?_)
        · ((try dsimp only) <;> go_keep)
        clear hK K hH0
        try simp only [Act.put, List.setIfInBounds_toArray, List.set_cons_zero, List.set_cons_succ]
        refine Rg.step 6 (by kernel_rfl) rfl (fun K hK => ?_)
        refine step_row info_val Tryz.underlying34 rfl (by omega) rfl (.tmp 89) (.tmp 91) rfl (w.heap.size + 1 + 1) LA lc m (xs.take (m * 6)) (by rfl) (HCU.out.alloc (.cells #[.int .i8 y.kind, .bool y.bool, .int .i64 y.num, .string y.text, .slice A5 y.list.length n5, .slice B5 y.keys.length m5] 37)).drew (some ⟨wv.heap.size, 0, none⟩) 1 1 [.int .i8 y.kind, .bool y.bool, .int .i64 y.num, .string y.text, .slice A5 y.list.length n5, .slice B5 y.keys.length m5] (by rfl) (Rd.lit wv 6 1 #[.int .i8 y.kind, .bool y.bool, .int .i64 y.num, .string y.text, .slice A5 y.list.length n5, .slice B5 y.keys.length m5] 37 (0, 0) rfl (by simp [maxLen])).drew (by simp [Value.oneCell']) (by omega) (by omega) (by simp; omega) ?_; intro A8 c8 w8 ho8 hg8 hat8; have HO8 := Lib.hid ho8; have HT8 := Lib.hid hat8; have hon8 : Only (fun k => blk LA = some k) wv w8 := ((Only.of_below ((Below.refl _ wv).alloc (Nat.le_refl _) (.cells #[.int .i8 y.kind, .bool y.bool, .int .i64 y.num, .string y.text, .slice A5 y.list.length n5, .slice B5 y.keys.length m5] 37)).drew _).grown hg8 (fun g hg _ => hg)); have HON8 := Lib.hid hon8; have hk8 := HSV.out.so.box.only hon8 HSV.out.so.bx; have g8 := hk8.cell 4 (v := .slice LA P.length lc) (by simp); obtain ⟨z0, z1, z2, z3, z4, z5⟩ := blk6 (HSV.out.yb.only hon8 HSV.out.yl); clear ho8 hg8 hat8 hon8 hk8
        refine hK.out _ _ ?_ (fun hH2 => ?_)
        · ((try dsimp only) <;> go_keep)
        clear hK K hH1
        try simp only [Act.put, List.setIfInBounds_toArray, List.set_cons_zero, List.set_cons_succ]
        refine Rg.step 8 (by kernel_rfl) rfl (fun K hK => ?_)
        refine step_row info_val Tryz.underlying34 rfl (by omega) rfl (.tmp 92) (.tmp 93) rfl (w.heap.size + 1 + 1) A8 c8 (m + 1) _ (by rfl) HO8.out L2 (P.length - m) l2 (xs.drop (m * 6)) (by rfl) (HLV.out.only HON8.out (fun g hg e => by have := (HLV.out.lt hg).1; have := HLLt.out g e; omega)).rd H1C.out (by omega) (by omega) (by have := HON8.out.size; omega) ?_; intro A9' c9' w9' ho9 hg9 hat9; have HO9 := Lib.hid ho9; have HT9 := Lib.hid hat9; have hon9 : Only (fun k => blk LA = some k) wv w9' := HON8.out.grown hg9 (fun g hg hlt => HT8.out.elim (fun e => by rw [e] at hg; exact hg) (fun e => by rw [e] at hg; simp only [blk, Option.map_some] at hg; injection hg with hg; simp at hg; omega)); have HON9 := Lib.hid hon9; have hk9 := HSV.out.so.box.only hon9 HSV.out.so.bx; have g9 := hk9.cell 4 (v := .slice LA P.length lc) (by simp); have f9 := hk9.frozen 4; clear z0 z1 z2 z3 z4 z5; obtain ⟨z0, z1, z2, z3, z4, z5⟩ := blk6 (HSV.out.yb.only hon9 HSV.out.yl); clear ho9 hg9 hat9 hon9 hk9
        refine hK.out _ _ ?_ (fun hH3 => ?_)
        · ((try dsimp only) <;> go_keep)
        clear hK K hH2
        try simp only [Act.put, List.setIfInBounds_toArray, List.set_cons_zero, List.set_cons_succ]
        refine Rg.take (v := ?_) hH3 9 rfl (by kernel_rfl) (fun _ _ _ h => h) (by rfl) ?_ ?_
        rotate_left
        · (intro w hSw; (try dsimp only at hSw); go_simp <;> with_reducible rfl)
        try simp only [Act.put, sA, sB, sC]
        refine Rg.last (by kernel_rfl) (by kernel_rfl) rfl (fun K hK => ?_)
        go_simp
        refine hK.out _ _ ?_
        clear hK K hH3
        have hat9 : A9' = LA ∨ ∃ g, blk A9' = some g ∧ wv.heap.size ≤ g := by
          rcases HT9.out with e | e
          · rcases HT8.out with e2 | e2
            · exact .inl (e.trans e2)
            · exact .inr ⟨_, by rw [e, e2]; rfl, by simp⟩
          · exact .inr ⟨_, by rw [e]; rfl, by have := HON8.out.size; omega⟩
        have hts : Trs.at (fun k => ¬ Fq (w.heap.size + 1 + 1) LA A9 k ∧ (w.heap.size + 1 + 1) ≤ k ∧ k < wv.heap.size) wv ((P2.map Prod.snd).flatMap Vl.tr) (xs.take (m * 6) ++ [.int .i8 y.kind, .bool y.bool, .int .i64 y.num, .string y.text, .slice A5 y.list.length n5, .slice B5 y.keys.length m5] ++ xs.drop (m * 6)) := by
          have h := Trs.at.insert HSV.out.so.tr (m := m) (by rw [hml]; exact hm) HSV.out.yt
          have e : P2.map Prod.snd = (P.map Prod.snd).take m ++ y :: (P.map Prod.snd).drop m := by rw [HP2.out]; simp [List.map_take, List.map_drop]
          rw [e]; exact h
        obtain ⟨h1, h2⟩ := HSV.out.so.setL HON9.out (l' := P2.map Prod.snd) (n := m + 1 + (P.length - m)) (by rw [List.length_map, hP2l]; omega) HO9.out hat9 hts
        have hF : ∀ k, (blk LA = some k ∨ k = (w.heap.size + 1 + 1)) → (w.heap.size + 1 + 1) ≤ k := fun k e => e.elim (fun e => (HSV.out.so.ls.lt e).1) (fun e => by omega)
        have HA := Lib.hid h1
        have HVA := Lib.hid (HSV.out.vb.only h2 (fun e => by have := hF _ e; omega))
        have HRA := Lib.hid (HSV.out.rb.only h2 (fun e => by have := hF _ e; omega))
        have HBA := Lib.hid (h2.belowB HBV.out (fun k e => by have := hF _ e; omega))
        have HPL2 : Hid (P2.length = j + 1) := Lib.hid (by rw [hP2l, HPJ.out])
        have HPE2 : Hid (P2 = foldI (Z.take (j + 1))) := Lib.hid (by rw [HPN2.out, HP2.out])
        have HPZ2 : Hid (∀ p ∈ P2, p.1.size ≤ 140737488351232) := Lib.hid (fun p hp => by
          rw [HP2.out] at hp
          rcases List.mem_append.1 hp with hp | hp
          · exact HPZ.out p (List.mem_of_mem_take hp)
          · rcases List.mem_cons.1 hp with rfl | hp
            · exact hsz
            · exact HPZ.out p (List.mem_of_mem_drop hp))
        have hpb2 : P2.length ≤ 1000000 := by have := HPL2.out; omega
        clear h1 h2 hts hat9
        go_wp2_with fail
        go_roundg g
        case measure => omega
        case rel => exact ⟨j + 1, A9', c9', _, P2, A9, c9, by omega, by go_num, HPE2, HPL2, hpb2, HA, HPZ2, HVA, HRA, HBA⟩
theorem rso_any (k : Nat) : RsoC k := by
  induction k with
  | zero => intro S v cs w hg; exact hg.elim
  | succ k ih => exact rso_step k ih
end Go.Proofs.YtmljdppdaaoehaaGreatDoor
