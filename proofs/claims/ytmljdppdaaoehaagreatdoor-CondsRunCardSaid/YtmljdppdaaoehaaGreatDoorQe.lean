import Derived.Test.YtmljdppdaaoehaaGreatDoorQd
import Derived.Test.YtmljdppdaaoehaaGreatDoorCn16
import Derived.Test.YtmljdppdaaoehaaGreatDoorCp1
import Derived.Test.YtmljdppdaaoehaaGreatDoorQc
import Derived.Test.YtmljdppdaaoehaaGreatDoorCn21
import Derived.RegionTactic
import Derived.Test.YtmljdppdaaoehaaGreatDoorQb
import Derived.StillTail
import Derived.StillTailTactics
/- hoardingref15's steps, Circle: walks. -/
namespace Go.Proofs.YtmljdppdaaoehaaGreatDoor
open Go.RowKit
set_option linter.unusedVariables false
set_option linter.unusedSimpArgs false
set_option maxRecDepth 100000
/-- does a place lead there in this round? -/
def ldP (tg r : Nat) (n : List Nat) (k : Nat) : Bool := (decide (r = 1) && decide (k = tg)) || (decide (1 < r) && decide (n.getD k 0 = r - 1))
def fire (tg r j : Nat) (n : List Nat) (ks : List Nat) : List Nat := if ks.any (ldP tg r n) = true then n.set j r else n
theorem getD_set' {n : List Nat} {i r k : Nat} : (n.set i r).getD k 0 = if i = k ∧ k < n.length then r else n.getD k 0 := by
  rw [List.getD_eq_getElem?_getD, List.getD_eq_getElem?_getD, List.getElem?_set]
  by_cases h : i = k
  · subst h
    by_cases h2 : i < n.length
    · simp [h2]
    · first | (simp [h2]; done) | (simp [h2]; omega)
  · rw [if_neg h, if_neg (fun e => h e.1)]
theorem fire_step {tg r j m k : Nat} {n ks : List Nat} (hr : 1 ≤ r) (h0 : n.getD j 0 = 0) (hj : j < n.length) (hk : ks[m]? = some k) :
    (ldP tg r (fire tg r j n (ks.take m)) k = true → fire tg r j n (ks.take (m + 1)) = (fire tg r j n (ks.take m)).set j r) ∧ (ldP tg r (fire tg r j n (ks.take m)) k = false → fire tg r j n (ks.take (m + 1)) = fire tg r j n (ks.take m)) := by
  have ht : ks.take (m + 1) = ks.take m ++ [k] := by rw [List.take_add_one, hk]; rfl
  have hset : ∀ k, ldP tg r (n.set j r) k = ldP tg r n k := fun k => by
    unfold ldP
    rw [getD_set']
    split
    · next h =>
      rw [h.1] at h0
      rw [h0]
      by_cases h1 : 1 < r
      · rw [decide_eq_false (show ¬ r = r - 1 by omega), decide_eq_false (show ¬ 0 = r - 1 by omega)]
      · rw [decide_eq_false h1]; rfl
    · rfl
  have key : ldP tg r (fire tg r j n (ks.take m)) k = ldP tg r n k := by
    unfold fire
    split
    · exact hset k
    · rfl
  rw [key]
  constructor
  · intro h
    unfold fire
    rw [ht, List.any_append]
    simp only [List.any_cons, List.any_nil, Bool.or_false, h, Bool.or_true, if_true]
    split
    · rw [List.set_set]
    · rfl
  · intro h
    unfold fire
    rw [ht, List.any_append]
    simp only [List.any_cons, List.any_nil, Bool.or_false, h]
theorem fire_len (tg r j : Nat) (n ks : List Nat) : (fire tg r j n ks).length = n.length := by unfold fire; split <;> simp
set_option maxHeartbeats 16000000 in
theorem rsteps_any (S : Nat → Prop) (A : Option Addr) (ac : Nat) (l : List Cd) (tg : Nat) (w : World) (hls : Ls S w 15 224 Cd.tr A ac l) (hl : l.length ≤ 1000) (hok : CsOk l) :
    Calls Tryz.prog 74 #[.slice A l.length ac, .int .i64 (tg : Int)] w fun e w' => Below w.heap.size w w' ∧ e = .returned (.slice (some ⟨w.heap.size, 0, none⟩) l.length l.length) ∧ (bk l tg).length = l.length ∧ Blk w' w.heap.size (cN (bk l tg)).toArray 3 := by
  have hmk : ∀ w', (Instr.makeSlice 98 (.int .i64 (l.length : Int)) (.int .i64 (l.length : Int))).run Tryz.prog w' = .ok (.slice (some ⟨w'.heap.size, 0, none⟩) l.length l.length) (w'.alloc (.cells (cN (List.replicate l.length 0)).toArray 3)) := fun w' => make_cN _ (by omega) w'
  have HLS := Lib.hid hls
  have HOK := Lib.hid hok
  have HB0 : Hid (Below w.heap.size w (w.alloc (.cells (cN (List.replicate l.length 0)).toArray 3))) := Lib.hid ((Below.refl _ w).alloc (Nat.le_refl _) _)
  have HR0 : Hid (Blk (w.alloc (.cells (cN (List.replicate l.length 0)).toArray 3)) w.heap.size (cN (List.replicate l.length 0)).toArray 3) := Lib.hid (Blk.new _ _ _)
  clear hls hok
  go_enter Tryz.func74, Tryz.ntmps74
  go_wp2_with fail
  clear hmk
  go_loopg [6] l.length (fun g p wr => ∃ (r : Nat) (n : List Nat), r + g = l.length + 1 ∧ 1 ≤ r ∧ p = .int .i64 (r : Nat) ∧ Hid (bk l tg = (((List.range l.length).map (· + 1)).drop (r - 1)).foldl (fun n r => bkRound l tg r n) n) ∧ Hid (n.length = l.length) ∧ Hid (Blk wr w.heap.size (cN n).toArray 3) ∧ Hid (Below w.heap.size w wr))
  case atStart => exact ⟨1, _, by omega, by omega, rfl, Lib.hid rfl, Lib.hid (by simp), HR0, HB0⟩
  case round =>
    obtain ⟨r, n, hr, hr1, rfl, HE, HNL, HBK, HB⟩ := hrel
    rename World => wo
    clear HB0 HR0
    cases gk with
    | zero =>
      have hrr : ¬ ((r : Int) ≤ (l.length : Int)) := by omega
      have HEE : Hid (bk l tg = n) := Lib.hid (by rw [HE.out, List.drop_of_length_le (by simp; omega)]; rfl)
      go_wp2_with fail
      go_ret
      rw [HEE.out]
      exact ⟨HB.out, rfl, HNL.out, HBK.out⟩
    | succ g =>
      have hrr : (r : Int) ≤ (l.length : Int) := by omega
      have HDR : Hid ((((List.range l.length).map (· + 1)).drop (r - 1)) = r :: (((List.range l.length).map (· + 1)).drop (r + 1 - 1))) := Lib.hid (by
        rw [show r + 1 - 1 = r - 1 + 1 by omega]
        refine drop_cons ?_
        rw [List.getElem?_map, List.getElem?_range (by omega)]
        simp; omega)
      go_wp2_with fail
      go_loopg [7] l.length (fun g i wr => ∃ (j : Nat) (n2 : List Nat), j + g = l.length ∧ i = .int .i64 (j : Nat) ∧ Hid (bkRound l tg r n = ((List.range l.length).drop j).foldl (bkStep l tg r) n2) ∧ Hid (n2.length = l.length) ∧ Hid (Blk wr w.heap.size (cN n2).toArray 3) ∧ Hid (Below w.heap.size w wr))
      case atStart => exact ⟨0, n, by omega, rfl, Lib.hid rfl, HNL, HBK, HB⟩
      case round =>
        obtain ⟨j, n2, hj, rfl, HE2, HNL2, HBK2, HB2⟩ := hrel
        rename World => wp
        clear HBK HB
        cases gk with
        | zero =>
          have hjj : ¬ ((j : Int) < (l.length : Int)) := by omega
          have HE3 : Hid (bkRound l tg r n = n2) := Lib.hid (by rw [HE2.out, List.drop_of_length_le (by simp; omega)]; rfl)
          go_wp2_with fail
          go_roundg g
          case measure => omega
          case rel => exact ⟨r + 1, n2, by omega, by omega, by go_num, Lib.hid (by rw [HE.out, HDR.out, List.foldl_cons, HE3.out]), HNL2, HBK2, HB2⟩
        | succ g2 =>
          have hjj : (j : Int) < (l.length : Int) := by omega
          obtain ⟨z, hz⟩ := get_lt (l := n2) (i := j) (by have := HNL2.out; omega)
          have hzc := HBK2.out.cell j (v := .int .i64 (z : Int)) (by simp [cN, hz])
          have hzg : n2.getD j 0 = z := by rw [List.getD_eq_getElem?_getD, hz]; rfl
          have HRNG : Hid ((List.range l.length).drop j = j :: (List.range l.length).drop (j + 1)) := Lib.hid (drop_cons (by rw [List.getElem?_range (by omega)]))
          have HZ := Lib.hid hzg
          clear hz hzg
          by_cases h0 : z = 0
          case neg =>
            have hz0 : (0 : Int) < (z : Int) := by omega
            have HST : Hid (bkStep l tg r n2 j = n2) := Lib.hid (by unfold bkStep; rw [if_neg (fun h => h0 (by rw [← HZ.out]; exact h.1))])
            clear h0
            go_wp2_with fail
            go_roundg g2
            case measure => omega
            case rel => exact ⟨j + 1, n2, by omega, by go_num, Lib.hid (by rw [HE2.out, HRNG.out, List.foldl_cons, HST.out]), HNL2, HBK2, HB2⟩
          subst h0
          have HST : Hid (bkStep l tg r n2 j = fire tg r j n2 (nextOf l j)) := Lib.hid (by
            unfold bkStep fire
            by_cases hb : (nextOf l j).any (ldP tg r n2) = true
            · rw [if_pos hb, if_pos ⟨HZ.out, hb⟩]
            · rw [if_neg hb, if_neg (fun h => hb h.2)])
          have HNX := Lib.hid (rnext_any S A ac l j (by omega) wp (HLS.out.below HB2.out) HOK.out)
          have HKL := Lib.hid (fun k (hk : k ∈ nextOf l j) => next_lt hk)
          obtain ⟨ks, hks⟩ : ∃ ks, ks = nextOf l j := ⟨_, rfl⟩
          rw [← hks] at HNX HKL HST
          clear hks
          have hz0 : ¬ ((0 : Int) < ((0 : Nat) : Int)) := by omega
          go_wp2_with fail
          refine HNX.out.mono ?_
          rintro e w3 ⟨KA, kc, rfl, hko, hkb⟩
          have HKR := Lib.hid hko.rd
          have hkcap := hko.cap
          have hkm := hko.max
          unfold maxLen at hkm
          have HBK3 := Lib.hid (HBK2.out.below hkb)
          have HB3 := Lib.hid (HB2.out.trans (hkb.mono HB2.out.size))
          have hgw : w.heap.size < w3.heap.size := HBK3.out.lt
          have HKOW := Lib.hid (fun g (hg : blk KA = some g) => (hko.lt hg).1)
          have hwp : w.heap.size < wp.heap.size := HBK2.out.lt
          have HF0 : Hid (n2 = fire tg r j n2 (ks.take 0)) := Lib.hid (by unfold fire; simp)
          clear hko hkb HNX hzc hz0
          go_wp2_with fail
          go_loopg [9] ks.length (fun g i wr => ∃ (m : Nat) (n3 : List Nat), m + g = ks.length ∧ i = .int .i64 (m : Nat) ∧ Hid (n3 = fire tg r j n2 (ks.take m)) ∧ Hid (Blk wr w.heap.size (cN n3).toArray 3) ∧ Hid (Below w.heap.size w wr) ∧ Hid (Only (fun k => k = w.heap.size) w3 wr))
          case atStart => exact ⟨0, n2, by omega, rfl, HF0, HBK3, HB3, Lib.hid (Only.refl _ _)⟩
          case round =>
            obtain ⟨m, n3, hm, rfl, HF, HBK4, HB4, HO4⟩ := hrel
            rename World => wq
            clear HBK3 HB3
            cases gk with
            | zero =>
              have hmm : ¬ ((m : Int) < (ks.length : Int)) := by omega
              have HFE : Hid (n3 = bkStep l tg r n2 j) := Lib.hid (by rw [HF.out, HST.out, List.take_of_length_le (by omega)])
              have HN3 : Hid (n3.length = l.length) := Lib.hid (by rw [HF.out, fire_len]; exact HNL2.out)
              go_wp2_with fail
              go_roundg g2
              case measure => omega
              case rel => exact ⟨j + 1, n3, by omega, by go_num, Lib.hid (by rw [HE2.out, HRNG.out, List.foldl_cons, HFE.out]), HN3, HBK4, HB4⟩
            | succ g3 =>
              have hmm : (m : Int) < (ks.length : Int) := by omega
              have hm0 : (0 : Int) ≤ (m : Int) ∧ (m : Int) < (ks.length : Int) := by omega
              obtain ⟨k, hk⟩ := get_lt (l := ks) (i := m) (by omega)
              have HKR4 : Hid (Rd wq 1 KA ks.length kc (natV ks)) := Lib.hid (HKR.out.only HO4.out (fun ad e _ h => by have := HKOW.out ad.block (by rw [e]; rfl); omega))
              obtain ⟨ka, rfl, hkc⟩ := HKR4.out.at_ m (.int .i64 (k : Nat)) (by simp [natV, hk])
              have hkl : k < l.length := HKL.out k (List.mem_of_getElem? hk)
              have hkki : (0 : Int) ≤ (k : Int) ∧ (k : Int) < (l.length : Int) := by omega
              have hji : (0 : Int) ≤ (j : Int) ∧ (j : Int) < (l.length : Int) := by omega
              have hn3 : n3.length = l.length := by rw [HF.out, fire_len]; exact HNL2.out
              obtain ⟨y, hy⟩ := get_lt (l := n3) (i := k) (by omega)
              obtain ⟨yj, hyj⟩ := get_lt (l := n3) (i := j) (by omega)
              have hyc := HBK4.out.cell k (v := .int .i64 (y : Int)) (by simp [cN, hy])
              have hjc := HBK4.out.cell j (v := .int .i64 (yj : Int)) (by simp [cN, hyj])
              have hjf := HBK4.out.frozen j
              obtain ⟨f1, f2⟩ := fire_step (tg := tg) (r := r) (j := j) (n := n2) (ks := ks) hr1 HZ.out (by have := HNL2.out; omega) hk
              rw [← HF.out] at f1 f2
              have F1 := Lib.hid f1
              have F2 := Lib.hid f2
              have HLD : Hid (ldP tg r n3 k = ((decide (r = 1) && decide (k = tg)) || (decide (1 < r) && decide (y = r - 1)))) := Lib.hid (by unfold ldP; rw [List.getD_eq_getElem?_getD, hy]; rfl)
              have hwr : IntKind.i64.wrap ((r : Int) - 1) = (r : Int) - 1 := IntWalk.i64_in _ (by omega)
              clear hk hy hyj f1 f2 hn3
              by_cases hr2 : r = 1
              · have q1 : ((r : Int) == 1) = true := by rw [beq_iff_eq]; omega
                have q2 : ¬ (1 : Int) < (r : Int) := by omega
                by_cases hkt : k = tg
                · have q3 : ((k : Int) == (tg : Int)) = true := by rw [beq_iff_eq]; omega
                  have HL : Hid (ldP tg r n3 k = true) := Lib.hid (by rw [HLD.out, decide_eq_true hr2, decide_eq_true hkt]; rfl)
                  clear hr2 hkt
                  go_wp2_with fail
                  go_roundg g3
                  case measure => omega
                  case rel => exact ⟨m + 1, n3.set j r, by omega, by go_num, Lib.hid (F1.out HL.out).symm, Lib.hid ((HBK4.out.set j (.int .i64 (r : Int))).eq (by simp [cN, List.map_set])), Lib.hid (HB4.out.setCell (Nat.le_refl _) _), Lib.hid (HO4.out.setCell _ _ (fun _ => rfl))⟩
                · have q3 : ((k : Int) == (tg : Int)) = false := by rw [beq_eq_false_iff_ne]; omega
                  have HL : Hid (ldP tg r n3 k = false) := Lib.hid (by rw [HLD.out, decide_eq_false hkt, decide_eq_false (show ¬ 1 < r by omega)]; simp)
                  clear hr2 hkt
                  go_wp2_with fail
                  go_roundg g3
                  case measure => omega
                  case rel => exact ⟨m + 1, n3, by omega, by go_num, Lib.hid (F2.out HL.out).symm, HBK4, HB4, HO4⟩
              · have q1 : ((r : Int) == 1) = false := by rw [beq_eq_false_iff_ne]; omega
                have q2 : (1 : Int) < (r : Int) := by omega
                by_cases hyr : y = r - 1
                · have q4 : ((y : Int) == (r : Int) - 1) = true := by rw [beq_iff_eq]; omega
                  have HL : Hid (ldP tg r n3 k = true) := Lib.hid (by rw [HLD.out, decide_eq_true (show 1 < r by omega), decide_eq_true hyr]; simp)
                  clear hr2 hyr
                  by_cases hkt : k = tg
                  · have q3 : ((k : Int) == (tg : Int)) = true := by rw [beq_iff_eq]; omega
                    clear hkt
                    go_wp2_with fail
                    go_roundg g3
                    case measure => omega
                    case rel => exact ⟨m + 1, n3.set j r, by omega, by go_num, Lib.hid (F1.out HL.out).symm, Lib.hid ((HBK4.out.set j (.int .i64 (r : Int))).eq (by simp [cN, List.map_set])), Lib.hid (HB4.out.setCell (Nat.le_refl _) _), Lib.hid (HO4.out.setCell _ _ (fun _ => rfl))⟩
                  · have q3 : ((k : Int) == (tg : Int)) = false := by rw [beq_eq_false_iff_ne]; omega
                    clear hkt
                    go_wp2_with fail
                    go_roundg g3
                    case measure => omega
                    case rel => exact ⟨m + 1, n3.set j r, by omega, by go_num, Lib.hid (F1.out HL.out).symm, Lib.hid ((HBK4.out.set j (.int .i64 (r : Int))).eq (by simp [cN, List.map_set])), Lib.hid (HB4.out.setCell (Nat.le_refl _) _), Lib.hid (HO4.out.setCell _ _ (fun _ => rfl))⟩
                · have q4 : ((y : Int) == (r : Int) - 1) = false := by rw [beq_eq_false_iff_ne]; omega
                  have HL : Hid (ldP tg r n3 k = false) := Lib.hid (by rw [HLD.out, decide_eq_false hr2, decide_eq_false hyr]; simp)
                  clear hr2 hyr
                  by_cases hkt : k = tg
                  · have q3 : ((k : Int) == (tg : Int)) = true := by rw [beq_iff_eq]; omega
                    clear hkt
                    go_wp2_with fail
                    go_roundg g3
                    case measure => omega
                    case rel => exact ⟨m + 1, n3, by omega, by go_num, Lib.hid (F2.out HL.out).symm, HBK4, HB4, HO4⟩
                  · have q3 : ((k : Int) == (tg : Int)) = false := by rw [beq_eq_false_iff_ne]; omega
                    clear hkt
                    go_wp2_with fail
                    go_roundg g3
                    case measure => omega
                    case rel => exact ⟨m + 1, n3, by omega, by go_num, Lib.hid (F2.out HL.out).symm, HBK4, HB4, HO4⟩
/-! ### Circle: is there one? -/
theorem Ow.litq {w : World} {q base n sz : Nat} {cs : Array Value} {e : TypeId} (h : Blk w q cs e) (hs : cs.size = n * sz) (hm : n ≤ maxLen) (hb : base ≤ q) : Ow w base e sz (some ⟨q, 0, none⟩) n n cs.toList :=
  ⟨by simpa using hs, .inr ⟨q, cs, rfl, hb, h, Nat.le_refl _, hm, by omega, by rw [← hs, ← Array.length_toList, List.take_length]⟩⟩
def CircOut (b : Bool) (w : World) (e : Ending) (w' : World) : Prop := ∃ (A : Option Addr) (n c : Nat), e = .returned (.slice A n c) ∧ Below w.heap.size w w' ∧ b = decide (0 < n) ∧ n ≤ 10000
theorem circ_pos {l : List Cd} {i : Nat} (h : (List.range l.length).find? (circAt l) = some i) : circ l ≠ [] := by
  unfold circ circI; rw [h]; simp
theorem circ_nil {l : List Cd} (h : (List.range l.length).find? (circAt l) = none) : circ l = [] := by
  unfold circ circI; rw [h]; rfl
def isCirc (l : List Cd) : Bool := decide (circ l ≠ [])
theorem plI_ne {l : List Cd} {s : ByteArray} {j : Nat} : (plI l s != (j : Int)) = !decide (plAt l s = some j) := by
  unfold plI
  cases plAt l s with
  | none => first | (simp; done) | (simp; omega)
  | some q => 
    by_cases h : q = j
    · subst h; simp
    · have : ((q : Int) != (j : Int)) = true := by rw [bne_iff_ne]; omega
      simp [this, h]
set_option maxHeartbeats 16000000 in
theorem rcirc_any (S : Nat → Prop) (A : Option Addr) (ac : Nat) (l : List Cd) (w : World) (hls : Ls S w 15 224 Cd.tr A ac l) (hl : l.length ≤ 1000) (hok : CsOk l) :
    Calls Tryz.prog 52 #[.slice A l.length ac] w (CircOut (isCirc l) w) := by
  have HLS := Lib.hid hls
  have HOK := Lib.hid hok
  have hcap := hls.cap
  have HFI : Hid (∀ i, (List.range l.length).find? (circAt l) = some i → isCirc l = true) := Lib.hid (fun i hi => decide_eq_true (circ_pos hi))
  have HFN : Hid ((List.range l.length).find? (circAt l) = none → isCirc l = false) := Lib.hid (fun h => decide_eq_false (fun hn => hn (circ_nil h)))
  obtain ⟨r, hr⟩ : ∃ r, r = isCirc l := ⟨_, rfl⟩
  rw [← hr] at HFI HFN ⊢
  clear hls hok hr
  go_enter Tryz.func52, Tryz.ntmps52
  go_wp2_with fail
  go_loopg [3] l.length (fun g i wr => ∃ (j : Nat), j + g = l.length ∧ i = .int .i64 (j : Nat) ∧ Hid ((List.range l.length).find? (circAt l) = ((List.range l.length).drop j).find? (circAt l)) ∧ Hid (Below w.heap.size w wr))
  case atStart => exact ⟨0, by omega, rfl, Lib.hid rfl, Lib.hid (Below.refl _ _)⟩
  case round =>
    obtain ⟨j, hj, rfl, HFD, HB⟩ := hrel
    rename World => wo
    cases gk with
    | zero =>
      have hjj : ¬ ((j : Int) < (l.length : Int)) := by omega
      have HE : Hid (r = false) := Lib.hid (HFN.out (by rw [HFD.out, List.drop_of_length_le (by simp; omega)]; rfl))
      go_wp2_with fail
      go_ret
      exact ⟨none, 0, 0, rfl, HB.out, by rw [HE.out]; rfl, by omega⟩
    | succ g =>
      have hjj : (j : Int) < (l.length : Int) := by omega
      have hj0 : (0 : Int) ≤ (j : Int) ∧ (j : Int) < (l.length : Int) := by omega
      obtain ⟨c, hc⟩ := get_lt (l := l) (i := j) (by omega)
      obtain ⟨ad, cs, rfl, hct, hcc⟩ := (HLS.out.below HB.out).elem Cd.trlen hc
      obtain ⟨_, _, c0, _, _, _, hnm⟩ := cd_cel hct hcc
      obtain ⟨q, hq⟩ := plAt_isSome hc
      have HAT := Lib.hid (rat_any S (some ad) ac l c.name wo (HLS.out.below HB.out))
      have hpi : plI l c.name = (q : Int) := by unfold plI; rw [hq]
      rw [hpi] at HAT
      have HRNG : Hid ((List.range l.length).drop j = j :: (List.range l.length).drop (j + 1)) := Lib.hid (drop_cons (by rw [List.getElem?_range (by omega)]))
      obtain ⟨z, hz⟩ : ∃ z, z = (bk l j).getD j 0 := ⟨_, rfl⟩
      have HCA := Lib.hid (circAt_iff hc hq hz.symm)
      have HZ := Lib.hid hz
      have HST := Lib.hid (rsteps_any S (some ad) ac l j wo (HLS.out.below HB.out) hl HOK.out)
      have HNM := Lib.hid hnm
      clear hc hct hcc hq hpi hz hnm
      by_cases hqj : q = j
      case neg =>
        have e1 : ((q : Int) != (j : Int)) = true := by rw [bne_iff_ne]; omega
        have HCF : Hid ((List.range l.length).find? (circAt l) = ((List.range l.length).drop (j + 1)).find? (circAt l)) := Lib.hid (by
          rw [HFD.out, HRNG.out, List.find?_cons, HCA.out, decide_eq_false hqj]; rfl)
        clear hqj
        go_wp2_with fail
        refine HAT.out.mono ?_
        rintro e w2 ⟨rfl, rfl⟩
        go_wp2_with fail
        go_roundg g
        case measure => omega
        case rel => exact ⟨j + 1, by omega, by go_num, HCF, HB⟩
      have e1 : ((q : Int) != (j : Int)) = false := by rw [bne_eq_false_iff_eq]; omega
      have HCB : Hid (circAt l j = decide (z ≠ 0)) := Lib.hid (by rw [HCA.out, decide_eq_true hqj]; rfl)
      clear hqj HCA
      go_wp2_with fail
      refine HAT.out.mono ?_
      rintro e w2 ⟨rfl, rfl⟩
      go_wp2_with fail
      refine HST.out.mono ?_
      rintro e w3 ⟨hb3, rfl, hnl, hrow⟩
      have HB3 := Lib.hid (HB.out.trans (hb3.mono HB.out.size))
      have hzz : (bk l j)[j]? = some z := by
        rw [HZ.out, List.getD_eq_getElem?_getD, List.getElem?_eq_getElem (by omega)]; rfl
      have hzc := hrow.cell j (v := .int .i64 (z : Int)) (by simp [cN, hzz])
      have HROW := Lib.hid hrow
      have HNL := Lib.hid hnl
      have hgb := hrow.lt
      clear hb3 hzz hrow hnl HAT HST
      by_cases hz0 : z = 0
      · have e2 : ((z : Int) == 0) = true := by rw [beq_iff_eq]; omega
        have HCF : Hid ((List.range l.length).find? (circAt l) = ((List.range l.length).drop (j + 1)).find? (circAt l)) := Lib.hid (by
          rw [HFD.out, HRNG.out, List.find?_cons, HCB.out, decide_eq_false (by simpa using hz0)])
        clear hz0
        go_wp2_with fail
        go_roundg g
        case measure => omega
        case rel => exact ⟨j + 1, by omega, by go_num, HCF, HB3⟩
      have e2 : ((z : Int) == 0) = false := by rw [beq_eq_false_iff_ne]; omega
      have HE : Hid (r = true) := Lib.hid (HFI.out j (by rw [HFD.out, HRNG.out, List.find?_cons, HCB.out, decide_eq_true hz0]))
      have HBKO := Lib.hid (bk_ok l j)
      have HBLE := Lib.hid (fun i => bk_le l j i)
      obtain ⟨nv, hnv⟩ : ∃ nv, nv = bk l j := ⟨_, rfl⟩
      rw [← hnv] at HBKO HBLE HROW HNL
      obtain ⟨gb, hgbe⟩ : ∃ gb, gb = w2.heap.size := ⟨_, rfl⟩
      rw [← hgbe] at HROW hgb hzc ⊢
      have hwg : w.heap.size ≤ gb := by rw [hgbe]; exact HB.out.size
      have c0' := (HLS.out.below HB3.out)
      obtain ⟨cj, hcj⟩ := get_lt (l := l) (i := j) (by omega)
      obtain ⟨ad', cs', hA', hct', hcc'⟩ := c0'.elem Cd.trlen hcj
      injection hA' with hA'
      subst hA'
      obtain ⟨_, _, d0, _, _, _, hnm⟩ := cd_cel hct' hcc'
      have HOL0 : Hid (Ow (w3.alloc (.cells #[.string cj.name] 9)) w.heap.size 9 1 (some ⟨w3.heap.size, 0, none⟩) 1 1 [.string cj.name]) := Lib.hid (Ow.litq (n := 1) (sz := 1) (Blk.new _ _ _) rfl (by simp [maxLen]) (by have := HB3.out.size; omega))
      have HBA : Hid (Below w.heap.size w (w3.alloc (.cells #[.string cj.name] 9))) := Lib.hid (HB3.out.alloc HB3.out.size _)
      have HRA : Hid (Blk (w3.alloc (.cells #[.string cj.name] 9)) gb (cN nv).toArray 3) := Lib.hid (HROW.out.alloc _)
      clear hnv hgbe HCB HFI HFN HFD HRNG hz0 c0' hcj hct' hcc' c0 HZ HROW HB HNM HB3
      go_wp2_with fail
      clear d0 hzc
      go_loopg [6, 5] (l.length + 1) (fun f i v wr => ∃ (h : Nat) (OA : Option Addr) (on oc : Nat) (xs : List Value), i = .int .i64 (h : Nat) ∧ v = .slice OA on oc ∧ h < l.length ∧ on + f ≤ l.length + 2 ∧ 1 ≤ on ∧ Hid (nv.getD h 0 ≤ f) ∧
        Hid (Ow wr w.heap.size 9 1 OA on oc xs) ∧ Hid (Blk wr gb (cN nv).toArray 3) ∧ Hid (Below w.heap.size w wr))
      case atStart => exact ⟨j, _, 1, 1, _, rfl, rfl, by omega, by omega, by omega, Lib.hid (Nat.le_trans (HBLE.out j) (by omega)), HOL0, HRA, HBA⟩
      case round =>
        obtain ⟨h, OA, on, oc, xs, rfl, rfl, hhl, hOf, hon, HF, HOW, HRW, HBW⟩ := hrel
        rename World => wp
        clear HOL0 HRA HBA
        obtain ⟨zh, hzh⟩ := get_lt (l := nv) (i := h) (by have := HNL.out; omega)
        have hzc := HRW.out.cell h (v := .int .i64 (zh : Int)) (by simp [cN, hzh])
        have hzg := getD_of hzh
        have hh0 : (0 : Int) ≤ (h : Int) ∧ (h : Int) < (l.length : Int) := by omega
        clear hzh
        by_cases hgt : 1 < zh
        · have hgi : (1 : Int) < (zh : Int) := by omega
          cases gk with
          | zero => exact absurd HF.out (by rw [hzg]; omega)
          | succ f =>
            obtain ⟨kk, hbest, hkn, hk0, hklt⟩ := best_next HBKO.out (i := h) (by rw [hzg]; exact hgt)
            have hkl : kk < l.length := next_lt hkn
            have HKF : Hid (nv.getD kk 0 ≤ f) := Lib.hid (by have := HF.out; omega)
            have HBEST := Lib.hid hbest
            have HNX := Lib.hid (rnext_any S _ ac l h hhl wp (HLS.out.below HBW.out) HOK.out)
            have HNL2 := Lib.hid (fun k (hk : k ∈ nextOf l h) => next_lt hk)
            obtain ⟨ks, hks⟩ : ∃ ks, ks = nextOf l h := ⟨_, rfl⟩
            rw [← hks] at HNX HNL2 HBEST
            clear hzg hbest hkn hk0 hklt hks hgt
            go_wp2_with fail
            refine HNX.out.mono ?_
            rintro e w7 ⟨KA, kc, rfl, hko, hkb⟩
            have HKO := Lib.hid hko
            have hkcap := hko.cap
            have hkm := hko.max
            unfold maxLen at hkm
            have HR7 := Lib.hid (HRW.out.below hkb)
            have HO7 := Lib.hid (HOW.out.below hkb)
            have HB7 := Lib.hid (HBW.out.trans (hkb.mono HBW.out.size))
            clear hko hkb hzc HNX
            go_wp2_with fail
            go_loopg [9, 8] ks.length (fun g i v wr => ∃ (j3 : Nat) (b : Option Nat), j3 + g = ks.length ∧ i = .int .i64 (j3 : Nat) ∧ v = .int .i64 (bInt b) ∧ Hid (bestOf nv ks = (ks.drop j3).foldl (better nv) b) ∧ Hid (∀ x, b = some x → x < l.length) ∧ Hid (Below w7.heap.size w7 wr))
            case atStart => exact ⟨0, none, by omega, rfl, rfl, Lib.hid rfl, Lib.hid (by simp), Lib.hid (Below.refl _ _)⟩
            case round =>
              obtain ⟨j3, b, hj3, rfl, rfl, HBE, HBL, HBa⟩ := hrel
              rename World => wq
              cases gk with
              | zero =>
                have hjj3 : ¬ ((j3 : Int) < (ks.length : Int)) := by omega
                have HBB : Hid (b = some kk) := Lib.hid (by
                  have := HBE.out
                  rw [List.drop_of_length_le (by omega), HBEST.out] at this
                  exact this.symm)
                have hbk2 : bInt b = (kk : Int) := by rw [HBB.out]; rfl
                rw [hbk2]
                have hkki : (0 : Int) ≤ (kk : Int) ∧ (kk : Int) < (l.length : Int) := by omega
                obtain ⟨c2, hc2⟩ := get_lt (l := l) (i := kk) hkl
                have hbq := HB7.out.trans (HBa.out.mono HB7.out.size)
                obtain ⟨ad2, cs2, hA2, hct2, hcc2⟩ := (HLS.out.below hbq).elem Cd.trlen hc2
                injection hA2 with hA2
                subst hA2
                obtain ⟨_, _, d0, _, _, _, hnm2⟩ := cd_cel hct2 hcc2
                have HRN2 := Lib.hid (Rd.lit wq 1 1 #[.string c2.name] 9 (0, 0) rfl (by simp [maxLen]))
                have HOQ := Lib.hid (HO7.out.below HBa.out)
                have HRQ := Lib.hid (HR7.out.below HBa.out)
                have hwq := hbq.size
                have HBQ := Lib.hid hbq
                clear hc2 hct2 hcc2 hbq hbk2
                go_wp2_with (at_builtin; refine wpList_row info_str Tryz.underlying35 rfl (by omega) rfl (.tmp 85) (.tmp 91) rfl w.heap.size OA oc on xs rfl (HOQ.out.alloc _) (some ⟨wq.heap.size, 0, none⟩) 1 1 [.string c2.name] rfl HRN2.out (by simp [Value.oneCell']) (by omega) (by omega) (by simp; omega) ?_; intro A'' c'' w8 ho hg hat; have HO8 := Lib.hid ho; have HG8 := Lib.hid hg; clear ho hg hat)
                go_roundg f
                case measure => omega
                case rel =>
                  exact ⟨kk, A'', on + 1, c'', _, rfl, rfl, hkl, by omega, by omega, HKF, HO8, Lib.hid ((HRQ.out.alloc _).grown HG8.out (HOQ.out.ne_blk HRQ.out (by decide))), Lib.hid ((HBQ.out.alloc hwq _).grown HG8.out (by simp; omega) (fun k hk => (HOQ.out.lt hk).1))⟩
              | succ g3 =>
                have hjj3 : (j3 : Int) < (ks.length : Int) := by omega
                obtain ⟨k, hk⟩ := get_lt (l := ks) (i := j3) (by omega)
                obtain ⟨ka, rfl, hkc⟩ := (HKO.out.below HBa.out).rd.at_ j3 (.int .i64 (k : Int)) (by simp [natV, hk])
                have hkl2 := HNL2.out k (List.mem_of_getElem? hk)
                have hkki : (k : Int) < (l.length : Int) := by omega
                obtain ⟨zk, hzk⟩ := get_lt (l := nv) (i := k) (by have := HNL.out; omega)
                have hrq := HR7.out.below HBa.out
                have hzkc := hrq.cell k (v := .int .i64 (zk : Int)) (by simp [cN, hzk])
                have hzkg := getD_of hzk
                have HDR : Hid (ks.drop j3 = k :: ks.drop (j3 + 1)) := Lib.hid (drop_cons hk)
                clear hk hzk
                by_cases h0 : zk = 0
                · have HBT : Hid (better nv b k = b) := Lib.hid (by unfold better; rw [if_neg (by rw [hzkg]; omega)])
                  subst h0
                  clear hzkg hrq
                  go_wp2_with fail
                  go_quiet (fail)
                  go_wp2_with fail
                  go_roundg g3
                  case measure => omega
                  case rel => exact ⟨j3 + 1, b, by omega, by go_num, rfl, Lib.hid (by rw [HBE.out, HDR.out, List.foldl_cons, HBT.out]), HBL, Lib.hid (HBa.out.trans ((below_drewN' _ _).mono HBa.out.size))⟩
                · have h0i : (0 : Int) < (zk : Int) := by omega
                  have h0n : 0 < zk := by omega
                  have h0d : decide ((0 : Int) < (zk : Int)) = true := by simpa using h0n
                  cases b with
                  | none =>
                    have HBT : Hid (better nv none k = some k) := Lib.hid (by unfold better; rw [if_pos (by rw [hzkg]; omega)])
                    have hbi : bInt none = -1 := rfl
                    rw [hbi]
                    clear hzkg hrq h0
                    go_wp2_with fail
                    go_quiet (fail)
                    go_wp2_with fail
                    go_roundg g3
                    case measure => omega
                    case rel => exact ⟨j3 + 1, some k, by omega, by go_num, rfl, Lib.hid (by rw [HBE.out, HDR.out, List.foldl_cons, HBT.out]), Lib.hid (fun x hx => by injection hx with hx; omega), Lib.hid (HBa.out.trans ((below_drewN' _ _).mono HBa.out.size))⟩
                  | some x =>
                    have hxl := HBL.out x rfl
                    have hxi : (x : Int) < (l.length : Int) := by omega
                    have hxn : ¬ ((x : Int) < 0) := by omega
                    obtain ⟨zx, hzx⟩ := get_lt (l := nv) (i := x) (by have := HNL.out; omega)
                    have hzxc := hrq.cell x (v := .int .i64 (zx : Int)) (by simp [cN, hzx])
                    have hzxg := getD_of hzx
                    have hbi : bInt (some x) = (x : Int) := rfl
                    rw [hbi]
                    by_cases hlt : zk < zx
                    · have hlti : (zk : Int) < (zx : Int) := by omega
                      have HBT : Hid (better nv (some x) k = some k) := Lib.hid (by unfold better; rw [if_pos (by rw [hzkg]; omega)]; exact if_pos (by rw [hzkg, hzxg]; exact hlt))
                      clear hzkg hrq h0 hzx hzxg hlt hbi
                      go_wp2_with fail
                      go_quiet (fail)
                      go_wp2_with fail
                      go_roundg g3
                      case measure => omega
                      case rel => exact ⟨j3 + 1, some k, by omega, by go_num, rfl, Lib.hid (by rw [HBE.out, HDR.out, List.foldl_cons, HBT.out]), Lib.hid (fun x hx => by injection hx with hx; omega), Lib.hid (HBa.out.trans ((below_drewN' _ _).mono HBa.out.size))⟩
                    · have hlti : ¬ ((zk : Int) < (zx : Int)) := by omega
                      have HBT : Hid (better nv (some x) k = some x) := Lib.hid (by unfold better; rw [if_pos (by rw [hzkg]; omega)]; exact if_neg (by rw [hzkg, hzxg]; exact hlt))
                      clear hzkg hrq h0 hzx hzxg hlt hbi
                      go_wp2_with fail
                      go_quiet (fail)
                      go_wp2_with fail
                      go_roundg g3
                      case measure => omega
                      case rel => exact ⟨j3 + 1, some x, by omega, by go_num, rfl, Lib.hid (by rw [HBE.out, HDR.out, List.foldl_cons, HBT.out]), HBL, Lib.hid (HBa.out.trans ((below_drewN' _ _).mono HBa.out.size))⟩
        · have hgi : ¬ ((1 : Int) < (zh : Int)) := by omega
          clear hzg hgt
          go_wp2_with fail
          go_ret
          exact ⟨OA, on, oc, rfl, HBW.out, by rw [HE.out]; exact (decide_eq_true (by omega)).symm, by omega⟩
end Go.Proofs.YtmljdppdaaoehaaGreatDoor

/- hoardingref15's part, whole: walks. -/
namespace Go.Proofs.YtmljdppdaaoehaaGreatDoor
open Go.RowKit
set_option linter.unusedVariables false
set_option linter.unusedSimpArgs false
set_option maxRecDepth 100000
theorem tx_txt {t : ByteArray} (h : t.size ≤ 30000) : CkTxt (txtV t) := ⟨txtV_small t, fun x hx => by
  have hw : vWalk 24 (txtV t) = [txtV t] := rfl
  rw [hw] at hx
  rw [List.mem_singleton.1 hx]
  exact ⟨h, by simp [txtV]⟩⟩
theorem tx_num (n : Int) : CkTxt (numV n) := ⟨numV_small n, fun x hx => by
  have hw : vWalk 24 (numV n) = [numV n] := rfl
  rw [hw] at hx
  rw [List.mem_singleton.1 hx]
  exact ⟨by show ByteArray.empty.size ≤ _; decide, by simp [numV]⟩⟩
theorem plain_tx {e : Ex} {ps : List Gv} {x : Gv} (hps : ∀ p ∈ ps, CkTxt p.v) (ht : e.text.size ≤ 30000) (h : plainG e ps = some x) : CkTxt x.v := by
  unfold plainG at h
  split at h
  · cases h
  · split at h
    · injection h with h; subst h; exact tx_txt ht
    · split at h
      · injection h with h; subst h; exact tx_num _
      · split at h
        · next k hk =>
          obtain ⟨p, hp, rfl⟩ := Option.map_eq_some_iff.1 h
          exact hps p (List.mem_of_getElem? hp)
        · cases h
def cBo (l : List Bool) : List Value := l.map .bool
/-- what has been found out, in memory -/
structure Ev (l : List Cd) (ps : List Gv) (S : Nat → Prop) (A : Option Addr) (ac : Nat) (PA : Option Addr) (pc kb b1 b2 b3 : Nat) (dn ys bd : List Bool) (w : World) : Prop where
  ls : Ls S w 15 224 Cd.tr A ac l
  pr : Ls S w 8 104 Gv.tr PA pc ps
  bx : Blk w kb #[.slice (some ⟨b1, 0, none⟩) l.length l.length, .slice (some ⟨b2, 0, none⟩) l.length l.length, .slice (some ⟨b3, 0, none⟩) l.length l.length] 67
  d1 : Blk w b1 (cBo dn).toArray 4
  d2 : Blk w b2 (cBo ys).toArray 4
  d3 : Blk w b3 (cBo bd).toArray 4
  l1 : dn.length = l.length
  l2 : ys.length = l.length
  l3 : bd.length = l.length
def F3 (b1 b2 b3 k : Nat) : Prop := k = b1 ∨ k = b2 ∨ k = b3
def KnR (l : List Cd) (ps : List Gv) (dn ys bd : List Bool) : Prop := ∀ i d, dn[i]? = some true → l[i]? = some d → ∃ k, Dp l ps vSmall k d ∧ evC l ps vEq k d = if bd.getD i false then none else some (ys.getD i false)
section
variable {l : List Cd} {ps : List Gv} {S : Nat → Prop} {A : Option Addr} {ac : Nat} {PA : Option Addr} {pc kb b1 b2 b3 : Nat} {dn ys bd : List Bool} {w w' : World}
theorem Ev.below (h : Ev l ps S A ac PA pc kb b1 b2 b3 dn ys bd w) (hb : Below w.heap.size w w') : Ev l ps S A ac PA pc kb b1 b2 b3 dn ys bd w' :=
  ⟨h.ls.below hb, h.pr.below hb, h.bx.below hb, h.d1.below hb, h.d2.below hb, h.d3.below hb, h.l1, h.l2, h.l3⟩
theorem Ev.k1 (h : Ev l ps S A ac PA pc kb b1 b2 b3 dn ys bd w) : kb ≠ b1 ∧ kb ≠ b2 ∧ kb ≠ b3 := ⟨h.bx.type_ne h.d1 (by decide), h.bx.type_ne h.d2 (by decide), h.bx.type_ne h.d3 (by decide)⟩
/-- a definition has been found out -/
theorem Ev.put (h : Ev l ps S A ac PA pc kb b1 b2 b3 dn ys bd w) (hS : ∀ k, S k → ¬ F3 b1 b2 b3 k) (h12 : b1 ≠ b2) (h13 : b1 ≠ b3) (h23 : b2 ≠ b3) (i : Nat) (y b : Bool) :
    Ev l ps S A ac PA pc kb b1 b2 b3 (dn.set i true) (ys.set i y) (bd.set i b) (((w.setCell ⟨b1, i, none⟩ (.bool true)).setCell ⟨b2, i, none⟩ (.bool y)).setCell ⟨b3, i, none⟩ (.bool b)) ∧
    Only (F3 b1 b2 b3) w (((w.setCell ⟨b1, i, none⟩ (.bool true)).setCell ⟨b2, i, none⟩ (.bool y)).setCell ⟨b3, i, none⟩ (.bool b)) := by
  have ho : Only (F3 b1 b2 b3) w (((w.setCell ⟨b1, i, none⟩ (.bool true)).setCell ⟨b2, i, none⟩ (.bool y)).setCell ⟨b3, i, none⟩ (.bool b)) :=
    (((Only.refl _ w).setCell _ _ (fun _ => .inl rfl)).setCell _ _ (fun _ => .inr (.inl rfl))).setCell _ _ (fun _ => .inr (.inr rfl))
  obtain ⟨k1, k2, k3⟩ := h.k1
  refine ⟨⟨h.ls.only ho hS, h.pr.only ho hS, h.bx.only ho (fun e => by rcases e with e | e | e <;> omega), ?_, ?_, ?_, by simp [h.l1], by simp [h.l2], by simp [h.l3]⟩, ho⟩
  · exact ((((h.d1.set i (.bool true)).eq (by simp [cBo, List.map_set])).setOther _ _ (by exact h12)).setOther _ _ (by exact h13))
  · exact ((((h.d2.setOther ⟨b1, i, none⟩ (.bool true) (by exact fun e => h12 e.symm)).set i (.bool y)).eq (by simp [cBo, List.map_set])).setOther _ _ (by exact h23))
  · exact (((h.d3.setOther ⟨b1, i, none⟩ (.bool true) (by exact fun e => h13 e.symm)).setOther ⟨b2, i, none⟩ (.bool y) (by exact fun e => h23 e.symm)).set i (.bool b)).eq (by simp [cBo, List.map_set])
theorem KnR.put (h : KnR l ps dn ys bd) {i k : Nat} {d : Cd} {y b : Bool} (hd : l[i]? = some d) (hdp : Dp l ps vSmall k d) (hev : evC l ps vEq k d = if b then none else some y) (h1 : dn.length = l.length) (h2 : ys.length = l.length) (h3 : bd.length = l.length) :
    KnR l ps (dn.set i true) (ys.set i y) (bd.set i b) := fun j e hj he => by
  have hil : i < l.length := (List.getElem?_eq_some_iff.1 hd).1
  by_cases hij : i = j
  · subst hij
    rw [hd] at he; injection he with he; subst he
    refine ⟨k, hdp, ?_⟩
    rw [hev]
    simp [List.getD_eq_getElem?_getD, List.getElem?_set, h2, h3, hil]
  · rw [List.getElem?_set_ne hij] at hj
    obtain ⟨k', g1, g2⟩ := h j e hj he
    refine ⟨k', g1, ?_⟩
    rw [g2]
    simp [List.getD_eq_getElem?_getD, List.getElem?_set_ne hij]
end
def PaO (l : List Cd) (ps : List Gv) (S : Nat → Prop) (A : Option Addr) (ac : Nat) (PA : Option Addr) (pc kb b1 b2 b3 : Nat) (o : Option Bool) (w : World) (e : Ending) (w' : World) : Prop :=
  ∃ dn' ys' bd' y b, e = .returned (.tuple #[.bool y, .bool b]) ∧ Ev l ps S A ac PA pc kb b1 b2 b3 dn' ys' bd' w' ∧ KnR l ps dn' ys' bd' ∧ Only (F3 b1 b2 b3) w w' ∧ o = if b then none else some y
def PartC (l : List Cd) (ps : List Gv) (S : Nat → Prop) (A : Option Addr) (ac : Nat) (PA : Option Addr) (pc kb b1 b2 b3 K : Nat) : Prop :=
  ∀ (c : Cd) (cs : List Value) (dn ys bd : List Bool) (w : World), Dp l ps vSmall K c → (∃ j, cShape j c = true ∧ cTx j c) → Ev l ps S A ac PA pc kb b1 b2 b3 dn ys bd w → KnR l ps dn ys bd → Trs.at S w c.tr cs →
    Calls Tryz.prog 53 #[.slice A l.length ac, .agg cs.toArray, .slice PA ps.length pc, .pointer (some ⟨kb, 0, none⟩)] w (PaO l ps S A ac PA pc kb b1 b2 b3 (evC l ps vEq K c) w)
def WhoO (l : List Cd) (ps : List Gv) (S : Nat → Prop) (A : Option Addr) (ac : Nat) (PA : Option Addr) (pc kb b1 b2 b3 i : Nat) (w : World) (e : Ending) (w' : World) : Prop :=
  ∃ dn' ys' bd', e = .returned (.tuple #[]) ∧ Ev l ps S A ac PA pc kb b1 b2 b3 dn' ys' bd' w' ∧ KnR l ps dn' ys' bd' ∧ Only (F3 b1 b2 b3) w w' ∧ dn'[i]? = some true
set_option maxHeartbeats 16000000 in
theorem whole_of {l : List Cd} {ps : List Gv} {S : Nat → Prop} {A : Option Addr} {ac : Nat} {PA : Option Addr} {pc kb b1 b2 b3 K : Nat} (hS : ∀ k, S k → ¬ F3 b1 b2 b3 k) (h12 : b1 ≠ b2) (h13 : b1 ≠ b3) (h23 : b2 ≠ b3) (IH : PartC l ps S A ac PA pc kb b1 b2 b3 K)
    (i : Nat) (c : Cd) (dn ys bd : List Bool) (w : World) (hc : l[i]? = some c) (hdp : Dp l ps vSmall K c) (hsh : ∃ j, cShape j c = true ∧ cTx j c) (hev : Ev l ps S A ac PA pc kb b1 b2 b3 dn ys bd w) (hkn : KnR l ps dn ys bd) :
    Calls Tryz.prog 24 #[.slice A l.length ac, .int .i64 (i : Nat), .slice PA ps.length pc, .pointer (some ⟨kb, 0, none⟩)] w (WhoO l ps S A ac PA pc kb b1 b2 b3 i w) := by
  have hil : i < l.length := (List.getElem?_eq_some_iff.1 hc).1
  have hi0 : (0 : Int) ≤ (i : Int) ∧ (i : Int) < (l.length : Int) := by omega
  obtain ⟨t, ht⟩ := get_lt (l := dn) (i := i) (by rw [hev.l1]; exact hil)
  have k0 := hev.bx.cell 0 (v := .slice (some ⟨b1, 0, none⟩) l.length l.length) rfl
  have t0 := hev.d1.cell i (v := .bool t) (by simp [cBo, ht])
  have hlcap := hev.ls.cap
  have hlbyt := hev.ls.bytes
  obtain ⟨ad, cs, hA, hct, hcc⟩ := hev.ls.elem Cd.trlen hc
  have HP := Lib.hid (IH c cs dn ys bd w hdp hsh hev hkn hct)
  have HEV := Lib.hid hev
  have HKN := Lib.hid hkn
  have HC := Lib.hid hc
  have HDP := Lib.hid hdp
  have HS := Lib.hid hS
  have HT := Lib.hid ht
  obtain ⟨xs, ys', L, lc, rfl, hns, _, hxa, hxb, hpl⟩ := Cd.at_iff.1 hct
  obtain ⟨A1, n1, rfl, _⟩ := ex_cells hxa
  obtain ⟨B1, n2, rfl, _⟩ := ex_cells hxb
  obtain ⟨c0, c1, c2, c3, c4, c5, c6, c7, c8, c9, c10, c11, c12, c13, c14⟩ := cel15 hcc
  obtain ⟨o, ho⟩ : ∃ o, o = evC l ps vEq K c := ⟨_, rfl⟩
  have HO := Lib.hid ho
  rw [← ho] at HP
  subst hA
  clear hct hcc hxa hxb hpl hc hdp hsh hev hkn IH hS ht ho
  go_enter Tryz.func24, Tryz.ntmps24
  cases t with
  | true =>
    go_wp2_with fail
    refine bodyPost_ret (v := .tuple #[]) (by simp [results, Tryz.results24, go_sem]) rfl ?_
    exact ⟨dn, ys, bd, rfl, HEV.out, HKN.out, Only.refl _ _, HT.out⟩
  | false =>
    go_wp2_with fail
    refine HP.out.mono ?_
    rintro e w1 ⟨dn1, ys1, bd1, y, b, rfl, hev1, hkn1, hon1, hoe⟩
    have HEV1 := Lib.hid hev1
    have HKN1 := Lib.hid hkn1
    have HON1 := Lib.hid hon1
    have HOE := Lib.hid hoe
    obtain ⟨n1', n2', n3'⟩ := hev1.k1
    clear hkn1 hon1 hoe HP c0 c1 c2 c3 c4 c5 c6 c7 c8 c9 c10 c11 c12 c13 c14 k0 t0 HT HEV
    obtain ⟨p1, hp1⟩ := get_lt (l := dn1) (i := i) (by rw [hev1.l1]; exact hil)
    obtain ⟨p2, hp2⟩ := get_lt (l := ys1) (i := i) (by rw [hev1.l2]; exact hil)
    obtain ⟨p3, hp3⟩ := get_lt (l := bd1) (i := i) (by rw [hev1.l3]; exact hil)
    have q1 := hev1.bx.cell 0 (v := .slice (some ⟨b1, 0, none⟩) l.length l.length) rfl
    have f1 := hev1.d1.frozen i
    have r1 := hev1.d1.cell i (v := .bool p1) (by simp [cBo, hp1])
    have bx2 := hev1.bx.setOther ⟨b1, i, none⟩ (.bool true) (by exact n1')
    have q2 := bx2.cell 1 (v := .slice (some ⟨b2, 0, none⟩) l.length l.length) rfl
    have d2 := hev1.d2.setOther ⟨b1, i, none⟩ (.bool true) (by exact fun e => h12 e.symm)
    have f2 := d2.frozen i
    have r2 := d2.cell i (v := .bool p2) (by simp [cBo, hp2])
    have bx3 := bx2.setOther ⟨b2, i, none⟩ (.bool y) (by exact n2')
    have q3 := bx3.cell 2 (v := .slice (some ⟨b3, 0, none⟩) l.length l.length) rfl
    have d3 := (hev1.d3.setOther ⟨b1, i, none⟩ (.bool true) (by exact fun e => h13 e.symm)).setOther ⟨b2, i, none⟩ (.bool y) (by exact fun e => h23 e.symm)
    have f3 := d3.frozen i
    have r3 := d3.cell i (v := .bool p3) (by simp [cBo, hp3])
    clear bx2 bx3 d2 d3 hp1 hp2 hp3 hev1
    go_wp2_with fail
    refine bodyPost_ret (v := .tuple #[]) (by simp [results, Tryz.results24, go_sem]) rfl ?_
    obtain ⟨g1, g2⟩ := HEV1.out.put HS.out h12 h13 h23 i y b
    exact ⟨_, _, _, rfl, g1, HKN1.out.put HC.out HDP.out (by rw [← HO.out, HOE.out]) HEV1.out.l1 HEV1.out.l2 HEV1.out.l3, HON1.out.trans g2 (fun _ _ h => h), by simp [HEV1.out.l1, hil]⟩
end Go.Proofs.YtmljdppdaaoehaaGreatDoor

/- hoardingref15.part: the walk. -/
namespace Go.Proofs.YtmljdppdaaoehaaGreatDoor
open Go.RowKit
set_option linter.unusedVariables false
set_option linter.unusedSimpArgs false
set_option maxRecDepth 100000
/-- what a plain expression's answer is, in cells -/
theorem plainOut_cells {S : Nat → Prop} {x : Gv} {w : World} {e : Ending} {w' : World} (h : PlainOut S (some x) w e w') : Below w.heap.size w w' ∧ ∃ GLx lcx GKx kcx, e = .returned (.tuple #[.agg #[.string x.name, .bool x.unknown, .int .i8 x.v.kind, .bool x.v.bool, .int .i64 x.v.num, .string x.v.text, .slice GLx x.v.list.length lcx, .slice GKx x.v.keys.length kcx], .int .i64 0]) ∧ Trs.at S w' x.v.tr (#[.int .i8 x.v.kind, .bool x.v.bool, .int .i64 x.v.num, .string x.v.text, .slice GLx x.v.list.length lcx, .slice GKx x.v.keys.length kcx] : Array Value).toList := by
  obtain ⟨hb, cs, rfl, ht⟩ := h
  obtain ⟨vs, rfl, _, hv⟩ := Gv.at_iff.1 ht
  have hv2 := hv
  obtain ⟨GL, lc, GK, kc, rfl, _⟩ := Vl.at_iff.1 hv
  exact ⟨hb, GL, lc, GK, kc, by simp, hv2⟩
section
variable {l : List Cd} {ps : List Gv} {S : Nat → Prop} {A : Option Addr} {ac : Nat} {PA : Option Addr} {pc kb b1 b2 b3 : Nat}
set_option maxHeartbeats 16000000 in
theorem part_eq (K : Nat) (hps : ∀ p ∈ ps, CkTxt p.v) (c : Cd) (cs : List Value) (dn ys bd : List Bool) (w : World) (hdp : Dp l ps vSmall (K + 1) c) (hsh : ∃ j, cShape j c = true ∧ cTx j c) (hev : Ev l ps S A ac PA pc kb b1 b2 b3 dn ys bd w) (hkn : KnR l ps dn ys bd) (htr : Trs.at S w c.tr cs) (h0 : c.kind = 0) :
    Calls Tryz.prog 53 #[.slice A l.length ac, .agg cs.toArray, .slice PA ps.length pc, .pointer (some ⟨kb, 0, none⟩)] w (PaO l ps S A ac PA pc kb b1 b2 b3 (evC l ps vEq (K + 1) c) w) := by
  obtain ⟨x, z, hpx, hpz, _, _⟩ := hdp.1 h0
  obtain ⟨ht1, ht2⟩ : c.a.text.size ≤ 30000 ∧ c.b.text.size ≤ 30000 := by
    obtain ⟨j, h1, h2⟩ := hsh
    cases j with
    | zero => cases h1
    | succ j => exact ⟨h2.1, h2.2.1⟩
  have HTX := Lib.hid (plain_tx hps ht1 hpx)
  have HTZ := Lib.hid (plain_tx hps ht2 hpz)
  have HEE : Hid (evC l ps vEq (K + 1) c = if x.unknown || z.unknown then none else some (vEq x.v z.v)) := Lib.hid (by rw [evC, if_pos h0]; unfold eqEv; rw [hpx, hpz])
  have HEV := Lib.hid hev
  have HKN := Lib.hid hkn
  obtain ⟨xs, ys', L, lc, rfl, hns, _, hxa, hxb, hpl⟩ := Cd.at_iff.1 htr
  obtain ⟨A1, n1, rfl, _⟩ := ex_cells hxa
  obtain ⟨B1, n2, rfl, _⟩ := ex_cells hxb
  have hbw : Below w.heap.size w (w.alloc (.cells #[.string c.name, .int .i8 c.kind, .int .i8 c.a.kind, .string c.a.text, .int .i64 c.a.num, .string c.a.name, .string c.a.attr, .slice A1 c.a.l.length n1, .int .i8 c.b.kind, .string c.b.text, .int .i64 c.b.num, .string c.b.name, .string c.b.attr, .slice B1 c.b.l.length n2, .slice L c.l.length lc] 46)) := (Below.refl _ w).alloc (Nat.le_refl _) _
  have HBW := Lib.hid hbw
  have HX : Hid (Blk (w.alloc (.cells #[.string c.name, .int .i8 c.kind, .int .i8 c.a.kind, .string c.a.text, .int .i64 c.a.num, .string c.a.name, .string c.a.attr, .slice A1 c.a.l.length n1, .int .i8 c.b.kind, .string c.b.text, .int .i64 c.b.num, .string c.b.name, .string c.b.attr, .slice B1 c.b.l.length n2, .slice L c.l.length lc] 46)) w.heap.size #[.string c.name, .int .i8 c.kind, .int .i8 c.a.kind, .string c.a.text, .int .i64 c.a.num, .string c.a.name, .string c.a.attr, .slice A1 c.a.l.length n1, .int .i8 c.b.kind, .string c.b.text, .int .i64 c.b.num, .string c.b.name, .string c.b.attr, .slice B1 c.b.l.length n2, .slice L c.l.length lc] 46) := Lib.hid (Blk.new _ _ _)
  have HPX := rplain_any S c.a A1 n1 PA pc ps (w.alloc (.cells #[.string c.name, .int .i8 c.kind, .int .i8 c.a.kind, .string c.a.text, .int .i64 c.a.num, .string c.a.name, .string c.a.attr, .slice A1 c.a.l.length n1, .int .i8 c.b.kind, .string c.b.text, .int .i64 c.b.num, .string c.b.name, .string c.b.attr, .slice B1 c.b.l.length n2, .slice L c.l.length lc] 46)) ht1 (hxa.below hbw) (hev.pr.below hbw)
  rw [hpx] at HPX
  have HPX := Lib.hid HPX
  have HPZ : Hid (∀ w', Below w.heap.size w w' → Calls Tryz.prog 11 #[.agg #[.int .i8 c.b.kind, .string c.b.text, .int .i64 c.b.num, .string c.b.name, .string c.b.attr, .slice B1 c.b.l.length n2], .slice PA ps.length pc] w' (PlainOut S (some z) w')) := Lib.hid (fun w' h => by
    have := rplain_any S c.b B1 n2 PA pc ps w' ht2 (hxb.below h) (hev.pr.below h)
    rwa [hpz] at this)
  have e0 : (c.kind == 0) = true := by rw [beq_iff_eq]; exact h0
  obtain ⟨o, ho⟩ : ∃ o, o = evC l ps vEq (K + 1) c := ⟨_, rfl⟩
  rw [← ho] at HEE ⊢
  clear hdp hsh hev hkn htr hxa hxb hpl hbw h0 hpx hpz ht1 ht2 ho
  go_enter Tryz.func53, Tryz.ntmps53
  go_wp2_with fail
  refine HPX.out.mono ?_
  intro e w1 hout
  obtain ⟨hb1, GLx, lcx, GKx, kcx, rfl, htx⟩ := plainOut_cells hout
  have HB1 := Lib.hid (HBW.out.trans (hb1.mono HBW.out.size))
  have HX1 := Lib.hid ((HX.out.below hb1).alloc (.cells #[.string x.name, .bool x.unknown, .int .i8 x.v.kind, .bool x.v.bool, .int .i64 x.v.num, .string x.v.text, .slice GLx x.v.list.length lcx, .slice GKx x.v.keys.length kcx] 39))
  have HT1 := Lib.hid (htx.alloc (.cells #[.string x.name, .bool x.unknown, .int .i8 x.v.kind, .bool x.v.bool, .int .i64 x.v.num, .string x.v.text, .slice GLx x.v.list.length lcx, .slice GKx x.v.keys.length kcx] 39))
  have HB1A := Lib.hid (HB1.out.alloc HB1.out.size (.cells #[.string x.name, .bool x.unknown, .int .i8 x.v.kind, .bool x.v.bool, .int .i64 x.v.num, .string x.v.text, .slice GLx x.v.list.length lcx, .slice GKx x.v.keys.length kcx] 39))
  have HGX : Hid (Blk (w1.alloc (.cells #[.string x.name, .bool x.unknown, .int .i8 x.v.kind, .bool x.v.bool, .int .i64 x.v.num, .string x.v.text, .slice GLx x.v.list.length lcx, .slice GKx x.v.keys.length kcx] 39)) w1.heap.size #[.string x.name, .bool x.unknown, .int .i8 x.v.kind, .bool x.v.bool, .int .i64 x.v.num, .string x.v.text, .slice GLx x.v.list.length lcx, .slice GKx x.v.keys.length kcx] 39) := Lib.hid (Blk.new _ _ _)
  obtain ⟨d0, d1, d2, d3, d4, d5, d6, d7, d8, d9, d10, d11, d12, d13, d14⟩ := blk15 HX1.out
  have HPW := Lib.hid (HPZ.out _ HB1A.out)
  obtain ⟨qa, hqa⟩ : ∃ qa, qa = w1.heap.size := ⟨_, rfl⟩
  rw [← hqa] at HGX
  have HQA := Lib.hid hqa
  clear hb1 htx HPX HX hout HPZ hqa
  go_wp2_with fail
  refine HPW.out.mono ?_
  intro e w2 hout
  obtain ⟨hb2, GLz, lcz, GKz, kcz, rfl, htz⟩ := plainOut_cells hout
  have HB2 := Lib.hid ((HB1A.out.trans (hb2.mono HB1A.out.size)).alloc (HB1A.out.trans (hb2.mono HB1A.out.size)).size (.cells #[.string z.name, .bool z.unknown, .int .i8 z.v.kind, .bool z.v.bool, .int .i64 z.v.num, .string z.v.text, .slice GLz z.v.list.length lcz, .slice GKz z.v.keys.length kcz] 39))
  have HGX2 := Lib.hid ((HGX.out.below hb2).alloc (.cells #[.string z.name, .bool z.unknown, .int .i8 z.v.kind, .bool z.v.bool, .int .i64 z.v.num, .string z.v.text, .slice GLz z.v.list.length lcz, .slice GKz z.v.keys.length kcz] 39))
  have HGZ : Hid (Blk (w2.alloc (.cells #[.string z.name, .bool z.unknown, .int .i8 z.v.kind, .bool z.v.bool, .int .i64 z.v.num, .string z.v.text, .slice GLz z.v.list.length lcz, .slice GKz z.v.keys.length kcz] 39)) w2.heap.size #[.string z.name, .bool z.unknown, .int .i8 z.v.kind, .bool z.v.bool, .int .i64 z.v.num, .string z.v.text, .slice GLz z.v.list.length lcz, .slice GKz z.v.keys.length kcz] 39) := Lib.hid (Blk.new _ _ _)
  have HT2 := Lib.hid ((HT1.out.below hb2).alloc (.cells #[.string z.name, .bool z.unknown, .int .i8 z.v.kind, .bool z.v.bool, .int .i64 z.v.num, .string z.v.text, .slice GLz z.v.list.length lcz, .slice GKz z.v.keys.length kcz] 39))
  have HTZ2 := Lib.hid (htz.alloc (.cells #[.string z.name, .bool z.unknown, .int .i8 z.v.kind, .bool z.v.bool, .int .i64 z.v.num, .string z.v.text, .slice GLz z.v.list.length lcz, .slice GKz z.v.keys.length kcz] 39))
  clear hb2 htz hout HPW d0 d1 d2 d3 d4 d5 d6 d7 d8 d9 d10 d11 d12 d13 d14 HX1 HT1 HGX HB1A HB1
  go_upto_region 5 with fail
  rw [← HQA.out]
  obtain ⟨qb, hqb⟩ : ∃ qb, qb = w2.heap.size := ⟨_, rfl⟩
  rw [← hqb] at HGZ ⊢
  generalize (w2.alloc (.cells #[.string z.name, .bool z.unknown, .int .i8 z.v.kind, .bool z.v.bool, .int .i64 z.v.num, .string z.v.text, .slice GLz z.v.list.length lcz, .slice GKz z.v.keys.length kcz] 39)) = W at HB2 HGX2 HGZ HT2 HTZ2 ⊢
  clear hqb HQA
  obtain ⟨x0, x1, x2, x3, x4, x5, x6, x7⟩ := blk8 HGX2.out
  obtain ⟨z0, z1, z2, z3, z4, z5, z6, z7⟩ := blk8 HGZ.out
  have HQ := Lib.hid (fun w' (h : Below W.heap.size W w') => requal_any S x.v z.v _ _ w' HTX.out HTZ.out (HT2.out.below h) (HTZ2.out.below h))
  obtain ⟨r, hr⟩ : ∃ r, r = vEq x.v z.v := ⟨_, rfl⟩
  rw [← hr] at HQ HEE
  obtain ⟨xu, hxu⟩ : ∃ xu, xu = x.unknown := ⟨_, rfl⟩
  rw [← hxu] at HEE x1 HGX2 ⊢
  clear hr hxu
  cases xu with
  | false =>
    refine Rg.start 12 (fun w' => w'.cell? ⟨qa, 1, none⟩ = some (.bool false) ∧ w'.cell? ⟨qa, 2, none⟩ = some (.int .i8 x.v.kind) ∧ w'.cell? ⟨qa, 3, none⟩ = some (.bool x.v.bool) ∧ w'.cell? ⟨qa, 4, none⟩ = some (.int .i64 x.v.num) ∧ w'.cell? ⟨qa, 5, none⟩ = some (.string x.v.text) ∧ w'.cell? ⟨qa, 6, none⟩ = some (.slice GLx x.v.list.length lcx) ∧ w'.cell? ⟨qa, 7, none⟩ = some (.slice GKx x.v.keys.length kcx) ∧ w'.cell? ⟨qb, 1, none⟩ = some (.bool z.unknown) ∧ w'.cell? ⟨qb, 2, none⟩ = some (.int .i8 z.v.kind) ∧ w'.cell? ⟨qb, 3, none⟩ = some (.bool z.v.bool) ∧ w'.cell? ⟨qb, 4, none⟩ = some (.int .i64 z.v.num) ∧ w'.cell? ⟨qb, 5, none⟩ = some (.string z.v.text) ∧ w'.cell? ⟨qb, 6, none⟩ = some (.slice GLz z.v.list.length lcz) ∧ w'.cell? ⟨qb, 7, none⟩ = some (.slice GKz z.v.keys.length kcz)) (by kernel_rfl) (by go_keep) (fun hH0 => ?_)
    simp only [List.length_cons, List.length_nil, List.replicate_succ, List.replicate_zero, Nat.zero_add, Nat.reduceAdd]
    refine Rg.take (v := ?_) hH0 0 rfl (by kernel_rfl) (fun _ _ _ h => h) (by rfl) ?_ ?_
    rotate_left
    · (intro w hSw; (try dsimp only at hSw); go_simp <;> with_reducible rfl)
    try simp only [Act.put, sA, sB, sC]
    refine Rg.take (v := ?_) hH0 1 rfl (by kernel_rfl) (fun _ _ _ h => h) (by rfl) ?_ ?_
    rotate_left
    · (intro w hSw; (try dsimp only at hSw); go_simp <;> with_reducible rfl)
    try simp only [Act.put, sA, sB, sC]
    refine Rg.take (v := ?_) hH0 2 rfl (by kernel_rfl) (fun _ _ _ h => h) (by rfl) ?_ ?_
    rotate_left
    · (intro w hSw; (try dsimp only at hSw); go_simp <;> with_reducible rfl)
    try simp only [Act.put, sA, sB, sC]
    refine Rg.take (v := ?_) hH0 3 rfl (by kernel_rfl) (fun _ _ _ h => h) (by rfl) ?_ ?_
    rotate_left
    · (intro w hSw; (try dsimp only at hSw); go_simp <;> with_reducible rfl)
    try simp only [Act.put, sA, sB, sC]
    refine Rg.take (v := ?_) hH0 5 rfl (by kernel_rfl) (fun _ _ _ h => h) (by rfl) ?_ ?_
    rotate_left
    · (intro w hSw; (try dsimp only at hSw); go_simp <;> with_reducible rfl)
    try simp only [Act.put, sA, sB, sC]
    refine Rg.take (v := ?_) hH0 6 rfl (by kernel_rfl) (fun _ _ _ h => h) (by rfl) ?_ ?_
    rotate_left
    · (intro w hSw; (try dsimp only at hSw); go_simp <;> with_reducible rfl)
    try simp only [Act.put, sA, sB, sC]
    refine Rg.step 4 (by kernel_rfl) rfl (fun K hK => ?_)
    go_simp; (with_reducible refine (HQ.out W.drew (Below.refl _ W).drew).mono ?_); rintro e w3 ⟨rfl, hb3⟩; have hbo : Below W.heap.size W w3 := (Below.refl _ W).drew.trans hb3; have HB3 := Lib.hid hbo; clear x0 x1 x2 x3 x4 x5 x6 x7 z0 z1 z2 z3 z4 z5 z6 z7; obtain ⟨x0, x1, x2, x3, x4, x5, x6, x7⟩ := blk8 (HGX2.out.below hbo); obtain ⟨z0, z1, z2, z3, z4, z5, z6, z7⟩ := blk8 (HGZ.out.below hbo); clear hb3 hbo; go_simp
    refine hK.out _ _ ?_ (fun hH1 => ?_)
    · ((try dsimp only) <;> go_keep)
    clear hK K hH0
    try simp only [Act.put, List.setIfInBounds_toArray, List.set_cons_zero, List.set_cons_succ]
    refine Rg.take (v := ?_) hH1 7 rfl (by kernel_rfl) (fun _ _ _ h => h) (by rfl) ?_ ?_
    rotate_left
    · (intro w hSw; (try dsimp only at hSw); go_simp <;> with_reducible rfl)
    try simp only [Act.put, sA, sB, sC]
    refine Rg.take (v := ?_) hH1 8 rfl (by kernel_rfl) (fun _ _ _ h => h) (by rfl) ?_ ?_
    rotate_left
    · (intro w hSw; (try dsimp only at hSw); go_simp <;> with_reducible rfl)
    try simp only [Act.put, sA, sB, sC]
    refine Rg.take (v := ?_) hH1 9 rfl (by kernel_rfl) (fun _ _ _ h => h) (by rfl) ?_ ?_
    rotate_left
    · (intro w hSw; (try dsimp only at hSw); go_simp <;> with_reducible rfl)
    try simp only [Act.put, sA, sB, sC]
    refine Rg.take (v := ?_) hH1 10 rfl (by kernel_rfl) (fun _ _ _ h => h) (by rfl) ?_ ?_
    rotate_left
    · (intro w hSw; (try dsimp only at hSw); go_simp <;> with_reducible rfl)
    try simp only [Act.put, sA, sB, sC]
    refine Rg.take (v := ?_) hH1 11 rfl (by kernel_rfl) (fun _ _ _ h => h) (by rfl) ?_ ?_
    rotate_left
    · (intro w hSw; (try dsimp only at hSw); go_simp <;> with_reducible rfl)
    try simp only [Act.put, sA, sB, sC]
    refine Rg.last (by kernel_rfl) (by kernel_rfl) rfl (fun K hK => ?_)
    go_simp
    refine hK.out _ _ ?_
    clear hK K hH1
    go_wp2_with fail
    refine bodyPost_ret (v := .tuple #[.bool r, .bool z.unknown]) (by simp [results, Tryz.results53, go_sem]) rfl ?_
    have hB := HB2.out.trans (HB3.out.mono HB2.out.size)
    exact ⟨dn, ys, bd, r, z.unknown, rfl, HEV.out.below hB, HKN.out, Only.of_below hB _, by rw [HEE.out]; rfl⟩
  | true =>
    refine Rg.start 12 (fun w' => w'.cell? ⟨qa, 1, none⟩ = some (.bool true) ∧ w'.cell? ⟨qa, 2, none⟩ = some (.int .i8 x.v.kind) ∧ w'.cell? ⟨qa, 3, none⟩ = some (.bool x.v.bool) ∧ w'.cell? ⟨qa, 4, none⟩ = some (.int .i64 x.v.num) ∧ w'.cell? ⟨qa, 5, none⟩ = some (.string x.v.text) ∧ w'.cell? ⟨qa, 6, none⟩ = some (.slice GLx x.v.list.length lcx) ∧ w'.cell? ⟨qa, 7, none⟩ = some (.slice GKx x.v.keys.length kcx) ∧ w'.cell? ⟨qb, 1, none⟩ = some (.bool z.unknown) ∧ w'.cell? ⟨qb, 2, none⟩ = some (.int .i8 z.v.kind) ∧ w'.cell? ⟨qb, 3, none⟩ = some (.bool z.v.bool) ∧ w'.cell? ⟨qb, 4, none⟩ = some (.int .i64 z.v.num) ∧ w'.cell? ⟨qb, 5, none⟩ = some (.string z.v.text) ∧ w'.cell? ⟨qb, 6, none⟩ = some (.slice GLz z.v.list.length lcz) ∧ w'.cell? ⟨qb, 7, none⟩ = some (.slice GKz z.v.keys.length kcz)) (by kernel_rfl) (by go_keep) (fun hH0 => ?_)
    simp only [List.length_cons, List.length_nil, List.replicate_succ, List.replicate_zero, Nat.zero_add, Nat.reduceAdd]
    refine Rg.take (v := ?_) hH0 0 rfl (by kernel_rfl) (fun _ _ _ h => h) (by rfl) ?_ ?_
    rotate_left
    · (intro w hSw; (try dsimp only at hSw); go_simp <;> with_reducible rfl)
    try simp only [Act.put, sA, sB, sC]
    refine Rg.take (v := ?_) hH0 1 rfl (by kernel_rfl) (fun _ _ _ h => h) (by rfl) ?_ ?_
    rotate_left
    · (intro w hSw; (try dsimp only at hSw); go_simp <;> with_reducible rfl)
    try simp only [Act.put, sA, sB, sC]
    refine Rg.take (v := ?_) hH0 2 rfl (by kernel_rfl) (fun _ _ _ h => h) (by rfl) ?_ ?_
    rotate_left
    · (intro w hSw; (try dsimp only at hSw); go_simp <;> with_reducible rfl)
    try simp only [Act.put, sA, sB, sC]
    refine Rg.take (v := ?_) hH0 3 rfl (by kernel_rfl) (fun _ _ _ h => h) (by rfl) ?_ ?_
    rotate_left
    · (intro w hSw; (try dsimp only at hSw); go_simp <;> with_reducible rfl)
    try simp only [Act.put, sA, sB, sC]
    refine Rg.take (v := ?_) hH0 5 rfl (by kernel_rfl) (fun _ _ _ h => h) (by rfl) ?_ ?_
    rotate_left
    · (intro w hSw; (try dsimp only at hSw); go_simp <;> with_reducible rfl)
    try simp only [Act.put, sA, sB, sC]
    refine Rg.take (v := ?_) hH0 6 rfl (by kernel_rfl) (fun _ _ _ h => h) (by rfl) ?_ ?_
    rotate_left
    · (intro w hSw; (try dsimp only at hSw); go_simp <;> with_reducible rfl)
    try simp only [Act.put, sA, sB, sC]
    refine Rg.step 4 (by kernel_rfl) rfl (fun K hK => ?_)
    go_simp; (with_reducible refine (HQ.out W.drew (Below.refl _ W).drew).mono ?_); rintro e w3 ⟨rfl, hb3⟩; have hbo : Below W.heap.size W w3 := (Below.refl _ W).drew.trans hb3; have HB3 := Lib.hid hbo; clear x0 x1 x2 x3 x4 x5 x6 x7 z0 z1 z2 z3 z4 z5 z6 z7; obtain ⟨x0, x1, x2, x3, x4, x5, x6, x7⟩ := blk8 (HGX2.out.below hbo); obtain ⟨z0, z1, z2, z3, z4, z5, z6, z7⟩ := blk8 (HGZ.out.below hbo); clear hb3 hbo; go_simp
    refine hK.out _ _ ?_ (fun hH1 => ?_)
    · ((try dsimp only) <;> go_keep)
    clear hK K hH0
    try simp only [Act.put, List.setIfInBounds_toArray, List.set_cons_zero, List.set_cons_succ]
    refine Rg.take (v := ?_) hH1 7 rfl (by kernel_rfl) (fun _ _ _ h => h) (by rfl) ?_ ?_
    rotate_left
    · (intro w hSw; (try dsimp only at hSw); go_simp <;> with_reducible rfl)
    try simp only [Act.put, sA, sB, sC]
    refine Rg.skip hH1 8 rfl (by kernel_rfl) (fun _ _ _ h => h) (by rfl) ?_
    try simp only [Act.put, List.setIfInBounds_toArray, List.set_cons_zero, List.set_cons_succ]
    refine Rg.skip hH1 9 rfl (by kernel_rfl) (fun _ _ _ h => h) (by rfl) ?_
    try simp only [Act.put, List.setIfInBounds_toArray, List.set_cons_zero, List.set_cons_succ]
    refine Rg.take (v := ?_) hH1 10 rfl (by kernel_rfl) (fun _ _ _ h => h) (by rfl) ?_ ?_
    rotate_left
    · (intro w hSw; (try dsimp only at hSw); go_simp <;> with_reducible rfl)
    try simp only [Act.put, sA, sB, sC]
    refine Rg.take (v := ?_) hH1 11 rfl (by kernel_rfl) (fun _ _ _ h => h) (by rfl) ?_ ?_
    rotate_left
    · (intro w hSw; (try dsimp only at hSw); go_simp <;> with_reducible rfl)
    try simp only [Act.put, sA, sB, sC]
    refine Rg.last (by kernel_rfl) (by kernel_rfl) rfl (fun K hK => ?_)
    go_simp
    refine hK.out _ _ ?_
    clear hK K hH1
    go_wp2_with fail
    refine bodyPost_ret (v := .tuple #[.bool r, .bool true]) (by simp [results, Tryz.results53, go_sem]) rfl ?_
    have hB := HB2.out.trans (HB3.out.mono HB2.out.size)
    exact ⟨dn, ys, bd, r, true, rfl, HEV.out.below hB, HKN.out, Only.of_below hB _, by rw [HEE.out]; rfl⟩
set_option maxHeartbeats 16000000 in
theorem part_nm (K : Nat) (hS : ∀ k, S k → ¬ F3 b1 b2 b3 k) (h12 : b1 ≠ b2) (h13 : b1 ≠ b3) (h23 : b2 ≠ b3) (hl6 : ∀ d ∈ l, ∃ j, cShape j d = true ∧ cTx j d) (IH : PartC l ps S A ac PA pc kb b1 b2 b3 K)
    (c : Cd) (cs : List Value) (dn ys bd : List Bool) (w : World) (hdp : Dp l ps vSmall (K + 1) c) (hev : Ev l ps S A ac PA pc kb b1 b2 b3 dn ys bd w) (hkn : KnR l ps dn ys bd) (htr : Trs.at S w c.tr cs) (h4 : c.kind = 4) :
    Calls Tryz.prog 53 #[.slice A l.length ac, .agg cs.toArray, .slice PA ps.length pc, .pointer (some ⟨kb, 0, none⟩)] w (PaO l ps S A ac PA pc kb b1 b2 b3 (evC l ps vEq (K + 1) c) w) := by
  obtain ⟨i, d, hp, hd, hdd⟩ := hdp.2.1 h4
  have HEE : Hid (evC l ps vEq (K + 1) c = evC l ps vEq K d) := Lib.hid (by rw [evC, if_neg (by omega), if_pos h4, hp]; simp only [hd])
  have hil : i < l.length := (List.getElem?_eq_some_iff.1 hd).1
  have hi0 : (0 : Int) ≤ (i : Int) ∧ (i : Int) < (l.length : Int) := by omega
  obtain ⟨xs, ys', L, lc, rfl, hns, _, hxa, hxb, hpl⟩ := Cd.at_iff.1 htr
  obtain ⟨A1, n1, rfl, _⟩ := ex_cells hxa
  obtain ⟨B1, n2, rfl, _⟩ := ex_cells hxb
  have hbw : Below w.heap.size w (w.alloc (.cells #[.string c.name, .int .i8 c.kind, .int .i8 c.a.kind, .string c.a.text, .int .i64 c.a.num, .string c.a.name, .string c.a.attr, .slice A1 c.a.l.length n1, .int .i8 c.b.kind, .string c.b.text, .int .i64 c.b.num, .string c.b.name, .string c.b.attr, .slice B1 c.b.l.length n2, .slice L c.l.length lc] 46)) := (Below.refl _ w).alloc (Nat.le_refl _) _
  have HBW := Lib.hid hbw
  have HAT := Lib.hid (rat_any S A ac l c.name (w.alloc (.cells #[.string c.name, .int .i8 c.kind, .int .i8 c.a.kind, .string c.a.text, .int .i64 c.a.num, .string c.a.name, .string c.a.attr, .slice A1 c.a.l.length n1, .int .i8 c.b.kind, .string c.b.text, .int .i64 c.b.num, .string c.b.name, .string c.b.attr, .slice B1 c.b.l.length n2, .slice L c.l.length lc] 46)) (hev.ls.below hbw))
  have hpi : plI l c.name = (i : Int) := by unfold plI; rw [hp]
  rw [hpi] at HAT
  have HWH := Lib.hid (whole_of hS h12 h13 h23 IH i d dn ys bd (w.alloc (.cells #[.string c.name, .int .i8 c.kind, .int .i8 c.a.kind, .string c.a.text, .int .i64 c.a.num, .string c.a.name, .string c.a.attr, .slice A1 c.a.l.length n1, .int .i8 c.b.kind, .string c.b.text, .int .i64 c.b.num, .string c.b.name, .string c.b.attr, .slice B1 c.b.l.length n2, .slice L c.l.length lc] 46)) hd hdd (hl6 d (List.mem_of_getElem? hd)) (hev.below hbw) hkn)
  have HD := Lib.hid hd
  have HDD := Lib.hid hdd
  have e0 : (c.kind == 0) = false := by rw [beq_eq_false_iff_ne]; omega
  have e4 : (c.kind == 4) = true := by rw [beq_iff_eq]; exact h4
  obtain ⟨o, ho⟩ : ∃ o, o = evC l ps vEq (K + 1) c := ⟨_, rfl⟩
  rw [← ho] at HEE ⊢
  clear hdp hev hkn htr hxa hxb hpl hbw h4 hp hd hdd hpi IH ho
  go_enter Tryz.func53, Tryz.ntmps53
  go_wp2_with fail
  refine HAT.out.mono ?_
  rintro e w2 ⟨rfl, rfl⟩
  go_wp2_with fail
  refine HWH.out.mono ?_
  rintro e w3 ⟨dn1, ys1, bd1, rfl, hev1, hkn1, hon1, hdn⟩
  obtain ⟨k, hk1, hk2⟩ := hkn1 i d hdn HD.out
  have HS1 := Lib.hid (Dp.same (eq := vEq) HDD.out hk1)
  obtain ⟨p2, hp2⟩ := get_lt (l := ys1) (i := i) (by rw [hev1.l2]; exact hil)
  obtain ⟨p3, hp3⟩ := get_lt (l := bd1) (i := i) (by rw [hev1.l3]; exact hil)
  have HK2 : Hid (evC l ps vEq k d = if p3 then none else some p2) := Lib.hid (by rw [hk2]; simp [List.getD_eq_getElem?_getD, hp2, hp3])
  have q1 := hev1.bx.cell 1 (v := .slice (some ⟨b2, 0, none⟩) l.length l.length) rfl
  have q2 := hev1.bx.cell 2 (v := .slice (some ⟨b3, 0, none⟩) l.length l.length) rfl
  have r2 := hev1.d2.cell i (v := .bool p2) (by simp [cBo, hp2])
  have r3 := hev1.d3.cell i (v := .bool p3) (by simp [cBo, hp3])
  have HEV1 := Lib.hid hev1
  have HKN1 := Lib.hid hkn1
  have HON1 := Lib.hid hon1
  clear hev1 hkn1 hon1 hdn hk1 hk2 hp2 hp3 HAT HWH
  go_wp2_with fail
  go_quiet (fail)
  go_wp2_with fail
  refine bodyPost_ret (v := .tuple #[.bool p2, .bool p3]) (by simp [results, Tryz.results53, go_sem]) rfl ?_
  exact ⟨dn1, ys1, bd1, p2, p3, rfl, HEV1.out.below (below_drewN' _ _), HKN1.out, ((Only.of_below HBW.out _).trans HON1.out (fun _ _ h => h)).drewN _, by rw [HEE.out, HS1.out, HK2.out]⟩
theorem allEv_take {f : Cd → Option Bool} {r : List Cd} {j m : Nat} {p : Cd} {ba y b : Bool} (hp : r[j]? = some p) (h : allEv f (r.take j) = if ba then none else some m) (h2 : f p = if b then none else some y) :
    allEv f (r.take (j + 1)) = if (ba || b) then none else some (m + y.toNat) := by
  rw [List.take_add_one, hp]
  show allEv f (r.take j ++ [p]) = _
  rw [allEv_snoc, h, h2]
  cases ba <;> cases b <;> rfl
set_option maxHeartbeats 16000000 in
theorem part_ls (K : Nat) (hS : ∀ k, S k → ¬ F3 b1 b2 b3 k) (IH : PartC l ps S A ac PA pc kb b1 b2 b3 K)
    (c : Cd) (cs : List Value) (dn ys bd : List Bool) (w : World) (hdp : Dp l ps vSmall (K + 1) c) (hsh : ∃ j, cShape j c = true ∧ cTx j c) (hev : Ev l ps S A ac PA pc kb b1 b2 b3 dn ys bd w) (hkn : KnR l ps dn ys bd) (htr : Trs.at S w c.tr cs) (h0 : c.kind ≠ 0) (h4 : c.kind ≠ 4) :
    Calls Tryz.prog 53 #[.slice A l.length ac, .agg cs.toArray, .slice PA ps.length pc, .pointer (some ⟨kb, 0, none⟩)] w (PaO l ps S A ac PA pc kb b1 b2 b3 (evC l ps vEq (K + 1) c) w) := by
  obtain ⟨hkd, hpd⟩ := hdp.2.2 h0 h4
  obtain ⟨h3l, hsp⟩ : (c.kind = 3 → c.l.length = 1) ∧ ∀ p ∈ c.l, ∃ j, cShape j p = true ∧ cTx j p := by
    obtain ⟨j, h1, h2⟩ := hsh
    cases j with
    | zero => cases h1
    | succ j =>
      rw [cShape_eq, if_neg h0, if_neg h4] at h1
      simp only [Bool.and_eq_true] at h1
      refine ⟨fun e => ?_, fun p hp => ⟨j, ?_, h2.2.2 p hp⟩⟩
      · have := h1.1.1
        unfold mayOf at this
        rw [if_neg (by omega), if_pos e, decide_eq_true_eq] at this
        exact this
      · have := List.all_eq_true.1 h1.2 p hp
        simp only [Bool.and_eq_true] at this
        exact this.2
  have HEE : Hid (evC l ps vEq (K + 1) c = (allEv (evC l ps vEq K) c.l).map (cntEv c)) := Lib.hid (by rw [evC, if_neg h0, if_neg h4])
  have HPD := Lib.hid hpd
  have HSP := Lib.hid hsp
  have H3L := Lib.hid h3l
  have HIH := Lib.hid IH
  have HS := Lib.hid hS
  obtain ⟨xs, ys', L, lc, rfl, hns, _, hxa, hxb, hpl⟩ := Cd.at_iff.1 htr
  obtain ⟨A1, n1, rfl, _⟩ := ex_cells hxa
  obtain ⟨B1, n2, rfl, _⟩ := ex_cells hxb
  have hcap := hpl.cap
  have hbyt := hpl.bytes
  have HL := Lib.hid hpl
  have hbw : Below w.heap.size w (w.alloc (.cells #[.string c.name, .int .i8 c.kind, .int .i8 c.a.kind, .string c.a.text, .int .i64 c.a.num, .string c.a.name, .string c.a.attr, .slice A1 c.a.l.length n1, .int .i8 c.b.kind, .string c.b.text, .int .i64 c.b.num, .string c.b.name, .string c.b.attr, .slice B1 c.b.l.length n2, .slice L c.l.length lc] 46)) := (Below.refl _ w).alloc (Nat.le_refl _) _
  have HX0 : Hid (Blk (w.alloc (.cells #[.string c.name, .int .i8 c.kind, .int .i8 c.a.kind, .string c.a.text, .int .i64 c.a.num, .string c.a.name, .string c.a.attr, .slice A1 c.a.l.length n1, .int .i8 c.b.kind, .string c.b.text, .int .i64 c.b.num, .string c.b.name, .string c.b.attr, .slice B1 c.b.l.length n2, .slice L c.l.length lc] 46)) w.heap.size #[.string c.name, .int .i8 c.kind, .int .i8 c.a.kind, .string c.a.text, .int .i64 c.a.num, .string c.a.name, .string c.a.attr, .slice A1 c.a.l.length n1, .int .i8 c.b.kind, .string c.b.text, .int .i64 c.b.num, .string c.b.name, .string c.b.attr, .slice B1 c.b.l.length n2, .slice L c.l.length lc] 46) := Lib.hid (Blk.new _ _ _)
  have HEV0 := Lib.hid (hev.below hbw)
  have HKN0 := Lib.hid hkn
  have HON0 : Hid (Only (F3 b1 b2 b3) w (w.alloc (.cells #[.string c.name, .int .i8 c.kind, .int .i8 c.a.kind, .string c.a.text, .int .i64 c.a.num, .string c.a.name, .string c.a.attr, .slice A1 c.a.l.length n1, .int .i8 c.b.kind, .string c.b.text, .int .i64 c.b.num, .string c.b.name, .string c.b.attr, .slice B1 c.b.l.length n2, .slice L c.l.length lc] 46))) := Lib.hid (Only.of_below hbw _)
  have HNF : Hid (¬ F3 b1 b2 b3 w.heap.size) := Lib.hid (fun e => by
    rcases e with e | e | e
    · have := hev.d1.lt; omega
    · have := hev.d2.lt; omega
    · have := hev.d3.lt; omega)
  have e0 : (c.kind == 0) = false := by rw [beq_eq_false_iff_ne]; exact h0
  have e4 : (c.kind == 4) = false := by rw [beq_eq_false_iff_ne]; exact h4
  have HKD := Lib.hid hkd
  obtain ⟨o, ho⟩ : ∃ o, o = evC l ps vEq (K + 1) c := ⟨_, rfl⟩
  rw [← ho] at HEE ⊢
  clear hdp hsh hev hkn htr hxa hxb hpl hbw h0 h4 hkd hpd h3l hsp IH hS ho
  go_enter Tryz.func53, Tryz.ntmps53
  go_wp2_with fail
  clear e0 e4
  go_loopg [18, 15, 16, 17] c.l.length (fun g i a s b wr => ∃ (j m : Nat) (al so ba : Bool) (dn ys bd : List Bool), j + g = c.l.length ∧ i = .int .i64 (j : Nat) ∧ a = .bool al ∧ s = .bool so ∧ b = .bool ba ∧ m ≤ j ∧ Hid (allEv (evC l ps vEq K) (c.l.take j) = if ba then none else some m) ∧ Hid (ba = false → al = decide (m = j) ∧ so = decide (0 < m)) ∧
    Hid (Ev l ps S A ac PA pc kb b1 b2 b3 dn ys bd wr) ∧ Hid (KnR l ps dn ys bd) ∧ Hid (Only (F3 b1 b2 b3) w wr) ∧ Hid (Blk wr w.heap.size #[.string c.name, .int .i8 c.kind, .int .i8 c.a.kind, .string c.a.text, .int .i64 c.a.num, .string c.a.name, .string c.a.attr, .slice A1 c.a.l.length n1, .int .i8 c.b.kind, .string c.b.text, .int .i64 c.b.num, .string c.b.name, .string c.b.attr, .slice B1 c.b.l.length n2, .slice L c.l.length lc] 46))
  case atStart => exact ⟨0, 0, true, false, false, dn, ys, bd, by omega, rfl, rfl, rfl, rfl, Nat.le_refl _, Lib.hid rfl, Lib.hid (fun _ => ⟨rfl, rfl⟩), HEV0, HKN0, HON0, HX0⟩
  case round =>
    clear HEV0 HKN0 HON0 HX0
    obtain ⟨j, m, al, so, ba, dn, ys, bd, hj, rfl, rfl, rfl, rfl, hmj, HAE, HBA, HEV, HKN, HON, HX⟩ := hrel
    rename World => wo
    obtain ⟨d0, d1, d2, d3, d4, d5, d6, d7, d8, d9, d10, d11, d12, d13, d14⟩ := blk15 HX.out
    cases gk with
    | zero =>
      have hjj : ¬ ((j : Int) < (c.l.length : Int)) := by omega
      have HAE2 : Hid (o = (if ba then none else some m).map (cntEv c)) := Lib.hid (by rw [HEE.out, ← HAE.out, List.take_of_length_le (by omega)])
      rcases HKD.out with hk | hk | hk
      · have e1 : (c.kind == 1) = true := by rw [beq_iff_eq]; exact hk
        have HR : Hid (o = if ba then none else some al) := Lib.hid (by
          rw [HAE2.out]
          cases ba with
          | true => rfl
          | false => rw [(HBA.out rfl).1]; simp only [Bool.false_eq_true, if_false, Option.map_some]; unfold cntEv; rw [if_pos hk, show j = c.l.length by omega])
        clear hk
        go_wp2_with fail
        refine bodyPost_ret (v := .tuple #[.bool al, .bool ba]) (by simp [results, Tryz.results53, go_sem]) rfl ?_
        exact ⟨dn, ys, bd, al, ba, rfl, HEV.out, HKN.out, HON.out, HR.out⟩
      · have e1 : (c.kind == 1) = false := by rw [beq_eq_false_iff_ne]; omega
        have e2 : (c.kind == 2) = true := by rw [beq_iff_eq]; exact hk
        have HR : Hid (o = if ba then none else some so) := Lib.hid (by
          rw [HAE2.out]
          cases ba with
          | true => rfl
          | false => rw [(HBA.out rfl).2]; simp only [Bool.false_eq_true, if_false, Option.map_some]; unfold cntEv; rw [if_neg (by omega), if_pos hk])
        clear hk
        go_wp2_with fail
        refine bodyPost_ret (v := .tuple #[.bool so, .bool ba]) (by simp [results, Tryz.results53, go_sem]) rfl ?_
        exact ⟨dn, ys, bd, so, ba, rfl, HEV.out, HKN.out, HON.out, HR.out⟩
      · have e1 : (c.kind == 1) = false := by rw [beq_eq_false_iff_ne]; omega
        have e2 : (c.kind == 2) = false := by rw [beq_eq_false_iff_ne]; omega
        have hl1 := H3L.out hk
        have HR : Hid (o = if ba then none else some (!al)) := Lib.hid (by
          rw [HAE2.out]
          cases ba with
          | true => rfl
          | false =>
            rw [(HBA.out rfl).1]; simp only [Bool.false_eq_true, if_false, Option.map_some]; unfold cntEv; rw [if_neg (by omega), if_neg (by omega)]
            have hj1 : j = 1 := by omega
            subst hj1
            rcases (by omega : m = 0 ∨ m = 1) with rfl | rfl <;> rfl)
        clear hk hl1
        go_wp2_with fail
        refine bodyPost_ret (v := .tuple #[.bool (!al), .bool ba]) (by simp [results, Tryz.results53, go_sem]) rfl ?_
        exact ⟨dn, ys, bd, !al, ba, rfl, HEV.out, HKN.out, HON.out, HR.out⟩
    | succ g =>
      have hjj : (j : Int) < (c.l.length : Int) := by omega
      have hj0 : (0 : Int) ≤ (j : Int) ∧ (j : Int) < (c.l.length : Int) := by omega
      obtain ⟨p, hp⟩ := get_lt (l := c.l) (i := j) (by omega)
      obtain ⟨ad, pcs, rfl, hpt, hpc⟩ := ((HL.out.only HON.out HS.out)).elem Cd.trlen hp
      have hpm := List.mem_of_getElem? hp
      have HC := Lib.hid (HIH.out p pcs dn ys bd wo (HPD.out p hpm) (HSP.out p hpm) HEV.out HKN.out hpt)
      have HTK := Lib.hid (fun (y b : Bool) (h2 : evC l ps vEq K p = if b then none else some y) => allEv_take hp HAE.out h2)
      obtain ⟨us, vs, L2, lc2, rfl, _, _, hpa, hpb, _⟩ := Cd.at_iff.1 hpt
      obtain ⟨A3, n3, rfl, _⟩ := ex_cells hpa
      obtain ⟨B3, n4, rfl, _⟩ := ex_cells hpb
      obtain ⟨y0, y1, y2, y3, y4, y5, y6, y7, y8, y9, y10, y11, y12, y13, y14⟩ := cel15 hpc
      clear hp hpt hpc hpa hpb hpm
      go_wp2_with fail
      refine HC.out.mono ?_
      rintro e w3 ⟨dn1, ys1, bd1, y, b, rfl, hev1, hkn1, hon1, hoe⟩
      have HEV1 := Lib.hid hev1
      have HKN1 := Lib.hid hkn1
      have HON1 := Lib.hid (HON.out.trans hon1 (fun _ _ h => h))
      have HX1 := Lib.hid (HX.out.only hon1 HNF.out)
      have HAE1 := Lib.hid (HTK.out y b hoe)
      clear hev1 hkn1 hon1 hoe HC HTK HAE HEV HKN HON HX d0 d1 d2 d3 d4 d5 d6 d7 d8 d9 d10 d11 d12 d13 d14 y0 y1 y2 y3 y4 y5 y6 y7 y8 y9 y10 y11 y12 y13 y14
      have hyn : y.toNat ≤ 1 := by cases y <;> simp
      have HBN : Hid ((ba || b) = false → (al && y) = decide (m + y.toNat = j + 1) ∧ (so || y) = decide (0 < m + y.toNat)) := Lib.hid (fun h => by
        simp only [Bool.or_eq_false_iff] at h
        obtain ⟨a1, a2⟩ := HBA.out h.1
        rw [a1, a2]
        cases y with
        | true => 
          refine ⟨?_, ?_⟩
          · rw [Bool.and_true, decide_eq_decide]; simp
          · rw [Bool.or_true]; simp
        | false =>
          refine ⟨?_, ?_⟩
          · rw [Bool.and_false]; exact (decide_eq_false (by simp; omega)).symm
          · rw [Bool.or_false]; simp)
      clear HBA
      cases al <;> cases so <;> cases ba <;>
        (go_wp2_with fail
         go_roundg g
         case measure => omega
         case rel => exact ⟨j + 1, m + y.toNat, _, _, _, dn1, ys1, bd1, by omega, by go_num, rfl, rfl, rfl, by omega, HAE1, HBN, HEV1, HKN1, HON1, HX1⟩)
theorem part_any (hps : ∀ p ∈ ps, CkTxt p.v) (hS : ∀ k, S k → ¬ F3 b1 b2 b3 k) (h12 : b1 ≠ b2) (h13 : b1 ≠ b3) (h23 : b2 ≠ b3) (hl6 : ∀ d ∈ l, ∃ j, cShape j d = true ∧ cTx j d) (K : Nat) : PartC l ps S A ac PA pc kb b1 b2 b3 K := by
  induction K with
  | zero => intro c cs dn ys bd w h; exact h.elim
  | succ K ih =>
    intro c cs dn ys bd w hdp hsh hev hkn htr
    by_cases h0 : c.kind = 0
    · exact part_eq K hps c cs dn ys bd w hdp hsh hev hkn htr h0
    · by_cases h4 : c.kind = 4
      · exact part_nm K hS h12 h13 h23 hl6 ih c cs dn ys bd w hdp hev hkn htr h4
      · exact part_ls K hS ih c cs dn ys bd w hdp hsh hev hkn htr h0 h4
end
end Go.Proofs.YtmljdppdaaoehaaGreatDoor

/- hoardingref15.Check: the walk. -/
namespace Go.Proofs.YtmljdppdaaoehaaGreatDoor
open Go.RowKit
set_option linter.unusedVariables false
set_option linter.unusedSimpArgs false
set_option maxRecDepth 100000
theorem cTx_le : ∀ {j k : Nat} {c : Cd}, j ≤ k → cTx k c → cTx j c
  | 0, _, _, _, _ => trivial
  | j + 1, 0, _, h, _ => by omega
  | j + 1, k + 1, c, h, ht => ⟨ht.1, ht.2.1, fun p hp => cTx_le (by omega) (ht.2.2 p hp)⟩
def sAny (ns L : List ByteArray) : Bool := L.any fun s => !sHas s ns
def nAny (l : List Cd) (L : List ByteArray) : Bool := L.any fun s => !(plAt l s).isSome
theorem isLost_eq (l : List Cd) (ns : List ByteArray) (c : Cd) : isLost l ns c = (sAny ns (cPs 20 c) || nAny l (names c)) := by
  unfold isLost sAny nAny
  congr 1
  rw [Bool.eq_iff_iff, List.any_eq_true, List.any_eq_true]
  exact ⟨fun ⟨x, h, h2⟩ => ⟨x, mem_prms.1 h, h2⟩, fun ⟨x, h, h2⟩ => ⟨x, mem_prms.2 h, h2⟩⟩
theorem sAny_drop {ns L : List ByteArray} {j : Nat} {s : ByteArray} (h : L[j]? = some s) : sAny ns (L.drop j) = (!sHas s ns || sAny ns (L.drop (j + 1))) := by rw [drop_cons h]; rfl
theorem nAny_drop {l : List Cd} {L : List ByteArray} {j : Nat} {s : ByteArray} (h : L[j]? = some s) : nAny l (L.drop j) = (!(plAt l s).isSome || nAny l (L.drop (j + 1))) := by rw [drop_cons h]; rfl
theorem plI_neg (l : List Cd) (s : ByteArray) : decide (plI l s < 0) = !(plAt l s).isSome := by
  unfold plI
  cases plAt l s with
  | none => rfl
  | some q => simp
theorem rnames_len {c : Cd} (h : (cNm 20 c).length ≤ 1000000) : (names c).length ≤ 1000000 := by
  have := foldT_len (cNm 20 c) []
  unfold names
  simp only [List.length_nil, Nat.zero_add] at this
  omega
set_option maxHeartbeats 16000000 in
theorem rcheck_any (S : Nat → Prop) (A : Option Addr) (ac : Nat) (l : List Cd) (NA : Option Addr) (nc : Nat) (ns : List ByteArray) (w : World) (hls : Ls S w 15 224 Cd.tr A ac l) (hns : Ss S w NA nc ns) (hl : l.length ≤ 1000) (hok : CsOk l) (htx : ∀ c ∈ l, cTx 20 c) :
    Calls Tryz.prog 23 #[.slice A l.length ac, .slice NA ns.length nc] w fun e w' => e = .returned (.int .i64 (csCheck l ns : Nat)) ∧ Below w.heap.size w w' := by
  have HLS := Lib.hid hls
  have HNS := Lib.hid hns
  have HOK := Lib.hid hok
  have HTX := Lib.hid htx
  have hcap := hls.cap
  have hbyt := hls.bytes
  have hcap2 := hns.cap
  have hbyt2 := hns.bytes
  have H3 : Hid (6 < l.length → csCheck l ns = 3) := Lib.hid (fun h => by unfold csCheck; rw [if_pos h])
  have HG0 : Hid (¬ 6 < l.length → ∀ e, ckGo l ns 0 l = some e → csCheck l ns = e) := Lib.hid (fun h e he => by unfold csCheck; rw [if_neg h, he])
  have HN0 : Hid (¬ 6 < l.length → ckGo l ns 0 l = none → csCheck l ns = if isCirc l = true then 150 else 0) := Lib.hid (fun h he => by
    unfold csCheck; rw [if_neg h, he]; unfold isCirc
    by_cases hc : circ l = []
    · simp [hc]
    · simp [hc])
  obtain ⟨r, hr⟩ : ∃ r, r = csCheck l ns := ⟨_, rfl⟩
  rw [← hr] at H3 HG0 HN0 ⊢
  clear hls hns hok htx hr
  by_cases h6 : 6 < l.length
  · have h6i : (6 : Int) < (l.length : Int) := by omega
    have HE := Lib.hid (H3.out h6)
    clear H3 HG0 HN0 h6
    go_enter Tryz.func23, Tryz.ntmps23
    go_wp2_with fail
    go_ret
    exact ⟨by rw [HE.out]; rfl, Below.refl _ _⟩
  have h6i : ¬ (6 : Int) < (l.length : Int) := by omega
  have HG := Lib.hid (HG0.out h6)
  have HN := Lib.hid (HN0.out h6)
  clear H3 HG0 HN0 h6
  go_enter Tryz.func23, Tryz.ntmps23
  go_wp2_with fail
  clear h6i
  go_loopg [5] l.length (fun g i wr => ∃ j : Nat, j + g = l.length ∧ i = .int .i64 (j : Nat) ∧ Hid (ckGo l ns 0 l = ckGo l ns j (l.drop j)) ∧ Hid (Below w.heap.size w wr))
  case atStart => exact ⟨0, by omega, rfl, Lib.hid rfl, Lib.hid (Below.refl _ _)⟩
  case round =>
    obtain ⟨j, hj, rfl, HJ, HB⟩ := hrel
    rename World => wo
    cases gk with
    | zero =>
      have hjj : ¬ ((j : Int) < (l.length : Int)) := by omega
      have HE0 := Lib.hid (HN.out (by rw [HJ.out, List.drop_of_length_le (by omega)]; rfl))
      have HC := Lib.hid (rcirc_any S A ac l wo (HLS.out.below HB.out) hl HOK.out)
      obtain ⟨b, hb⟩ : ∃ b, b = isCirc l := ⟨_, rfl⟩
      rw [← hb] at HE0 HC
      clear hb
      go_wp2_with fail
      refine HC.out.mono ?_
      rintro e w2 ⟨OA, n, oc, rfl, hb2, hbn, hn⟩
      have HB2 := Lib.hid (HB.out.trans (hb2.mono HB.out.size))
      clear hb2
      cases b with
      | true =>
        have hn0 : (0 : Int) < (n : Int) := by have := of_decide_eq_true hbn.symm; omega
        have HE : Hid (r = 150) := Lib.hid (by rw [HE0.out]; rfl)
        clear hbn
        go_wp2_with fail
        go_ret
        exact ⟨by rw [HE.out]; rfl, HB2.out⟩
      | false =>
        have hn0 : ¬ (0 : Int) < (n : Int) := by have := of_decide_eq_false hbn.symm; omega
        have HE : Hid (r = 0) := Lib.hid (by rw [HE0.out]; rfl)
        clear hbn
        go_wp2_with fail
        go_ret
        exact ⟨by rw [HE.out]; rfl, HB2.out⟩
    | succ g =>
      have hjj : (j : Int) < (l.length : Int) := by omega
      have hj0 : (0 : Int) ≤ (j : Int) ∧ (j : Int) < (l.length : Int) := by omega
      obtain ⟨c, hc⟩ := get_lt (l := l) (i := j) (by omega)
      obtain ⟨ad, cs, rfl, hct, hcc⟩ := (HLS.out.below HB.out).elem Cd.trlen hc
      have hcm := List.mem_of_getElem? hc
      obtain ⟨hd, hlen, hlenp⟩ := HOK.out c hcm
      have HDR : Hid (ckGo l ns j (l.drop j) = (ckAt l ns j c).or (ckGo l ns (j + 1) (l.drop (j + 1)))) := Lib.hid (ckGo_drop hc)
      have HT := Lib.hid (HTX.out c hcm)
      obtain ⟨xs, ys, L, lc, rfl, hns, _, hxa, hxb, hpl⟩ := Cd.at_iff.1 hct
      obtain ⟨A1, n1, rfl, _⟩ := ex_cells hxa
      obtain ⟨B1, n2, rfl, _⟩ := ex_cells hxb
      have HCT := Lib.hid hct
      have hbw : Below wo.heap.size wo (wo.alloc (.cells #[.string c.name, .int .i8 c.kind, .int .i8 c.a.kind, .string c.a.text, .int .i64 c.a.num, .string c.a.name, .string c.a.attr, .slice A1 c.a.l.length n1, .int .i8 c.b.kind, .string c.b.text, .int .i64 c.b.num, .string c.b.name, .string c.b.attr, .slice B1 c.b.l.length n2, .slice L c.l.length lc] 46)) := (Below.refl _ wo).alloc (Nat.le_refl _) _
      have HBW := Lib.hid (HB.out.trans (hbw.mono HB.out.size))
      have HW0 := Lib.hid hbw
      have HX : Hid (Blk (wo.alloc (.cells #[.string c.name, .int .i8 c.kind, .int .i8 c.a.kind, .string c.a.text, .int .i64 c.a.num, .string c.a.name, .string c.a.attr, .slice A1 c.a.l.length n1, .int .i8 c.b.kind, .string c.b.text, .int .i64 c.b.num, .string c.b.name, .string c.b.attr, .slice B1 c.b.l.length n2, .slice L c.l.length lc] 46)) wo.heap.size #[.string c.name, .int .i8 c.kind, .int .i8 c.a.kind, .string c.a.text, .int .i64 c.a.num, .string c.a.name, .string c.a.attr, .slice A1 c.a.l.length n1, .int .i8 c.b.kind, .string c.b.text, .int .i64 c.b.num, .string c.b.name, .string c.b.attr, .slice B1 c.b.l.length n2, .slice L c.l.length lc] 46) := Lib.hid (Blk.new _ _ _)
      have HAT := Lib.hid (rat_any S (some ad) ac l c.name (wo.alloc (.cells #[.string c.name, .int .i8 c.kind, .int .i8 c.a.kind, .string c.a.text, .int .i64 c.a.num, .string c.a.name, .string c.a.attr, .slice A1 c.a.l.length n1, .int .i8 c.b.kind, .string c.b.text, .int .i64 c.b.num, .string c.b.name, .string c.b.attr, .slice B1 c.b.l.length n2, .slice L c.l.length lc] 46)) (HLS.out.below HBW.out))
      obtain ⟨c0, c1, c2, c3, c4, c5, c6, c7, c8, c9, c10, c11, c12, c13, c14⟩ := cel15 hcc
      have hPN := plI_ne (l := l) (s := c.name) (j := j)
      have HD := Lib.hid hd
      have HLEN := Lib.hid hlen
      have HLENP := Lib.hid hlenp
      clear hc hct hcc hcm hxa hxb hpl hbw hd hlen hlenp
      by_cases hq : plAt l c.name = some j
      case neg =>
        have e1 : (plI l c.name != (j : Int)) = true := by rw [hPN, decide_eq_false hq]; rfl
        have HE : Hid (r = 41) := Lib.hid (HG.out 41 (by rw [HJ.out, HDR.out]; unfold ckAt; rw [if_pos hq]; rfl))
        clear hq hPN
        go_wp2_with fail
        refine HAT.out.mono ?_
        rintro e w2 ⟨rfl, rfl⟩
        go_wp2_with fail
        go_ret
        exact ⟨by rw [HE.out]; rfl, HBW.out⟩
      have e1 : (plI l c.name != (j : Int)) = false := by rw [hPN, decide_eq_true hq]; rfl
      have HNA := Lib.hid (rnam_any c.name hns (wo.alloc (.cells #[.string c.name, .int .i8 c.kind, .int .i8 c.a.kind, .string c.a.text, .int .i64 c.a.num, .string c.a.name, .string c.a.attr, .slice A1 c.a.l.length n1, .int .i8 c.b.kind, .string c.b.text, .int .i64 c.b.num, .string c.b.name, .string c.b.attr, .slice B1 c.b.l.length n2, .slice L c.l.length lc] 46)))
      obtain ⟨b, hb⟩ : ∃ b, b = isName c.name := ⟨_, rfl⟩
      rw [← hb] at HNA
      cases b with
      | false =>
        have HE : Hid (r = 150) := Lib.hid (HG.out 150 (by rw [HJ.out, HDR.out]; unfold ckAt; rw [if_neg (by simpa using hq), if_pos hb.symm]; rfl))
        clear hq hPN hb
        go_wp2_with fail
        refine HAT.out.mono ?_
        rintro e w2 ⟨rfl, rfl⟩
        obtain ⟨x0, x1, x2, x3, x4, x5, x6, x7, x8, x9, x10, x11, x12, x13, x14⟩ := blk15 HX.out
        go_wp2_with fail
        refine HNA.out.mono ?_
        rintro e w2 ⟨rfl, rfl⟩
        go_wp2_with fail
        go_ret
        exact ⟨by rw [HE.out]; rfl, HBW.out⟩
      | true =>
      by_cases h4 : c.kind = 4
      · have e4 : (c.kind == 4) = true := by simpa using h4
        have HE : Hid (r = 150) := Lib.hid (HG.out 150 (by rw [HJ.out, HDR.out]; unfold ckAt; rw [if_neg (by simpa using hq), if_neg (by rw [← hb]; simp), if_pos h4]; rfl))
        clear hq hPN hb h4
        go_wp2_with fail
        refine HAT.out.mono ?_
        rintro e w2 ⟨rfl, rfl⟩
        obtain ⟨x0, x1, x2, x3, x4, x5, x6, x7, x8, x9, x10, x11, x12, x13, x14⟩ := blk15 HX.out
        go_wp2_with fail
        refine HNA.out.mono ?_
        rintro e w2 ⟨rfl, rfl⟩
        go_wp2_with fail
        go_ret
        exact ⟨by rw [HE.out]; rfl, HBW.out⟩
      have e4 : (c.kind == 4) = false := by simpa using h4
      have HSH := Lib.hid (rs_any 6 (by omega) S c _ (wo.alloc (.cells #[.string c.name, .int .i8 c.kind, .int .i8 c.a.kind, .string c.a.text, .int .i64 c.a.num, .string c.a.name, .string c.a.attr, .slice A1 c.a.l.length n1, .int .i8 c.b.kind, .string c.b.text, .int .i64 c.b.num, .string c.b.name, .string c.b.attr, .slice B1 c.b.l.length n2, .slice L c.l.length lc] 46)) (cTx_le (by omega) HT.out) (HCT.out.below HW0.out))
      obtain ⟨b2, hb2⟩ : ∃ b2, b2 = cShape 6 c := ⟨_, rfl⟩
      rw [← hb2] at HSH
      have HCK : Hid (ckAt l ns j c = if b2 = false then some 150 else if isLost l ns c = true then some 150 else none) := Lib.hid (by
        unfold ckAt; rw [if_neg (by simpa using hq), if_neg (by rw [← hb]; simp), if_neg h4, ← hb2])
      have HB2 := Lib.hid hb2
      clear hq hPN hb h4 hb2
      go_wp2_with fail
      refine HAT.out.mono ?_
      rintro e w2 ⟨rfl, rfl⟩
      obtain ⟨x0, x1, x2, x3, x4, x5, x6, x7, x8, x9, x10, x11, x12, x13, x14⟩ := blk15 HX.out
      go_wp2_with fail
      refine HNA.out.mono ?_
      rintro e w2 ⟨rfl, rfl⟩
      go_wp2_with fail
      refine HSH.out.mono ?_
      rintro e w3 ⟨rfl, hb3⟩
      have HB3 := Lib.hid (HBW.out.trans (hb3.mono HBW.out.size))
      have HX3 := Lib.hid (HX.out.below hb3)
      have HW3 := Lib.hid (HW0.out.trans (hb3.mono HW0.out.size))
      clear hb3 HAT HNA HSH c0 c1 c2 c3 c4 c5 c6 c7 c8 c9 c10 c11 c12 c13 c14 HX HBW
      clear x0 x1 x2 x3 x4 x5 x6 x7 x8 x9 x10 x11 x12 x13 x14
      have HX := HX3
      clear HX3
      cases b2 with
      | false =>
        have HE : Hid (r = 150) := Lib.hid (HG.out 150 (by rw [HJ.out, HDR.out, HCK.out]; rfl))
        go_wp2_with fail
        go_ret
        exact ⟨by rw [HE.out]; rfl, HB3.out⟩
      | true =>
      have hrp : rPs 20 c = cPs 20 c := rPs_shape 6 20 c (by omega) HB2.out.symm
      have hP := ps_any 20 S c _ w3 HD.out (HCT.out.below HW3.out) (by rw [hrp]; have := HLENP.out; omega)
      have HCL : Hid (ckAt l ns j c = if (sAny ns (rPs 20 c) || nAny l (names c)) = true then some 150 else none) := Lib.hid (by rw [HCK.out, isLost_eq, hrp]; rfl)
      obtain ⟨P, hPP⟩ : ∃ P, P = rPs 20 c := ⟨_, rfl⟩
      rw [← hPP] at hP HCL
      have HP := Lib.hid hP
      have HLD : Hid (P.length ≤ 1000000) := Lib.hid (by rw [hPP, hrp]; have := HLENP.out; omega)
      clear hrp hP hPP HCK HB2
      obtain ⟨x0, x1, x2, x3, x4, x5, x6, x7, x8, x9, x10, x11, x12, x13, x14⟩ := blk15 HX.out
      go_wp2_with fail
      refine HP.out.mono ?_
      rintro e w4 ⟨PA, pc, rfl, hpo, hpb, _⟩
      have HPO := Lib.hid hpo.rd
      have hpcap := hpo.cap
      have hpl := HLD.out
      have HB4 := Lib.hid (HB3.out.trans (hpb.mono HB3.out.size))
      have HX4 := Lib.hid (HX.out.below hpb)
      have HW4 := Lib.hid (HW3.out.trans (hpb.mono HW3.out.size))
      have HS0 : Hid (sAny ns P = sAny ns (P.drop 0)) := Lib.hid rfl
      clear hpo hpb HP HX HB3 HW3
      clear x0 x1 x2 x3 x4 x5 x6 x7 x8 x9 x10 x11 x12 x13 x14
      go_wp2_with fail
      go_loopg [8] P.length (fun g i wr => ∃ m : Nat, m + g = P.length ∧ i = .int .i64 (m : Nat) ∧ Hid (sAny ns P = sAny ns (P.drop m)) ∧ Hid (wr = w4))
      case atStart => exact ⟨0, by omega, rfl, HS0, Lib.hid rfl⟩
      case round =>
        obtain ⟨m, hm, rfl, HSJ, HWR⟩ := hrel
        have hwr := HWR.out
        subst hwr
        rename World => wp
        cases gk with
        | succ g2 =>
          have hmm : (m : Int) < (P.length : Int) := by omega
          have hm0 : (0 : Int) ≤ (m : Int) ∧ (m : Int) < (P.length : Int) := by omega
          obtain ⟨y, hy⟩ := get_lt (l := P) (i := m) (by omega)
          obtain ⟨nd, rfl, hcy⟩ := HPO.out.at_ m (.string y) (by simp [hy])
          have HH := Lib.hid (rhas_any NA nc ns y wp ((HNS.out.below HB4.out).strs).1)
          have HSD := Lib.hid (sAny_drop (ns := ns) hy)
          obtain ⟨b, hb⟩ : ∃ b, b = sHas y ns := ⟨_, rfl⟩
          rw [← hb] at HH HSD
          clear hy hb
          go_wp2_with fail
          refine HH.out.mono ?_
          rintro e w5 ⟨rfl, rfl⟩
          cases b with
          | false =>
            have HE : Hid (r = 150) := Lib.hid (HG.out 150 (by rw [HJ.out, HDR.out, HCL.out, HSJ.out, HSD.out]; rfl))
            go_wp2_with fail
            go_ret
            exact ⟨by rw [HE.out]; rfl, HB4.out⟩
          | true =>
            go_wp2_with fail
            go_roundg g2
            case measure => omega
            case rel => exact ⟨m + 1, by omega, by go_num, Lib.hid (by rw [HSJ.out, HSD.out]; rfl), Lib.hid rfl⟩
        | zero =>
          have hmm : ¬ ((m : Int) < (P.length : Int)) := by omega
          have HCL2 : Hid (ckAt l ns j c = if nAny l (names c) = true then some 150 else none) := Lib.hid (by rw [HCL.out, HSJ.out, List.drop_of_length_le (by omega)]; rfl)
          have HNM := Lib.hid (rnames_any S c _ wp HD.out (HCT.out.below HW4.out) (by have := HLEN.out; omega))
          obtain ⟨x0, x1, x2, x3, x4, x5, x6, x7, x8, x9, x10, x11, x12, x13, x14⟩ := blk15 HX4.out
          obtain ⟨N, hN⟩ : ∃ N, N = names c := ⟨_, rfl⟩
          have HNL : Hid (N.length ≤ 1000000) := Lib.hid (by rw [hN]; exact rnames_len (by have := HLEN.out; omega))
          rw [← hN] at HNM HCL2
          clear hN HCL HSJ HS0
          go_wp2_with fail
          refine HNM.out.mono ?_
          rintro e w5 ⟨MA, mc, rfl, hno, hnb, _⟩
          have HNO := Lib.hid hno.rd
          have hncap := hno.cap
          have hnl := HNL.out
          have HB5 := Lib.hid (HB4.out.trans (hnb.mono HB4.out.size))
          have HN0 : Hid (nAny l N = nAny l (N.drop 0)) := Lib.hid rfl
          clear hno hnb HNM hmm hm
          clear x0 x1 x2 x3 x4 x5 x6 x7 x8 x9 x10 x11 x12 x13 x14
          go_wp2_with fail
          go_loopg [10] N.length (fun g i wr => ∃ m : Nat, m + g = N.length ∧ i = .int .i64 (m : Nat) ∧ Hid (nAny l N = nAny l (N.drop m)) ∧ Hid (wr = w5))
          case atStart => exact ⟨0, by omega, rfl, HN0, Lib.hid rfl⟩
          case round =>
            obtain ⟨m, hm, rfl, HSJ, HWR⟩ := hrel
            have hwr := HWR.out
            subst hwr
            rename World => wq
            cases gk with
            | succ g2 =>
              have hmm : (m : Int) < (N.length : Int) := by omega
              have hm0 : (0 : Int) ≤ (m : Int) ∧ (m : Int) < (N.length : Int) := by omega
              obtain ⟨y, hy⟩ := get_lt (l := N) (i := m) (by omega)
              obtain ⟨nd, rfl, hcy⟩ := HNO.out.at_ m (.string y) (by simp [hy])
              have HH := Lib.hid (rat_any S (some ad) ac l y wq (HLS.out.below HB5.out))
              have HSD := Lib.hid (nAny_drop (l := l) hy)
              have hpn := plI_neg l y
              obtain ⟨b, hb⟩ : ∃ b, b = (plAt l y).isSome := ⟨_, rfl⟩
              rw [← hb] at hpn HSD
              obtain ⟨q, hq⟩ : ∃ q, q = plI l y := ⟨_, rfl⟩
              rw [← hq] at HH hpn
              clear hy hb hq
              cases b with
              | false =>
                have hq0 : q < 0 := of_decide_eq_true hpn
                have HE : Hid (r = 150) := Lib.hid (HG.out 150 (by rw [HJ.out, HDR.out, HCL2.out, HSJ.out, HSD.out]; rfl))
                clear hpn
                go_wp2_with fail
                refine HH.out.mono ?_
                rintro e w6 ⟨rfl, rfl⟩
                go_wp2_with fail
                go_ret
                exact ⟨by rw [HE.out]; rfl, HB5.out⟩
              | true =>
                have hq0 : ¬ q < 0 := of_decide_eq_false hpn
                clear hpn
                go_wp2_with fail
                refine HH.out.mono ?_
                rintro e w6 ⟨rfl, rfl⟩
                go_wp2_with fail
                go_roundg g2
                case measure => omega
                case rel => exact ⟨m + 1, by omega, by go_num, Lib.hid (by rw [HSJ.out, HSD.out]; rfl), Lib.hid rfl⟩
            | zero =>
              have hmm : ¬ ((m : Int) < (N.length : Int)) := by omega
              have HNX : Hid (ckGo l ns 0 l = ckGo l ns (j + 1) (l.drop (j + 1))) := Lib.hid (by rw [HJ.out, HDR.out, HCL2.out, HSJ.out, List.drop_of_length_le (by omega)]; rfl)
              go_wp2_with fail
              go_roundg g
              case measure => omega
              case rel => exact ⟨j + 1, by omega, by go_num, HNX, HB5⟩
end Go.Proofs.YtmljdppdaaoehaaGreatDoor

/- hoardingref15.Run: the walk. -/
namespace Go.Proofs.YtmljdppdaaoehaaGreatDoor
open Go.RowKit
set_option linter.unusedVariables false
set_option linter.unusedSimpArgs false
set_option maxRecDepth 100000
theorem info_boo : (Tryz.prog.info? 4).map (fun i => (i.zero, i.size, i.bytes)) = some (some (.bool false), 1, 1) := by kernel_rfl
theorem made_cBo (n : Nat) : madeCells #[.bool false] n = (cBo (List.replicate n false)).toArray := by
  apply Array.ext
  · simp [madeCells, cBo]
  · intro i h1 h2
    simp [madeCells, cBo, Nat.mod_one]
theorem make_cBo (n : Nat) (h : n ≤ 1000000) (w : World) : (Instr.makeSlice 65 (.int .i64 (n : Int)) (.int .i64 (n : Int))).run Tryz.prog w = .ok (.slice (some ⟨w.heap.size, 0, none⟩) n n) (w.alloc (.cells (cBo (List.replicate n false)).toArray 4)) := by
  have := run_make_row' (P := Tryz.prog) 65 4 (.bool false) 1 Tryz.underlying65 info_boo rfl .i64 .i64 n (by omega) (by omega) w
  rw [made_cBo] at this
  exact this
/-- the three rows and what points at them, new -/
theorem ev_new {l : List Cd} {ps : List Gv} {S : Nat → Prop} {A : Option Addr} {ac : Nat} {PA : Option Addr} {pc b1 b2 b3 : Nat} {w : World} (hls : Ls S w 15 224 Cd.tr A ac l) (hps : Ls S w 8 104 Gv.tr PA pc ps)
    (h1 : b1 = w.heap.size ∨ b1 = w.heap.size + 1 ∨ b1 = w.heap.size + 2) (h2 : b2 = w.heap.size ∨ b2 = w.heap.size + 1 ∨ b2 = w.heap.size + 2) (h3 : b3 = w.heap.size ∨ b3 = w.heap.size + 1 ∨ b3 = w.heap.size + 2) :
    Below w.heap.size w ((((w.alloc (.cells (cBo (List.replicate l.length false)).toArray 4)).alloc (.cells (cBo (List.replicate l.length false)).toArray 4)).alloc (.cells (cBo (List.replicate l.length false)).toArray 4)).alloc (.cells #[.slice (some ⟨b1, 0, none⟩) l.length l.length, .slice (some ⟨b2, 0, none⟩) l.length l.length, .slice (some ⟨b3, 0, none⟩) l.length l.length] 67)) ∧ Ev l ps S A ac PA pc (w.heap.size + 3) b1 b2 b3 (List.replicate l.length false) (List.replicate l.length false) (List.replicate l.length false) ((((w.alloc (.cells (cBo (List.replicate l.length false)).toArray 4)).alloc (.cells (cBo (List.replicate l.length false)).toArray 4)).alloc (.cells (cBo (List.replicate l.length false)).toArray 4)).alloc (.cells #[.slice (some ⟨b1, 0, none⟩) l.length l.length, .slice (some ⟨b2, 0, none⟩) l.length l.length, .slice (some ⟨b3, 0, none⟩) l.length l.length] 67)) := by
  have e1 : (w.alloc (.cells (cBo (List.replicate l.length false)).toArray 4)).heap.size = w.heap.size + 1 := by simp
  have e2 : ((w.alloc (.cells (cBo (List.replicate l.length false)).toArray 4)).alloc (.cells (cBo (List.replicate l.length false)).toArray 4)).heap.size = w.heap.size + 2 := by simp
  have e3 : (((w.alloc (.cells (cBo (List.replicate l.length false)).toArray 4)).alloc (.cells (cBo (List.replicate l.length false)).toArray 4)).alloc (.cells (cBo (List.replicate l.length false)).toArray 4)).heap.size = w.heap.size + 3 := by simp
  have hb : Below w.heap.size w ((((w.alloc (.cells (cBo (List.replicate l.length false)).toArray 4)).alloc (.cells (cBo (List.replicate l.length false)).toArray 4)).alloc (.cells (cBo (List.replicate l.length false)).toArray 4)).alloc (.cells #[.slice (some ⟨b1, 0, none⟩) l.length l.length, .slice (some ⟨b2, 0, none⟩) l.length l.length, .slice (some ⟨b3, 0, none⟩) l.length l.length] 67)) := ((((Below.refl _ w).alloc (Nat.le_refl _) _).alloc (by rw [e1]; omega) _).alloc (by rw [e2]; omega) _).alloc (by rw [e3]; omega) _
  have hk : ∀ b, (b = w.heap.size ∨ b = w.heap.size + 1 ∨ b = w.heap.size + 2) → Blk ((((w.alloc (.cells (cBo (List.replicate l.length false)).toArray 4)).alloc (.cells (cBo (List.replicate l.length false)).toArray 4)).alloc (.cells (cBo (List.replicate l.length false)).toArray 4)).alloc (.cells #[.slice (some ⟨b1, 0, none⟩) l.length l.length, .slice (some ⟨b2, 0, none⟩) l.length l.length, .slice (some ⟨b3, 0, none⟩) l.length l.length] 67)) b (cBo (List.replicate l.length false)).toArray 4 := fun b h => by
    rcases h with rfl | rfl | rfl
    · exact (((Blk.new _ _ _).alloc _).alloc _).alloc _
    · have := Blk.new (w.alloc (.cells (cBo (List.replicate l.length false)).toArray 4)) (cBo (List.replicate l.length false)).toArray 4
      rw [e1] at this
      exact (this.alloc _).alloc _
    · have := Blk.new ((w.alloc (.cells (cBo (List.replicate l.length false)).toArray 4)).alloc (.cells (cBo (List.replicate l.length false)).toArray 4)) (cBo (List.replicate l.length false)).toArray 4
      rw [e2] at this
      exact this.alloc _
  refine ⟨hb, hls.below hb, hps.below hb, ?_, hk _ h1, hk _ h2, hk _ h3, by simp, by simp, by simp⟩
  have := Blk.new (((w.alloc (.cells (cBo (List.replicate l.length false)).toArray 4)).alloc (.cells (cBo (List.replicate l.length false)).toArray 4)).alloc (.cells (cBo (List.replicate l.length false)).toArray 4)) #[.slice (some ⟨b1, 0, none⟩) l.length l.length, .slice (some ⟨b2, 0, none⟩) l.length l.length, .slice (some ⟨b3, 0, none⟩) l.length l.length] 67
  rwa [e3] at this
theorem Ev.only' {l : List Cd} {ps : List Gv} {S : Nat → Prop} {A : Option Addr} {ac : Nat} {PA : Option Addr} {pc kb b1 b2 b3 : Nat} {dn ys bd : List Bool} {w w' : World} {F : Nat → Prop} (h : Ev l ps S A ac PA pc kb b1 b2 b3 dn ys bd w) (ho : Only F w w') (hS : ∀ k, S k → ¬ F k) (hk : ¬ F kb) (h1 : ¬ F b1) (h2 : ¬ F b2) (h3 : ¬ F b3) : Ev l ps S A ac PA pc kb b1 b2 b3 dn ys bd w' :=
  ⟨h.ls.only ho hS, h.pr.only ho hS, h.bx.only ho hk, h.d1.only ho h1, h.d2.only ho h2, h.d3.only ho h3, h.l1, h.l2, h.l3⟩
theorem ev_cut {l : List Cd} {ps : List Gv} {S : Nat → Prop} {A : Option Addr} {ac : Nat} {PA : Option Addr} {pc : Nat} {w : World} (hls : Ls S w 15 224 Cd.tr A ac l) (hps : Ls S w 8 104 Gv.tr PA pc ps) (b1 b2 b3 : Nat)
    (h1 : b1 = w.heap.size ∨ b1 = w.heap.size + 1 ∨ b1 = w.heap.size + 2) (h2 : b2 = w.heap.size ∨ b2 = w.heap.size + 1 ∨ b2 = w.heap.size + 2) (h3 : b3 = w.heap.size ∨ b3 = w.heap.size + 1 ∨ b3 = w.heap.size + 2) (n1 : b1 ≠ b2) (n2 : b1 ≠ b3) (n3 : b2 ≠ b3) :
    ∃ kb c1 c2 c3 : Nat, Value.pointer (some ⟨w.heap.size + 1 + 1 + 1, 0, none⟩) = .pointer (some ⟨kb, 0, none⟩) ∧ w.heap.size ≤ c1 ∧ w.heap.size ≤ c2 ∧ w.heap.size ≤ c3 ∧ c1 ≠ c2 ∧ c1 ≠ c3 ∧ c2 ≠ c3 ∧ Hid (Below w.heap.size w ((((w.alloc (.cells (cBo (List.replicate l.length false)).toArray 4)).alloc (.cells (cBo (List.replicate l.length false)).toArray 4)).alloc (.cells (cBo (List.replicate l.length false)).toArray 4)).alloc (.cells #[.slice (some ⟨b1, 0, none⟩) l.length l.length, .slice (some ⟨b2, 0, none⟩) l.length l.length, .slice (some ⟨b3, 0, none⟩) l.length l.length] 67)).drew) ∧
      Hid (Ev l ps S A ac PA pc kb c1 c2 c3 (List.replicate l.length false) (List.replicate l.length false) (List.replicate l.length false) ((((w.alloc (.cells (cBo (List.replicate l.length false)).toArray 4)).alloc (.cells (cBo (List.replicate l.length false)).toArray 4)).alloc (.cells (cBo (List.replicate l.length false)).toArray 4)).alloc (.cells #[.slice (some ⟨b1, 0, none⟩) l.length l.length, .slice (some ⟨b2, 0, none⟩) l.length l.length, .slice (some ⟨b3, 0, none⟩) l.length l.length] 67)).drew) := by
  obtain ⟨g1, g2⟩ := ev_new (A := A) (ac := ac) (PA := PA) (pc := pc) hls hps h1 h2 h3
  exact ⟨_, b1, b2, b3, rfl, by omega, by omega, by omega, n1, n2, n3, Lib.hid g1.drew, Lib.hid (g2.below (Below.refl _ _).drew)⟩
theorem knr_new {l : List Cd} {ps : List Gv} {n : Nat} {ys bd : List Bool} : KnR l ps (List.replicate n false) ys bd := fun i d hi => by
  rw [List.getElem?_replicate] at hi
  split at hi <;> cases hi
set_option maxHeartbeats 16000000 in
theorem rrun_any (S : Nat → Prop) (A : Option Addr) (ac : Nat) (l : List Cd) (PA : Option Addr) (pc : Nat) (ps : List Gv) (K : Nat) (w : World) (hpx : ∀ p ∈ ps, CkTxt p.v) (hls : Ls S w 15 224 Cd.tr A ac l) (hps : Ls S w 8 104 Gv.tr PA pc ps) (hpl : ps.length ≤ 1000000) (hl : l.length ≤ 1000) (hok : CsOk l) (htx : ∀ c ∈ l, cTx 20 c)
    (hdp : csCheck l (gNames ps) = 0 → ∀ c ∈ l, Dp l ps vSmall K c) :
    Calls Tryz.prog 9 #[.slice A l.length ac, .slice PA ps.length pc] w (RunOut (runOf l ps vEq K) w) := by
  have hcap := hls.cap
  have hbyt := hls.bytes
  have hcap2 := hps.cap
  have hbyt2 := hps.bytes
  have HLS := Lib.hid hls.bound
  have HPS := Lib.hid hps.bound
  have HOK := Lib.hid hok
  have HTX := Lib.hid htx
  have HPX := Lib.hid hpx
  have HDP := Lib.hid hdp
  have HSH : Hid (csCheck l (gNames ps) = 0 → ∀ d ∈ l, ∃ j, cShape j d = true ∧ cTx j d) := Lib.hid (fun h d hd => ⟨6, ((chk_iff.1 h).2.2.1 d hd).2.2.1, cTx_le (by omega) (htx d hd)⟩)
  obtain ⟨ro, hro⟩ : ∃ ro, ro = runOf l ps vEq K := ⟨_, rfl⟩
  rw [← hro]
  have HROE := Lib.hid hro
  clear hls hps hok htx hpx hdp hro
  go_enter Tryz.func9, Tryz.ntmps9
  go_wp2_with fail
  go_loopg [7, 6] ps.length (fun g i v wr => ∃ (j : Nat) (NA : Option Addr) (nc : Nat), j + g = ps.length ∧ i = .int .i64 (j : Nat) ∧ v = .slice NA j nc ∧ Hid (Ow wr w.heap.size 9 1 NA j nc ((gNames (ps.take j)).map .string)) ∧ Hid (Below w.heap.size w wr))
  case atStart => exact ⟨0, none, 0, by omega, rfl, rfl, Lib.hid (by simpa [gNames] using Ow.nil _ _ _ _), Lib.hid (Below.refl _ _)⟩
  case round =>
    obtain ⟨j, NA, nc, hj, rfl, rfl, HN, HB⟩ := hrel
    rename World => wo
    cases gk with
    | succ g =>
      have hjj : (j : Int) < (ps.length : Int) := by omega
      have hj0 : (0 : Int) ≤ (j : Int) ∧ (j : Int) < (ps.length : Int) := by omega
      obtain ⟨p, hp⟩ := get_lt (l := ps) (i := j) (by omega)
      obtain ⟨ad, cs, rfl, hpt, hpc⟩ := (HPS.out.below HB.out).elem Gv.trlen hp
      obtain ⟨vs, rfl, hn, _⟩ := Gv.at_iff.1 hpt
      have c0 := hpc 0 _ rfl
      simp only [if_true] at c0
      have hwo := HB.out.size
      have HTK : Hid ((gNames (ps.take (j + 1))).map Value.string = (gNames (ps.take j)).map .string ++ [.string p.name]) := Lib.hid (by rw [List.take_add_one, hp]; simp [gNames])
      have HRN := Lib.hid (Rd.lit wo 1 1 #[.string p.name] 9 (0, 0) rfl (by simp [maxLen]))
      clear hp hpt hpc
      go_wp2_with (at_builtin; refine wpList_row info_str Tryz.underlying35 rfl (by omega) rfl (.tmp 18) (.tmp 24) rfl w.heap.size NA nc j _ rfl (HN.out.alloc _) (some ⟨wo.heap.size, 0, none⟩) 1 1 [.string p.name] rfl HRN.out (by simp [Value.oneCell']) (by omega) (by omega) (by simp; omega) ?_; intro A' c' w6 ho hg hat; have HO6 := Lib.hid ho; have HG6 := Lib.hid hg; clear ho hg hat)
      go_roundg g
      case measure => omega
      case rel => exact ⟨j + 1, A', c', by omega, by go_num, rfl, Lib.hid (by rw [HTK.out]; exact HO6.out), Lib.hid ((HB.out.alloc hwo _).grown HG6.out (by simp; omega) (fun g hg => (HN.out.lt hg).1))⟩
    | zero =>
      have hj2 : j = ps.length := by omega
      subst hj2
      have hjj : ¬ ((ps.length : Int) < (ps.length : Int)) := by omega
      have hncap := HN.out.cap
      have hsz : ∀ x ∈ gNames ps, x.size ≤ 140737488351232 := fun x hx => by
        obtain ⟨p, hp, rfl⟩ := List.mem_map.1 hx
        obtain ⟨i, hi⟩ := List.mem_iff_getElem?.1 hp
        obtain ⟨_, _, _, hpt, _⟩ := HPS.out.elem Gv.trlen hi
        obtain ⟨_, _, hn, _⟩ := Gv.at_iff.1 hpt
        exact hn
      have hgl : (gNames ps).length = ps.length := by simp [gNames]
      have hss : Ss (fun _ => True) wo NA nc (gNames ps) := Ls.mk_strs (by
        have h := HN.out.rd
        rw [List.take_of_length_le (Nat.le_refl _)] at h
        rw [hgl]; exact h) (by omega) hsz (fun _ _ _ => trivial)
      have HCK : Hid (Calls Tryz.prog 23 #[.slice A l.length ac, .slice NA ps.length nc] wo fun e w' => e = .returned (.int .i64 (csCheck l (gNames ps) : Nat)) ∧ Below wo.heap.size wo w') := Lib.hid (by
        have h := rcheck_any (fun _ => True) A ac l NA nc (gNames ps) wo ((HLS.out.below HB.out).mono (fun _ _ => trivial)) hss hl HOK.out HTX.out
        rwa [hgl] at h)
      obtain ⟨e0, he0⟩ : ∃ e0, e0 = csCheck l (gNames ps) := ⟨_, rfl⟩
      have HRO : Hid (runOf l ps vEq K = if e0 ≠ 0 then .inl e0 else match runEv l ps vEq K l with | none => .inl 150 | some r => .inr r) := Lib.hid (by rw [he0]; rfl)
      rw [← he0] at HCK HDP HSH
      rw [← HROE.out] at HRO
      clear hsz hgl hss he0 HROE
      go_wp2_with fail
      refine HCK.out.mono ?_
      rintro e w2 ⟨rfl, hb2⟩
      have HB2 := Lib.hid (HB.out.trans (hb2.mono HB.out.size))
      clear hb2 HCK
      by_cases hz : e0 = 0
      case neg =>
        have hzq : ((e0 : Int) != 0) = true := by rw [bne_iff_ne]; omega
        have HE : Hid (ro = .inl e0) := Lib.hid (by rw [HRO.out, if_pos hz])
        clear hz HRO HDP HSH
        go_wp2_with fail
        refine bodyPost_ret (v := .tuple #[.slice none 0 0, .int .i64 (e0 : Nat)]) (by simp [results, Tryz.results9, go_sem]) rfl ?_
        rw [HE.out]
        exact ⟨rfl, HB2.out⟩
      have hzq : ((e0 : Int) != 0) = false := by rw [bne_eq_false_iff_eq]; omega
      have HD := Lib.hid (HDP.out hz)
      have HSH2 := Lib.hid (HSH.out hz)
      have HR : Hid (ro = match runEv l ps vEq K l with | none => .inl 150 | some r => .inr r) := Lib.hid (by rw [HRO.out, if_neg (by simp [hz])])
      have hmk : ∀ w' : World, (Instr.makeSlice 65 (.int .i64 (l.length : Int)) (.int .i64 (l.length : Int))).run Tryz.prog w' = .ok (.slice (some ⟨w'.heap.size, 0, none⟩) l.length l.length) (w'.alloc (.cells (cBo (List.replicate l.length false)).toArray 4)) := fun w' => make_cBo _ (by omega) w'
      clear hz HRO HDP HSH
      go_upto_region 9 with fail
      go_cut [9] from 32 to 42 (fun v9 wx => ∃ kb b1 b2 b3 : Nat, v9 = .pointer (some ⟨kb, 0, none⟩) ∧ w2.heap.size ≤ b1 ∧ w2.heap.size ≤ b2 ∧ w2.heap.size ≤ b3 ∧ b1 ≠ b2 ∧ b1 ≠ b3 ∧ b2 ≠ b3 ∧ Hid (Below w2.heap.size w2 wx) ∧ Hid (Ev l ps (fun k => S k ∧ k < w.heap.size) A ac PA pc kb b1 b2 b3 (List.replicate l.length false) (List.replicate l.length false) (List.replicate l.length false) wx))
      case first =>
        have hls2 := HLS.out.below HB2.out
        have hps2 := HPS.out.below HB2.out
        go_region
        all_goals
          go_wp2_with fail
          go_meet
          first
            | exact ev_cut hls2 hps2 w2.heap.size (w2.heap.size + 1) (w2.heap.size + 1 + 1) (by omega) (by omega) (by omega) (by omega) (by omega) (by omega)
            | exact ev_cut hls2 hps2 w2.heap.size (w2.heap.size + 1 + 1) (w2.heap.size + 1) (by omega) (by omega) (by omega) (by omega) (by omega) (by omega)
            | exact ev_cut hls2 hps2 (w2.heap.size + 1) w2.heap.size (w2.heap.size + 1 + 1) (by omega) (by omega) (by omega) (by omega) (by omega) (by omega)
            | exact ev_cut hls2 hps2 (w2.heap.size + 1) (w2.heap.size + 1 + 1) w2.heap.size (by omega) (by omega) (by omega) (by omega) (by omega) (by omega)
            | exact ev_cut hls2 hps2 (w2.heap.size + 1 + 1) w2.heap.size (w2.heap.size + 1) (by omega) (by omega) (by omega) (by omega) (by omega) (by omega)
            | exact ev_cut hls2 hps2 (w2.heap.size + 1 + 1) (w2.heap.size + 1) w2.heap.size (by omega) (by omega) (by omega) (by omega) (by omega) (by omega)
      case rest =>
        obtain ⟨kb, b1, b2, b3, rfl, hb1, hb2, hb3, n12, n13, n23, HBC, HEV0⟩ := hcut
        rename World => w3
        clear hmk
        have HB3 := Lib.hid (HB2.out.trans (HBC.out.mono HB2.out.size))
        have hw2 := HB2.out.size
        have hSF : ∀ k, (S k ∧ k < w.heap.size) → ¬ F3 b1 b2 b3 k := fun k hk e => by
          rcases e with e | e | e
          · have := hk.2; omega
          · have := hk.2; omega
          · have := hk.2; omega
        have HPT := Lib.hid (part_any (l := l) (ps := ps) (S := fun k => S k ∧ k < w.heap.size) (A := A) (ac := ac) (PA := PA) (pc := pc) (kb := kb) (b1 := b1) (b2 := b2) (b3 := b3) HPX.out hSF n12 n13 n23 HSH2.out K)
        have HSF := Lib.hid hSF
        have HRE0 : Hid (runEv l ps vEq K (l.take 0) = some []) := Lib.hid rfl
        clear hSF
        go_wp2_with fail
        go_loopg [11, 10] l.length (fun g i v wr => ∃ (CA : Option Addr) (cc : Nat) (O : List (ByteArray × Bool)) (dn ys bd : List Bool), O.length + g = l.length ∧ i = .int .i64 (O.length : Nat) ∧ v = .slice CA O.length cc ∧ Hid (runEv l ps vEq K (l.take O.length) = some O) ∧ Hid (Ev l ps (fun k => S k ∧ k < w.heap.size) A ac PA pc kb b1 b2 b3 dn ys bd wr) ∧ Hid (KnR l ps dn ys bd) ∧
          Hid (Ow wr w.heap.size 39 8 CA O.length cc (yesL O)) ∧ Hid (Below w.heap.size w wr))
        case atStart => exact ⟨none, 0, [], _, _, _, by simp, rfl, rfl, HRE0, HEV0, Lib.hid knr_new, Lib.hid (by simpa [yesL] using Ow.nil _ _ _ _), HB3⟩
        case round =>
          clear HEV0 HB3 HBC HRE0
          obtain ⟨CA, cc, O, dn, ys, bd, hj, rfl, rfl, HRE, HEV, HKN, HOW, HB⟩ := hrel
          rename World => wq
          cases gk with
          | zero =>
            have hjj : ¬ ((O.length : Int) < (l.length : Int)) := by omega
            have HRF : Hid (ro = .inr O) := Lib.hid (by
              have h1 := HRE.out
              rw [List.take_of_length_le (by omega)] at h1
              rw [HR.out, h1])
            go_wp2_with fail
            refine bodyPost_ret (v := .tuple #[.slice CA O.length cc, .int .i64 0]) (by simp [results, Tryz.results9, go_sem]) rfl ?_
            rw [HRF.out]
            exact ⟨CA, cc, rfl, HOW.out, HB.out⟩
          | succ g =>
            have hjj : (O.length : Int) < (l.length : Int) := by omega
            have hj0 : (0 : Int) ≤ (O.length : Int) ∧ (O.length : Int) < (l.length : Int) := by omega
            obtain ⟨c, hc⟩ := get_lt (l := l) (i := O.length) (by omega)
            have hmem := List.mem_of_getElem? hc
            have HWH := Lib.hid (whole_of HSF.out n12 n13 n23 HPT.out O.length c dn ys bd wq hc (HD.out c hmem) (HSH2.out c hmem) HEV.out HKN.out)
            have HTK : Hid (runEv l ps vEq K (l.take (O.length + 1)) = (evC l ps vEq K c).map fun b => O ++ [(c.name, b)]) := Lib.hid (by
              rw [List.take_add_one, hc]
              show runEv l ps vEq K (_ ++ [c]) = _
              rw [runEv_snoc, HRE.out]; rfl)
            have HNO : Hid (evC l ps vEq K c = none → ro = .inl 150) := Lib.hid (fun h => by rw [HR.out, runEv_none hmem h])
            have HDC := Lib.hid (HD.out c hmem)
            have HC := Lib.hid hc
            have hil : O.length < l.length := by omega
            clear hc hmem
            go_wp2_with fail
            refine HWH.out.mono ?_
            rintro e w4 ⟨dn1, ys1, bd1, rfl, hev1, hkn1, hon1, hdn⟩
            obtain ⟨k, hk1, hk2⟩ := hkn1 O.length c hdn HC.out
            have hsm := Dp.same (eq := vEq) HDC.out hk1
            obtain ⟨p2, hp2⟩ := get_lt (l := ys1) (i := O.length) (by rw [hev1.l2]; exact hil)
            obtain ⟨p3, hp3⟩ := get_lt (l := bd1) (i := O.length) (by rw [hev1.l3]; exact hil)
            have HK2 : Hid (evC l ps vEq K c = if p3 then none else some p2) := Lib.hid (by rw [hsm, hk2]; simp [List.getD_eq_getElem?_getD, hp2, hp3])
            have q1 := hev1.bx.cell 1 (v := .slice (some ⟨b2, 0, none⟩) l.length l.length) rfl
            have q2 := hev1.bx.cell 2 (v := .slice (some ⟨b3, 0, none⟩) l.length l.length) rfl
            have r2 := hev1.d2.cell O.length (v := .bool p2) (by simp [cBo, hp2])
            have r3 := hev1.d3.cell O.length (v := .bool p3) (by simp [cBo, hp3])
            have HEV1 := Lib.hid hev1
            have HKN1 := Lib.hid hkn1
            have hFB : ∀ k, F3 b1 b2 b3 k → w.heap.size ≤ k := fun k e => by rcases e with e | e | e <;> omega
            have HB4 := Lib.hid (hon1.belowB HB.out hFB)
            have HOW4 := Lib.hid (HOW.out.only hon1 (fun g hg e => by
              rcases e with e | e | e
              · exact HOW.out.ne_blk HEV.out.d1 (by decide) (by rw [hg, e])
              · exact HOW.out.ne_blk HEV.out.d2 (by decide) (by rw [hg, e])
              · exact HOW.out.ne_blk HEV.out.d3 (by decide) (by rw [hg, e])))
            clear hkn1 hon1 hdn hk1 hk2 hsm hp2 hp3 HWH HOW HEV HKN hFB HB
            cases p3 with
            | true =>
              have HE : Hid (ro = .inl 150) := Lib.hid (HNO.out (by rw [HK2.out]; rfl))
              clear hev1
              go_wp2_with fail
              refine bodyPost_ret (v := .tuple #[.slice none 0 0, .int .i64 150]) (by simp [results, Tryz.results9, go_sem]) rfl ?_
              rw [HE.out]
              exact ⟨rfl, HB4.out⟩
            | false =>
              obtain ⟨ad, cs, rfl, hct, hcc⟩ := hev1.ls.elem Cd.trlen HC.out
              obtain ⟨_, _, c0, _, _, _, hnm⟩ := cd_cel hct hcc
              have HTK2 : Hid (runEv l ps vEq K (l.take (O.length + 1)) = some (O ++ [(c.name, p2)])) := Lib.hid (by rw [HTK.out, HK2.out]; rfl)
              have hw4 := HB4.out.size
              have hadb : (ad.add (O.length * 15)).block < w.heap.size := by rw [block_of_add]; exact (hev1.ls.blk ad rfl (by omega)).2
              clear hct hcc hev1 HTK HNO HK2
              go_wp2_with fail
              refine Rg.start 17 (fun w' => w'.cell? (ad.add (O.length * 15)) = some (.string c.name) ∧ w'.cell? ⟨kb, 1, none⟩ = some (.slice (some ⟨b2, 0, none⟩) l.length l.length) ∧ w'.cell? ⟨b2, O.length, none⟩ = some (.bool p2)) (by kernel_rfl) (by go_keep) (fun hH0 => ?_)
              simp only [List.length_cons, List.length_nil, List.replicate_succ, List.replicate_zero, Nat.zero_add, Nat.reduceAdd]
              refine Rg.take (v := ?_) hH0 0 rfl (by kernel_rfl) (fun _ _ _ h => h) (by rfl) ?_ ?_
              rotate_left
              · (intro w hSw; (try dsimp only at hSw); go_simp <;> with_reducible rfl)
              try simp only [Act.put, sA, sB, sC]
              refine Rg.take (v := ?_) hH0 1 rfl (by kernel_rfl) (fun _ _ _ h => h) (by rfl) ?_ ?_
              rotate_left
              · (intro w hSw; (try dsimp only at hSw); go_simp <;> with_reducible rfl)
              try simp only [Act.put, sA, sB, sC]
              refine Rg.take (v := ?_) hH0 2 rfl (by kernel_rfl) (fun _ _ _ h => h) (by rfl) ?_ ?_
              rotate_left
              · (intro w hSw; (try dsimp only at hSw); go_simp <;> with_reducible rfl)
              try simp only [Act.put, sA, sB, sC]
              refine Rg.take (v := ?_) hH0 3 rfl (by kernel_rfl) (fun _ _ _ h => h) (by rfl) ?_ ?_
              rotate_left
              · (intro w hSw; (try dsimp only at hSw); go_simp <;> with_reducible rfl)
              try simp only [Act.put, sA, sB, sC]
              refine Rg.take (v := ?_) hH0 4 rfl (by kernel_rfl) (fun _ _ _ h => h) (by rfl) ?_ ?_
              rotate_left
              · (intro w hSw; (try dsimp only at hSw); go_simp <;> with_reducible rfl)
              try simp only [Act.put, sA, sB, sC]
              refine Rg.take (v := ?_) hH0 5 rfl (by kernel_rfl) (fun _ _ _ h => h) (by rfl) ?_ ?_
              rotate_left
              · (intro w hSw; (try dsimp only at hSw); go_simp <;> with_reducible rfl)
              try simp only [Act.put, sA, sB, sC]
              refine Rg.take (v := ?_) hH0 6 rfl (by kernel_rfl) (fun _ _ _ h => h) (by rfl) ?_ ?_
              rotate_left
              · (intro w hSw; (try dsimp only at hSw); go_simp <;> with_reducible rfl)
              try simp only [Act.put, sA, sB, sC]
              refine Rg.take (v := ?_) hH0 7 rfl (by kernel_rfl) (fun _ _ _ h => h) (by rfl) ?_ ?_
              rotate_left
              · (intro w hSw; (try dsimp only at hSw); go_simp <;> with_reducible rfl)
              try simp only [Act.put, sA, sB, sC]
              refine Rg.take (v := ?_) hH0 8 rfl (by kernel_rfl) (fun _ _ _ h => h) (by rfl) ?_ ?_
              rotate_left
              · (intro w hSw; (try dsimp only at hSw); go_simp <;> with_reducible rfl)
              try simp only [Act.put, sA, sB, sC]
              refine Rg.take (v := ?_) hH0 9 rfl (by kernel_rfl) (fun _ _ _ h => h) (by rfl) ?_ ?_
              rotate_left
              · (intro w hSw; (try dsimp only at hSw); go_simp <;> with_reducible rfl)
              try simp only [Act.put, sA, sB, sC]
              refine Rg.take (v := ?_) hH0 10 rfl (by kernel_rfl) (fun _ _ _ h => h) (by rfl) ?_ ?_
              rotate_left
              · (intro w hSw; (try dsimp only at hSw); go_simp <;> with_reducible rfl)
              try simp only [Act.put, sA, sB, sC]
              refine Rg.take (v := ?_) hH0 11 rfl (by kernel_rfl) (fun _ _ _ h => h) (by rfl) ?_ ?_
              rotate_left
              · (intro w hSw; (try dsimp only at hSw); go_simp <;> with_reducible rfl)
              try simp only [Act.put, sA, sB, sC]
              refine Rg.take (v := ?_) hH0 12 rfl (by kernel_rfl) (fun _ _ _ h => h) (by rfl) ?_ ?_
              rotate_left
              · (intro w hSw; (try dsimp only at hSw); go_simp <;> with_reducible rfl)
              try simp only [Act.put, sA, sB, sC]
              refine Rg.take (v := ?_) hH0 13 rfl (by kernel_rfl) (fun _ _ _ h => h) (by rfl) ?_ ?_
              rotate_left
              · (intro w hSw; (try dsimp only at hSw); go_simp <;> with_reducible rfl)
              try simp only [Act.put, sA, sB, sC]
              refine Rg.take (v := ?_) hH0 14 rfl (by kernel_rfl) (fun _ _ _ h => h) (by rfl) ?_ ?_
              rotate_left
              · (intro w hSw; (try dsimp only at hSw); go_simp <;> with_reducible rfl)
              try simp only [Act.put, sA, sB, sC]
              refine Rg.step 15 (by kernel_rfl) rfl (fun K hK => ?_)
              go_simp
              refine hK.out _ _ ?_ (fun hH1 => ?_)
              · ((try dsimp only) <;> go_keep)
              clear hK K hH0
              try simp only [Act.put, List.setIfInBounds_toArray, List.set_cons_zero, List.set_cons_succ]
              refine Rg.step 16 (by kernel_rfl) rfl (fun K hK => ?_)
              refine step_row info_given Tryz.underlying23 rfl (by omega) rfl (.tmp 61) (.tmp 76) rfl w.heap.size CA cc O.length (yesL O) (by rfl) (HOW4.out.alloc (.cells #[.string c.name, .bool false, .int .i8 1, .bool p2, .int .i64 0, .string ⟨#[]⟩, .slice none 0 0, .slice none 0 0] 39)).drew (some ⟨w4.heap.size, 0, none⟩) 1 1 (yes c.name p2) (by rfl) (Rd.lit w4 8 1 #[.string c.name, .bool false, .int .i8 1, .bool p2, .int .i64 0, .string ⟨#[]⟩, .slice none 0 0, .slice none 0 0] 39 (0, 0) rfl (by simp [maxLen])).drew (by simp [yes, Value.oneCell']) (by omega) (by omega) (by simp; omega) ?_; intro A6 c6 w6 ho6 hg6 hat6; have HO6 := Lib.hid ho6; have HG6 := Lib.hid hg6; have hon6 : Only (fun k => blk CA = some k) w4 w6 := ((Only.of_below ((Below.refl _ w4).alloc (Nat.le_refl _) (.cells #[.string c.name, .bool false, .int .i8 1, .bool p2, .int .i64 0, .string ⟨#[]⟩, .slice none 0 0, .slice none 0 0] 39)).drew _).grown hg6 (fun g hg _ => hg)); have HON6 := Lib.hid hon6; have HEV6 := Lib.hid (Ev.only' HEV1.out hon6 (fun k hk e => by have := (HOW4.out.lt e).1; omega) (fun e => HOW4.out.ne_blk HEV1.out.bx (by decide) e) (fun e => HOW4.out.ne_blk HEV1.out.d1 (by decide) e) (fun e => HOW4.out.ne_blk HEV1.out.d2 (by decide) e) (fun e => HOW4.out.ne_blk HEV1.out.d3 (by decide) e)); have z1 := HEV6.out.bx.cell 1 (v := .slice (some ⟨b2, 0, none⟩) l.length l.length) rfl; have z2 := (cell_only hon6 (p := ⟨b2, O.length, none⟩) HEV1.out.d2.lt (fun e => HOW4.out.ne_blk HEV1.out.d2 (by decide) e)).trans r2; have z3 := (cell_only hon6 (p := ad.add (O.length * 15)) (World.block_lt_of_cell? w4 _ c0) (fun e => by have := (HOW4.out.lt e).1; omega)).trans c0; clear ho6 hg6 hat6 hon6
              refine hK.out _ _ ?_ (fun hH2 => ?_)
              · ((try dsimp only) <;> go_keep)
              clear hK K hH1
              try simp only [Act.put, List.setIfInBounds_toArray, List.set_cons_zero, List.set_cons_succ]
              refine Rg.last (by kernel_rfl) (by kernel_rfl) rfl (fun K hK => ?_)
              go_simp
              refine hK.out _ _ ?_
              clear hK K hH2
              go_wp2_with fail
              go_roundg g
              case measure => first | (simp; done) | (simp; omega) | omega
              case rel => exact ⟨A6, c6, O ++ [(c.name, p2)], dn1, ys1, bd1, by simp only [List.length_append, List.length_cons, List.length_nil]; omega, by simp only [List.length_append, List.length_cons, List.length_nil]; go_num, by simp, Lib.hid (by simpa using HTK2.out), HEV6, HKN1, Lib.hid (by simpa [yesL] using HO6.out), Lib.hid (HON6.out.belowB HB4.out (fun k hk => (HOW4.out.lt hk).1))⟩
end Go.Proofs.YtmljdppdaaoehaaGreatDoor

/- hoardingref03.Same of one value at two places: the walk. -/
namespace Go.Proofs.YtmljdppdaaoehaaGreatDoor
open Go.RowKit Go.Lib
set_option linter.unusedVariables false
set_option linter.unusedSimpArgs false
set_option maxRecDepth 100000
def SmC (k : Nat) : Prop := ∀ (S : Nat → Prop) (v : Vl) (ca cb : List Value) (w : World), vDeep k v → Trs.at S w v.tr ca → Trs.at S w v.tr cb → Calls Tryz.prog 13 #[.agg ca.toArray, .agg cb.toArray] w (BoolB true w)
set_option maxHeartbeats 16000000 in
theorem sm_step (k : Nat) (IH : SmC k) : SmC (k + 1) := by
  intro S v ca cb w hd hta htb
  obtain ⟨A1, n1, K1, m1, rfl, _, _, hx1, hl1, hk1⟩ := Vl.at_iff.1 hta
  obtain ⟨A2, n2, K2, m2, rfl, _, _, hx2, hl2, hk2⟩ := Vl.at_iff.1 htb
  have hcap1 := hl1.cap
  have hcap2 := hl2.cap
  have hbyt1 := hl1.bytes
  have hbyt2 := hl2.bytes
  have hcap3 := hk1.cap
  have hcap4 := hk2.cap
  have hbyt3 := hk1.bytes
  have HL1 := Lib.hid hl1
  have HL2 := Lib.hid hl2
  have HK1 := Lib.hid hk1
  have HK2 := Lib.hid hk2
  have HD := Lib.hid hd
  have HIH := Lib.hid IH
  have HB0 : Hid (Below w.heap.size w ((w.alloc (.cells #[.int .i8 v.kind, .bool v.bool, .int .i64 v.num, .string v.text, .slice A1 v.list.length n1, .slice K1 v.keys.length m1] 37)).alloc (.cells #[.int .i8 v.kind, .bool v.bool, .int .i64 v.num, .string v.text, .slice A2 v.list.length n2, .slice K2 v.keys.length m2] 37))) := Lib.hid (((Below.refl _ w).alloc (Nat.le_refl _) _).alloc (by simp) _)
  have HXA : Hid (Blk ((w.alloc (.cells #[.int .i8 v.kind, .bool v.bool, .int .i64 v.num, .string v.text, .slice A1 v.list.length n1, .slice K1 v.keys.length m1] 37)).alloc (.cells #[.int .i8 v.kind, .bool v.bool, .int .i64 v.num, .string v.text, .slice A2 v.list.length n2, .slice K2 v.keys.length m2] 37)) w.heap.size #[.int .i8 v.kind, .bool v.bool, .int .i64 v.num, .string v.text, .slice A1 v.list.length n1, .slice K1 v.keys.length m1] 37) := Lib.hid ((Blk.new _ _ _).alloc _)
  have HXB : Hid (Blk ((w.alloc (.cells #[.int .i8 v.kind, .bool v.bool, .int .i64 v.num, .string v.text, .slice A1 v.list.length n1, .slice K1 v.keys.length m1] 37)).alloc (.cells #[.int .i8 v.kind, .bool v.bool, .int .i64 v.num, .string v.text, .slice A2 v.list.length n2, .slice K2 v.keys.length m2] 37)) (w.heap.size + 1) #[.int .i8 v.kind, .bool v.bool, .int .i64 v.num, .string v.text, .slice A2 v.list.length n2, .slice K2 v.keys.length m2] 37) := Lib.hid (by
    have := Blk.new (w.alloc (.cells #[.int .i8 v.kind, .bool v.bool, .int .i64 v.num, .string v.text, .slice A1 v.list.length n1, .slice K1 v.keys.length m1] 37)) #[.int .i8 v.kind, .bool v.bool, .int .i64 v.num, .string v.text, .slice A2 v.list.length n2, .slice K2 v.keys.length m2] 37
    rwa [show (w.alloc (.cells #[.int .i8 v.kind, .bool v.bool, .int .i64 v.num, .string v.text, .slice A1 v.list.length n1, .slice K1 v.keys.length m1] 37)).heap.size = w.heap.size + 1 by simp] at this)
  have e1 : (v.kind != v.kind) = false := by simp
  have e2 : (v.bool != v.bool) = false := by simp
  have e3 : (v.num != v.num) = false := by simp
  have e4 : (v.text.toList == v.text.toList) = true := by simp
  have e5 : ((v.list.length : Int) != (v.list.length : Int)) = false := by simp
  have e6 : ((v.keys.length : Int) != (v.keys.length : Int)) = false := by simp
  clear hta htb hl1 hl2 hk1 hk2 hd IH
  go_enter Tryz.func13, Tryz.ntmps13
  go_wp2_with fail
  clear e1 e2 e3 e4 e5 e6
  go_loopg [5] v.keys.length (fun g i wr => ∃ j : Nat, j + g = v.keys.length ∧ i = .int .i64 (j : Nat) ∧ Hid (Below w.heap.size w wr) ∧ Hid (Blk wr w.heap.size #[.int .i8 v.kind, .bool v.bool, .int .i64 v.num, .string v.text, .slice A1 v.list.length n1, .slice K1 v.keys.length m1] 37) ∧ Hid (Blk wr (w.heap.size + 1) #[.int .i8 v.kind, .bool v.bool, .int .i64 v.num, .string v.text, .slice A2 v.list.length n2, .slice K2 v.keys.length m2] 37))
  case atStart => exact ⟨0, by omega, rfl, HB0, HXA, HXB⟩
  case round =>
    clear HB0 HXA HXB
    obtain ⟨j, hj, rfl, HB, HXA, HXB⟩ := hrel
    rename World => wo
    obtain ⟨c0, c1, c2, c3, c4, c5⟩ := blk6 HXA.out
    obtain ⟨d0, d1, d2, d3, d4, d5⟩ := blk6 HXB.out
    cases gk with
    | succ g =>
      have hjj : (j : Int) < (v.keys.length : Int) := by omega
      have hj0 : (0 : Int) ≤ (j : Int) ∧ (j : Int) < (v.keys.length : Int) := by omega
      obtain ⟨x, hx⟩ := get_lt (l := v.keys) (i := j) (by omega)
      obtain ⟨na, rfl, hca, _⟩ := (HK1.out.below HB.out).str hx
      obtain ⟨nb, rfl, hcb, _⟩ := (HK2.out.below HB.out).str hx
      have hE : (x.toList == x.toList) = true := by simp
      clear hx
      go_wp2_with fail
      go_quiet (fail)
      go_wp2_with fail
      go_roundg g
      case measure => omega
      case rel => exact ⟨j + 1, by omega, by go_num, Lib.hid (HB.out.trans ((below_drewN' _ _).mono HB.out.size)), Lib.hid (HXA.out.drewN _), Lib.hid (HXB.out.drewN _)⟩
    | zero =>
      have hjj : ¬ ((j : Int) < (v.keys.length : Int)) := by omega
      go_wp2_with fail
      clear hjj hj c0 c1 c2 c3 c4 c5 d0 d1 d2 d3 d4 d5
      go_loopg [6] v.list.length (fun g i wr => ∃ j : Nat, j + g = v.list.length ∧ i = .int .i64 (j : Nat) ∧ Hid (Below w.heap.size w wr) ∧ Hid (Blk wr w.heap.size #[.int .i8 v.kind, .bool v.bool, .int .i64 v.num, .string v.text, .slice A1 v.list.length n1, .slice K1 v.keys.length m1] 37) ∧ Hid (Blk wr (w.heap.size + 1) #[.int .i8 v.kind, .bool v.bool, .int .i64 v.num, .string v.text, .slice A2 v.list.length n2, .slice K2 v.keys.length m2] 37))
      case atStart => exact ⟨0, by omega, rfl, HB, HXA, HXB⟩
      case round =>
        clear HB HXA HXB
        obtain ⟨j, hj, rfl, HB, HXA, HXB⟩ := hrel
        rename World => wo
        obtain ⟨c0, c1, c2, c3, c4, c5⟩ := blk6 HXA.out
        obtain ⟨d0, d1, d2, d3, d4, d5⟩ := blk6 HXB.out
        cases gk with
        | zero =>
          have hjj : ¬ ((j : Int) < (v.list.length : Int)) := by omega
          go_wp2_with fail
          go_ret
          exact ⟨rfl, HB.out⟩
        | succ g =>
          have hjj : (j : Int) < (v.list.length : Int) := by omega
          have hj0 : (0 : Int) ≤ (j : Int) ∧ (j : Int) < (v.list.length : Int) := by omega
          obtain ⟨x, hx⟩ := get_lt (l := v.list) (i := j) (by omega)
          obtain ⟨ad1, xs, rfl, hxt, hxc⟩ := (HL1.out.below HB.out).elem Vl.trlen hx
          obtain ⟨ad2, ys, rfl, hyt, hyc⟩ := (HL2.out.below HB.out).elem Vl.trlen hx
          have HC := Lib.hid (HIH.out S x xs ys wo.drew (HD.out x (List.mem_of_getElem? hx)) (hxt.drewN 1) (hyt.drewN 1))
          obtain ⟨A3, n3, K3, m3, rfl, _⟩ := Vl.at_iff.1 hxt
          obtain ⟨A4, n4, K4, m4, rfl, _⟩ := Vl.at_iff.1 hyt
          obtain ⟨x0, x1, x2, x3, x4, x5⟩ := cel6 hxc
          obtain ⟨y0, y1, y2, y3, y4, y5⟩ := cel6 hyc
          clear hx hxt hxc hyt hyc
          go_wp2_with fail
          go_still_tail 10, (by kernel_rfl)
          change wpList _ _ _ _ _ wo.drew
          have HBW := Lib.hid HB.out.drew
          have HXAW := Lib.hid HXA.out.drew
          have HXBW := Lib.hid HXB.out.drew
          generalize wo.drew = w5 at HC HBW HXAW HXBW ⊢
          clear c0 c1 c2 c3 c4 c5 d0 d1 d2 d3 d4 d5 x0 x1 x2 x3 x4 x5 y0 y1 y2 y3 y4 y5 HB HXA HXB
          go_wp2_with fail
          refine HC.out.mono ?_
          rintro e w6 ⟨rfl, hb6⟩
          have HB6 := Lib.hid (HBW.out.trans (hb6.mono HBW.out.size))
          have HXA6 := Lib.hid (HXAW.out.below hb6)
          have HXB6 := Lib.hid (HXBW.out.below hb6)
          clear hb6 HC HBW HXAW HXBW
          go_wp2_with fail
          go_roundg g
          case measure => omega
          case rel => exact ⟨j + 1, by omega, by go_num, HB6, HXA6, HXB6⟩
theorem sm_any (k : Nat) : SmC k := by
  induction k with
  | zero => exact fun _ _ _ _ _ h => h.elim
  | succ k ih => exact sm_step k ih
end Go.Proofs.YtmljdppdaaoehaaGreatDoor
