/- runes.four. -/
import Derived.Test.YtffamppgnooaeaaDoorRuParse
namespace Go.Proofs.YtffamppgnooaeaaDoor
open Go.RowKit
set_option linter.unusedVariables false
set_option linter.unusedSimpArgs false

def PuP (c : UInt8) (w : World) (e : Ending) (w' : World) : Prop :=
  Below w.heap.size w w' ∧ (∀ v, hexV c.toNat = some v → e = .returned (.tuple #[.int .u64 (v : Nat), .nilIface])) ∧ (hexV c.toNat = none → ∃ p, e = .returned (.tuple #[.int .u64 0, .iface 75 p]))
set_option maxRecDepth 100000 in
set_option maxHeartbeats 1000000 in
theorem parse_any (s : ByteArray) (c : UInt8) (hs : s.data.toList = [c]) (w : World) (hv : Vars w) :
    Calls Tryd.prog 30 #[.string s, .int .i64 16, .int .i64 8] w (PuP c w) := by
  have HC := Lib.hid (iparse_any s c hs w)
  have hsz : s.size = 1 := by rw [Lib.size_eq, hs]; rfl
  have HSZ := Lib.hid hsz
  have HV := Lib.hid hv
  clear hs hsz hv
  cases hx : hexV c.toNat with
  | some v =>
    have hp : pint c = .tuple #[.int .u64 (v : Nat), .nilIface] := by unfold pint; rw [hx]
    rw [hp] at HC
    have HX := Lib.hid hx
    clear hp hx
    go_enter Tryd.func30, Tryd.ntmps30
    go_wp2_with fail
    refine HC.out.mono ?_
    rintro e w1 ⟨rfl, hb⟩
    have HB := Lib.hid hb
    clear hb HC
    go_wp2_with fail
    go_ret2
    refine ⟨HB.out, fun v' h => ?_, fun h => ?_⟩
    · rw [HX.out] at h; injection h with h; subst h; rfl
    · rw [HX.out] at h; cases h
  | none =>
    have hp : pint c = .tuple #[.int .u64 0, .iface 73 (.int .i64 2)] := by unfold pint; rw [hx]
    rw [hp] at HC
    have HX := Lib.hid hx
    clear hp hx
    go_enter Tryd.func30, Tryd.ntmps30
    go_wp2_with fail
    refine HC.out.mono ?_
    rintro e w1 ⟨rfl, hb⟩
    have HB := Lib.hid hb
    have HV1 := Lib.hid (HV.out.below hb)
    clear hb HC
    go_wp2_with fail
    refine (toErr_any _ s _ _ _ (by rw [HSZ.out]; omega) HV1.out).mono ?_
    rintro e w2 ⟨⟨p, rfl⟩, hb2⟩
    have HB2 := Lib.hid (HB.out.trans (hb2.mono HB.out.size))
    clear hb2
    go_wp2_with fail
    go_ret2
    refine ⟨HB2.out, fun v' h => ?_, fun h => ⟨p, rfl⟩⟩
    rw [HX.out] at h; cases h
def fourV (l : List UInt8) (i : Nat) : Nat → Option Nat
  | 0 => some 0
  | k + 1 => match fourV l i k, hexV (nb l (i + k)) with | some a, some v => some (a * 16 + v) | _, _ => none
theorem fourV_four (l : List UInt8) (i : Nat) (h : i + 4 ≤ l.length) : fourL l i = fourV l i 4 := by
  unfold fourL
  rw [if_neg (by omega)]
  simp only [fourV, Nat.add_zero]
  unfold four4
  cases hexV (nb l i) <;> cases hexV (nb l (i + 1)) <;> cases hexV (nb l (i + 2)) <;> cases hexV (nb l (i + 3)) <;> simp
theorem fourV_none {l : List UInt8} {i k : Nat} (h : fourV l i k = none) : ∀ m, fourV l i (k + m) = none
  | 0 => h
  | m + 1 => by show (match fourV l i (k + m), _ with | some a, some v => some (a * 16 + v) | _, _ => none) = none; rw [fourV_none h m]
theorem fourV_lt {l : List UInt8} {i : Nat} : ∀ (k : Nat) {r : Nat}, fourV l i k = some r → r < 16 ^ k
  | 0, r, h => by simp only [fourV] at h; injection h with h; subst h; simp
  | k + 1, r, h => by
    simp only [fourV] at h
    cases h1 : fourV l i k with
    | none => rw [h1] at h; simp at h
    | some a =>
      cases h2 : hexV (nb l (i + k)) with
      | none => rw [h1, h2] at h; simp at h
      | some v =>
        rw [h1, h2] at h
        simp only at h
        injection h with h
        have := fourV_lt k h1
        have := hexV_lt h2
        rw [Nat.pow_succ]; omega
theorem or_nibble : ∀ (a : Nat) (v : Nat), a < 4096 → v < 16 → bits .or .i32 ((a : Int) * 16) (v : Int) = ((a * 16 + v : Nat) : Int) := by
  intro a v ha hv
  have h1 : a * 16 ||| v = a * 16 + v := by
    have := Nat.two_pow_add_eq_or_of_lt (i := 4) (b := v) (by omega) a
    rw [show 2 ^ 4 * a = a * 16 by omega] at this
    exact this.symm
  show IntKind.i32.wrap ((BitVec.ofInt 32 ((a : Int) * 16) ||| BitVec.ofInt 32 (v : Int)).toNat : Int) = _
  have e1 : BitVec.ofInt 32 ((a : Int) * 16) = BitVec.ofNat 32 (a * 16) := by
    rw [show ((a : Int) * 16) = ((a * 16 : Nat) : Int) by push_cast; rfl, BitVec.ofInt_natCast]
  rw [e1, BitVec.ofInt_natCast, BitVec.toNat_or, BitVec.toNat_ofNat, BitVec.toNat_ofNat, Nat.mod_eq_of_lt (by omega), Nat.mod_eq_of_lt (by omega), h1]
  rw [IntKind.wrap_i32]; omega
theorem byte_cut (b : ByteArray) (i : Nat) (c : UInt8) (h : b.data.toList[i]? = some c) : (b.extract i (i + 1)).data.toList = [c] := by
  obtain ⟨hi, hc⟩ := List.getElem?_eq_some_iff.1 h
  rw [Lib.extract_data, List.drop_eq_getElem_cons hi, hc, show i + 1 - i = 1 by omega]
  rfl
theorem run_slice_str {P : Program} (w : World) (t : TypeId) (s : ByteArray) (ht : P.underlying t = some .string) (kl kh : IntKind) (l h : Nat) (l' h' : Int) (e1 : l' = (l : Int)) (e2 : h' = (h : Int)) (h1 : l ≤ h) (h2 : h ≤ s.size) :
    (Instr.slice t (.string s) (some (.int kl l')) (some (.int kh h')) none).run P w = .ok (.string (s.extract l h)) w := by
  subst e1 e2
  simp [Instr.slice, run_underlying ht, Instr.sliceBounds, run_sliceBound, h1, h2]
def FourP (l : List UInt8) (i : Nat) (w : World) (e : Ending) (w' : World) : Prop := e = .returned (.tuple #[.int .i32 (((fourL l i).getD 0 : Nat) : Int), .bool (fourL l i).isSome]) ∧ Below w.heap.size w w'
set_option maxRecDepth 100000 in
set_option maxHeartbeats 2000000 in
theorem four_any (b : ByteArray) (i : Nat) (hb : b.size ≤ 30000) (hi : i ≤ 31000) (w : World) (hv : Vars w) :
    Calls Tryd.prog 24 #[.string b, .int .i64 (i : Nat)] w (FourP b.data.toList i w) := by
  have HV := Lib.hid hv
  have HSZ := Lib.hid (Lib.size_eq b)
  clear hv
  by_cases hlen : b.size < i + 4
  · have HN : Hid (fourL b.data.toList i = none) := Lib.hid (by unfold fourL; rw [if_pos (by have := HSZ.out; omega)])
    go_enter Tryd.func24, Tryd.ntmps24
    go_wp2_with fail
    go_ret2
    refine ⟨?_, Below.refl _ _⟩
    rw [HN.out]; rfl
  · have HF := Lib.hid (fourV_four b.data.toList i (by have := HSZ.out; omega))
    go_enter Tryd.func24, Tryd.ntmps24
    go_wp2_with fail
    go_loopg [6, 15] 4 (fun gk q6 q wr => ∃ k r : Nat, k + gk = 4 ∧ q = .int .i64 (k : Nat) ∧ q6 = .int .i32 (r : Nat) ∧ Hid (fourV b.data.toList i k = some r) ∧ Hid (Below w.heap.size w wr))
    case atStart => exact ⟨0, 0, rfl, rfl, rfl, Lib.hid rfl, Lib.hid (Below.refl _ _)⟩
    case round =>
      obtain ⟨k, r, hk, rfl, rfl, HR, HB⟩ := hrel
      obtain ⟨W, hW⟩ : ∃ W, W = wr := ⟨_, rfl⟩
      subst hW
      cases gk with
      | zero =>
        obtain rfl : k = 4 := by omega
        go_wp2_with fail
        go_ret2
        refine ⟨?_, HB.out⟩
        rw [HF.out, HR.out]; rfl
      | succ g =>
        have hk4 : k < 4 := by omega
        obtain ⟨c, hc⟩ : ∃ c, b.data.toList[i + k]? = some c := ⟨_, List.getElem?_eq_getElem (by have := HSZ.out; omega)⟩
        have HC := Lib.hid hc
        have hr : r < 4096 := by
          have := fourV_lt k HR.out
          have : 16 ^ k ≤ 16 ^ 3 := Nat.pow_le_pow_right (by omega) (by omega)
          omega
        have HVW := Lib.hid (HV.out.below HB.out)
        have HNB : Hid (nb b.data.toList (i + k) = c.toNat) := Lib.hid (by unfold nb; rw [List.getD_eq_getElem?_getD, hc]; rfl)
        have hsl : (Instr.slice 9 (.string b) (some (.int .i64 ((i : Int) + (k : Int)))) (some (.int .i64 ((i : Int) + (k : Int) + 1))) none).run Tryd.prog W = .ok (.string (b.extract (i + k) (i + k + 1))) W := by
          exact run_slice_str (P := Tryd.prog) W 9 b Tryd.underlying9 .i64 .i64 (i + k) (i + k + 1) _ _ (by omega) (by omega) (by omega) (by omega)
        have HPA := Lib.hid (parse_any _ c (byte_cut b (i + k) c hc) W HVW.out)
        clear hc
        go_wp2_with fail
        refine HPA.out.mono ?_
        rintro e w1 ⟨hb1, hs1, hn1⟩
        have HB1 := Lib.hid (HB.out.trans (hb1.mono HB.out.size))
        cases hx : hexV c.toNat with
        | some v =>
          obtain rfl := hs1 v hx
          have hv16 := hexV_lt hx
          have HR1 : Hid (fourV b.data.toList i (k + 1) = some (r * 16 + v)) := Lib.hid (by
            show (match fourV b.data.toList i k, hexV (nb b.data.toList (i + k)) with | some a, some v => some (a * 16 + v) | _, _ => none) = _
            rw [HR.out, HNB.out, hx])
          have hor := or_nibble r v hr hv16
          clear hs1 hn1 hx hb1 hsl HPA
          go_wp2_with fail
          go_roundg g
          case rel => exact ⟨k + 1, r * 16 + v, by omega, by go_num, by go_num, HR1, HB1⟩
          case measure => omega
        | none =>
          obtain ⟨p, rfl⟩ := hn1 hx
          have HR1 : Hid (fourV b.data.toList i 4 = none) := Lib.hid (by
            have h1 : fourV b.data.toList i (k + 1) = none := by
              show (match fourV b.data.toList i k, hexV (nb b.data.toList (i + k)) with | some a, some v => some (a * 16 + v) | _, _ => none) = _
              rw [HR.out, HNB.out, hx]
            have := fourV_none h1 (3 - k)
            rwa [show k + 1 + (3 - k) = 4 by omega] at this)
          clear hs1 hn1 hx hb1 hsl HPA
          go_wp2_with fail
          go_ret2
          refine ⟨?_, HB1.out⟩
          rw [HF.out, HR1.out]; rfl
end Go.Proofs.YtffamppgnooaeaaDoor
