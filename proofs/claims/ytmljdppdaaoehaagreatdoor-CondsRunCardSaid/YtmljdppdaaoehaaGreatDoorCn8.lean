/- Conditions: what may be: plain expressions, shapes, names. -/
/- runes.Name. -/
import Derived.Test.YtmljdppdaaoehaaGreatDoorCn5
namespace Go.Proofs.YtmljdppdaaoehaaGreatDoor
open Go.RowKit
set_option linter.unusedVariables false
set_option linter.unusedSimpArgs false

theorem bE0 (t : ByteArray) : bEq t ByteArray.empty = t.toList.isEmpty := by
  unfold bEq
  rw [Lib.toList_data]
  cases h : t.data.toList with
  | nil => rfl
  | cons x r => rfl
def BoolB (b : Bool) (w : World) (e : Ending) (w' : World) : Prop := e = .returned (.bool b) ∧ Below w.heap.size w w'
set_option maxRecDepth 100000 in
set_option maxHeartbeats 4000000 in
theorem only_any (k : Int) (t : ByteArray) (z : Int) (n a : ByteArray) (A : Option Addr) (ln lc : Nat) (w : World) :
    Calls Tryz.prog 54 #[.agg #[.int .i8 k, .string t, .int .i64 z, .string n, .string a, .slice A ln lc]] w (BoolB (bEq t ByteArray.empty && decide (z = 0) && bEq n ByteArray.empty && bEq a ByteArray.empty && decide (ln = 0)) w) := by
  go_enter Tryz.func54, Tryz.ntmps54
  go_wp2_with fail
  all_goals
    go_ret
    refine ⟨?_, (Below.refl _ w).alloc (Nat.le_refl _) _⟩
    first
      | (simp [bE0, *]; done)
      | (simp [bE0, *]; cases ln <;> simp <;> omega)
set_option maxRecDepth 100000 in
set_option maxHeartbeats 4000000 in
theorem nothing_any (e : Ex) (A : Option Addr) (lc : Nat) (w : World) : Calls Tryz.prog 61 #[.agg #[.int .i8 e.kind, .string e.text, .int .i64 e.num, .string e.name, .string e.attr, .slice A e.l.length lc]] w (BoolB (xNothing e) w) := by
  have HO := Lib.hid (only_any e.kind e.text e.num e.name e.attr A e.l.length lc (w.alloc (.cells #[.int .i8 e.kind, .string e.text, .int .i64 e.num, .string e.name, .string e.attr, .slice A e.l.length lc] 27)))
  have HX : Hid (xNothing e = (decide (e.kind = 0) && (bEq e.text ByteArray.empty && decide (e.num = 0) && bEq e.name ByteArray.empty && bEq e.attr ByteArray.empty && decide (e.l.length = 0)))) := Lib.hid rfl
  obtain ⟨v, hv⟩ : ∃ v, v = (bEq e.text ByteArray.empty && decide (e.num = 0) && bEq e.name ByteArray.empty && bEq e.attr ByteArray.empty && decide (e.l.length = 0)) := ⟨_, rfl⟩
  rw [← hv] at HO HX
  clear hv
  by_cases h0 : e.kind = 0
  · have e0 : (e.kind == 0) = true := by rw [h0]; rfl
    have HE : Hid (xNothing e = v) := Lib.hid (by rw [HX.out, h0]; simp)
    clear h0
    go_enter Tryz.func61, Tryz.ntmps61
    go_wp2_with fail
    refine HO.out.mono ?_
    rintro e' w2 ⟨rfl, hb⟩
    have HB := Lib.hid (((Below.refl _ w).alloc (Nat.le_refl _) _).trans (hb.mono (by simp)))
    clear hb
    go_wp2_with fail
    go_ret
    exact ⟨by rw [HE.out]; rfl, HB.out⟩
  · have e0 : (e.kind == 0) = false := by simpa using h0
    have HE : Hid (xNothing e = false) := Lib.hid (by rw [HX.out]; simp [h0])
    clear h0
    go_enter Tryz.func61, Tryz.ntmps61
    go_wp2_with fail
    go_ret
    exact ⟨by rw [HE.out]; rfl, (Below.refl _ w).alloc (Nat.le_refl _) _⟩
/-- runes.Valid may be asked from here on -/
def VOk (w : World) : Prop := ∀ (s : ByteArray) (w' : World), s.size ≤ 140737488351232 → Below w.heap.size w w' → Calls Tryz.prog 55 #[.string s] w' (BoolB (Lib.validD s.data.toList) w')
theorem VOk.below {w w' : World} (h : VOk w) (hb : Below w.heap.size w w') : VOk w' := fun s w'' hs hb' => h s w'' hs (hb.trans (hb'.mono hb.size))
set_option maxRecDepth 100000 in
set_option maxHeartbeats 4000000 in
theorem plain_any (e : Ex) (A : Option Addr) (lc : Nat) (w : World) (hV : VOk w) (hs : e.text.size ≤ 140737488351232) : Calls Tryz.prog 25 #[.agg #[.int .i8 e.kind, .string e.text, .int .i64 e.num, .string e.name, .string e.attr, .slice A e.l.length lc]] w (BoolB (xPlain e) w) := by
  have HV := Lib.hid hV
  clear hV
  by_cases h0 : e.kind = 0
  · have e0 : (e.kind == 0) = true := by rw [h0]; rfl
    have HO : Hid (Calls Tryz.prog 54 #[.agg #[.int .i8 e.kind, .string ⟨#[]⟩, .int .i64 e.num, .string e.name, .string e.attr, .slice A e.l.length lc]] (w.alloc (.cells #[.int .i8 e.kind, .string ⟨#[]⟩, .int .i64 e.num, .string e.name, .string e.attr, .slice A e.l.length lc] 27)) (BoolB (xOnly ⟨e.kind, ByteArray.empty, e.num, e.name, e.attr, e.l⟩) (w.alloc (.cells #[.int .i8 e.kind, .string ⟨#[]⟩, .int .i64 e.num, .string e.name, .string e.attr, .slice A e.l.length lc] 27)))) := Lib.hid (only_any _ _ _ _ _ _ _ _ _)
    have hb1 : Below w.heap.size w (w.alloc (.cells #[.int .i8 e.kind, .string ⟨#[]⟩, .int .i64 e.num, .string e.name, .string e.attr, .slice A e.l.length lc] 27)) := (Below.refl _ w).alloc (Nat.le_refl _) _
    have HB1 := Lib.hid hb1
    have HX : Hid (xPlain e = (xOnly ⟨e.kind, ByteArray.empty, e.num, e.name, e.attr, e.l⟩ && Lib.validD e.text.data.toList)) := Lib.hid (by unfold xPlain; rw [if_pos h0])
    obtain ⟨v, hv⟩ : ∃ v, v = xOnly ⟨e.kind, ByteArray.empty, e.num, e.name, e.attr, e.l⟩ := ⟨_, rfl⟩
    rw [← hv] at HO HX
    clear hv h0 hb1
    cases v with
    | false =>
      go_enter Tryz.func25, Tryz.ntmps25
      go_wp2_with fail
      refine HO.out.mono ?_
      rintro e' w2 ⟨rfl, hb⟩
      have HB := Lib.hid (HB1.out.trans (hb.mono HB1.out.size))
      clear hb
      go_wp2_with fail
      go_ret
      exact ⟨by rw [HX.out]; rfl, HB.out⟩
    | true =>
      go_enter Tryz.func25, Tryz.ntmps25
      go_wp2_with fail
      refine HO.out.mono ?_
      rintro e' w2 ⟨rfl, hb⟩
      have hb2 := HB1.out.trans (hb.mono HB1.out.size)
      have HVV := Lib.hid (HV.out e.text w2 hs hb2)
      have HB := Lib.hid hb2
      clear hb hb2
      go_wp2_with fail
      refine HVV.out.mono ?_
      rintro e' w3 ⟨rfl, hb⟩
      have HB3 := Lib.hid (HB.out.trans (hb.mono HB.out.size))
      clear hb
      go_wp2_with fail
      go_ret
      exact ⟨by rw [HX.out]; rfl, HB3.out⟩
  · have e0 : (e.kind == 0) = false := by simpa using h0
    by_cases h1 : e.kind = 1
    · have e1 : (e.kind == 1) = true := by rw [h1]; rfl
      have HO : Hid (Calls Tryz.prog 54 #[.agg #[.int .i8 e.kind, .string e.text, .int .i64 0, .string e.name, .string e.attr, .slice A e.l.length lc]] (w.alloc (.cells #[.int .i8 e.kind, .string e.text, .int .i64 0, .string e.name, .string e.attr, .slice A e.l.length lc] 27)) (BoolB (xOnly ⟨e.kind, e.text, 0, e.name, e.attr, e.l⟩) (w.alloc (.cells #[.int .i8 e.kind, .string e.text, .int .i64 0, .string e.name, .string e.attr, .slice A e.l.length lc] 27)))) := Lib.hid (only_any _ _ _ _ _ _ _ _ _)
      have HB1 : Hid (Below w.heap.size w (w.alloc (.cells #[.int .i8 e.kind, .string e.text, .int .i64 0, .string e.name, .string e.attr, .slice A e.l.length lc] 27))) := Lib.hid ((Below.refl _ w).alloc (Nat.le_refl _) _)
      have HX : Hid (xPlain e = (xOnly ⟨e.kind, e.text, 0, e.name, e.attr, e.l⟩ && decide (-9007199254740992 ≤ e.num ∧ e.num ≤ 9007199254740992))) := Lib.hid (by unfold xPlain; rw [if_neg h0, if_pos h1])
      obtain ⟨v, hv⟩ : ∃ v, v = xOnly ⟨e.kind, e.text, 0, e.name, e.attr, e.l⟩ := ⟨_, rfl⟩
      rw [← hv] at HO HX
      clear hv h0 h1
      cases v with
      | false =>
        go_enter Tryz.func25, Tryz.ntmps25
        go_wp2_with fail
        refine HO.out.mono ?_
        rintro e' w2 ⟨rfl, hb⟩
        have HB := Lib.hid (HB1.out.trans (hb.mono HB1.out.size))
        clear hb
        go_wp2_with fail
        go_ret
        exact ⟨by rw [HX.out]; rfl, HB.out⟩
      | true =>
        go_enter Tryz.func25, Tryz.ntmps25
        go_wp2_with fail
        refine HO.out.mono ?_
        rintro e' w2 ⟨rfl, hb⟩
        have HB := Lib.hid (HB1.out.trans (hb.mono HB1.out.size))
        clear hb
        go_wp2_with fail
        all_goals
          go_ret
          refine ⟨?_, HB.out⟩
          rw [HX.out]
          first
            | (simp [*]; done)
            | (simp [*]; intros; omega)
    · have e1 : (e.kind == 1) = false := by simpa using h1
      by_cases h3 : e.kind = 3
      · have e3 : (e.kind == 3) = true := by rw [h3]; rfl
        have HO : Hid (Calls Tryz.prog 54 #[.agg #[.int .i8 e.kind, .string e.text, .int .i64 e.num, .string ⟨#[]⟩, .string e.attr, .slice A e.l.length lc]] (w.alloc (.cells #[.int .i8 e.kind, .string e.text, .int .i64 e.num, .string ⟨#[]⟩, .string e.attr, .slice A e.l.length lc] 27)) (BoolB (xOnly ⟨e.kind, e.text, e.num, ByteArray.empty, e.attr, e.l⟩) (w.alloc (.cells #[.int .i8 e.kind, .string e.text, .int .i64 e.num, .string ⟨#[]⟩, .string e.attr, .slice A e.l.length lc] 27)))) := Lib.hid (only_any _ _ _ _ _ _ _ _ _)
        have HB1 : Hid (Below w.heap.size w (w.alloc (.cells #[.int .i8 e.kind, .string e.text, .int .i64 e.num, .string ⟨#[]⟩, .string e.attr, .slice A e.l.length lc] 27))) := Lib.hid ((Below.refl _ w).alloc (Nat.le_refl _) _)
        have HX : Hid (xPlain e = xOnly ⟨e.kind, e.text, e.num, ByteArray.empty, e.attr, e.l⟩) := Lib.hid (by unfold xPlain; rw [if_neg h0, if_neg h1, if_pos h3])
        clear h0 h1 h3
        go_enter Tryz.func25, Tryz.ntmps25
        go_wp2_with fail
        refine HO.out.mono ?_
        rintro e' w2 ⟨rfl, hb⟩
        have HB := Lib.hid (HB1.out.trans (hb.mono HB1.out.size))
        clear hb
        go_wp2_with fail
        go_ret
        exact ⟨by rw [HX.out]; rfl, HB.out⟩
      · have e3 : (e.kind == 3) = false := by simpa using h3
        have HX : Hid (xPlain e = false) := Lib.hid (by unfold xPlain; rw [if_neg h0, if_neg h1, if_neg h3])
        clear h0 h1 h3
        go_enter Tryz.func25, Tryz.ntmps25
        go_wp2_with fail
        go_ret
        exact ⟨by rw [HX.out]; rfl, (Below.refl _ w).alloc (Nat.le_refl _) _⟩
end Go.Proofs.YtmljdppdaaoehaaGreatDoor
namespace Go.Proofs.YtmljdppdaaoehaaGreatDoor
open Go.RowKit
set_option linter.unusedVariables false
set_option linter.unusedSimpArgs false

def BoolS (b : Bool) (w : World) (e : Ending) (w' : World) : Prop := e = .returned (.bool b) ∧ w' = w
theorem nameGo_drop {l : List UInt8} {i : Nat} {b : UInt8} (h : l[i]? = some b) : nameGo i (l.drop i) = ((isLetter b.toNat || (decide (i ≠ 0) && decide (48 ≤ b.toNat ∧ b.toNat ≤ 57))) && nameGo (i + 1) (l.drop (i + 1))) := by rw [drop_cons h]; rfl
set_option maxRecDepth 100000 in
set_option maxHeartbeats 4000000 in
theorem rname_any (s : ByteArray) (w : World) (hs : s.size ≤ 140737488351232) : Calls Tryz.prog 39 #[.string s] w (BoolS (isName s) w) := by
  go_enter Tryz.func39, Tryz.ntmps39
  go_wp2_with fail
  go_loopg [8] s.size (fun g i wr => ∃ j : Nat, j + g = s.size ∧ i = .int .i64 (j : Nat) ∧ wr = w ∧ Hid (nameGo 0 s.data.toList = nameGo j (s.data.toList.drop j)))
  case atStart => exact ⟨0, by omega, rfl, rfl, Lib.hid rfl⟩
  case round =>
    obtain ⟨j, hj, rfl, rfl, HN⟩ := hrel
    cases gk with
    | zero =>
      have hjj : ¬ ((j : Int) < (s.size : Int)) := by omega
      have hlen : s.data.toList.length = s.size := rfl
      have HE : Hid (nameGo 0 s.data.toList = true) := Lib.hid (by rw [HN.out, List.drop_of_length_le (by omega)]; rfl)
      by_cases h0 : 0 < s.size
      · have h0i : (0 : Int) < (s.size : Int) := by omega
        by_cases h1 : s.size ≤ 32
        · have h1i : (s.size : Int) ≤ 32 := by omega
          go_wp2_with fail
          go_ret
          exact ⟨by unfold isName; rw [HE.out]; simp [h0, h1], rfl⟩
        · have h1i : ¬ ((s.size : Int) ≤ 32) := by omega
          go_wp2_with fail
          go_ret
          exact ⟨by unfold isName; rw [HE.out]; simp [h0, h1], rfl⟩
      · have h0i : ¬ ((0 : Int) < (s.size : Int)) := by omega
        go_wp2_with fail
        go_ret
        exact ⟨by unfold isName; rw [HE.out]; simp [h0], rfl⟩
    | succ g =>
      have hjj : (j : Int) < (s.size : Int) := by omega
      have hjb : (0 : Int) ≤ (j : Int) ∧ (j : Int) < (s.size : Int) := ⟨by omega, by omega⟩
      have hjn : j < s.size := by omega
      have hbj : s.data.toList[j]? = some (s[j]'hjn) := by
        rw [List.getElem?_eq_getElem (show j < s.data.toList.length from hjn)]
        rfl
      have HD := Lib.hid (nameGo_drop hbj)
      have HF : Hid (nameGo j (s.data.toList.drop j) = false → isName s = false) := Lib.hid (fun h => by unfold isName; rw [HN.out, h]; rfl)
      have HL : Hid (isLetter (s[j]'hjn).toNat = decide (97 ≤ bits BinOp.or IntKind.u8 ((s[j]'hjn).toNat : Int) 32 ∧ bits BinOp.or IntKind.u8 ((s[j]'hjn).toNat : Int) 32 ≤ 122)) := Lib.hid rfl
      clear hbj
      by_cases hA : 97 ≤ bits BinOp.or IntKind.u8 ((s[j]'hjn).toNat : Int) 32
      · by_cases hB : bits BinOp.or IntKind.u8 ((s[j]'hjn).toNat : Int) 32 ≤ 122
        · have HN2 : Hid (nameGo 0 s.data.toList = nameGo (j + 1) (s.data.toList.drop (j + 1))) := Lib.hid (by rw [HN.out, HD.out, HL.out, decide_eq_true ⟨hA, hB⟩]; simp)
          go_wp2_with fail
          go_roundg g
          case measure => omega
          case rel => exact ⟨j + 1, by omega, by go_num, rfl, HN2⟩
        · have HLF : Hid (isLetter (s[j]'hjn).toNat = false) := Lib.hid (by rw [HL.out]; simp [hB])
          by_cases hj0 : j = 0
          · have ej : ((j : Int) == 0) = true := by simp; omega
            have HR : Hid (isName s = false) := Lib.hid (HF.out (by rw [HD.out, HLF.out]; simp [hj0]))
            clear hj0
            go_wp2_with fail
            go_ret
            exact ⟨by rw [HR.out]; rfl, rfl⟩
          · have ej : ((j : Int) == 0) = false := by simp; omega
            by_cases h48 : (s[j]'hjn).toNat < 48
            · have h48i : ((s[j]'hjn).toNat : Int) < 48 := by omega
              have HR : Hid (isName s = false) := Lib.hid (HF.out (by rw [HD.out, HLF.out]; simp; intro _ h _; omega))
              clear hj0
              go_wp2_with fail
              go_ret
              exact ⟨by rw [HR.out]; rfl, rfl⟩
            · have h48i : ¬ (((s[j]'hjn).toNat : Int) < 48) := by omega
              by_cases h57 : 57 < (s[j]'hjn).toNat
              · have h57i : (57 : Int) < ((s[j]'hjn).toNat : Int) := by omega
                have HR : Hid (isName s = false) := Lib.hid (HF.out (by rw [HD.out, HLF.out]; simp; intro _ _ h; omega))
                clear hj0
                go_wp2_with fail
                go_ret
                exact ⟨by rw [HR.out]; rfl, rfl⟩
              · have h57i : ¬ ((57 : Int) < ((s[j]'hjn).toNat : Int)) := by omega
                have HN2 : Hid (nameGo 0 s.data.toList = nameGo (j + 1) (s.data.toList.drop (j + 1))) := Lib.hid (by
                  rw [HN.out, HD.out, HLF.out, decide_eq_true hj0, decide_eq_true (show 48 ≤ (s[j]'hjn).toNat ∧ (s[j]'hjn).toNat ≤ 57 from ⟨by omega, by omega⟩)]; simp)
                clear hj0
                go_wp2_with fail
                go_roundg g
                case measure => omega
                case rel => exact ⟨j + 1, by omega, by go_num, rfl, HN2⟩
      · have HLF : Hid (isLetter (s[j]'hjn).toNat = false) := Lib.hid (by rw [HL.out]; simp [hA])
        by_cases hj0 : j = 0
        · have ej : ((j : Int) == 0) = true := by simp; omega
          have HR : Hid (isName s = false) := Lib.hid (HF.out (by rw [HD.out, HLF.out]; simp [hj0]))
          clear hj0
          go_wp2_with fail
          go_ret
          exact ⟨by rw [HR.out]; rfl, rfl⟩
        · have ej : ((j : Int) == 0) = false := by simp; omega
          by_cases h48 : (s[j]'hjn).toNat < 48
          · have h48i : ((s[j]'hjn).toNat : Int) < 48 := by omega
            have HR : Hid (isName s = false) := Lib.hid (HF.out (by rw [HD.out, HLF.out]; simp; intro _ h _; omega))
            clear hj0
            go_wp2_with fail
            go_ret
            exact ⟨by rw [HR.out]; rfl, rfl⟩
          · have h48i : ¬ (((s[j]'hjn).toNat : Int) < 48) := by omega
            by_cases h57 : 57 < (s[j]'hjn).toNat
            · have h57i : (57 : Int) < ((s[j]'hjn).toNat : Int) := by omega
              have HR : Hid (isName s = false) := Lib.hid (HF.out (by rw [HD.out, HLF.out]; simp; intro _ _ h; omega))
              clear hj0
              go_wp2_with fail
              go_ret
              exact ⟨by rw [HR.out]; rfl, rfl⟩
            · have h57i : ¬ ((57 : Int) < ((s[j]'hjn).toNat : Int)) := by omega
              have HN2 : Hid (nameGo 0 s.data.toList = nameGo (j + 1) (s.data.toList.drop (j + 1))) := Lib.hid (by
                rw [HN.out, HD.out, HLF.out, decide_eq_true hj0, decide_eq_true (show 48 ≤ (s[j]'hjn).toNat ∧ (s[j]'hjn).toNat ≤ 57 from ⟨by omega, by omega⟩)]; simp)
              clear hj0
              go_wp2_with fail
              go_roundg g
              case measure => omega
              case rel => exact ⟨j + 1, by omega, by go_num, rfl, HN2⟩
end Go.Proofs.YtmljdppdaaoehaaGreatDoor
