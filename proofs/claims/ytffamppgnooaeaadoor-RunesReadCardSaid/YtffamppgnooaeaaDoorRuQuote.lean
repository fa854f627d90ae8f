/- runes.Quote. -/
import Derived.Test.YtffamppgnooaeaaDoorRuMap
import Derived.Maps.OwnSet
import Derived.Deep.LoopGhost
import Derived.Lib.IndexBytes
namespace Go.Proofs.YtffamppgnooaeaaDoor
open Go.RowKit Go.Maps
set_option linter.unusedVariables false
set_option linter.unusedSimpArgs false

theorem U8.below {w w' : World} (h : U8 w) (hb : Below w.heap.size w w') : U8 w' := Utf8Tabs_below h hb
theorem Sh.below {w w' : World} {m B : Nat} (h : Sh m w) (hm : m < B) (hb : Below B w w') : Sh m w' := by
  obtain ⟨es, clock, h1, h2⟩ := h
  exact ⟨es, clock, (hb.block m hm).trans h1, h2⟩
set_option maxRecDepth 100000 in
theorem short_has : ∀ c : Fin 256, has shortD (li c.val) = (shortQ (UInt8.ofNat c.val)).isSome := by decide
theorem short_at {c x : UInt8} (h : shortQ c = some x) (z : DataW Unit) : shortD.atKey (li c.toNat) z = dl x.toNat := by
  rcases shortQ_cases h with ⟨rfl, rfl⟩ | ⟨rfl, rfl⟩ | ⟨rfl, rfl⟩ | ⟨rfl, rfl⟩ | ⟨rfl, rfl⟩ | ⟨rfl, rfl⟩ | ⟨rfl, rfl⟩ <;> rfl
theorem short_has' (c : UInt8) : has shortD (li c.toNat) = (shortQ c).isSome := by
  have := short_has ⟨c.toNat, c.toNat_lt⟩
  simpa using this
set_option maxRecDepth 100000 in
theorem and15 : ∀ c : Fin 256, bits .and .u8 ((c.val : Nat) : Int) 15 = ((c.val % 16 : Nat) : Int) := by decide
theorem hexD_lo {n : Nat} (h : n < 10 * 16) : 48 + (n : Int) / 16 = ((hexD (n / 16)).toNat : Int) := by
  unfold hexD
  rw [if_pos (by omega), ofNat_toNat' (by omega)]; omega
theorem hex_at : ∀ m : Fin 16, (((⟨#[48, 49, 50, 51, 52, 53, 54, 55, 56, 57, 97, 98, 99, 100, 101, 102]⟩ : ByteArray)[m.val]'(by have := m.isLt; show m.val < 16; omega)).toNat : Int) = ((hexD m.val).toNat : Int) := by decide
theorem zu8 (w : World) : (zeroValue 5).run Tryd.prog w = .ok (.int .u8 0) w := by kernel_rfl
/-- what the map of letters has at c -/
def sv (c : UInt8) : Int := match shortQ c with | some x => (x.toNat : Int) | none => 0
def sb (c : UInt8) : Bool := (shortQ c).isSome
theorem wpList_short {w : World} {ops : Array Oper} {rest : List Oper} {o : Oper} {a : Act} {Q : Exit → Act → World → Prop} (hg : o.guard = none) (m x : Operand) (hop : o.op = Op.lookup 49 m x true) (b : Nat) (hm : a.eval m = .map (some b)) (hsh : Sh b w) (c : UInt8) (hx : a.eval x = .int .u8 (c.toNat : Int))
    (hK : wpList Tryd.prog ops Q rest (a.put o.dst (.tuple #[.int .u8 (sv c), .bool (sb c)])) w) : wpList Tryd.prog ops Q (o :: rest) a w := by
  have hc : (c.toNat : Int) < 256 := by have := c.toNat_lt; omega
  refine wpList_lookup_own_ok_int w hg m x _ hop 5 5 .u8 ku8 Tryd.underlying49 Tryd.underlying5 (zu8 w) b 7 shortD hm hsh _ (li c.toNat) hx (u8key (by omega) hc) ?_
  intro y hat hwf
  rw [short_has']
  have hy : y = sv c := by
    unfold sv
    cases hs : shortQ c with
    | some z =>
      rw [short_at hs] at hat
      injection hat with hat; injection hat with _ hat
      exact hat.symm
    | none =>
      have := short_has' c
      rw [hs] at this
      rw [atKey_of_not_has this] at hat
      injection hat with hat; injection hat with _ hat
      exact hat.symm
  subst hy
  exact hK
theorem bc_snoc (l : List UInt8) (c : UInt8) : Lib.byteCells l ++ [.int .u8 (c.toNat : Int)] = Lib.byteCells (l ++ [c]) := by simp [Lib.byteCells]
theorem bc_append (l m : List UInt8) : Lib.byteCells l ++ Lib.byteCells m = Lib.byteCells (l ++ m) := by simp [Lib.byteCells]
theorem escB_len (c : UInt8) : (escB c).length ≤ 6 := by
  unfold escB
  split
  · simp
  · split <;> simp
theorem flat_len (l : List UInt8) : (l.flatMap escB).length ≤ 6 * l.length := by
  induction l with
  | nil => simp
  | cons c l ih => rw [List.flatMap_cons, List.length_append, List.length_cons]; have := escB_len c; omega
theorem flat_take {l : List UInt8} {k : Nat} {c : UInt8} (h : l[k]? = some c) : (l.take (k + 1)).flatMap escB = (l.take k).flatMap escB ++ escB c := by
  rw [List.take_add_one, h]; simp
/-- a byte more -/
theorem bu_one (B b : Nat) (l : List UInt8) (c : UInt8) (x : Int) (hx : x = (c.toNat : Int)) (w : World) (h : Bu B b (Lib.byteCells l) w) (hlen : l.length + 1 ≤ 140737488355328) (hBw : B ≤ w.heap.size) :
    Calls Tryd.prog 20 #[.pointer (some ⟨b, 0, none⟩), .int .u8 x] w fun e w' => e = .returned .nilIface ∧ Bu B b (Lib.byteCells (l ++ [c])) w' ∧ Below B w w' := by
  subst hx
  rw [← bc_snoc]
  exact bu_byte B b _ _ w h (by rw [Lib.byteCells_length]; exact hlen) hBw
theorem bu_many (B b : Nat) (l : List UInt8) (s : ByteArray) (w : World) (h : Bu B b (Lib.byteCells l) w) (hlen : l.length + s.size ≤ 140737488355328) (hBw : B ≤ w.heap.size) :
    Calls Tryd.prog 16 #[.pointer (some ⟨b, 0, none⟩), .string s] w fun e w' => e = .returned (.tuple #[.int .i64 s.size, .nilIface]) ∧ Bu B b (Lib.byteCells (l ++ s.data.toList)) w' ∧ Below B w w' := by
  rw [← bc_append]
  exact bu_str B b _ s w h (by rw [Lib.byteCells_length]; exact hlen) hBw
theorem rvalid_any (s : ByteArray) (w : World) (hs : s.size ≤ 9223372036854775807) (hT : U8 w) :
    Calls Tryd.prog 11 #[.string s] w fun e w' => e = .returned (.bool (Lib.validD s.data.toList)) ∧ Below w.heap.size w w' := by
  have HV := Lib.hid (valid_any s w hs hT)
  obtain ⟨v, hv⟩ : ∃ v, Lib.validD s.data.toList = v := ⟨_, rfl⟩
  rw [hv] at HV ⊢
  clear hT hv
  go_enter Tryd.func11, Tryd.ntmps11
  go_wp2_with fail
  refine HV.out.mono ?_
  rintro e w1 ⟨rfl, hb⟩
  have HB := Lib.hid hb
  clear hb
  go_wp2_with fail
  go_ret
  exact ⟨rfl, HB.out⟩
def quoteR (l : List UInt8) : List UInt8 × Nat := if Lib.validD l = true then (quoteB l, 0) else ([], 10)
def QuoteP (l : List UInt8) (w : World) (e : Ending) (w' : World) : Prop := e = .returned (.tuple #[.string ⟨(quoteR l).1.toArray⟩, .int .i64 ((quoteR l).2 : Nat)]) ∧ Below w.heap.size w w'
set_option maxRecDepth 100000 in
set_option maxHeartbeats 4000000 in
theorem quote_any (s : ByteArray) (w : World) (hs : s.size ≤ 3000) (hT : U8 w) : Calls Tryd.prog 10 #[.string s] w (QuoteP s.data.toList w) := by
  have HV := Lib.hid (rvalid_any s w (by omega) hT)
  obtain ⟨v, hv⟩ : ∃ v, Lib.validD s.data.toList = v := ⟨_, rfl⟩
  have HVV := Lib.hid hv
  rw [hv] at HV
  clear hT hv
  go_enter Tryd.func10, Tryd.ntmps10
  go_wp2_with fail
  refine HV.out.mono ?_
  rintro e w1 ⟨rfl, hb1⟩
  have HB1 := Lib.hid hb1
  clear hb1
  cases v with
  | false =>
    go_wp2_with fail
    go_ret2
    exact ⟨by rw [show quoteR s.data.toList = ([], 10) from by unfold quoteR; rw [HVV.out]; rfl]; rfl, HB1.out⟩
  | true =>
    go_wp2_with fail
    refine (short_any _).mono ?_
    rintro e w2 ⟨rfl, hm, hb2⟩
    have HM := Lib.hid hm
    have HB2 := Lib.hid hb2
    clear hm hb2
    go_wp2_with fail
    have hbu : Bu w2.heap.size w2.heap.size [] (w2.alloc (.cells #[.pointer none, .slice none 0 0] 39)) := Lib.fresh_isBuilder _ _ w2
    have hb3 : Below w2.heap.size w2 (w2.alloc (.cells #[.pointer none, .slice none 0 0] 39)) := (Below.refl _ w2).alloc (Nat.le_refl _) _
    refine (bu_byte _ _ _ 34 _ hbu (by simp) hb3.size).mono ?_
    rintro e w3 ⟨rfl, hbu3, hb4⟩
    have HBU3 : Hid (Bu w2.heap.size w2.heap.size (Lib.byteCells [34]) w3) := Lib.hid hbu3
    have HB3 := Lib.hid (hb3.trans hb4)
    clear hbu hb3 hbu3 hb4
    go_wp2_with fail
    have HSZ := Lib.hid (Lib.size_eq s)
    have hn : s.size ≤ 3000 := hs
    go_loopg [17] s.size (fun gk q wr => ∃ k : Nat, k + gk = s.size ∧ q = .int .i64 (k : Nat) ∧ Hid (Bu w2.heap.size w2.heap.size (Lib.byteCells (34 :: (s.data.toList.take k).flatMap escB)) wr) ∧ Hid (Below w2.heap.size w2 wr))
    case atStart => exact ⟨0, by omega, rfl, HBU3, HB3⟩
    case round =>
      obtain ⟨k, hk, rfl, HBU, HB⟩ := hrel
      obtain ⟨W, hW⟩ : ∃ W, W = wr := ⟨_, rfl⟩
      subst hW
      obtain ⟨L, hL⟩ : ∃ L, (34 :: (s.data.toList.take k).flatMap escB : List UInt8) = L := ⟨_, rfl⟩
      have hLl : L.length ≤ 18001 := by
        rw [← hL, List.length_cons]
        have h1 := flat_len (s.data.toList.take k)
        have h2 : (s.data.toList.take k).length ≤ k := List.length_take_le _ _
        omega
      rw [hL] at HBU
      have HLL := Lib.hid hLl
      have HLE := Lib.hid hL
      have hsW := HB.out.size
      clear hLl hL
      cases gk with
      | zero =>
        have hkn : ¬ (k : Int) < (s.size : Int) := by omega
        go_wp2_with fail
        refine (bu_one _ _ L 34 34 rfl _ HBU.out (by have := HLL.out; omega) hsW).mono ?_
        rintro e w4 ⟨rfl, h4, hb4⟩
        have H4 := Lib.hid h4
        have HB4 := Lib.hid (HB.out.trans hb4)
        clear h4 hb4
        go_wp2_with fail
        refine (bu_read _ _ _ _ H4.out HB4.out.size).mono ?_
        rintro e w5 ⟨rfl, hb5⟩
        have HB5 := Lib.hid (HB4.out.trans hb5)
        clear hb5
        go_wp2_with fail
        go_ret2
        have hq : quoteR s.data.toList = (L ++ [34], 0) := by
          unfold quoteR
          rw [if_pos HVV.out, ← HLE.out, List.take_of_length_le (by have := HSZ.out; omega)]
          rfl
        refine ⟨by rw [hq]; rfl, ?_⟩
        exact (HB1.out.trans (HB2.out.mono HB1.out.size)).trans (HB5.out.mono (Nat.le_trans HB1.out.size HB2.out.size))
      | succ g =>
        have hlt : k < s.size := by omega
        obtain ⟨c, hc⟩ : ∃ c, s[k] = c := ⟨_, rfl⟩
        have hcg : s.data.toList[k]? = some c := by rw [← hc]; exact Lib.data_getElem? s k hlt
        have HST := Lib.hid (show (34 :: (s.data.toList.take (k + 1)).flatMap escB : List UInt8) = L ++ escB c by rw [flat_take hcg, ← HLE.out]; rfl)
        have HMW := Lib.hid (HM.out.below (B := w2.heap.size) (by have := HB2.out.size; have := HM.out.lt; omega) HB.out)
        clear hcg
        cases hq : shortQ c with
        | some x =>
          have hsb : sb c = true := by unfold sb; rw [hq]; rfl
          have hsv : sv c = (x.toNat : Int) := by unfold sv; rw [hq]
          have HE := Lib.hid (show escB c = [92, x] by unfold escB; rw [hq])
          clear hq
          go_wp2_with (at_lookup; refine wpList_short rfl (.tmp 24) (.tmp 25) rfl w1.heap.size rfl HMW.out c rfl ?_)
          refine (bu_one _ _ L 92 92 rfl _ HBU.out (by have := HLL.out; omega) hsW).mono ?_
          rintro e w4 ⟨rfl, h4, hb4⟩
          have H4 := Lib.hid h4
          have HB4 := Lib.hid (HB.out.trans hb4)
          clear h4 hb4
          go_wp2_with fail
          refine (bu_one _ _ _ x _ rfl _ H4.out (by have := HLL.out; rw [List.length_append]; simp; omega) HB4.out.size).mono ?_
          rintro e w5 ⟨rfl, h5, hb5⟩
          have H5 := Lib.hid h5
          have HB5 := Lib.hid (HB4.out.trans hb5)
          clear h5 hb5
          go_wp2_with fail
          go_roundg g
          case rel => exact ⟨k + 1, by omega, by go_num, Lib.hid (by rw [HST.out, HE.out]; simpa using H5.out), HB5⟩
          case measure => omega
        | none =>
          have hsb : sb c = false := by unfold sb; rw [hq]; rfl
          have hsv : sv c = 0 := by unfold sv; rw [hq]
          by_cases h32 : c.toNat < 32
          · have HE := Lib.hid (show escB c = [92, 117, 48, 48, hexD (c.toNat / 16), hexD (c.toNat % 16)] by unfold escB; rw [hq]; simp only; rw [if_pos h32])
            clear hq
            go_wp2_with (at_lookup; refine wpList_short rfl (.tmp 24) (.tmp 25) rfl w1.heap.size rfl HMW.out c rfl ?_)
            refine (bu_many _ _ L ⟨#[92, 117, 48, 48]⟩ _ HBU.out (by have := HLL.out; show L.length + 4 ≤ _; omega) hsW).mono ?_
            rintro e w4 ⟨rfl, h4, hb4⟩
            have H4 := Lib.hid h4
            have HB4 := Lib.hid (HB.out.trans hb4)
            clear h4 hb4
            obtain ⟨m, hm⟩ : ∃ m : Fin 16, c.toNat % 16 = m.val := ⟨⟨c.toNat % 16, by omega⟩, rfl⟩
            have HMM := Lib.hid hm
            have hand : bits .and .u8 (c.toNat : Int) 15 = ((m.val : Nat) : Int) := by rw [← hm]; exact and15 ⟨c.toNat, c.toNat_lt⟩
            have hm16 := m.isLt
            clear hm
            go_wp2_with fail
            refine (bu_one _ _ _ (hexD (c.toNat / 16)) _ (hexD_lo (by omega)) _ H4.out (by have := HLL.out; rw [List.length_append]; show L.length + 4 + 1 ≤ _; omega) HB4.out.size).mono ?_
            rintro e w5 ⟨rfl, h5, hb5⟩
            have H5 := Lib.hid h5
            have HB5 := Lib.hid (HB4.out.trans hb5)
            clear h5 hb5
            go_wp2_with fail
            refine (bu_one _ _ _ (hexD (c.toNat % 16)) _ (by rw [HMM.out]; exact hex_at m) _ H5.out (by have := HLL.out; rw [List.length_append, List.length_append]; show L.length + 4 + 1 + 1 ≤ _; omega) HB5.out.size).mono ?_
            rintro e w6 ⟨rfl, h6, hb6⟩
            have H6 := Lib.hid h6
            have HB6 := Lib.hid (HB5.out.trans hb6)
            clear h6 hb6
            go_wp2_with fail
            go_roundg g
            case rel => exact ⟨k + 1, by omega, by go_num, Lib.hid (by rw [HST.out, HE.out]; simpa using H6.out), HB6⟩
            case measure => omega
          · have HE := Lib.hid (show escB c = [c] by unfold escB; rw [hq]; simp only; rw [if_neg h32])
            clear hq
            go_wp2_with (at_lookup; refine wpList_short rfl (.tmp 24) (.tmp 25) rfl w1.heap.size rfl HMW.out c rfl ?_)
            refine (bu_one _ _ L c _ rfl _ HBU.out (by have := HLL.out; omega) hsW).mono ?_
            rintro e w4 ⟨rfl, h4, hb4⟩
            have H4 := Lib.hid h4
            have HB4 := Lib.hid (HB.out.trans hb4)
            clear h4 hb4
            go_wp2_with fail
            go_roundg g
            case rel => exact ⟨k + 1, by omega, by go_num, Lib.hid (by rw [HST.out, HE.out]; exact H4.out), HB4⟩
            case measure => omega
end Go.Proofs.YtffamppgnooaeaaDoor
