/- runes.escape. -/
import Derived.Test.YtffamppgnooaeaaDoorRuEsc2
import Derived.Deep.LoopGhost
namespace Go.Proofs.YtffamppgnooaeaaDoor
open Go.RowKit Go.Maps
set_option linter.unusedVariables false
set_option linter.unusedSimpArgs false

theorem pair_z {r low : Nat} (hr : 55296 ≤ r) (hr2 : r ≤ 56319) (hl : 56320 ≤ low) (hl2 : low ≤ 57343) :
    ∃ z : Nat, 65536 + 1024 * (r - 55296) + (low - 56320) = z ∧ ((r : Int) - 55296) * 1024 + (low : Int) - 56320 + 65536 = (z : Int) ∧ (z < 55296 ∨ 57343 < z) ∧ z < 1114112 := ⟨_, rfl, by omega, by omega, by omega⟩
theorem u8_wf {x : Int} (h : (Lit.int .u8 x).wf = true) : 0 ≤ x ∧ x ≤ 255 := by
  simp [Lit.wf, IntKind.min, IntKind.max, IntKind.bits, IntKind.signed] at h; omega
theorem short_hit {x c : Int} (hx : (Lit.int .u8 x).wf = true) (hc : (Lit.int .u8 c).wf = true) (h : ∀ zd, shortD.atKey (.int .u8 x) zd = .lit (.int .u8 c)) : ∃ X C : UInt8, x = (X.toNat : Int) ∧ c = (C.toNat : Int) ∧ shortQ X = some C := by
  have hx1 : 0 ≤ x ∧ x ≤ 255 := u8_wf hx
  have hX : ((UInt8.ofNat x.toNat).toNat : Int) = x := by rw [ofNat_toNat' (by omega)]; omega
  cases hs : shortQ (UInt8.ofNat x.toNat) with
  | none =>
    have := short_has' (UInt8.ofNat x.toNat)
    rw [hs] at this
    have h1 := h (.lit (.int .u8 0))
    have h2 := h (.lit (.int .u8 1))
    have e : (li (UInt8.ofNat x.toNat).toNat : Lit) = .int .u8 x := by unfold li; rw [hX]
    rw [e] at this
    rw [atKey_of_not_has this] at h1 h2
    rw [← h1] at h2
    injection h2 with h2; injection h2 with _ h2; omega
  | some C =>
    have h1 := short_at hs (.lit (.int .u8 0))
    have e : (li (UInt8.ofNat x.toNat).toNat : Lit) = .int .u8 x := by unfold li; rw [hX]
    rw [e, h] at h1
    injection h1 with h1; injection h1 with _ h1
    exact ⟨_, C, hX.symm, h1, hs⟩
theorem esc_drop {l : List UInt8} {i : Nat} {y : UInt8} (h : i + 1 < l.length) (h1 : nb l i = 92) (h2 : nb l (i + 1) = y.toNat) : ∃ r, l.drop i = 92 :: y :: r := by
  refine ⟨l.drop (i + 1 + 1), ?_⟩
  rw [List.drop_eq_getElem_cons (by omega), List.drop_eq_getElem_cons (by omega)]
  have e1 : l[i]'(by omega) = 92 := by
    unfold nb at h1
    rw [List.getD_eq_getElem?_getD, List.getElem?_eq_getElem (by omega)] at h1
    exact UInt8.toNat_inj.1 h1
  have e2 : l[i + 1]'h = y := by
    unfold nb at h2
    rw [List.getD_eq_getElem?_getD, List.getElem?_eq_getElem h] at h2
    exact UInt8.toNat_inj.1 h2
  rw [e1, e2]
def EscP (l : List UInt8) (i : Nat) (w : World) (e : Ending) (w' : World) : Prop := e = .returned (.tuple #[.string ⟨(escL (l.drop i)).1.toArray⟩, .int .i64 ((escL (l.drop i)).2 : Nat)]) ∧ Below w.heap.size w w'
set_option maxRecDepth 100000 in
set_option maxHeartbeats 4000000 in
theorem escape_any (b : ByteArray) (i : Nat) (hb : b.size ≤ 30000) (hi : i ≤ 30000) (h92 : nb b.data.toList i = 92) (w : World) (hv : Vars w) :
    Calls Tryd.prog 15 #[.string b, .int .i64 (i : Nat)] w (EscP b.data.toList i w) := by
  have HSZ := Lib.hid (Lib.size_eq b)
  have HV := Lib.hid hv
  have H92 := Lib.hid h92
  clear hv h92
  by_cases hlen : b.size ≤ i + 1
  · have HE := Lib.hid (show escL (b.data.toList.drop i) = ([], 0) by unfold escL; rw [if_pos (by rw [List.length_drop]; have := HSZ.out; omega)])
    go_enter Tryd.func15, Tryd.ntmps15
    go_wp2_with fail
    go_ret2
    refine ⟨by rw [HE.out]; rfl, ?_⟩
    exact (Below.refl _ w).alloc (Nat.le_refl _) _
  have hlt1 : i + 1 < b.size := by omega
  obtain ⟨y, hy⟩ : ∃ y, b[i + 1] = y := ⟨_, rfl⟩
  have HY : Hid (nb b.data.toList (i + 1) = y.toNat) := Lib.hid (by unfold nb; rw [List.getD_eq_getElem?_getD, Lib.data_getElem? b (i + 1) hlt1, hy]; rfl)
  obtain ⟨r0, hr0⟩ := esc_drop (l := b.data.toList) (i := i) (by have := HSZ.out; omega) H92.out HY.out
  have HD := Lib.hid hr0
  clear hr0
  by_cases h47 : y.toNat = 47
  · have hyz : ((y.toNat : Int) == 47) = true := by simp [h47]
    have hy47 : y = 47 := UInt8.toNat_inj.1 h47
    have HE := Lib.hid (show escL (b.data.toList.drop i) = ([47], 2) by rw [HD.out, hy47]; unfold escL; rw [if_neg (by simp)]; simp [nb])
    clear h47 hy47
    go_enter Tryd.func15, Tryd.ntmps15
    go_wp2_with fail
    go_ret2
    refine ⟨by rw [HE.out]; rfl, ?_⟩
    exact (Below.refl _ w).alloc (Nat.le_refl _) _
  have hyz : ((y.toNat : Int) == 47) = false := by simp; omega
  have H47 := Lib.hid h47
  clear h47
  go_enter Tryd.func15, Tryd.ntmps15
  go_wp2_with fail
  refine (short_any _).mono ?_
  rintro e w1 ⟨rfl, hm, hb1⟩
  rw [World.size_alloc] at hm
  have HM := Lib.hid hm
  have HX1 := Lib.hid (boxBel (Boxed.new w 9 (.string b)) hb1)
  have hs1 := hb1.size
  rw [World.size_alloc] at hs1
  have HB1 : Hid (Below w.heap.size w w1) := Lib.hid (((Below.refl _ w).alloc (Nat.le_refl _) _).trans (hb1.mono (by rw [World.size_alloc]; omega)))
  clear hm hb1
  simp only [World.size_alloc]
  go_wp2_with (with_reducible refine wpList_range_own _ rfl (.tmp 28) 49 rfl 5 5 ku8 Tryd.underlying49 (plainElem Tryd.prog 5) (w.heap.size + 1) 7 shortD rfl HM.out ?_; intro w2 hrg hg2 hz2; have HRG := Lib.hid hrg; have HG2 := Lib.hid hg2; clear hrg hg2 hz2)
  have HB2 : Hid (Below w.heap.size w w2) := Lib.hid (HB1.out.grown HG2.out HB1.out.size (fun k e => by cases e))
  have HX2 : Hid (Boxed w2 w.heap.size 9 (.string b)) := Lib.hid (HX1.out.kept HG2.out (by simp))
  go_frame
  go_loopg [30] 7 (fun gk q wr => ∃ (left : Lit → Bool) (cnt : Nat), cnt ≤ gk ∧ Hid (wr.ranges Tryd.prog 5 (plainElem Tryd.prog 5) (w.heap.size + 1) w1.heap.size 7 shortD left cnt) ∧ Hid (∀ c x, shortQ c = some x → x = y → left (li c.toNat) = true) ∧ Hid (Below w.heap.size w wr) ∧ Hid (Boxed wr w.heap.size 9 (.string b)))
  case atStart =>
    refine ⟨_, _, ?_, HRG, Lib.hid (fun c x h _ => by rw [short_has', h]; rfl), HB2, HX2⟩
    decide
  case round =>
    obtain ⟨left, cnt, hcnt, HR, HL, HB, HX⟩ := hrel
    obtain ⟨W, hW⟩ : ∃ W, W = wr := ⟨_, rfl⟩
    subst hW
    have hcx := HX.out.cell
    go_wp2_with (with_reducible refine wpList_next_ranges_ii _ rfl (.tmp 29) rfl 5 5 .u8 .u8 ku8 Tryd.underlying5 Tryd.underlying5 (w.heap.size + 1) w1.heap.size 7 shortD left cnt rfl HR.out ?_ ?_)
    · intro _ hl0
      have hno : ∀ c x, shortQ c = some x → nb b.data.toList (i + 1) ≠ x.toNat := by
        intro c x hc he
        rw [HY.out] at he
        have := HL.out c x hc (UInt8.toNat_inj.1 he.symm)
        rw [hl0] at this
        cases this
      have hesc := escD (l := b.data.toList) (i := i) (by have := HSZ.out; omega) H92.out (by rw [HY.out]; exact H47.out) hno
      have HESC := Lib.hid hesc
      have HVW := Lib.hid (HV.out.below HB.out)
      clear hno hesc hl0
      rcases HESC.out with ⟨h1, h2, h3, he⟩ | ⟨r, h1, hr, he⟩ | ⟨r, h1, h2, hr, hr2, he⟩ | ⟨r, low, h1, h2, h3, h4, hr, hr2, hl, hl2, he⟩
      · have HE := Lib.hid he
        have H1 := Lib.hid h1
        have H2 := Lib.hid h2
        have H3 := Lib.hid h3
        clear h1 h2 h3 he HESC
        go_wp2_with fail
        refine (half_any b w.heap.size i 0 55295 hb (by omega) (by omega) (by omega) W HX.out HVW.out).mono ?_
        rintro e w3 ⟨rfl, hb3⟩
        have HB3 := Lib.hid (HB.out.trans (hb3.mono HB.out.size))
        have HX3 := Lib.hid (boxBel HX.out hb3)
        have HV3 := Lib.hid (HVW.out.below hb3)
        clear hb3
        rw [H1.out]; generalize (halfL b.data.toList i 0 55295).1 = r3
        go_wp2_with fail
        refine (half_any b w.heap.size i 57344 65535 hb (by omega) (by omega) (by omega) w3 HX3.out HV3.out).mono ?_
        rintro e w4 ⟨rfl, hb4⟩
        have HB4 := Lib.hid (HB3.out.trans (hb4.mono HB3.out.size))
        have HX4 := Lib.hid (boxBel HX3.out hb4)
        have HV4 := Lib.hid (HV3.out.below hb4)
        clear hb4
        rw [H2.out]; generalize (halfL b.data.toList i 57344 65535).1 = r4
        go_wp2_with fail
        refine (half_any b w.heap.size i 55296 56319 hb (by omega) (by omega) (by omega) w4 HX4.out HV4.out).mono ?_
        rintro e w5 ⟨rfl, hb5⟩
        have HB5 := Lib.hid (HB4.out.trans (hb5.mono HB4.out.size))
        have HX5 := Lib.hid (boxBel HX4.out hb5)
        have HV5 := Lib.hid (HV4.out.below hb5)
        clear hb5
        go_wp2_with fail
        refine (half_any b w.heap.size (i + 6) 56320 57343 hb (by omega) (by omega) (by omega) w5 HX5.out HV5.out).mono ?_
        rintro e w6 ⟨rfl, hb6⟩
        have HB6 := Lib.hid (HB5.out.trans (hb6.mono HB5.out.size))
        clear hb6
        rcases H3.out with h3 | h3
        · rw [h3]
          generalize (halfL b.data.toList i 55296 56319).1 = r5
          generalize (halfL b.data.toList (i + 6) 56320 57343).1 = r6
          generalize (halfL b.data.toList (i + 6) 56320 57343).2 = o6
          clear h3
          go_wp2_with fail
          go_ret2
          refine ⟨?_, HB6.out⟩
          rw [HE.out]; rfl
        · rw [h3]
          generalize (halfL b.data.toList i 55296 56319).1 = r5
          generalize (halfL b.data.toList (i + 6) 56320 57343).1 = r6
          generalize (halfL b.data.toList i 55296 56319).2 = o5
          clear h3
          cases o5
          all_goals
            go_wp2_with fail
            go_ret2
            refine ⟨?_, HB6.out⟩
            rw [HE.out]; rfl
      · have HE := Lib.hid he
        have H1 := Lib.hid h1
        clear h1 he HESC
        go_wp2_with fail
        refine (half_any b w.heap.size i 0 55295 hb (by omega) (by omega) (by omega) W HX.out HVW.out).mono ?_
        rintro e w3 ⟨rfl, hb3⟩
        have HB3 := Lib.hid (HB.out.trans (hb3.mono HB.out.size))
        have HX3 := Lib.hid (boxBel HX.out hb3)
        have HV3 := Lib.hid (HVW.out.below hb3)
        clear hb3
        rw [H1.out]
        go_wp2_with fail
        go_ret2
        refine ⟨?_, HB3.out⟩
        rw [HE.out, encode_eq (r := r) (.inl hr) (by omega)]
        rfl
      · have HE := Lib.hid he
        have H1 := Lib.hid h1
        have H2 := Lib.hid h2
        clear h1 h2 he HESC
        go_wp2_with fail
        refine (half_any b w.heap.size i 0 55295 hb (by omega) (by omega) (by omega) W HX.out HVW.out).mono ?_
        rintro e w3 ⟨rfl, hb3⟩
        have HB3 := Lib.hid (HB.out.trans (hb3.mono HB.out.size))
        have HX3 := Lib.hid (boxBel HX.out hb3)
        have HV3 := Lib.hid (HVW.out.below hb3)
        clear hb3
        rw [H1.out]; generalize (halfL b.data.toList i 0 55295).1 = r3
        go_wp2_with fail
        refine (half_any b w.heap.size i 57344 65535 hb (by omega) (by omega) (by omega) w3 HX3.out HV3.out).mono ?_
        rintro e w4 ⟨rfl, hb4⟩
        have HB4 := Lib.hid (HB3.out.trans (hb4.mono HB3.out.size))
        have HX4 := Lib.hid (boxBel HX3.out hb4)
        have HV4 := Lib.hid (HV3.out.below hb4)
        clear hb4
        rw [H2.out]
        go_wp2_with fail
        go_ret2
        refine ⟨?_, HB4.out⟩
        rw [HE.out, encode_eq (r := r) (.inr hr) (by omega)]
        rfl
      · obtain ⟨z, hz1, hz2, hz3⟩ := pair_z hr hr2 hl hl2
        rw [hz1] at he
        have HZ1 := Lib.hid hz2
        have HZ2 := Lib.hid hz3
        clear hz1 hz2 hz3
        have HE := Lib.hid he
        have H1 := Lib.hid h1
        have H2 := Lib.hid h2
        have H3 := Lib.hid h3
        have H4 := Lib.hid h4
        clear h1 h2 h3 h4 he HESC
        go_wp2_with fail
        refine (half_any b w.heap.size i 0 55295 hb (by omega) (by omega) (by omega) W HX.out HVW.out).mono ?_
        rintro e w3 ⟨rfl, hb3⟩
        have HB3 := Lib.hid (HB.out.trans (hb3.mono HB.out.size))
        have HX3 := Lib.hid (boxBel HX.out hb3)
        have HV3 := Lib.hid (HVW.out.below hb3)
        clear hb3
        rw [H1.out]; generalize (halfL b.data.toList i 0 55295).1 = r3
        go_wp2_with fail
        refine (half_any b w.heap.size i 57344 65535 hb (by omega) (by omega) (by omega) w3 HX3.out HV3.out).mono ?_
        rintro e w4 ⟨rfl, hb4⟩
        have HB4 := Lib.hid (HB3.out.trans (hb4.mono HB3.out.size))
        have HX4 := Lib.hid (boxBel HX3.out hb4)
        have HV4 := Lib.hid (HV3.out.below hb4)
        clear hb4
        rw [H2.out]; generalize (halfL b.data.toList i 57344 65535).1 = r4
        go_wp2_with fail
        refine (half_any b w.heap.size i 55296 56319 hb (by omega) (by omega) (by omega) w4 HX4.out HV4.out).mono ?_
        rintro e w5 ⟨rfl, hb5⟩
        have HB5 := Lib.hid (HB4.out.trans (hb5.mono HB4.out.size))
        have HX5 := Lib.hid (boxBel HX4.out hb5)
        have HV5 := Lib.hid (HV4.out.below hb5)
        clear hb5
        rw [H3.out]
        go_wp2_with fail
        refine (half_any b w.heap.size (i + 6) 56320 57343 hb (by omega) (by omega) (by omega) w5 HX5.out HV5.out).mono ?_
        rintro e w6 ⟨rfl, hb6⟩
        have HB6 := Lib.hid (HB5.out.trans (hb6.mono HB5.out.size))
        have HX6 := Lib.hid (boxBel HX5.out hb6)
        have HV6 := Lib.hid (HV5.out.below hb6)
        clear hb6
        rw [H4.out]
        go_wp2_with fail
        go_ret2
        refine ⟨?_, HB6.out⟩
        rw [HE.out, HZ1.out, encode_eq HZ2.out.1 HZ2.out.2]
        rfl
    · intro x c w3 cnt3 hwx hwc hlx hat hrg3 hlt3 hg3 hs3 hen
      obtain ⟨X, C, rfl, rfl, hXC⟩ := short_hit hwx hwc hat
      have HXC := Lib.hid hXC
      have HB3 : Hid (Below w.heap.size w w3) := Lib.hid (HB.out.grown hg3 HB.out.size (fun k e => by injection e with e; omega))
      have HX3 : Hid (Boxed w3 w.heap.size 9 (.string b)) := Lib.hid (HX.out.kept hg3 (fun e => by injection e with e; omega))
      have hcx3 := HX3.out.cell
      have HRG3 := Lib.hid hrg3
      have hX128 : X.toNat < 128 := by rcases shortQ_cases hXC with ⟨rfl, _⟩ | ⟨rfl, _⟩ | ⟨rfl, _⟩ | ⟨rfl, _⟩ | ⟨rfl, _⟩ | ⟨rfl, _⟩ | ⟨rfl, _⟩ <;> decide
      have hC256 : C.toNat < 256 := C.toNat_lt
      clear hXC hrg3 hwx hwc hat hg3 hs3 hcx hlx
      by_cases hCy : C = y
      · have hq : ((C.toNat : Int) == (y.toNat : Int)) = true := by simp [hCy]
        have HE : Hid (escL (b.data.toList.drop i) = ([X], 2)) := Lib.hid (by rw [HD.out, ← hCy]; exact escL_short r0 HXC.out)
        clear hCy
        go_wp2_with fail
        go_ret2
        refine ⟨?_, HB3.out⟩
        rw [HE.out, encode_eq (r := X.toNat) (by omega) (by omega)]
        unfold uB
        rw [if_pos hX128, UInt8.ofNat_toNat]
        rfl
      · have hq : ((C.toNat : Int) == (y.toNat : Int)) = false := by
          simp only [beq_eq_false_iff_ne, ne_eq]
          intro h
          exact hCy (UInt8.toNat_inj.1 (by omega))
        have HL3 : Hid (∀ c x, shortQ c = some x → x = y → (left (li c.toNat) && !(li c.toNat).sameKey (.int .u8 (X.toNat : Int))) = true) := Lib.hid (fun c x h1 h2 => by
          rw [HL.out c x h1 h2, Bool.true_and]
          have hne : li c.toNat ≠ .int .u8 (X.toNat : Int) := by
            intro h
            unfold li at h
            injection h with _ h
            have : c = X := UInt8.toNat_inj.1 (by omega)
            subst this
            rw [HXC.out] at h1
            injection h1 with h1
            exact hCy (h1.trans h2)
          rw [sameKey_ne hne]; rfl)
        clear hCy
        go_wp2_with fail
        go_roundg cnt3
        case rel => exact ⟨_, cnt3, Nat.le_refl _, HRG3, HL3, HB3, HX3⟩
        case measure => omega
end Go.Proofs.YtffamppgnooaeaaDoor
