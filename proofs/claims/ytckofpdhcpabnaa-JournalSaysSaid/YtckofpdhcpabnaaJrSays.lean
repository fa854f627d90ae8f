/- The law JournalSays. -/
import Derived.Test.YtckofpdhcpabnaaJrWakes
namespace Go.Proofs.Ytckofpdhcpabnaa
open Go.RowKit
set_option linter.unusedVariables false
set_option linter.unusedSimpArgs false

def bbA (x : List UInt8) : List UInt8 := if fErr x = 0 then frm x else []
theorem sApp (x : List UInt8) : jApp DS.new x = (fErr x, ⟨bbA x, false, false, 0⟩) := by
  unfold jApp bbA
  by_cases h : fErr x = 0
  · rw [if_neg (by simpa using h), if_pos h, h]
    obtain ⟨h1, h2⟩ := fErr_zero h
    unfold dAppend
    rw [if_neg (by decide), if_neg (by rw [frm_len]; simp [DS.new]; omega), if_neg (by decide)]
    rfl
  · rw [if_pos h, if_neg h]; rfl
def hS (ls : List (List UInt8)) : Int := if rowsErr ls ≠ 0 then rowsErr ls else if 1048576 < (frs ls).length then 3 else 0
def bbS (ls : List (List UInt8)) : List UInt8 := if hS ls = 0 then frs ls else []
theorem sSnap (ls : List (List UInt8)) : jSnap DS.new ls = (hS ls, ⟨bbS ls, false, false, 0⟩) := by
  unfold jSnap bbS hS
  by_cases h : rowsErr ls = 0
  · have h' : ¬ rowsErr ls ≠ 0 := fun e => e h
    simp only [if_neg h']
    by_cases h2 : 1048576 < (frs ls).length
    · simp only [if_pos h2]; rfl
    · simp only [if_neg h2, if_true]
      unfold dSwap
      rw [if_neg (by decide), if_neg h2, if_neg (by decide)]
      rfl
  · simp only [if_pos h, if_neg h]; rfl
theorem FrameP.str {x : List UInt8} {w w' : World} {e : Ending} (h : FrameP x w e w') : Below w.heap.size w w' ∧ ∃ A c, e = .returned (.tuple #[.slice A (bbA x).length c, .int .i64 (fErr x)]) ∧ Ow w' w.heap.size 5 1 A (bbA x).length c (bv (bbA x)) := by
  obtain ⟨h0, A, n, c, he, -, -, -, hbad, hgood⟩ := h.out
  refine ⟨h0, ?_⟩
  by_cases h1 : fErr x = 0
  · obtain ⟨rfl, ho⟩ := hgood h1
    have e1 : bbA x = frm x := if_pos h1
    refine ⟨A, c, by rw [e1, frm_len]; exact he, by rw [e1, frm_len]; exact ho⟩
  · obtain ⟨rfl, rfl, rfl⟩ := hbad h1
    have e1 : bbA x = [] := if_neg h1
    exact ⟨none, 0, by rw [e1]; exact he, by rw [e1]; exact Ow.nil _ _ _ _⟩
/-- the errors so far -/
def L1 (ls : List (List UInt8)) (i : Nat) (h : Int) : Prop := (h = 0 ∧ ∀ x ∈ ls.take i, fErr x = 0) ∨ (h ≠ 0 ∧ h = rowsErr ls)
theorem L1.next {ls : List (List UInt8)} {i : Nat} {x : List UInt8} (h : L1 ls i 0) (hx : ls[i]? = some x) : L1 ls (i + 1) (fErr x) := by
  rcases h with ⟨_, h⟩ | ⟨h, _⟩
  · by_cases h0 : fErr x = 0
    · left
      refine ⟨h0, fun y hy => ?_⟩
      rw [List.take_add_one, hx] at hy
      rcases List.mem_append.1 hy with hy | hy
      · exact h y hy
      · simp at hy; subst hy; exact h0
    · right; exact ⟨h0, (rowsErr_bad h hx h0).symm⟩
  · exact absurd rfl h

set_option maxRecDepth 100000 in
set_option maxHeartbeats 8000000 in
theorem journalSays_walk (W : World) (A : Option Addr) (n c : Nat) (l : List UInt8) (hr : Rd W 1 A n c (bv l)) (A2 : Option Addr) (m c2 : Nat) (ls : List (List UInt8)) (vs : List Value) (hb : BB W 0 A2 m c2 ls vs) :
    Calls Try.prog 3 #[.slice A n c, .slice A2 m c2] W (Yes W) := by
  have hc := hr.cap
  have hm := hr.max
  unfold maxLen at hm
  have hc2 := hb.rd.cap
  have hm2 := hb.rd.max
  unfold maxLen at hm2
  have HRD := Lib.hid hr
  have HBB := Lib.hid hb
  have HL := Lib.hid hb.len
  clear hr hb
  by_cases hn : 1048576 < n
  · go_enter Try.func3, Try.ntmps3
    go_wp2_with (go_at_call 7; refine (wakes_any _).mono ?_; rintro e w1 ⟨rfl, HB⟩)
    go_ret
    exact ⟨rfl, HB⟩
  have hn1 : decide ((1048576 : Int) < (n : Int)) = false := decide_eq_false (by omega)
  clear hn
  by_cases hm3 : 200 < m
  · go_enter Try.func3, Try.ntmps3
    go_wp2_with (go_at_call 7; refine (wakes_any _).mono ?_; rintro e w1 ⟨rfl, HB⟩)
    go_ret
    exact ⟨rfl, HB⟩
  go_enter Try.func3, Try.ntmps3
  go_wp2_with fail
  refine (size_l 0 A2 m c2 ls vs W HBB.out).mono ?_
  rintro e w' ⟨⟨z, rfl⟩, rfl⟩
  by_cases hz : 3145728 < z
  · go_wp2_with (go_at_call 7; refine (wakes_any _).mono ?_; rintro e w1 ⟨rfl, HB⟩)
    go_ret
    exact ⟨rfl, HB⟩
  have hz1 : decide ((3145728 : Int) < z) = false := decide_eq_false hz
  clear hz
  go_wp2_with fail
  refine (dnew_any W).mono ?_
  rintro e w1 ⟨rfl, hb1, hk1⟩
  have HB1 := Lib.hid hb1
  have HK1 := Lib.hid hk1
  clear hb1 hk1 hn1 hz1
  go_wp2_with fail
  refine (dnew_any w1).mono ?_
  rintro e w2 ⟨rfl, hb2, hk2⟩
  have HB2 := Lib.hid (HB1.out.trans (hb2.mono HB1.out.size))
  have HK1' := Lib.hid (HK1.out.below hb2)
  have HK2 := Lib.hid hk2
  have hsz1 : W.heap.size < w1.heap.size := HK1.out.lt.1
  have HSZ1 : Hid (W.heap.size ≤ w1.heap.size) := Lib.hid (by omega)
  have hap := japp_any W.heap.size w2 W.heap.size none DS.new A n c l HK1'.out (HRD.out.below HB2.out)
  rw [sApp] at hap
  have HAP := Lib.hid hap
  clear hb2 hk2 hap
  go_wp2_with fail
  refine HAP.out.mono ?_
  rintro e w3 ⟨rfl, hS⟩
  have hB3 : Below W.heap.size W w3 := HB2.out.trans (hS.below HK1'.out)
  obtain ⟨⟨ra, hk3, -⟩, hon3⟩ := hS
  have HB3 := Lib.hid hB3
  have HK3 := Lib.hid hk3
  have HK23 := Lib.hid (HK2.out.only hon3 (fun e => e.elim (fun e => by omega) (fun e => by cases e)) (fun g e => by cases e))
  clear hB3 hk3 hon3 HAP HK1 HK1' HK2
  go_wp2_with fail
  refine (rframe_any A n c l w3 (HRD.out.below HB3.out)).mono ?_
  intro e w4 hP
  obtain ⟨hb4, Af, cf, rfl, hof⟩ := hP.str
  have HB4 := Lib.hid (HB3.out.trans (hb4.mono HB3.out.size))
  have HK24 := Lib.hid (HK23.out.below hb4)
  have HOF := Lib.hid hof.rd
  have HBY := Lib.hid (dbytes_any W.heap.size w4 W.heap.size ra _ (HK3.out.below hb4))
  clear hP hb4 hof
  go_wp2_with fail
  refine HBY.out.mono ?_
  rintro e w5 ⟨hb5, -, hg5⟩
  obtain ⟨Ax, cx, rfl, hox⟩ := hg5 rfl
  have HB5 := Lib.hid (HB4.out.trans (hb5.mono HB4.out.size))
  have HK25 := Lib.hid (HK24.out.below hb5)
  have hs1 := run_str (P := Try.prog) w5 22 5 9 Try.underlying22 Try.underlying5 Try.underlying9 hox.rd
  have hs2 := run_str (P := Try.prog) w5 22 5 9 Try.underlying22 Try.underlying5 Try.underlying9 (HOF.out.below hb5)
  clear hb5 hg5 hox HBY HK24 HK23 HK3 hsz1
  obtain ⟨ba, hba⟩ : ∃ ba, bbA l = ba := ⟨_, rfl⟩
  obtain ⟨fe, hfe⟩ : ∃ fe, fErr l = fe := ⟨_, rfl⟩
  simp only [hba] at hs1 hs2
  simp only [hba, hfe]
  clear hba hfe
  go_wp2_with fail
  clear hs1 hs2
  go_loopg [13, 14] m (fun g q13 q14 wr => ∃ (i : Nat) (h : Int), i + g = m ∧ q14 = .int .i64 (i : Nat) ∧ q13 = .int .i64 h ∧ Hid (L1 ls i h) ∧ Hid (Below w5.heap.size w5 wr))
  case atStart => exact ⟨0, 0, by omega, rfl, rfl, Lib.hid (.inl ⟨rfl, by simp⟩), Lib.hid (Below.refl _ _)⟩
  case round =>
    obtain ⟨i, h, hi, rfl, rfl, HL1, HBr⟩ := hrel
    have HBX := Lib.hid (HB5.out.trans (HBr.out.mono HB5.out.size))
    have HK2X := Lib.hid (HK25.out.below HBr.out)
    obtain ⟨w6, rfl⟩ : ∃ w6 : World, w6 = wr := ⟨_, rfl⟩
    by_cases h0 : h = 0
    · subst h0
      cases gk with
      | succ g =>
        have hk : (i : Int) < (m : Int) := by omega
        obtain ⟨x, hx⟩ : ∃ x, ls[i]? = some x := ⟨_, List.getElem?_eq_getElem (by rw [HL.out]; omega)⟩
        have hbb := HBB.out.below HBX.out
        obtain ⟨Ai, ci, hv, hrw, -⟩ := hbb.row i x hx
        obtain ⟨ad, rfl, -⟩ := hbb.rd.addr (by omega) (by omega)
        have hcl := hbb.rd.get hv
        have HF := Lib.hid (rframe_any Ai x.length ci x w6 hrw)
        have HX := Lib.hid (HL1.out.next hx)
        clear hx hbb hv hrw
        go_wp2_with fail
        refine HF.out.mono ?_
        intro e w7 hP
        obtain ⟨hb7, Ag, cg, rfl, -⟩ := hP.str
        have HB7 := Lib.hid (HBr.out.trans (hb7.mono HBr.out.size))
        clear hP hb7
        go_wp2_with fail
        go_roundg g
        case measure => omega
        case rel => exact ⟨i + 1, fErr x, by omega, by go_num, rfl, HX, HB7⟩
      | zero =>
        have hk : ¬ ((i : Int) < (m : Int)) := by omega
        have HOK : Hid (∀ x ∈ ls, fErr x = 0) := Lib.hid (by
          rcases HL1.out with ⟨_, h⟩ | ⟨h, _⟩
          · rwa [List.take_of_length_le (by rw [HL.out]; omega)] at h
          · exact absurd rfl h)
        have HRE : Hid (rowsErr ls = 0) := Lib.hid (rowsErr_all HOK.out)
        go_wp2_with fail
        clear hk hi
        go_loopg [12, 13, 15] m (fun g q12 q13 q15 wr => ∃ (i T : Nat) (Aa : Option Addr) (ca : Nat), i + g = m ∧ q15 = .int .i64 (i : Nat) ∧ q13 = .int .i64 0 ∧ q12 = .slice Aa T ca ∧ Hid (Ow wr w6.heap.size 5 1 Aa T ca (bv (frs (ls.take i)))) ∧ Hid (T = (frs (ls.take i)).length ∧ T ≤ 1048576) ∧ T ≤ 1000000000 ∧ Hid (Below w6.heap.size w6 wr))
        case atStart => exact ⟨0, 0, none, 0, by omega, rfl, rfl, rfl, Lib.hid (Ow.nil _ _ _ _), Lib.hid ⟨rfl, by omega⟩, by omega, Lib.hid (Below.refl _ _)⟩
        case round =>
          obtain ⟨i, T, Aa, ca, hi, rfl, rfl, rfl, HO, HT, hT9, HBs⟩ := hrel
          have HBY2 := Lib.hid (HBX.out.trans (HBs.out.mono HBX.out.size))
          have HK2Y := Lib.hid (HK2X.out.below HBs.out)
          obtain ⟨w8, rfl⟩ : ∃ w8 : World, w8 = wr := ⟨_, rfl⟩
          cases gk with
          | zero =>
            have hk : ¬ ((i : Int) < (m : Int)) := by omega
            have hfr : frs (ls.take i) = frs ls := by rw [List.take_of_length_le (by rw [HL.out]; omega)]
            have hle : (frs ls).length ≤ 1048576 := by rw [← hfr]; have := HT.out; omega
            have hhS : hS ls = 0 := by unfold hS; rw [if_neg (by simpa using HRE.out), if_neg (by omega)]
            have hbS : bbS ls = frs ls := if_pos hhS
            obtain rfl : T = (bbS ls).length := by rw [hbS, ← hfr]; exact HT.out.1
            have HALL : Hid (∀ v, Only (fun k => k = w1.heap.size ∨ some k = none) w8 v → Rd v 1 Aa (bbS ls).length ca (bv (bbS ls))) := Lib.hid (fun v ho => by
              have h1 := HO.out
              rw [hfr, ← hbS] at h1
              exact (h1.only ho (fun g hg e => by
                have h2 := (h1.lt hg).1
                have h3 := HK2X.out.lt.1
                rcases e with e | e
                · omega
                · cases e)).rd)
            have HH := Lib.hid hhS
            clear hfr hle hhS hbS hi hT9
            go_wp2_with fail
            refine (jsnap_any 0 w1.heap.size w8 w1.heap.size none DS.new A2 m c2 ls vs HK2Y.out (HBB.out.below HBY2.out)).mono ?_
            rintro e v1 hD
            rw [sSnap, HH.out] at hD
            obtain ⟨rfl, hS⟩ := hD
            have hBv : Below W.heap.size W v1 := HBY2.out.trans ((hS.below HK2Y.out).mono HSZ1.out)
            obtain ⟨⟨rv, hkv, -⟩, honv⟩ := hS
            have HR := Lib.hid (HALL.out v1 honv)
            have HKV := Lib.hid hkv
            have HBV := Lib.hid hBv
            have HBY := Lib.hid (dbytes_any w1.heap.size v1 w1.heap.size rv _ hkv)
            clear hkv honv hBv
            go_wp2_with fail
            refine HBY.out.mono ?_
            rintro e v2 ⟨hb2, -, hg2⟩
            obtain ⟨Az, cz, rfl, hoz⟩ := hg2 rfl
            have HB2 := Lib.hid (HBV.out.trans (hb2.mono HBV.out.size))
            have HZ := Lib.hid hoz.rd
            have HR2 := Lib.hid (HR.out.below hb2)
            clear hb2 hg2 hoz HBY HR
            go_wp2_with fail
            refine (jopen_nil v2).mono ?_
            rintro e v3 ⟨rfl, hb3⟩
            have HB3 := Lib.hid (HB2.out.trans (hb3.mono HB2.out.size))
            have HZ3 := Lib.hid (HZ.out.below hb3)
            have HR3 := Lib.hid (HR2.out.below hb3)
            clear hb3
            go_wp2_with fail
            refine (jrows_nil v3).mono ?_
            rintro e v4 ⟨rfl, hb4⟩
            have HB4 := Lib.hid (HB3.out.trans (hb4.mono HB3.out.size))
            have hs3 := run_str (P := Try.prog) v4 22 5 9 Try.underlying22 Try.underlying5 Try.underlying9 (HZ3.out.below hb4)
            have hs4 := run_str (P := Try.prog) v4 22 5 9 Try.underlying22 Try.underlying5 Try.underlying9 (HR3.out.below hb4)
            clear hb4
            go_wp2_with fail
            refine (jsnap_nil v4 A2 m c2).mono ?_
            rintro e v5 ⟨rfl, hb5⟩
            have HB5 := Lib.hid (HB4.out.trans (hb5.mono HB4.out.size))
            clear hb5 hs3 hs4
            go_wp2_with fail
            refine (wakes_any v5).mono ?_
            rintro e v6 ⟨rfl, hb6⟩
            have HB6 := Lib.hid (HB5.out.trans (hb6.mono HB5.out.size))
            clear hb6
            go_wp2_with fail
            go_ret
            exact ⟨rfl, HB6.out⟩
          | succ g =>
            have hk : (i : Int) < (m : Int) := by omega
            obtain ⟨x, hx⟩ : ∃ x, ls[i]? = some x := ⟨_, List.getElem?_eq_getElem (by rw [HL.out]; omega)⟩
            have hbb := HBB.out.below HBY2.out
            obtain ⟨Ai, ci, hv, hrw, -⟩ := hbb.row i x hx
            obtain ⟨ad, rfl, -⟩ := hbb.rd.addr (by omega) (by omega)
            have hcl := hbb.rd.get hv
            have HF := Lib.hid (rframe_any Ai x.length ci x w8 hrw)
            have hx0 := HOK.out x (List.mem_of_getElem? hx)
            have HX0 := Lib.hid hx0
            obtain ⟨g1, g2⟩ := fErr_zero hx0
            have HFT := Lib.hid (frs_take hx)
            have HLE := Lib.hid (frs_take_le ls (i + 1))
            clear hx hbb hv hrw hx0
            go_wp2_with fail
            refine HF.out.mono ?_
            intro e w9 hP
            obtain ⟨hb9, Ag, ng, cg, rfl, -, hgc, hgm, -, hgood⟩ := hP.out
            obtain ⟨rfl, hog⟩ := hgood HX0.out
            rw [HX0.out]
            have HB9 := Lib.hid (HBs.out.trans (hb9.mono HBs.out.size))
            have HO9 := Lib.hid (HO.out.below hb9)
            have HOG := Lib.hid hog.rd
            have HSZ9 : Hid (w6.heap.size ≤ w9.heap.size) := Lib.hid HB9.out.size
            have HBZ := Lib.hid (HBX.out.trans (HB9.out.mono HBX.out.size))
            have HK2Z := Lib.hid (HK2X.out.below HB9.out)
            clear hP hb9 hgood hog
            by_cases hbig : 1048576 < T + (x.length + 4)
            · have hbI : (1048576 : Int) < (T : Int) + ((x.length : Int) + 4) := by omega
              have hhS : hS ls = 3 := by
                unfold hS
                have h1 := HLE.out
                rw [HFT.out, List.length_append, frm_len, ← HT.out.1] at h1
                rw [if_neg (by simpa using HRE.out), if_pos (by omega)]
              have hbS : bbS ls = [] := if_neg (by rw [hhS]; decide)
              have HALL : Hid (∀ v, Only (fun k => k = w1.heap.size ∨ some k = none) w9 v → Rd v 1 none 0 0 (bv (bbS ls))) := Lib.hid (fun v _ => by rw [hbS]; exact Rd.nil _ _)
              have HH := Lib.hid hhS
              clear hhS hbS hbig
              go_wp2_with fail
              clear hbI hT9 g1 g2 hgc hgm hk hi hcl
              refine (jsnap_any 0 w1.heap.size w9 w1.heap.size none DS.new (some ad) m c2 ls vs HK2Z.out (HBB.out.below HBZ.out)).mono ?_
              rintro e v1 hD
              rw [sSnap, HH.out] at hD
              obtain ⟨rfl, hS⟩ := hD
              have hBv : Below W.heap.size W v1 := HBZ.out.trans ((hS.below HK2Z.out).mono HSZ1.out)
              obtain ⟨⟨rv, hkv, -⟩, honv⟩ := hS
              have HR := Lib.hid (HALL.out v1 honv)
              have HKV := Lib.hid hkv
              have HBV := Lib.hid hBv
              have HBY := Lib.hid (dbytes_any w1.heap.size v1 w1.heap.size rv _ hkv)
              clear hkv honv hBv
              go_wp2_with fail
              refine HBY.out.mono ?_
              rintro e v2 ⟨hb2, -, hg2⟩
              obtain ⟨Az, cz, rfl, hoz⟩ := hg2 rfl
              have HB2 := Lib.hid (HBV.out.trans (hb2.mono HBV.out.size))
              have HZ := Lib.hid hoz.rd
              have HR2 := Lib.hid (HR.out.below hb2)
              clear hb2 hg2 hoz HBY HR
              go_wp2_with fail
              refine (jopen_nil v2).mono ?_
              rintro e v3 ⟨rfl, hb3⟩
              have HB3 := Lib.hid (HB2.out.trans (hb3.mono HB2.out.size))
              have HZ3 := Lib.hid (HZ.out.below hb3)
              have HR3 := Lib.hid (HR2.out.below hb3)
              clear hb3
              go_wp2_with fail
              refine (jrows_nil v3).mono ?_
              rintro e v4 ⟨rfl, hb4⟩
              have HB4 := Lib.hid (HB3.out.trans (hb4.mono HB3.out.size))
              have hs3 := run_str (P := Try.prog) v4 22 5 9 Try.underlying22 Try.underlying5 Try.underlying9 (HZ3.out.below hb4)
              have hs4 := run_str (P := Try.prog) v4 22 5 9 Try.underlying22 Try.underlying5 Try.underlying9 (HR3.out.below hb4)
              clear hb4
              go_wp2_with fail
              refine (jsnap_nil v4 (some ad) m c2).mono ?_
              rintro e v5 ⟨rfl, hb5⟩
              have HB5 := Lib.hid (HB4.out.trans (hb5.mono HB4.out.size))
              clear hb5 hs3 hs4
              go_wp2_with fail
              refine (wakes_any v5).mono ?_
              rintro e v6 ⟨rfl, hb6⟩
              have HB6 := Lib.hid (HB5.out.trans (hb6.mono HB5.out.size))
              clear hb6
              go_wp2_with fail
              go_ret
              exact ⟨rfl, HB6.out⟩
            · have hbI : decide ((1048576 : Int) < (T : Int) + ((x.length : Int) + 4)) = false := decide_eq_false (by omega)
              have HT2 : Hid (T + (x.length + 4) ≤ 1048576) := Lib.hid (by omega)
              have hbs : T + (x.length + 4) ≤ 140737488355328 := by omega
              clear hbig
              go_wp2_with (at_builtin; refine wpList_ow _ rfl (.tmp 107) (.tmp 108) _ rfl w6.heap.size _ (info_parts info_u8).choose _ 1 1 Try.underlying22 (info_parts info_u8).choose_spec.1 (info_parts info_u8).choose_spec.2.1 (info_parts info_u8).choose_spec.2.2.1 (info_parts info_u8).choose_spec.2.2.2 rfl (by omega) Aa ca T (bv (frs (ls.take i))) rfl HO9.out Ag (x.length + 4) cg (bv (frm x)) rfl HOG.out (bv_one (frm x)) hbs (by rw [Nat.mul_one]; exact hbs) HSZ9.out ?_; intro A3 c3 w10 ho3 hg3 hat3; have HO3 := Lib.hid ho3; have HG3 := Lib.hid hg3; clear ho3 hg3 hat3)
              go_roundg g
              case measure => omega
              case rel => exact ⟨i + 1, T + (x.length + 4), A3, c3, by omega, by go_num, rfl, rfl, Lib.hid (by rw [HFT.out, bv_append]; exact HO3.out), Lib.hid ⟨by rw [HFT.out, List.length_append, frm_len, ← HT.out.1], HT2.out⟩, by have := HT2.out; omega, Lib.hid (HB9.out.grown HG3.out HB9.out.size (fun g hg => (HO9.out.lt hg).1))⟩
    · have h1 : (h == 0) = false := beq_eq_false_iff_ne.2 h0
      have h2 : (h != 0) = true := by simp [h0]
      have hhS : hS ls = h := by
        rcases HL1.out with ⟨e, _⟩ | ⟨_, e⟩
        · exact absurd e h0
        · unfold hS; rw [if_pos (by rw [← e]; exact h0), e]
      have hbS : bbS ls = [] := if_neg (by rw [hhS]; exact h0)
      have HALL : Hid (∀ v, Only (fun k => k = w1.heap.size ∨ some k = none) w6 v → Rd v 1 none 0 0 (bv (bbS ls))) := Lib.hid (fun v _ => by rw [hbS]; exact Rd.nil _ _)
      have HH := Lib.hid hhS
      have hcase : (((i : Int) < (m : Int)) ∧ (0 : Int) < (m : Int)) ∨ (¬ ((i : Int) < (m : Int)) ∧ (0 : Int) < (m : Int)) ∨ (¬ ((i : Int) < (m : Int)) ∧ ¬ ((0 : Int) < (m : Int))) := by omega
      clear hhS hbS h0
      rcases hcase with ⟨hkk, hm0⟩ | ⟨hkk, hm0⟩ | ⟨hkk, hm0⟩
      all_goals
        go_wp2_with fail
        go_loopg [12, 13, 15] 0 (fun g q12 q13 q15 wr => q12 = .slice none 0 0 ∧ q13 = .int .i64 h ∧ q15 = .int .i64 0 ∧ w6 = wr)
        case atStart => exact ⟨rfl, rfl, rfl, rfl⟩
        case round =>
          obtain ⟨rfl, rfl, rfl, rfl⟩ := hrel
          go_wp2_with fail
          refine (jsnap_any 0 w1.heap.size w6 w1.heap.size none DS.new A2 m c2 ls vs HK2X.out (HBB.out.below HBX.out)).mono ?_
          rintro e v1 hD
          rw [sSnap, HH.out] at hD
          obtain ⟨rfl, hS⟩ := hD
          have hBv : Below W.heap.size W v1 := HBX.out.trans ((hS.below HK2X.out).mono HSZ1.out)
          obtain ⟨⟨rv, hkv, -⟩, honv⟩ := hS
          have HR := Lib.hid (HALL.out v1 honv)
          have HKV := Lib.hid hkv
          have HBV := Lib.hid hBv
          have HBY := Lib.hid (dbytes_any w1.heap.size v1 w1.heap.size rv _ hkv)
          clear hkv honv hBv
          go_wp2_with fail
          refine HBY.out.mono ?_
          rintro e v2 ⟨hb2, -, hg2⟩
          obtain ⟨Az, cz, rfl, hoz⟩ := hg2 rfl
          have HB2 := Lib.hid (HBV.out.trans (hb2.mono HBV.out.size))
          have HZ := Lib.hid hoz.rd
          have HR2 := Lib.hid (HR.out.below hb2)
          clear hb2 hg2 hoz HBY HR
          go_wp2_with fail
          refine (jopen_nil v2).mono ?_
          rintro e v3 ⟨rfl, hb3⟩
          have HB3 := Lib.hid (HB2.out.trans (hb3.mono HB2.out.size))
          have HZ3 := Lib.hid (HZ.out.below hb3)
          have HR3 := Lib.hid (HR2.out.below hb3)
          clear hb3
          go_wp2_with fail
          refine (jrows_nil v3).mono ?_
          rintro e v4 ⟨rfl, hb4⟩
          have HB4 := Lib.hid (HB3.out.trans (hb4.mono HB3.out.size))
          have hs3 := run_str (P := Try.prog) v4 22 5 9 Try.underlying22 Try.underlying5 Try.underlying9 (HZ3.out.below hb4)
          have hs4 := run_str (P := Try.prog) v4 22 5 9 Try.underlying22 Try.underlying5 Try.underlying9 (HR3.out.below hb4)
          clear hb4
          go_wp2_with fail
          refine (jsnap_nil v4 A2 m c2).mono ?_
          rintro e v5 ⟨rfl, hb5⟩
          have HB5 := Lib.hid (HB4.out.trans (hb5.mono HB4.out.size))
          clear hb5 hs3 hs4
          go_wp2_with fail
          refine (wakes_any v5).mono ?_
          rintro e v6 ⟨rfl, hb6⟩
          have HB6 := Lib.hid (HB5.out.trans (hb6.mono HB5.out.size))
          clear hb6
          go_wp2_with fail
          go_ret
          exact ⟨rfl, HB6.out⟩
end Go.Proofs.Ytckofpdhcpabnaa
