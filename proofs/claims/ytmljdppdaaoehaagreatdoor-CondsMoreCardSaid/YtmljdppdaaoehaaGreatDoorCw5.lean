/- CondsMore: the walk. -/
import Derived.Test.YtmljdppdaaoehaaGreatDoorCr1
import Derived.Test.YtmljdppdaaoehaaGreatDoorCs1
import Derived.Test.YtmljdppdaaoehaaGreatDoorCs2
import Derived.Test.YtmljdppdaaoehaaGreatDoorGtRows
import Derived.Deep.CutRange
import Derived.Deep.CutBlock
import Derived.Deep.RegionHeld3
namespace Go.Proofs.YtmljdppdaaoehaaGreatDoor
open Go.RowKit
set_option linter.unusedVariables false
set_option linter.unusedSimpArgs false
theorem names_len {c : Cd} (h : (cNm 20 c).length ≤ 1000000) : (names c).length ≤ 1000000 := by
  have := foldT_len (cNm 20 c) []
  unfold names
  simp only [List.length_nil, Nat.zero_add] at this
  omega
theorem eqX_at {S : Nat → Prop} {w : World} {s t : ByteArray} (hs : s.size ≤ 1000) (ht : t.size ≤ 1000) : Trs.at S w (eqX s t).tr [.string ⟨#[88, 49]⟩, .int .i8 0, .int .i8 0, .string s, .int .i64 0, .string ⟨#[]⟩, .string ⟨#[]⟩, .slice none 0 0, .int .i8 0, .string t, .int .i64 0, .string ⟨#[]⟩, .string ⟨#[]⟩, .slice none 0 0, .slice none 0 0] :=
  cd_lit x1N 0 _ _ [] [.int .i8 0, .string s, .int .i64 0, .string ⟨#[]⟩, .string ⟨#[]⟩, .slice none 0 0] [.int .i8 0, .string t, .int .i64 0, .string ⟨#[]⟩, .string ⟨#[]⟩, .slice none 0 0] none 0 (by decide) (by decide)
    (ex_lit 0 s ⟨#[]⟩ (by decide) hs (by decide)) (ex_lit 0 t ⟨#[]⟩ (by decide) ht (by decide)) (Ls.nil _ _ _ _ (by omega) _)
theorem Ow.lit {w : World} {q base n sz : Nat} {cs : Array Value} {e : TypeId} (h : Blk w q cs e) (hs : cs.size = n * sz) (hm : n ≤ maxLen) (hb : base ≤ q) : Ow w base e sz (some ⟨q, 0, none⟩) n n cs.toList :=
  ⟨by simp [hs], .inr ⟨q, cs, rfl, hb, h, Nat.le_refl _, hm, Nat.le_of_eq hs.symm, by rw [List.take_of_length_le (by simp [hs])]⟩⟩
/-- what conds.Run answers, in words -/
def RunR (r : Nat ⊕ List (ByteArray × Bool)) (A : Option Addr) (n c f : Nat) (w' : World) : Prop := n ≤ c ∧ match r with
  | .inl m => f = m ∧ n = 0
  | .inr r => f = 0 ∧ n = r.length ∧ ∀ w'', Below w'.heap.size w' w'' → ∀ i x, r[i]? = some x → ∃ ad, A = some ad ∧ Cel w'' (ad.add (i * 8)) (yes x.1 x.2)
theorem RunL.r {r : Nat ⊕ List (ByteArray × Bool)} {w : World} {e : Ending} {w' : World} (h : RunL r w e w') : ∃ (A : Option Addr) (n c f : Nat), e = .returned (.tuple #[.slice A n c, .int .i64 (f : Nat)]) ∧ Below w.heap.size w w' ∧ RunR r A n c f w' := by
  obtain ⟨hb, h⟩ := h
  cases r with
  | inl m => exact ⟨none, 0, 0, m, h, hb, Nat.le_refl _, rfl, rfl⟩
  | inr r =>
    obtain ⟨A, c, rfl, h1, h2⟩ := h
    exact ⟨A, r.length, c, 0, rfl, hb, h1, rfl, rfl, h2⟩
set_option maxRecDepth 100000 in
set_option maxHeartbeats 16000000 in
theorem condsMore_any (A : Option Addr) (ac : Nat) (l : List Cd) (PA : Option Addr) (pc : Nat) (ps : List Gv) (s t : ByteArray) (hsz : s.size ≤ 9223372036854775807) (htz : t.size ≤ 9223372036854775807) (w : World) (hV : VOk w) (hls : Ls (fun k => k < w.heap.size) w 15 224 Cd.tr A ac l) (hps : Ls (fun k => k < w.heap.size) w 8 104 Gv.tr PA pc ps) :
    Calls Tryz.prog 4 #[.slice A l.length ac, .slice PA ps.length pc, .string s, .string t] w (BoolB true w) := by
  have hcap := hls.cap
  have hbyt := hls.bytes
  have HLS := Lib.hid hls
  have HG1 := Lib.hid (csgreat_any _ A ac l w hls)
  have HG2 : Hid (∀ w', Below w.heap.size w w' → Calls Tryz.prog 6 #[.slice PA ps.length pc] w' (BoolOut (gsGreat ps) w')) := Lib.hid (fun w' h => gsgreat_any _ PA pc ps w' (hps.below h))
  have HW : Hid (∀ w', Below w.heap.size w w' → Calls Tryz.prog 7 #[] w' (BoolB true w')) := Lib.hid (fun w' h => wakes_any w' (hV.below h))
  have HCOK : Hid (csGreat l = false → CsOk l) := Lib.hid (fun h => (cs_ok h).2)
  have HLAW : Hid (gsGreat ps = false → l.length ≤ 5 → (∀ c ∈ l, addedN c.name = false ∧ ∀ s ∈ names c, addedN s = false) → ∃ K, (csCheck l (gNames ps) = 0 → ∀ e ∈ l, Dp l ps vSmall K e) ∧ (csCheck (l ++ [eqX s t]) (gNames ps) = 0 → ∀ e ∈ l ++ [eqX s t], Dp (l ++ [eqX s t]) ps vSmall K e) ∧
      (∀ n, runOf l ps vEq K = .inl n → n ≠ 0 ∧ runOf (l ++ [eqX s t]) ps vEq K = .inl n) ∧
      (∀ a, runOf l ps vEq K = .inr a → a.length = l.length ∧ ((∃ n, n ≠ 0 ∧ runOf (l ++ [eqX s t]) ps vEq K = .inl n) ∨ runOf (l ++ [eqX s t]) ps vEq K = .inr (a ++ [(x1N, decide (s = t))])))) := Lib.hid (fun h h5 hall =>
    more_law h5 (gs_small h).2 (far_of hall (fun x hx => by rw [List.mem_singleton.1 hx]; show addedN x1N = true; kernel_rfl)))
  have HRUN : Hid (gsGreat ps = false → ∀ (L : List Cd) (K : Nat), CsOk L → (csCheck L (gNames ps) = 0 → ∀ e ∈ L, Dp L ps vSmall K e) → ∀ w' A' c', Below w.heap.size w w' → Ls (fun k => k < w'.heap.size) w' 15 224 Cd.tr A' c' L → Calls Tryz.prog 8 #[.slice A' L.length c', .slice PA ps.length pc] w' (RunL (runOf L ps vEq K) w')) := Lib.hid (fun h2 L K hok hK w' A' c' hb hl =>
    (crun_any _ A' c' L PA pc ps w' (hV.below hb) hl ((hps.below hb).mono (fun k hk => Nat.lt_of_lt_of_le hk hb.size)) (by have := (gs_small h2).1; omega) (gs_small h2).2 hok K hK).mono (fun e w'' h => h.l))
  obtain ⟨g1, hg1⟩ : ∃ g1, g1 = csGreat l := ⟨_, rfl⟩
  obtain ⟨g2, hg2⟩ : ∃ g2, g2 = gsGreat ps := ⟨_, rfl⟩
  rw [← hg1] at HG1 HCOK
  rw [← hg2] at HG2 HLAW HRUN
  clear hg1 hg2 hls hps hV
  go_enter Tryz.func4, Tryz.ntmps4
  go_wp2_with fail
  refine HG1.out.mono ?_
  rintro e w1 ⟨rfl, hb1⟩
  have HB1 := Lib.hid hb1
  clear hb1 HG1
  cases g1 with
  | true =>
    go_wp2_with fail
    refine (HW.out w1 HB1.out).mono ?_
    rintro e w2 ⟨rfl, hb2⟩
    have HB2 := Lib.hid (HB1.out.trans (hb2.mono HB1.out.size))
    go_wp2_with fail
    go_ret
    exact ⟨rfl, HB2.out⟩
  | false =>
    go_wp2_with fail
    refine (HG2.out w1 HB1.out).mono ?_
    rintro e w2 ⟨rfl, hb2⟩
    have HB2 := Lib.hid (HB1.out.trans (hb2.mono HB1.out.size))
    clear hb2
    cases g2 with
    | true =>
      go_wp2_with fail
      refine (HW.out w2 HB2.out).mono ?_
      rintro e w3 ⟨rfl, hb3⟩
      have HB3 := Lib.hid (HB2.out.trans (hb3.mono HB2.out.size))
      go_wp2_with fail
      go_ret
      exact ⟨rfl, HB3.out⟩
    | false =>
      by_cases hbig : 5 < l.length ∨ 200 < s.size ∨ 200 < t.size
      · have key : ((5 : Int) < (l.length : Int)) ∨ ((200 : Int) < (s.size : Int)) ∨ ((200 : Int) < (t.size : Int)) := by omega
        clear hbig
        by_cases k1 : (5 : Int) < (l.length : Int)
        · clear key
          go_wp2_with fail
          refine (HW.out w2 HB2.out).mono ?_
          rintro e w3 ⟨rfl, hb3⟩
          have HB3 := Lib.hid (HB2.out.trans (hb3.mono HB2.out.size))
          go_wp2_with fail
          go_ret
          exact ⟨rfl, HB3.out⟩
        · have k1' : decide ((5 : Int) < (l.length : Int)) = false := decide_eq_false k1
          by_cases k2 : (200 : Int) < (s.size : Int)
          · clear key
            go_wp2_with fail
            refine (HW.out w2 HB2.out).mono ?_
            rintro e w3 ⟨rfl, hb3⟩
            have HB3 := Lib.hid (HB2.out.trans (hb3.mono HB2.out.size))
            go_wp2_with fail
            go_ret
            exact ⟨rfl, HB3.out⟩
          · have k2' : decide ((200 : Int) < (s.size : Int)) = false := decide_eq_false k2
            have k3 : (200 : Int) < (t.size : Int) := by omega
            clear key
            go_wp2_with fail
            refine (HW.out w2 HB2.out).mono ?_
            rintro e w3 ⟨rfl, hb3⟩
            have HB3 := Lib.hid (HB2.out.trans (hb3.mono HB2.out.size))
            go_wp2_with fail
            go_ret
            exact ⟨rfl, HB3.out⟩
      · have hl5 : l.length ≤ 5 := by omega
        have hs200 : s.size ≤ 200 := by omega
        have ht200 : t.size ≤ 200 := by omega
        clear hbig
        have k1 : decide ((5 : Int) < (l.length : Int)) = false := decide_eq_false (by omega)
        have k2 : decide ((200 : Int) < (s.size : Int)) = false := decide_eq_false (by omega)
        have k3 : decide ((200 : Int) < (t.size : Int)) = false := decide_eq_false (by omega)
        go_wp2_with fail
        clear k1 k2 k3
        go_loopg [43] l.length (fun g i wr => ∃ j : Nat, j + g = l.length ∧ i = .int .i64 (j : Nat) ∧ Hid (Below w.heap.size w wr) ∧ Hid (∀ k c, k < j → l[k]? = some c → addedN c.name = false ∧ ∀ s ∈ names c, addedN s = false))
        case atStart => exact ⟨0, by omega, rfl, HB2, Lib.hid (fun k c h => by omega)⟩
        case round =>
          obtain ⟨j, hj, rfl, HB, HF⟩ := hrel
          rename World => wo
          cases gk with
          | zero =>
            have hjj : ¬ ((j : Int) < (l.length : Int)) := by omega
            obtain ⟨K, hK1, hK2, hlaw1, hlaw2⟩ := HLAW.out trivial hl5 (fun c hc => by
              obtain ⟨k, hk, rfl⟩ := List.getElem_of_mem hc
              exact HF.out k _ (by omega) (List.getElem?_eq_getElem hk))
            have hok : CsOk (l ++ [eqX s t]) := fun c hc => by
              rcases List.mem_append.1 hc with hc | hc
              · exact HCOK.out trivial c hc
              · rw [List.mem_singleton.1 hc]
                exact ⟨fun p hp => (by cases hp), by show (0 : Nat) ≤ _; omega, by show (0 : Nat) ≤ _; omega⟩
            have HR1 := Lib.hid (HRUN.out trivial l K (HCOK.out trivial) hK1)
            have HR2 := Lib.hid (HRUN.out trivial (l ++ [eqX s t]) K hok hK2)
            have HL1 := Lib.hid hlaw1
            have HL2 := Lib.hid hlaw2
            clear hK1 hK2 hlaw1 hlaw2 hok
            obtain ⟨r1, hr1⟩ : ∃ r1, r1 = runOf l ps vEq K := ⟨_, rfl⟩
            obtain ⟨r2, hr2⟩ : ∃ r2, r2 = runOf (l ++ [eqX s t]) ps vEq K := ⟨_, rfl⟩
            rw [← hr1] at HR1 HL1 HL2
            rw [← hr2] at HR2 HL1 HL2
            clear hr1 hr2
            have hb3 : Below w.heap.size w (wo.alloc (.cells #[.string ⟨#[88, 49]⟩, .int .i8 0, .int .i8 0, .string s, .int .i64 0, .string ⟨#[]⟩, .string ⟨#[]⟩, .slice none 0 0, .int .i8 0, .string t, .int .i64 0, .string ⟨#[]⟩, .string ⟨#[]⟩, .slice none 0 0, .slice none 0 0] 46)) := HB.out.alloc HB.out.size _
            have hx3 := Blk.new wo #[.string ⟨#[88, 49]⟩, .int .i8 0, .int .i8 0, .string s, .int .i64 0, .string ⟨#[]⟩, .string ⟨#[]⟩, .slice none 0 0, .int .i8 0, .string t, .int .i64 0, .string ⟨#[]⟩, .string ⟨#[]⟩, .slice none 0 0, .slice none 0 0] 46
            have HC1 := Lib.hid (HR1.out (wo.alloc (.cells #[.string ⟨#[88, 49]⟩, .int .i8 0, .int .i8 0, .string s, .int .i64 0, .string ⟨#[]⟩, .string ⟨#[]⟩, .slice none 0 0, .int .i8 0, .string t, .int .i64 0, .string ⟨#[]⟩, .string ⟨#[]⟩, .slice none 0 0, .slice none 0 0] 46)) A ac hb3 ((HLS.out.below hb3).mono (fun k hk => Nat.lt_of_lt_of_le hk hb3.size)))
            have HB3 := Lib.hid hb3
            have HX3 := Lib.hid hx3
            clear hb3 hx3
            go_wp2_with fail
            refine HC1.out.mono ?_
            rintro e w4 hr1
            obtain ⟨RA, rn, rc, rf, rfl, hb4, hrr1⟩ := hr1.r
            have HRR1 := Lib.hid hrr1
            have hrc := hrr1.1
            clear hr1 hrr1
            have HB4 := Lib.hid (HB3.out.trans (hb4.mono HB3.out.size))
            have HX4 := Lib.hid (HX3.out.below hb4)
            have HLS4 := Lib.hid (HLS.out.below HB4.out)
            have hq : wo.heap.size < w4.heap.size := HX4.out.lt
            clear hb4 HC1 HX3 HB3
            have HR2' : Hid (∀ w' A' c', Below w.heap.size w w' → Ls (fun k => k < w'.heap.size) w' 15 224 Cd.tr A' c' (l ++ [eqX s t]) → Calls Tryz.prog 8 #[.slice A' (l.length + 1) c', .slice PA ps.length pc] w' (fun e w'' => ∃ (A : Option Addr) (n c f : Nat), e = .returned (.tuple #[.slice A n c, .int .i64 (f : Nat)]) ∧ Below w'.heap.size w' w'' ∧ RunR r2 A n c f w'')) := Lib.hid (fun w' A' c' hb hl => by
              have := HR2.out w' A' c' hb hl
              rw [show (l ++ [eqX s t]).length = l.length + 1 by simp] at this
              exact this.mono (fun e w'' h => h.r))
            obtain ⟨XS, hxr, hxt⟩ := HLS4.out.cells
            have HXR := Lib.hid hxr
            have HXT := Lib.hid hxt
            have HX1 := Lib.hid (cds_one hxt)
            obtain ⟨q, hqq⟩ : ∃ q, q = wo.heap.size := ⟨_, rfl⟩
            rw [← hqq] at HX4 hq ⊢
            have b1 : Below w4.heap.size w4 (w4.alloc (.cells #[] 46)).drew := ((Below.refl _ w4).alloc (Nat.le_refl _) _).drew
            have b2 : Below w4.heap.size w4 ((w4.alloc (.cells #[] 46)).alloc (.cells #[.string ⟨#[88, 49]⟩, .int .i8 0, .int .i8 0, .string s, .int .i64 0, .string ⟨#[]⟩, .string ⟨#[]⟩, .slice none 0 0, .int .i8 0, .string t, .int .i64 0, .string ⟨#[]⟩, .string ⟨#[]⟩, .slice none 0 0, .slice none 0 0] 46)).drew := (((Below.refl _ w4).alloc (Nat.le_refl _) _).alloc (by simp) _).drew
            have b3 : Below w4.heap.size w4 ((w4.alloc (.cells #[.string ⟨#[88, 49]⟩, .int .i8 0, .int .i8 0, .string s, .int .i64 0, .string ⟨#[]⟩, .string ⟨#[]⟩, .slice none 0 0, .int .i8 0, .string t, .int .i64 0, .string ⟨#[]⟩, .string ⟨#[]⟩, .slice none 0 0, .slice none 0 0] 46)).alloc (.cells #[] 46)).drew := (((Below.refl _ w4).alloc (Nat.le_refl _) _).alloc (by simp) _).drew
            have o1 : Ow (w4.alloc (.cells #[] 46)).drew w4.heap.size 46 15 (some ⟨w4.heap.size, 0, none⟩) 0 0 [] := Ow.none_ (Blk.new w4 #[] _).drew (Nat.le_refl _)
            have o2 : Ow ((w4.alloc (.cells #[] 46)).alloc (.cells #[.string ⟨#[88, 49]⟩, .int .i8 0, .int .i8 0, .string s, .int .i64 0, .string ⟨#[]⟩, .string ⟨#[]⟩, .slice none 0 0, .int .i8 0, .string t, .int .i64 0, .string ⟨#[]⟩, .string ⟨#[]⟩, .slice none 0 0, .slice none 0 0] 46)).drew w4.heap.size 46 15 (some ⟨w4.heap.size, 0, none⟩) 0 0 [] := Ow.none_ ((Blk.new w4 #[] _).alloc _).drew (Nat.le_refl _)
            have e3 : (w4.alloc (.cells #[.string ⟨#[88, 49]⟩, .int .i8 0, .int .i8 0, .string s, .int .i64 0, .string ⟨#[]⟩, .string ⟨#[]⟩, .slice none 0 0, .int .i8 0, .string t, .int .i64 0, .string ⟨#[]⟩, .string ⟨#[]⟩, .slice none 0 0, .slice none 0 0] 46)).heap.size = w4.heap.size + 1 := by simp
            have e2 : (w4.alloc (.cells #[] 46)).heap.size = w4.heap.size + 1 := by simp
            have o3 : Ow ((w4.alloc (.cells #[.string ⟨#[88, 49]⟩, .int .i8 0, .int .i8 0, .string s, .int .i64 0, .string ⟨#[]⟩, .string ⟨#[]⟩, .slice none 0 0, .int .i8 0, .string t, .int .i64 0, .string ⟨#[]⟩, .string ⟨#[]⟩, .slice none 0 0, .slice none 0 0] 46)).alloc (.cells #[] 46)).drew w4.heap.size 46 15 (some ⟨w4.heap.size + 1, 0, none⟩) 0 0 [] := Ow.none_ (by have := Blk.new (w4.alloc (.cells #[.string ⟨#[88, 49]⟩, .int .i8 0, .int .i8 0, .string s, .int .i64 0, .string ⟨#[]⟩, .string ⟨#[]⟩, .slice none 0 0, .int .i8 0, .string t, .int .i64 0, .string ⟨#[]⟩, .string ⟨#[]⟩, .slice none 0 0, .slice none 0 0] 46)) #[] 46; rw [e3] at this; exact this.drew) (by omega)
            have p2 : Ow ((w4.alloc (.cells #[] 46)).alloc (.cells #[.string ⟨#[88, 49]⟩, .int .i8 0, .int .i8 0, .string s, .int .i64 0, .string ⟨#[]⟩, .string ⟨#[]⟩, .slice none 0 0, .int .i8 0, .string t, .int .i64 0, .string ⟨#[]⟩, .string ⟨#[]⟩, .slice none 0 0, .slice none 0 0] 46)).drew w4.heap.size 46 15 (some ⟨w4.heap.size + 1, 0, none⟩) 1 1 [.string ⟨#[88, 49]⟩, .int .i8 0, .int .i8 0, .string s, .int .i64 0, .string ⟨#[]⟩, .string ⟨#[]⟩, .slice none 0 0, .int .i8 0, .string t, .int .i64 0, .string ⟨#[]⟩, .string ⟨#[]⟩, .slice none 0 0, .slice none 0 0] := Ow.lit (cs := #[.string ⟨#[88, 49]⟩, .int .i8 0, .int .i8 0, .string s, .int .i64 0, .string ⟨#[]⟩, .string ⟨#[]⟩, .slice none 0 0, .int .i8 0, .string t, .int .i64 0, .string ⟨#[]⟩, .string ⟨#[]⟩, .slice none 0 0, .slice none 0 0]) (by have := Blk.new (w4.alloc (.cells #[] 46)) #[.string ⟨#[88, 49]⟩, .int .i8 0, .int .i8 0, .string s, .int .i64 0, .string ⟨#[]⟩, .string ⟨#[]⟩, .slice none 0 0, .int .i8 0, .string t, .int .i64 0, .string ⟨#[]⟩, .string ⟨#[]⟩, .slice none 0 0, .slice none 0 0] 46; rw [e2] at this; exact this.drew) rfl (by simp [maxLen]) (by omega)
            have p3 : Ow ((w4.alloc (.cells #[.string ⟨#[88, 49]⟩, .int .i8 0, .int .i8 0, .string s, .int .i64 0, .string ⟨#[]⟩, .string ⟨#[]⟩, .slice none 0 0, .int .i8 0, .string t, .int .i64 0, .string ⟨#[]⟩, .string ⟨#[]⟩, .slice none 0 0, .slice none 0 0] 46)).alloc (.cells #[] 46)).drew w4.heap.size 46 15 (some ⟨w4.heap.size, 0, none⟩) 1 1 [.string ⟨#[88, 49]⟩, .int .i8 0, .int .i8 0, .string s, .int .i64 0, .string ⟨#[]⟩, .string ⟨#[]⟩, .slice none 0 0, .int .i8 0, .string t, .int .i64 0, .string ⟨#[]⟩, .string ⟨#[]⟩, .slice none 0 0, .slice none 0 0] := Ow.lit (cs := #[.string ⟨#[88, 49]⟩, .int .i8 0, .int .i8 0, .string s, .int .i64 0, .string ⟨#[]⟩, .string ⟨#[]⟩, .slice none 0 0, .int .i8 0, .string t, .int .i64 0, .string ⟨#[]⟩, .string ⟨#[]⟩, .slice none 0 0, .slice none 0 0]) ((Blk.new w4 #[.string ⟨#[88, 49]⟩, .int .i8 0, .int .i8 0, .string s, .int .i64 0, .string ⟨#[]⟩, .string ⟨#[]⟩, .slice none 0 0, .int .i8 0, .string t, .int .i64 0, .string ⟨#[]⟩, .string ⟨#[]⟩, .slice none 0 0, .slice none 0 0] 46).alloc _).drew rfl (by simp [maxLen]) (Nat.le_refl _)
            have BB1 := Lib.hid b1
            have BB2 := Lib.hid b2
            have BB3 := Lib.hid b3
            have O1 := Lib.hid o1
            have O2 := Lib.hid o2
            have O3 := Lib.hid o3
            have P2 := Lib.hid p2
            have P3 := Lib.hid p3
            clear b1 b2 b3 o1 o2 o3 e2 e3 p2 p3 hxr hxt hqq
            -- what lies behind the second append
            have HEND : Hid (∀ w7 A7 c7, Below w4.heap.size w4 w7 → Ow w7 w4.heap.size 46 15 A7 (l.length + 1) c7 (XS ++ [.string ⟨#[88, 49]⟩, .int .i8 0, .int .i8 0, .string s, .int .i64 0, .string ⟨#[]⟩, .string ⟨#[]⟩, .slice none 0 0, .int .i8 0, .string t, .int .i64 0, .string ⟨#[]⟩, .string ⟨#[]⟩, .slice none 0 0, .slice none 0 0]) → Calls Tryz.prog 8 #[.slice A7 (l.length + 1) c7, .slice PA ps.length pc] w7 (fun e w'' => ∃ (A : Option Addr) (n c f : Nat), e = .returned (.tuple #[.slice A n c, .int .i64 (f : Nat)]) ∧ Below w7.heap.size w7 w'' ∧ RunR r2 A n c f w'')) := Lib.hid (fun w7 A7 c7 hb7 ho7 =>
              HR2'.out w7 A7 c7 (HB4.out.trans (hb7.mono HB4.out.size)) (own_conds (S := fun k => k < w.heap.size) (by simp) (by simp; omega) ho7 (by
                rw [List.flatMap_append, List.flatMap_singleton]
                exact Trs.at.app.2 ⟨_, _, rfl, HXT.out.below hb7, eqX_at (by omega) (by omega)⟩)))
            obtain ⟨d0, d1, d2, d3, d4, d5, d6, d7, d8, d9, d10, d11, d12, d13, d14⟩ := cel15 (celBlk HX4.out)
            go_wp2_with fail
            go_cut [16, 17] from 74 to 84 (fun v16 v17 wx => ∃ (B : Option Addr) (bn bc bf : Nat), v16 = .slice B bn bc ∧ v17 = .int .i64 (bf : Nat) ∧ Hid (RunR r2 B bn bc bf wx) ∧ Hid (Below w4.heap.size w4 wx))
            case first =>
              go_region_held3 (fun w' => w'.cell? ⟨q, 0, none⟩ = some (.string ⟨#[88, 49]⟩) ∧ w'.cell? ⟨q, 0 + 1, none⟩ = some (.int .i8 0) ∧ w'.cell? ⟨q, 0 + 2, none⟩ = some (.int .i8 0) ∧ w'.cell? ⟨q, 0 + 3, none⟩ = some (.string s) ∧ w'.cell? ⟨q, 0 + 4, none⟩ = some (.int .i64 0) ∧ w'.cell? ⟨q, 0 + 5, none⟩ = some (.string ⟨#[]⟩) ∧ w'.cell? ⟨q, 0 + 6, none⟩ = some (.string ⟨#[]⟩) ∧ w'.cell? ⟨q, 0 + 7, none⟩ = some (.slice none 0 0) ∧ w'.cell? ⟨q, 0 + 8, none⟩ = some (.int .i8 0) ∧ w'.cell? ⟨q, 0 + 9, none⟩ = some (.string t) ∧ w'.cell? ⟨q, 0 + 10, none⟩ = some (.int .i64 0) ∧ w'.cell? ⟨q, 0 + 11, none⟩ = some (.string ⟨#[]⟩) ∧ w'.cell? ⟨q, 0 + 12, none⟩ = some (.string ⟨#[]⟩) ∧ w'.cell? ⟨q, 0 + 13, none⟩ = some (.slice none 0 0) ∧ w'.cell? ⟨q, 0 + 14, none⟩ = some (.slice none 0 0))
                (first | go_keep | exact ⟨d0, d1, d2, d3, d4, d5, d6, d7, d8, d9, d10, d11, d12, d13, d14⟩)
                ((first
                  | (refine step_row0 info_cond Tryz.underlying22 rfl (by omega) rfl (.tmp 75) (.tmp 76) rfl w4.heap.size (some ⟨w4.heap.size, 0, none⟩) 0 rfl O1.out A l.length ac XS rfl (HXR.out.below BB1.out) HX1.out (by omega) (by omega) BB1.out.size ?_; intro A6 c6 w6 ho6 hg6 hat6; have HO6 := Lib.hid ho6; have HB6 := Lib.hid (BB1.out.grown hg6 BB1.out.size (fun k e => by have e : w4.heap.size = k := Option.some.inj e; omega)); have HXB6 := Lib.hid ((HX4.out.below BB1.out).grown hg6 (fun e => by have e : w4.heap.size = q := Option.some.inj e; omega)); obtain ⟨d0, d1, d2, d3, d4, d5, d6, d7, d8, d9, d10, d11, d12, d13, d14⟩ := cel15 (celBlk HXB6.out); clear ho6 hg6 hat6)
                  | (refine step_row0 info_cond Tryz.underlying22 rfl (by omega) rfl (.tmp 75) (.tmp 76) rfl w4.heap.size (some ⟨w4.heap.size, 0, none⟩) 0 rfl O2.out A l.length ac XS rfl (HXR.out.below BB2.out) HX1.out (by omega) (by omega) BB2.out.size ?_; intro A6 c6 w6 ho6 hg6 hat6; have HO6 := Lib.hid ho6; have HB6 := Lib.hid (BB2.out.grown hg6 BB2.out.size (fun k e => by have e : w4.heap.size = k := Option.some.inj e; omega)); have HXB6 := Lib.hid ((HX4.out.below BB2.out).grown hg6 (fun e => by have e : w4.heap.size = q := Option.some.inj e; omega)); have HP6 := Lib.hid (P2.out.grown hg6 (.inr (fun e => by have e : w4.heap.size + 1 = w4.heap.size := Option.some.inj e; omega))); obtain ⟨d0, d1, d2, d3, d4, d5, d6, d7, d8, d9, d10, d11, d12, d13, d14⟩ := cel15 (celBlk HXB6.out); clear ho6 hg6 hat6)
                  | (refine step_row0 info_cond Tryz.underlying22 rfl (by omega) rfl (.tmp 75) (.tmp 76) rfl w4.heap.size (some ⟨w4.heap.size + 1, 0, none⟩) 0 rfl O3.out A l.length ac XS rfl (HXR.out.below BB3.out) HX1.out (by omega) (by omega) BB3.out.size ?_; intro A6 c6 w6 ho6 hg6 hat6; have HO6 := Lib.hid ho6; have HB6 := Lib.hid (BB3.out.grown hg6 BB3.out.size (fun k e => by have e : w4.heap.size + 1 = k := Option.some.inj e; omega)); have HXB6 := Lib.hid ((HX4.out.below BB3.out).grown hg6 (fun e => by have e : w4.heap.size + 1 = q := Option.some.inj e; omega)); have HP6 := Lib.hid (P3.out.grown hg6 (.inr (fun e => by have e : w4.heap.size = w4.heap.size + 1 := Option.some.inj e; omega))); obtain ⟨d0, d1, d2, d3, d4, d5, d6, d7, d8, d9, d10, d11, d12, d13, d14⟩ := cel15 (celBlk HXB6.out); clear ho6 hg6 hat6)
                  | (refine step_row info_cond Tryz.underlying22 rfl (by omega) rfl (.tmp 77) (.tmp 79) rfl w4.heap.size A6 c6 l.length XS rfl HO6.out (some ⟨w4.heap.size + 1, 0, none⟩) 1 1 [.string ⟨#[88, 49]⟩, .int .i8 0, .int .i8 0, .string s, .int .i64 0, .string ⟨#[]⟩, .string ⟨#[]⟩, .slice none 0 0, .int .i8 0, .string t, .int .i64 0, .string ⟨#[]⟩, .string ⟨#[]⟩, .slice none 0 0, .slice none 0 0] rfl HP6.out.rd (by simp [Value.oneCell']) (by omega) (by omega) HB6.out.size ?_; intro A7 c7 w7 ho7 hg7 hat7; have HB7 := Lib.hid (HB6.out.grown hg7 HB6.out.size (fun k e => (HO6.out.lt e).1)); have HXB7 := Lib.hid (HXB6.out.grown hg7 (fun e => by have := (HO6.out.lt e).1; omega)); have HC7 := Lib.hid (HEND.out w7 A7 c7 HB7.out ho7); obtain ⟨d0, d1, d2, d3, d4, d5, d6, d7, d8, d9, d10, d11, d12, d13, d14⟩ := cel15 (celBlk HXB7.out); clear ho7 hg7 hat7)
                  | (refine step_row info_cond Tryz.underlying22 rfl (by omega) rfl (.tmp 77) (.tmp 79) rfl w4.heap.size A6 c6 l.length XS rfl HO6.out (some ⟨w4.heap.size, 0, none⟩) 1 1 [.string ⟨#[88, 49]⟩, .int .i8 0, .int .i8 0, .string s, .int .i64 0, .string ⟨#[]⟩, .string ⟨#[]⟩, .slice none 0 0, .int .i8 0, .string t, .int .i64 0, .string ⟨#[]⟩, .string ⟨#[]⟩, .slice none 0 0, .slice none 0 0] rfl HP6.out.rd (by simp [Value.oneCell']) (by omega) (by omega) HB6.out.size ?_; intro A7 c7 w7 ho7 hg7 hat7; have HB7 := Lib.hid (HB6.out.grown hg7 HB6.out.size (fun k e => (HO6.out.lt e).1)); have HXB7 := Lib.hid (HXB6.out.grown hg7 (fun e => by have := (HO6.out.lt e).1; omega)); have HC7 := Lib.hid (HEND.out w7 A7 c7 HB7.out ho7); obtain ⟨d0, d1, d2, d3, d4, d5, d6, d7, d8, d9, d10, d11, d12, d13, d14⟩ := cel15 (celBlk HXB7.out); clear ho7 hg7 hat7)
                  | (refine step_row info_cond Tryz.underlying22 rfl (by omega) rfl (.tmp 77) (.tmp 79) rfl w4.heap.size A6 c6 l.length XS rfl (HO6.out.alloc (.cells #[.string ⟨#[88, 49]⟩, .int .i8 0, .int .i8 0, .string s, .int .i64 0, .string ⟨#[]⟩, .string ⟨#[]⟩, .slice none 0 0, .int .i8 0, .string t, .int .i64 0, .string ⟨#[]⟩, .string ⟨#[]⟩, .slice none 0 0, .slice none 0 0] 46)) (some ⟨w6.heap.size, 0, none⟩) 1 1 [.string ⟨#[88, 49]⟩, .int .i8 0, .int .i8 0, .string s, .int .i64 0, .string ⟨#[]⟩, .string ⟨#[]⟩, .slice none 0 0, .int .i8 0, .string t, .int .i64 0, .string ⟨#[]⟩, .string ⟨#[]⟩, .slice none 0 0, .slice none 0 0] rfl (Rd.lit w6 15 1 #[.string ⟨#[88, 49]⟩, .int .i8 0, .int .i8 0, .string s, .int .i64 0, .string ⟨#[]⟩, .string ⟨#[]⟩, .slice none 0 0, .int .i8 0, .string t, .int .i64 0, .string ⟨#[]⟩, .string ⟨#[]⟩, .slice none 0 0, .slice none 0 0] 46 (0, 0) rfl (by simp [maxLen])) (by simp [Value.oneCell']) (by omega) (by omega) (by have := HB6.out.size; simp; omega) ?_; intro A7 c7 w7 ho7 hg7 hat7; have HB7 := Lib.hid ((HB6.out.alloc HB6.out.size (.cells #[.string ⟨#[88, 49]⟩, .int .i8 0, .int .i8 0, .string s, .int .i64 0, .string ⟨#[]⟩, .string ⟨#[]⟩, .slice none 0 0, .int .i8 0, .string t, .int .i64 0, .string ⟨#[]⟩, .string ⟨#[]⟩, .slice none 0 0, .slice none 0 0] 46)).grown hg7 (HB6.out.alloc HB6.out.size _).size (fun k e => (HO6.out.lt e).1)); have HXB7 := Lib.hid ((HXB6.out.alloc (.cells #[.string ⟨#[88, 49]⟩, .int .i8 0, .int .i8 0, .string s, .int .i64 0, .string ⟨#[]⟩, .string ⟨#[]⟩, .slice none 0 0, .int .i8 0, .string t, .int .i64 0, .string ⟨#[]⟩, .string ⟨#[]⟩, .slice none 0 0, .slice none 0 0] 46)).grown hg7 (fun e => by have := (HO6.out.lt e).1; omega)); have HC7 := Lib.hid (HEND.out w7 A7 c7 HB7.out ho7); obtain ⟨d0, d1, d2, d3, d4, d5, d6, d7, d8, d9, d10, d11, d12, d13, d14⟩ := cel15 (celBlk HXB7.out); clear ho7 hg7 hat7)
                  | (go_at_call 8; (with_reducible refine HC7.out.mono ?_); rintro e w8 ⟨B, bn, bc, bf, rfl, hb8, hrr⟩; have HB8 := Lib.hid (HB7.out.trans (hb8.mono HB7.out.size)); have HRR2 := Lib.hid hrr; obtain ⟨d0, d1, d2, d3, d4, d5, d6, d7, d8, d9, d10, d11, d12, d13, d14⟩ := cel15 (celBlk (HXB7.out.below hb8)); clear hb8 hrr)))
              all_goals
                go_wp2_with fail
                go_meet
                exact ⟨B, bn, bc, bf, rfl, rfl, HRR2, HB8⟩
            case rest =>
              obtain ⟨B, bn, bc, bf, rfl, rfl, HRR2, HB9⟩ := hcut
              have HBC : Hid (Below w.heap.size w wc) := Lib.hid (HB4.out.trans (HB9.out.mono HB4.out.size))
              have hbc := HRR2.out.1
              clear HEND HR2' d0 d1 d2 d3 d4 d5 d6 d7 d8 d9 d10 d11 d12 d13 d14
              clear BB1 BB2 BB3 O1 O2 O3 P2 P3
              cases r1 with
              | inl m =>
                obtain ⟨_, rfl, rfl⟩ := HRR1.out
                obtain ⟨hm, hr2⟩ := HL1.out _ rfl
                subst hr2
                obtain ⟨_, rfl, rfl⟩ := HRR2.out
                have hm0 : ((bf : Int) == 0) = false := by rw [beq_eq_false_iff_ne]; omega
                have hm1 : ¬ ((bf : Int) = 0) := by omega
                have hm2 : ((bf : Int) != 0) = true := by rw [bne_iff_ne]; omega
                clear hm
                go_wp2_with fail
                refine (HW.out wc HBC.out).mono ?_
                rintro e w5 ⟨rfl, hb5⟩
                have HB5 := Lib.hid (HBC.out.trans (hb5.mono HBC.out.size))
                go_wp2_with fail
                go_ret
                exact ⟨rfl, HB5.out⟩
              | inr a =>
                obtain ⟨hal, hor⟩ := HL2.out a rfl
                obtain ⟨_, rfl, rfl, hra⟩ := HRR1.out
                have HRA := Lib.hid hra
                rcases hor with ⟨m, hm, hr2⟩ | hr2
                · subst hr2
                  obtain ⟨_, rfl, rfl⟩ := HRR2.out
                  have hm0 : ((bf : Int) == 0) = false := by rw [beq_eq_false_iff_ne]; omega
                  have hm1 : ¬ ((bf : Int) = 0) := by omega
                  have hm2 : ((bf : Int) != 0) = true := by rw [bne_iff_ne]; omega
                  clear hm
                  go_wp2_with fail
                  refine (HW.out wc HBC.out).mono ?_
                  rintro e w5 ⟨rfl, hb5⟩
                  have HB5 := Lib.hid (HBC.out.trans (hb5.mono HBC.out.size))
                  go_wp2_with fail
                  go_ret
                  exact ⟨rfl, HB5.out⟩
                · subst hr2
                  obtain ⟨_, rfl, rfl, hrb⟩ := HRR2.out
                  have HRB := Lib.hid hrb
                  have hbl : (a ++ [(x1N, decide (s = t))]).length = l.length + 1 := by simp [hal]
                  rw [hbl] at hbc
                  rw [hbl, hal]
                  rw [hal] at hrc
                  have HAL := Lib.hid hal
                  clear hra hrb hbl hal
                  have HSAME := Lib.hid (fun w' (hb : Below wc.heap.size wc w') => same9_yes RA B l.length rc bc a w' (HAL.out).symm (by omega) (fun w'' h i x hx => HRA.out w'' (HB9.out.trans ((hb.trans (h.mono hb.size)).mono HB9.out.size)) i x hx) (fun w'' h i x hx => HRB.out w'' (hb.trans (h.mono hb.size)) i x (by rw [List.getElem?_append_left (List.getElem?_eq_some_iff.1 hx).1]; exact hx)))
                  have HLAST : Hid (∀ w', Below wc.heap.size wc w' → ∃ ad, B = some ad ∧ Cel w' (ad.add (l.length * 8)) (yes ⟨#[88, 49]⟩ (decide (s = t)))) := Lib.hid (fun w' hb => HRB.out w' hb l.length (x1N, decide (s = t)) (by rw [List.getElem?_append_right (by have := HAL.out; omega), HAL.out]; simp))
                  have hsl : (0 : Int) ≤ (l.length : Int) ∧ (l.length : Int) ≤ (bc : Int) := by omega
                  have hn0 : (0 : Int) ≤ (l.length : Int) ∧ (l.length : Int) < (l.length : Int) + 1 := by omega
                  go_wp2_with fail
                  refine (HSAME.out wc (Below.refl _ _)).mono ?_
                  rintro e w10 ⟨rfl, hb10⟩
                  have HB10 : Hid (Below w.heap.size w w10) := Lib.hid (HBC.out.trans (hb10.mono HBC.out.size))
                  obtain ⟨bd, rfl, hcl⟩ := HLAST.out w10 hb10
                  by_cases hst : s = t
                  · rw [decide_eq_true hst] at hcl
                    obtain ⟨b0, b1, b2, b3, b4, b5, b6, b7⟩ := cel8 hcl
                    have hE : (s.toList == t.toList) = true := by rw [hst]; simp
                    have hE2 : s.toList = t.toList := by rw [hst]
                    clear hcl hst hb10
                    go_wp2_with fail
                    refine (HW.out w10 HB10.out).mono ?_
                    rintro e w5 ⟨rfl, hb5⟩
                    have HB5 := Lib.hid (HB10.out.trans (hb5.mono HB10.out.size))
                    go_wp2_with fail
                    go_ret
                    exact ⟨rfl, HB5.out⟩
                  · rw [decide_eq_false hst] at hcl
                    obtain ⟨b0, b1, b2, b3, b4, b5, b6, b7⟩ := cel8 hcl
                    have hE := str_ne hst
                    have hE2 : ¬ s.toList = t.toList := by simpa using hE
                    clear hcl hst hb10
                    go_wp2_with fail
                    refine (HW.out w10 HB10.out).mono ?_
                    rintro e w5 ⟨rfl, hb5⟩
                    have HB5 := Lib.hid (HB10.out.trans (hb5.mono HB10.out.size))
                    go_wp2_with fail
                    go_ret
                    exact ⟨rfl, HB5.out⟩
          | succ g =>
            have hjj : (j : Int) < (l.length : Int) := by omega
            have hj0 : (0 : Int) ≤ (j : Int) ∧ (j : Int) < (l.length : Int) := by omega
            obtain ⟨c, hc⟩ := get_lt (l := l) (i := j) (by omega)
            obtain ⟨ad, cs, rfl, hct, hcc⟩ := (HLS.out.below HB.out).elem Cd.trlen hc
            have hcok := HCOK.out trivial c (List.mem_of_getElem? hc)
            obtain ⟨xs1, ys1, L, lc, rfl, hns, _, hxa, hxb, _⟩ := Cd.at_iff.1 hct
            obtain ⟨A1, n1, rfl, _⟩ := ex_cells hxa
            obtain ⟨B1, n2, rfl, _⟩ := ex_cells hxb
            have HNM : Hid (∀ w', Below wo.heap.size wo w' → Calls Tryz.prog 14 #[.agg #[.string c.name, .int .i8 c.kind, .int .i8 c.a.kind, .string c.a.text, .int .i64 c.a.num, .string c.a.name, .string c.a.attr, .slice A1 c.a.l.length n1, .int .i8 c.b.kind, .string c.b.text, .int .i64 c.b.num, .string c.b.name, .string c.b.attr, .slice B1 c.b.l.length n2, .slice L c.l.length lc]] w' (TextsOut (names c) w')) := Lib.hid (fun w' h => rnames_any _ c _ w' hcok.1 (hct.below h) (by have := hcok.2.1; omega))
            obtain ⟨c0, c1, c2, c3, c4, c5, c6, c7, c8, c9, c10, c11, c12, c13, c14⟩ := cel15 hcc
            have hnl : (names c).length ≤ 1000000 := names_len (by have := hcok.2.1; omega)
            obtain ⟨N, hN⟩ : ∃ N, N = names c := ⟨_, rfl⟩
            rw [← hN] at HNM hnl
            have HST : Hid ((∀ z ∈ N ++ [c.name], addedN z = false) → ∀ k c, k < j + 1 → l[k]? = some c → addedN c.name = false ∧ ∀ s ∈ names c, addedN s = false) := Lib.hid (fun hall k d hk hd => by
              rcases Nat.lt_succ_iff_lt_or_eq.1 hk with hk | rfl
              · exact HF.out k d hk hd
              · rw [hc] at hd
                injection hd with hd
                subst hd
                exact ⟨hall _ (by simp), fun s hs => hall s (by rw [hN]; simp [hs])⟩)
            clear hct hcc hxa hxb hc hcok hN
            have hbw : Below wo.heap.size wo (wo.alloc (.cells #[.string c.name, .int .i8 c.kind, .int .i8 c.a.kind, .string c.a.text, .int .i64 c.a.num, .string c.a.name, .string c.a.attr, .slice A1 c.a.l.length n1, .int .i8 c.b.kind, .string c.b.text, .int .i64 c.b.num, .string c.b.name, .string c.b.attr, .slice B1 c.b.l.length n2, .slice L c.l.length lc] 46)) := (Below.refl _ wo).alloc (Nat.le_refl _) _
            have HBW := Lib.hid hbw
            have HBX := Lib.hid (Blk.new wo #[.string c.name, .int .i8 c.kind, .int .i8 c.a.kind, .string c.a.text, .int .i64 c.a.num, .string c.a.name, .string c.a.attr, .slice A1 c.a.l.length n1, .int .i8 c.b.kind, .string c.b.text, .int .i64 c.b.num, .string c.b.name, .string c.b.attr, .slice B1 c.b.l.length n2, .slice L c.l.length lc] 46)
            clear hbw
            go_wp2_with fail
            obtain ⟨WX, hWX⟩ : ∃ WX, WX = wo.alloc (.cells #[.string c.name, .int .i8 c.kind, .int .i8 c.a.kind, .string c.a.text, .int .i64 c.a.num, .string c.a.name, .string c.a.attr, .slice A1 c.a.l.length n1, .int .i8 c.b.kind, .string c.b.text, .int .i64 c.b.num, .string c.b.name, .string c.b.attr, .slice B1 c.b.l.length n2, .slice L c.l.length lc] 46) := ⟨_, rfl⟩
            rw [← hWX] at HBW HBX ⊢
            obtain ⟨q, hq⟩ : ∃ q, q = wo.heap.size := ⟨_, rfl⟩
            rw [← hq] at HBX ⊢
            clear hWX c0 c1 c2 c3 c4 c5 c6 c7 c8 c9 c10 c11 c12 c13 c14
            obtain ⟨d0, d1, d2, d3, d4, d5, d6, d7, d8, d9, d10, d11, d12, d13, d14⟩ := cel15 (celBlk HBX.out)
            have hqlt := HBX.out.lt
            have hqo : wo.heap.size ≤ q := Nat.le_of_eq hq.symm
            have hba : Below wo.heap.size wo ((WX.alloc (.cells #[.string c.name] 9)).drew) := (HBW.out.alloc HBW.out.size _).drew
            have hra : Rd ((WX.alloc (.cells #[.string c.name] 9)).drew) 1 (some ⟨WX.heap.size, 0, none⟩) 1 1 [.string c.name] := (Rd.lit WX 1 1 #[.string c.name] 9 (0, 0) rfl (by simp [maxLen])).below (Below.refl _ _).drew
            have hxa : Blk ((WX.alloc (.cells #[.string c.name] 9)).drew) q #[.string c.name, .int .i8 c.kind, .int .i8 c.a.kind, .string c.a.text, .int .i64 c.a.num, .string c.a.name, .string c.a.attr, .slice A1 c.a.l.length n1, .int .i8 c.b.kind, .string c.b.text, .int .i64 c.b.num, .string c.b.name, .string c.b.attr, .slice B1 c.b.l.length n2, .slice L c.l.length lc] 46 := (HBX.out.alloc _).drew
            have HBa := Lib.hid hba
            have HRa := Lib.hid hra
            have HXa := Lib.hid hxa
            have HBb : Hid (Below wo.heap.size wo WX.drew) := Lib.hid HBW.out.drew
            clear hba hra hxa hq
            go_cut [43, 52, 53, 54] from 43 to 62 (fun v43 v52 v53 v54 wx => v43 = .int .i64 (j : Nat) ∧ ∃ (B : Option Addr) (bc : Nat), v52 = .slice B (N.length + 1) bc ∧ v53 = .int .i64 ((N.length : Int) + 1) ∧ v54 = .int .i64 0 ∧ Hid (Rd wx 1 B (N.length + 1) bc ((N ++ [c.name]).map .string)) ∧ Hid (Below wo.heap.size wo wx))
            case first =>
              go_region_held3 (fun w' => w'.cell? ⟨q, 0, none⟩ = some (.string c.name) ∧ w'.cell? ⟨q, 0 + 1, none⟩ = some (.int .i8 c.kind) ∧ w'.cell? ⟨q, 0 + 2, none⟩ = some (.int .i8 c.a.kind) ∧ w'.cell? ⟨q, 0 + 3, none⟩ = some (.string c.a.text) ∧ w'.cell? ⟨q, 0 + 4, none⟩ = some (.int .i64 c.a.num) ∧ w'.cell? ⟨q, 0 + 5, none⟩ = some (.string c.a.name) ∧ w'.cell? ⟨q, 0 + 6, none⟩ = some (.string c.a.attr) ∧ w'.cell? ⟨q, 0 + 7, none⟩ = some (.slice A1 c.a.l.length n1) ∧ w'.cell? ⟨q, 0 + 8, none⟩ = some (.int .i8 c.b.kind) ∧ w'.cell? ⟨q, 0 + 9, none⟩ = some (.string c.b.text) ∧ w'.cell? ⟨q, 0 + 10, none⟩ = some (.int .i64 c.b.num) ∧ w'.cell? ⟨q, 0 + 11, none⟩ = some (.string c.b.name) ∧ w'.cell? ⟨q, 0 + 12, none⟩ = some (.string c.b.attr) ∧ w'.cell? ⟨q, 0 + 13, none⟩ = some (.slice B1 c.b.l.length n2) ∧ w'.cell? ⟨q, 0 + 14, none⟩ = some (.slice L c.l.length lc))
                (first | go_keep | exact ⟨d0, d1, d2, d3, d4, d5, d6, d7, d8, d9, d10, d11, d12, d13, d14⟩)
                ((first
                  | (go_at_call 14; (with_reducible refine (HNM.out ((WX.alloc (.cells #[.string c.name] 9)).drew) HBa.out).mono ?_); rintro e w2 ⟨NA, nc, rfl, ho, hb, _⟩; have HN2 : Hid (blk NA ≠ some q) := Lib.hid (fun e => by have h1 := (ho.lt e).1; have h2 := HXa.out.lt; omega); have HO2 := Lib.hid (ho.le HBa.out.size); have HB2 := Lib.hid (HBa.out.trans (hb.mono HBa.out.size)); have HX2 := Lib.hid (HXa.out.below hb); have HR2 := Lib.hid (HRa.out.below hb); obtain ⟨d0, d1, d2, d3, d4, d5, d6, d7, d8, d9, d10, d11, d12, d13, d14⟩ := cel15 (celBlk HX2.out); clear hb ho)
                  | (go_at_call 14; (with_reducible refine (HNM.out WX.drew HBb.out).mono ?_); rintro e w2 ⟨NA, nc, rfl, ho, hb, _⟩; have HN2 : Hid (blk NA ≠ some q) := Lib.hid (fun e => by have h1 := (ho.lt e).1; have h2 := HBX.out.drew.lt; omega); have HO2 := Lib.hid (ho.le HBb.out.size); have HB2 := Lib.hid (HBb.out.trans (hb.mono HBb.out.size)); have HX2 := Lib.hid (HBX.out.drew.below hb); obtain ⟨d0, d1, d2, d3, d4, d5, d6, d7, d8, d9, d10, d11, d12, d13, d14⟩ := cel15 (celBlk HX2.out); clear hb ho)
                  | (refine step_row info_str Tryz.underlying35 rfl (by omega) rfl (.tmp 48) (.tmp 51) rfl wo.heap.size NA nc N.length (N.map .string) rfl HO2.out (some ⟨WX.heap.size, 0, none⟩) 1 1 [.string c.name] rfl HR2.out (by simp [Value.oneCell']) (by omega) (by omega) HB2.out.size ?_; intro A6 c6 w6 ho6 hg6 hat6; have HO6 := Lib.hid ho6; have HB6 := Lib.hid (HB2.out.grown hg6 HB2.out.size (fun k e => (HO2.out.lt e).1)); obtain ⟨d0, d1, d2, d3, d4, d5, d6, d7, d8, d9, d10, d11, d12, d13, d14⟩ := cel15 (celBlk (HX2.out.grown hg6 HN2.out)); clear ho6 hg6 hat6)
                  | (refine step_row info_str Tryz.underlying35 rfl (by omega) rfl (.tmp 48) (.tmp 51) rfl wo.heap.size NA nc N.length (N.map .string) rfl (HO2.out.alloc (.cells #[.string c.name] 9)) (some ⟨w2.heap.size, 0, none⟩) 1 1 [.string c.name] rfl (Rd.lit w2 1 1 #[.string c.name] 9 (0, 0) rfl (by simp [maxLen])) (by simp [Value.oneCell']) (by omega) (by omega) (by have := HB2.out.size; simp; omega) ?_; intro A6 c6 w6 ho6 hg6 hat6; have HO6 := Lib.hid ho6; have HB6 := Lib.hid ((HB2.out.alloc HB2.out.size (.cells #[.string c.name] 9)).grown hg6 (HB2.out.alloc HB2.out.size _).size (fun k e => (HO2.out.lt e).1)); obtain ⟨d0, d1, d2, d3, d4, d5, d6, d7, d8, d9, d10, d11, d12, d13, d14⟩ := cel15 (celBlk ((HX2.out.alloc (.cells #[.string c.name] 9)).grown hg6 HN2.out)); clear ho6 hg6 hat6)))
              all_goals
                go_wp2_with fail
                go_meet
                exact ⟨rfl, A6, c6, rfl, by go_num, rfl, Lib.hid (by rw [List.map_append]; exact HO6.out.rd), HB6⟩
            case rest =>
              obtain ⟨rfl, B, bc, rfl, rfl, rfl, HRB, HBC⟩ := hcut
              have HBWC : Hid (Below w.heap.size w wc) := Lib.hid (HB.out.trans (HBC.out.mono HB.out.size))
              clear HNM HBa HRa HXa HBb HBX HBW d0 d1 d2 d3 d4 d5 d6 d7 d8 d9 d10 d11 d12 d13 d14
              go_wp2_with fail
              go_loopg [54] (N.length + 1) (fun g i wr => ∃ n : Nat, n + g = N.length + 1 ∧ i = .int .i64 (n : Nat) ∧ wr = wc ∧ Hid (∀ k z, k < n → (N ++ [c.name])[k]? = some z → addedN z = false))
              case atStart => exact ⟨0, by omega, rfl, rfl, Lib.hid (fun k z h => by omega)⟩
              case round =>
                obtain ⟨n, hn, rfl, rfl, HAL⟩ := hrel
                cases gk with
                | zero =>
                  have hnn : ¬ ((n : Int) < (N.length : Int) + 1) := by omega
                  go_wp2_with fail
                  go_roundg g
                  case measure => omega
                  case rel => exact ⟨j + 1, by omega, by go_num, HBWC, Lib.hid (HST.out (fun z hz => by
                    obtain ⟨k, hk, rfl⟩ := List.getElem_of_mem hz
                    exact HAL.out k _ (by simp at hk; omega) (List.getElem?_eq_getElem hk)))⟩
                | succ g2 =>
                  have hnn : (n : Int) < (N.length : Int) + 1 := by omega
                  have hn0 : (0 : Int) ≤ (n : Int) ∧ (n : Int) < (N.length : Int) + 1 := by omega
                  obtain ⟨z, hz⟩ := get_lt (l := N ++ [c.name]) (i := n) (by simp; omega)
                  obtain ⟨nd, rfl, hcz⟩ := HRB.out.at_ n (.string z) (by rw [List.getElem?_map, hz]; rfl)
                  have HAD := Lib.hid (added_any z wr)
                  obtain ⟨b, hb⟩ : ∃ b, b = addedN z := ⟨_, rfl⟩
                  rw [← hb] at HAD
                  have HZ := Lib.hid hz
                  have HBZ := Lib.hid hb
                  clear hz hb
                  go_wp2_with fail
                  refine HAD.out.mono ?_
                  rintro e w7 ⟨rfl, rfl⟩
                  cases b with
                  | true =>
                    go_wp2_with fail
                    refine (HW.out w7 HBWC.out).mono ?_
                    rintro e w8 ⟨rfl, hb8⟩
                    have HB8 := Lib.hid (HBWC.out.trans (hb8.mono HBWC.out.size))
                    go_wp2_with fail
                    go_ret
                    exact ⟨rfl, HB8.out⟩
                  | false =>
                    go_wp2_with fail
                    go_roundg g2
                    case measure => omega
                    case rel => exact ⟨n + 1, by omega, by go_num, rfl, Lib.hid (fun k z' hk hz' => by
                      rcases Nat.lt_succ_iff_lt_or_eq.1 hk with hk | rfl
                      · exact HAL.out k z' hk hz'
                      · rw [HZ.out] at hz'
                        injection hz' with hz'
                        rw [← hz']; exact HBZ.out.symm)⟩
theorem condsMore_walk (w : World) (hV : VOk w) (A : Option Addr) (n ac : Nat) (l : List Cd) (hn : n = l.length) (hls : Ls (fun k => k < w.heap.size) w 15 224 Cd.tr A ac l) (PA : Option Addr) (m pc : Nat) (ps : List Gv) (hm : m = ps.length) (hps : Ls (fun k => k < w.heap.size) w 8 104 Gv.tr PA pc ps) (s : ByteArray) (hs : s.size ≤ 9223372036854775807) (t : ByteArray) (ht : t.size ≤ 9223372036854775807) :
    Calls Tryz.prog 4 #[.slice A n ac, .slice PA m pc, .string s, .string t] w (BoolB true w) := by
  subst hn; subst hm
  exact condsMore_any A ac l PA pc ps s t hs ht w hV hls hps
end Go.Proofs.YtmljdppdaaoehaaGreatDoor
