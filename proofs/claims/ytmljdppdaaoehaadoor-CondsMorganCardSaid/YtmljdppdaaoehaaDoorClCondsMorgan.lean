/- The tied card of 'CondsMorgan': it returns true at every input, and each argument reads behind the call as it read before. -/
import Derived.Test.YtmljdppdaaoehaaDoorRows
import Derived.Test.YtmljdppdaaoehaaDoorCards
import Derived.Test.YtmljdppdaaoehaaDoorTie
import Derived.Test.YtmljdppdaaoehaaDoorCnO
import Derived.Test.YtmljdppdaaoehaaDoorCnV
import Derived.WalkKit
import Derived.ProofKit
import Derived.OpenShut
import Derived.ShutString
import Derived.Lay
import Derived.LaidOnce
import Derived.SevenTiedAt
import Derived.Below
import Derived.SizedLaws
import Derived.ChangeOld
import Derived.Test.YtmljdppdaaoehaaDoorCm1
import Derived.Test.YtmljdppdaaoehaaDoorCs2
import Derived.Test.YtmljdppdaaoehaaDoorCmA
import Derived.Test.YtmljdppdaaoehaaDoorCm5
import Derived.Test.YtmljdppdaaoehaaDoorGtRows
import Derived.StillTail
import Derived.StillTailTactics
import Derived.Deep.CutRange
import Derived.Deep.CutBlock
import Derived.Deep.RegionHeld3
namespace Go.Proofs.YtmljdppdaaoehaaDoor
open Go.RowKit
set_option linter.unusedVariables false
set_option linter.unusedSimpArgs false
theorem names_len {c : Cd} (h : (cNm 20 c).length ≤ 1000000) : (names c).length ≤ 1000000 := by
  have := foldT_len (cNm 20 c) []
  unfold names
  simp only [List.length_nil, Nat.zero_add] at this
  omega
theorem tmod_in {i : Int} {n : Nat} (hn : 0 < n) : ∃ k : Nat, k < n ∧ (Int.tmod i n + n).tmod n = k ∧ -(n : Int) < Int.tmod i n ∧ Int.tmod i n < n := by
  have h1 : -(n : Int) < Int.tmod i n := by
    have := Int.lt_tmod_of_pos i (show (0 : Int) < n by omega)
    omega
  have h2 : Int.tmod i n < n := Int.tmod_lt_of_pos i (by omega)
  have h3 : 0 ≤ (Int.tmod i n + n).tmod n := Int.tmod_nonneg _ (by omega)
  have h4 : (Int.tmod i n + n).tmod n < n := Int.tmod_lt_of_pos _ (by omega)
  exact ⟨((Int.tmod i n + n).tmod n).toNat, by omega, by omega, h1, h2⟩
set_option maxRecDepth 100000 in
set_option maxHeartbeats 32000000 in
theorem condsMorgan_any (A : Option Addr) (ac : Nat) (l : List Cd) (PA : Option Addr) (pc : Nat) (ps : List Gv) (i k : Int) (hi1 : -9223372036854775808 ≤ i) (hi2 : i ≤ 9223372036854775807) (hk1 : -9223372036854775808 ≤ k) (hk2 : k ≤ 9223372036854775807) (w : World) (hV : VOk w) (hls : Ls (fun k => k < w.heap.size) w 15 224 Cd.tr A ac l) (hps : Ls (fun k => k < w.heap.size) w 8 104 Gv.tr PA pc ps) :
    Calls Tryd.prog 4 #[.slice A l.length ac, .slice PA ps.length pc, .int .i64 i, .int .i64 k] w (BoolB true w) := by
  have hcap := hls.cap
  have hbyt := hls.bytes
  have HLS := Lib.hid hls
  have HG1 := Lib.hid (csgreat_any _ A ac l w hls)
  have HG2 : Hid (∀ w', Below w.heap.size w w' → Calls Tryd.prog 7 #[.slice PA ps.length pc] w' (BoolOut (gsGreat ps) w')) := Lib.hid (fun w' h => gsgreat_any _ PA pc ps w' (hps.below h))
  have HW : Hid (∀ w', Below w.heap.size w w' → Calls Tryd.prog 8 #[] w' (BoolB true w')) := Lib.hid (fun w' h => wakes_any w' (hV.below h))
  have HCOK : Hid (csGreat l = false → CsOk l) := Lib.hid (fun h => (cs_ok h).2)
  have HGS : Hid (gsGreat ps = false → ∀ p ∈ ps, vSmall p.v) := Lib.hid (fun h => (gs_small h).2)
  have HRUN : Hid (gsGreat ps = false → ∀ (L : List Cd) (K : Nat), CsOk L → (csCheck L (gNames ps) = 0 → ∀ e ∈ L, Dp L ps vSmall K e) → ∀ w' A' c', Below w.heap.size w w' → Ls (fun k => k < w'.heap.size) w' 15 224 Cd.tr A' c' L → Calls Tryd.prog 9 #[.slice A' L.length c', .slice PA ps.length pc] w' (RunL (runOf L ps vEq K) w')) := Lib.hid (fun h2 L K hok hK w' A' c' hb hl =>
    (crun_any _ A' c' L PA pc ps w' (hV.below hb) hl ((hps.below hb).mono (fun k hk => Nat.lt_of_lt_of_le hk hb.size)) (by have := (gs_small h2).1; omega) (gs_small h2).2 hok K hK).mono (fun e w'' h => h.l))
  obtain ⟨g1, hg1⟩ : ∃ g1, g1 = csGreat l := ⟨_, rfl⟩
  obtain ⟨g2, hg2⟩ : ∃ g2, g2 = gsGreat ps := ⟨_, rfl⟩
  rw [← hg1] at HG1 HCOK
  rw [← hg2] at HG2 HGS HRUN
  clear hg1 hg2 hls hps hV
  go_enter Tryd.func4, Tryd.ntmps4
  go_wp2_with fail
  refine HG1.out.mono ?_
  rintro e w1 ⟨rfl, hb1⟩
  have HB1 := Lib.hid hb1
  clear hb1 HG1
  cases g1 with
  | true =>
    go_wp2_with fail
    refine (HW.out w1 HB1.out).mono ?_
    rintro e w2 ⟨rfl, hb2⟩
    have HB2 := Lib.hid (HB1.out.trans (hb2.mono HB1.out.size))
    go_wp2_with fail
    go_ret
    exact ⟨rfl, HB2.out⟩
  | false =>
    go_wp2_with fail
    refine (HG2.out w1 HB1.out).mono ?_
    rintro e w2 ⟨rfl, hb2⟩
    have HB2 := Lib.hid (HB1.out.trans (hb2.mono HB1.out.size))
    clear hb2
    cases g2 with
    | true =>
      go_wp2_with fail
      refine (HW.out w2 HB2.out).mono ?_
      rintro e w3 ⟨rfl, hb3⟩
      have HB3 := Lib.hid (HB2.out.trans (hb3.mono HB2.out.size))
      go_wp2_with fail
      go_ret
      exact ⟨rfl, HB3.out⟩
    | false =>
      by_cases hbig : l.length = 0 ∨ 2 < l.length
      · by_cases k1 : (l.length : Int) = 0
        · have k1' : ((l.length : Int) == 0) = true := by rw [beq_iff_eq]; exact k1
          clear hbig
          go_wp2_with fail
          refine (HW.out w2 HB2.out).mono ?_
          rintro e w3 ⟨rfl, hb3⟩
          have HB3 := Lib.hid (HB2.out.trans (hb3.mono HB2.out.size))
          go_wp2_with fail
          go_ret
          exact ⟨rfl, HB3.out⟩
        · have k1' : ((l.length : Int) == 0) = false := beq_eq_false_iff_ne.2 k1
          have k2 : (2 : Int) < (l.length : Int) := by omega
          clear hbig
          go_wp2_with fail
          refine (HW.out w2 HB2.out).mono ?_
          rintro e w3 ⟨rfl, hb3⟩
          have HB3 := Lib.hid (HB2.out.trans (hb3.mono HB2.out.size))
          go_wp2_with fail
          go_ret
          exact ⟨rfl, HB3.out⟩
      · have hl2 : l.length ≤ 2 := by omega
        have hl0 : 0 < l.length := by omega
        have k1 : ¬ (l.length : Int) = 0 := by omega
        have k1' : ((l.length : Int) == 0) = false := beq_eq_false_iff_ne.2 k1
        have k2 : decide ((2 : Int) < (l.length : Int)) = false := decide_eq_false (by omega)
        obtain ⟨i', hi', hie, hia, hib⟩ := tmod_in (i := i) hl0
        obtain ⟨k', hk', hke, hka, hkb⟩ := tmod_in (i := k) hl0
        clear hbig
        have wi1 : IntKind.i64.wrap (Int.tmod i (l.length : Int)) = Int.tmod i (l.length : Int) := IntWalk.i64_in _ (by omega)
        have wi2 : IntKind.i64.wrap (Int.tmod i (l.length : Int) + (l.length : Int)) = Int.tmod i (l.length : Int) + (l.length : Int) := IntWalk.i64_in _ (by omega)
        have wi3 : IntKind.i64.wrap (i' : Int) = (i' : Int) := IntWalk.i64_in _ (by omega)
        have wk1 : IntKind.i64.wrap (Int.tmod k (l.length : Int)) = Int.tmod k (l.length : Int) := IntWalk.i64_in _ (by omega)
        have wk2 : IntKind.i64.wrap (Int.tmod k (l.length : Int) + (l.length : Int)) = Int.tmod k (l.length : Int) + (l.length : Int) := IntWalk.i64_in _ (by omega)
        have wk3 : IntKind.i64.wrap (k' : Int) = (k' : Int) := IntWalk.i64_in _ (by omega)
        go_wp2_with fail
        clear k1 k1' k2 wi1 wi2 wi3 wk1 wk2 wk3 hie hke hia hib hka hkb
        go_loopg [61] l.length (fun g i wr => ∃ j : Nat, j + g = l.length ∧ i = .int .i64 (j : Nat) ∧ Hid (Below w.heap.size w wr) ∧ Hid (∀ k c, k < j → l[k]? = some c → addedN c.name = false ∧ ∀ s ∈ names c, addedN s = false))
        case atStart => exact ⟨0, by omega, rfl, HB2, Lib.hid (fun k c h => by omega)⟩
        case round =>
          obtain ⟨j, hj, rfl, HB, HF⟩ := hrel
          rename World => wo
          cases gk with
          | zero =>
            have hjj : ¬ ((j : Int) < (l.length : Int)) := by omega
            obtain ⟨c, hci⟩ := get_lt (l := l) (i := i') (by omega)
            obtain ⟨d, hdk⟩ := get_lt (l := l) (i := k') (by omega)
            have hii : (0 : Int) ≤ (i' : Int) ∧ (i' : Int) < (l.length : Int) := by omega
            have hkk : (0 : Int) ≤ (k' : Int) ∧ (k' : Int) < (l.length : Int) := by omega
            have hfar : ∀ c ∈ l, addedN c.name = false ∧ ∀ s ∈ names c, addedN s = false := fun c hc => by
              obtain ⟨k, hk, rfl⟩ := List.getElem_of_mem hc
              exact HF.out k _ (by omega) (List.getElem?_eq_getElem hk)
            obtain ⟨K, hK1, hK2, hlaw1, hlaw2⟩ := morgan_law hci hdk hl2 (HGS.out trivial) (far_of hfar (fun x hx => (mX_name hx).1))
            have hok : CsOk (l ++ mX c.name d.name) := fun x hx => by
              rcases List.mem_append.1 hx with hx | hx
              · exact HCOK.out trivial x hx
              · refine ⟨?_, by rw [mX_nm hx]; show 2 ≤ _; omega, by rw [mX_ps hx]; show 0 ≤ _; omega⟩
                simp only [mX, List.mem_cons, List.not_mem_nil, or_false] at hx
                rcases hx with rfl | rfl | rfl | rfl <;> simp [Cd.deep, mX1, mX2, mX3, mX4, pt, notP, nmP]
            have HR1 := Lib.hid (HRUN.out trivial l K (HCOK.out trivial) hK1)
            have HR2 := Lib.hid (HRUN.out trivial (l ++ mX c.name d.name) K hok hK2)
            have HL1 := Lib.hid hlaw1
            have HL2 := Lib.hid hlaw2
            clear hK1 hK2 hlaw1 hlaw2 hok hfar
            obtain ⟨r1, hr1⟩ : ∃ r1, r1 = runOf l ps vEq K := ⟨_, rfl⟩
            obtain ⟨r2, hr2⟩ : ∃ r2, r2 = runOf (l ++ mX c.name d.name) ps vEq K := ⟨_, rfl⟩
            rw [← hr1] at HR1 HL1 HL2
            rw [← hr2] at HR2 HL1 HL2
            clear hr1 hr2
            obtain ⟨ad, cs, hA, hct, hcc⟩ := (HLS.out.below HB.out).elem Cd.trlen hci
            obtain ⟨dl, dlc, c0, _, _, _, _⟩ := cd_cel hct hcc
            have hcn : c.name.size ≤ 140737488351232 := by obtain ⟨_, _, _, _, _, h, _⟩ := Cd.at_iff.1 hct; exact h
            have hbA : Below w.heap.size w (wo.alloc (.cells #[.string c.name, .int .i8 4, .int .i8 0, .string ⟨#[]⟩, .int .i64 0, .string ⟨#[]⟩, .string ⟨#[]⟩, .slice none 0 0, .int .i8 0, .string ⟨#[]⟩, .int .i64 0, .string ⟨#[]⟩, .string ⟨#[]⟩, .slice none 0 0, .slice none 0 0] 32)) := HB.out.alloc HB.out.size _
            obtain ⟨ad', ds, hA', hdt, hdc⟩ := (HLS.out.below hbA).elem Cd.trlen hdk
            rw [hA] at hA'
            injection hA' with hA'
            subst hA'
            obtain ⟨_, _, d0, _, _, _, _⟩ := cd_cel hdt hdc
            have hdn : d.name.size ≤ 140737488351232 := by obtain ⟨_, _, _, _, _, h, _⟩ := Cd.at_iff.1 hdt; exact h
            have HBAB : Hid (Below w.heap.size w ((wo.alloc (.cells #[.string c.name, .int .i8 4, .int .i8 0, .string ⟨#[]⟩, .int .i64 0, .string ⟨#[]⟩, .string ⟨#[]⟩, .slice none 0 0, .int .i8 0, .string ⟨#[]⟩, .int .i64 0, .string ⟨#[]⟩, .string ⟨#[]⟩, .slice none 0 0, .slice none 0 0] 32)).alloc (.cells #[.string d.name, .int .i8 4, .int .i8 0, .string ⟨#[]⟩, .int .i64 0, .string ⟨#[]⟩, .string ⟨#[]⟩, .slice none 0 0, .int .i8 0, .string ⟨#[]⟩, .int .i64 0, .string ⟨#[]⟩, .string ⟨#[]⟩, .slice none 0 0, .slice none 0 0] 32))) := Lib.hid (hbA.alloc hbA.size _)
            have HKA : Hid (Blk ((wo.alloc (.cells #[.string c.name, .int .i8 4, .int .i8 0, .string ⟨#[]⟩, .int .i64 0, .string ⟨#[]⟩, .string ⟨#[]⟩, .slice none 0 0, .int .i8 0, .string ⟨#[]⟩, .int .i64 0, .string ⟨#[]⟩, .string ⟨#[]⟩, .slice none 0 0, .slice none 0 0] 32)).alloc (.cells #[.string d.name, .int .i8 4, .int .i8 0, .string ⟨#[]⟩, .int .i64 0, .string ⟨#[]⟩, .string ⟨#[]⟩, .slice none 0 0, .int .i8 0, .string ⟨#[]⟩, .int .i64 0, .string ⟨#[]⟩, .string ⟨#[]⟩, .slice none 0 0, .slice none 0 0] 32)) wo.heap.size #[.string c.name, .int .i8 4, .int .i8 0, .string ⟨#[]⟩, .int .i64 0, .string ⟨#[]⟩, .string ⟨#[]⟩, .slice none 0 0, .int .i8 0, .string ⟨#[]⟩, .int .i64 0, .string ⟨#[]⟩, .string ⟨#[]⟩, .slice none 0 0, .slice none 0 0] 32) := Lib.hid ((Blk.new wo _ _).alloc _)
            have HKB : Hid (Blk ((wo.alloc (.cells #[.string c.name, .int .i8 4, .int .i8 0, .string ⟨#[]⟩, .int .i64 0, .string ⟨#[]⟩, .string ⟨#[]⟩, .slice none 0 0, .int .i8 0, .string ⟨#[]⟩, .int .i64 0, .string ⟨#[]⟩, .string ⟨#[]⟩, .slice none 0 0, .slice none 0 0] 32)).alloc (.cells #[.string d.name, .int .i8 4, .int .i8 0, .string ⟨#[]⟩, .int .i64 0, .string ⟨#[]⟩, .string ⟨#[]⟩, .slice none 0 0, .int .i8 0, .string ⟨#[]⟩, .int .i64 0, .string ⟨#[]⟩, .string ⟨#[]⟩, .slice none 0 0, .slice none 0 0] 32)) (wo.heap.size + 1) #[.string d.name, .int .i8 4, .int .i8 0, .string ⟨#[]⟩, .int .i64 0, .string ⟨#[]⟩, .string ⟨#[]⟩, .slice none 0 0, .int .i8 0, .string ⟨#[]⟩, .int .i64 0, .string ⟨#[]⟩, .string ⟨#[]⟩, .slice none 0 0, .slice none 0 0] 32) := Lib.hid (by
              have := Blk.new (wo.alloc (.cells #[.string c.name, .int .i8 4, .int .i8 0, .string ⟨#[]⟩, .int .i64 0, .string ⟨#[]⟩, .string ⟨#[]⟩, .slice none 0 0, .int .i8 0, .string ⟨#[]⟩, .int .i64 0, .string ⟨#[]⟩, .string ⟨#[]⟩, .slice none 0 0, .slice none 0 0] 32)) #[.string d.name, .int .i8 4, .int .i8 0, .string ⟨#[]⟩, .int .i64 0, .string ⟨#[]⟩, .string ⟨#[]⟩, .slice none 0 0, .int .i8 0, .string ⟨#[]⟩, .int .i64 0, .string ⟨#[]⟩, .string ⟨#[]⟩, .slice none 0 0, .slice none 0 0] 32
              rwa [show (wo.alloc (.cells #[.string c.name, .int .i8 4, .int .i8 0, .string ⟨#[]⟩, .int .i64 0, .string ⟨#[]⟩, .string ⟨#[]⟩, .slice none 0 0, .int .i8 0, .string ⟨#[]⟩, .int .i64 0, .string ⟨#[]⟩, .string ⟨#[]⟩, .slice none 0 0, .slice none 0 0] 32)).heap.size = wo.heap.size + 1 by simp] at this)
            subst hA
            clear hct hcc hdt hdc hbA hci hdk
            go_upto_region 18 with fail
            obtain ⟨W, hW⟩ : ∃ W, W = (wo.alloc (.cells #[.string c.name, .int .i8 4, .int .i8 0, .string ⟨#[]⟩, .int .i64 0, .string ⟨#[]⟩, .string ⟨#[]⟩, .slice none 0 0, .int .i8 0, .string ⟨#[]⟩, .int .i64 0, .string ⟨#[]⟩, .string ⟨#[]⟩, .slice none 0 0, .slice none 0 0] 32)).alloc (.cells #[.string d.name, .int .i8 4, .int .i8 0, .string ⟨#[]⟩, .int .i64 0, .string ⟨#[]⟩, .string ⟨#[]⟩, .slice none 0 0, .int .i8 0, .string ⟨#[]⟩, .int .i64 0, .string ⟨#[]⟩, .string ⟨#[]⟩, .slice none 0 0, .slice none 0 0] 32) := ⟨_, rfl⟩
            rw [← hW] at HBAB HKA HKB ⊢
            obtain ⟨qa, hqa⟩ : ∃ q, q = wo.heap.size := ⟨_, rfl⟩
            obtain ⟨qb, hqb⟩ : ∃ q, q = wo.heap.size + 1 := ⟨_, rfl⟩
            rw [← hqb] at HKB ⊢
            rw [← hqa] at HKA ⊢
            have hab : qa < qb := by omega
            have hwa : w.heap.size ≤ qa := by have := HB.out.size; omega
            have hbW := HKB.out.lt
            clear hW c0 d0 hqa hqb
            refine reg18 rfl W qa qb c d hcn hdn HKA HKB ?_
            intro px1 rx1 v93 v94 v95 v96 v97 Va hnx1 hcx1 hgex1 hux1
            have HNx1 := Lib.hid hnx1
            have HCVa := Lib.hid hcx1
            have HUVa := Lib.hid hux1
            have hlx1 := hnx1.lt
            clear hnx1 hcx1 hux1
            have HAVa : Hid (Blk Va qa #[.string c.name, .int .i8 4, .int .i8 0, .string ⟨#[]⟩, .int .i64 0, .string ⟨#[]⟩, .string ⟨#[]⟩, .slice none 0 0, .int .i8 0, .string ⟨#[]⟩, .int .i64 0, .string ⟨#[]⟩, .string ⟨#[]⟩, .slice none 0 0, .slice none 0 0] 32) := Lib.hid (HKA.out.below HUVa.out)
            have HBVa : Hid (Blk Va qb #[.string d.name, .int .i8 4, .int .i8 0, .string ⟨#[]⟩, .int .i64 0, .string ⟨#[]⟩, .string ⟨#[]⟩, .slice none 0 0, .int .i8 0, .string ⟨#[]⟩, .int .i64 0, .string ⟨#[]⟩, .string ⟨#[]⟩, .slice none 0 0, .slice none 0 0] 32) := Lib.hid (HKB.out.below HUVa.out)
            have HWVa : Hid (Below w.heap.size w Va) := Lib.hid (HBAB.out.trans (HUVa.out.mono HBAB.out.size))
            go_upto_region 19 with fail
            refine reg19 rfl Va qa qb c d hcn hdn HAVa HBVa (fun _ _ dd _ _ h => by cases dd <;> exact h) ?_
            intro px2 rx2 v98 v99 v100 v101 v102 v103 Vb hnx2 hcx2 hgex2 hux2
            have HNx2 := Lib.hid hnx2
            have HCVb := Lib.hid hcx2
            have HUVb := Lib.hid hux2
            have hlx2 := hnx2.lt
            clear hnx2 hcx2 hux2
            have HAVb : Hid (Blk Vb qa #[.string c.name, .int .i8 4, .int .i8 0, .string ⟨#[]⟩, .int .i64 0, .string ⟨#[]⟩, .string ⟨#[]⟩, .slice none 0 0, .int .i8 0, .string ⟨#[]⟩, .int .i64 0, .string ⟨#[]⟩, .string ⟨#[]⟩, .slice none 0 0, .slice none 0 0] 32) := Lib.hid (HAVa.out.below HUVb.out)
            have HBVb : Hid (Blk Vb qb #[.string d.name, .int .i8 4, .int .i8 0, .string ⟨#[]⟩, .int .i64 0, .string ⟨#[]⟩, .string ⟨#[]⟩, .slice none 0 0, .int .i8 0, .string ⟨#[]⟩, .int .i64 0, .string ⟨#[]⟩, .string ⟨#[]⟩, .slice none 0 0, .slice none 0 0] 32) := Lib.hid (HBVa.out.below HUVb.out)
            have HWVb : Hid (Below w.heap.size w Vb) := Lib.hid (HWVa.out.trans (HUVb.out.mono HWVa.out.size))
            go_upto_region 20 with fail
            refine reg20 rfl Vb qa qb c d hcn hdn HAVb HBVb ?_
            intro px3 rx3 v104 v105 v106 v107 v108 Vc hnx3 hcx3 hgex3 hux3
            have HNx3 := Lib.hid hnx3
            have HCVc := Lib.hid hcx3
            have HUVc := Lib.hid hux3
            have hlx3 := hnx3.lt
            clear hnx3 hcx3 hux3
            have HAVc : Hid (Blk Vc qa #[.string c.name, .int .i8 4, .int .i8 0, .string ⟨#[]⟩, .int .i64 0, .string ⟨#[]⟩, .string ⟨#[]⟩, .slice none 0 0, .int .i8 0, .string ⟨#[]⟩, .int .i64 0, .string ⟨#[]⟩, .string ⟨#[]⟩, .slice none 0 0, .slice none 0 0] 32) := Lib.hid (HAVb.out.below HUVc.out)
            have HBVc : Hid (Blk Vc qb #[.string d.name, .int .i8 4, .int .i8 0, .string ⟨#[]⟩, .int .i64 0, .string ⟨#[]⟩, .string ⟨#[]⟩, .slice none 0 0, .int .i8 0, .string ⟨#[]⟩, .int .i64 0, .string ⟨#[]⟩, .string ⟨#[]⟩, .slice none 0 0, .slice none 0 0] 32) := Lib.hid (HBVb.out.below HUVc.out)
            have HWVc : Hid (Below w.heap.size w Vc) := Lib.hid (HWVb.out.trans (HUVc.out.mono HWVb.out.size))
            go_upto_region 21 with fail
            refine reg21 rfl Vc qa qb c d hcn hdn HAVc HBVc (fun _ _ dd _ _ h => by cases dd <;> exact h) ?_
            intro px4 rx4 v109 v110 v111 v112 v113 v114 Vd hnx4 hcx4 hgex4 hux4
            have HNx4 := Lib.hid hnx4
            have HCVd := Lib.hid hcx4
            have HUVd := Lib.hid hux4
            have hlx4 := hnx4.lt
            clear hnx4 hcx4 hux4
            have HAVd : Hid (Blk Vd qa #[.string c.name, .int .i8 4, .int .i8 0, .string ⟨#[]⟩, .int .i64 0, .string ⟨#[]⟩, .string ⟨#[]⟩, .slice none 0 0, .int .i8 0, .string ⟨#[]⟩, .int .i64 0, .string ⟨#[]⟩, .string ⟨#[]⟩, .slice none 0 0, .slice none 0 0] 32) := Lib.hid (HAVc.out.below HUVd.out)
            have HBVd : Hid (Blk Vd qb #[.string d.name, .int .i8 4, .int .i8 0, .string ⟨#[]⟩, .int .i64 0, .string ⟨#[]⟩, .string ⟨#[]⟩, .slice none 0 0, .int .i8 0, .string ⟨#[]⟩, .int .i64 0, .string ⟨#[]⟩, .string ⟨#[]⟩, .slice none 0 0, .slice none 0 0] 32) := Lib.hid (HBVc.out.below HUVd.out)
            have HWVd : Hid (Below w.heap.size w Vd) := Lib.hid (HWVc.out.trans (HUVd.out.mono HWVc.out.size))
            have K00 : Hid (Blk Vd px1 #[.string ⟨#[]⟩, .int .i8 3, .int .i8 0, .string ⟨#[]⟩, .int .i64 0, .string ⟨#[]⟩, .string ⟨#[]⟩, .slice none 0 0, .int .i8 0, .string ⟨#[]⟩, .int .i64 0, .string ⟨#[]⟩, .string ⟨#[]⟩, .slice none 0 0, .slice (some ⟨rx1, 0, none⟩) 1 1] 32) := Lib.hid (((HNx1.out.below HUVb.out).below HUVc.out).below HUVd.out)
            have K01 : Hid (Blk Vd px2 #[.string ⟨#[]⟩, .int .i8 2, .int .i8 0, .string ⟨#[]⟩, .int .i64 0, .string ⟨#[]⟩, .string ⟨#[]⟩, .slice none 0 0, .int .i8 0, .string ⟨#[]⟩, .int .i64 0, .string ⟨#[]⟩, .string ⟨#[]⟩, .slice none 0 0, .slice (some ⟨rx2, 0, none⟩) 2 2] 32) := Lib.hid ((HNx2.out.below HUVc.out).below HUVd.out)
            have K02 : Hid (Blk Vd px3 #[.string ⟨#[]⟩, .int .i8 3, .int .i8 0, .string ⟨#[]⟩, .int .i64 0, .string ⟨#[]⟩, .string ⟨#[]⟩, .slice none 0 0, .int .i8 0, .string ⟨#[]⟩, .int .i64 0, .string ⟨#[]⟩, .string ⟨#[]⟩, .slice none 0 0, .slice (some ⟨rx3, 0, none⟩) 1 1] 32) := Lib.hid (HNx3.out.below HUVd.out)
            have K03 : Hid (Blk Vd px4 #[.string ⟨#[]⟩, .int .i8 1, .int .i8 0, .string ⟨#[]⟩, .int .i64 0, .string ⟨#[]⟩, .string ⟨#[]⟩, .slice none 0 0, .int .i8 0, .string ⟨#[]⟩, .int .i64 0, .string ⟨#[]⟩, .string ⟨#[]⟩, .slice none 0 0, .slice (some ⟨rx4, 0, none⟩) 2 2] 32) := Lib.hid (HNx4.out)
            have hk0 : Blk Vd px1 #[.string ⟨#[]⟩, .int .i8 3, .int .i8 0, .string ⟨#[]⟩, .int .i64 0, .string ⟨#[]⟩, .string ⟨#[]⟩, .slice none 0 0, .int .i8 0, .string ⟨#[]⟩, .int .i64 0, .string ⟨#[]⟩, .string ⟨#[]⟩, .slice none 0 0, .slice (some ⟨rx1, 0, none⟩) 1 1] 32 := K00.out
            have cc0 := hk0.cell 0 (v := .string ⟨#[]⟩) rfl
            have ff0 := hk0.frozen 0
            have J0 : Hid (Blk ((((Vd.setCell ⟨px1, 0, none⟩ (.string ⟨#[88, 49]⟩)).setCell ⟨px2, 0, none⟩ (.string ⟨#[88, 50]⟩)).setCell ⟨px3, 0, none⟩ (.string ⟨#[88, 51]⟩)).setCell ⟨px4, 0, none⟩ (.string ⟨#[88, 52]⟩)) px1 #[.string ⟨#[88, 49]⟩, .int .i8 3, .int .i8 0, .string ⟨#[]⟩, .int .i64 0, .string ⟨#[]⟩, .string ⟨#[]⟩, .slice none 0 0, .int .i8 0, .string ⟨#[]⟩, .int .i64 0, .string ⟨#[]⟩, .string ⟨#[]⟩, .slice none 0 0, .slice (some ⟨rx1, 0, none⟩) 1 1] 32) := Lib.hid (((((hk0.set 0 (.string ⟨#[88, 49]⟩)).eq (cs' := #[.string ⟨#[88, 49]⟩, .int .i8 3, .int .i8 0, .string ⟨#[]⟩, .int .i64 0, .string ⟨#[]⟩, .string ⟨#[]⟩, .slice none 0 0, .int .i8 0, .string ⟨#[]⟩, .int .i64 0, .string ⟨#[]⟩, .string ⟨#[]⟩, .slice none 0 0, .slice (some ⟨rx1, 0, none⟩) 1 1]) (by simp)).setOther ⟨px2, 0, none⟩ (.string ⟨#[88, 50]⟩) (by omega : px1 ≠ px2)).setOther ⟨px3, 0, none⟩ (.string ⟨#[88, 51]⟩) (by omega : px1 ≠ px3)).setOther ⟨px4, 0, none⟩ (.string ⟨#[88, 52]⟩) (by omega : px1 ≠ px4))
            have hk1 : Blk (Vd.setCell ⟨px1, 0, none⟩ (.string ⟨#[88, 49]⟩)) px2 #[.string ⟨#[]⟩, .int .i8 2, .int .i8 0, .string ⟨#[]⟩, .int .i64 0, .string ⟨#[]⟩, .string ⟨#[]⟩, .slice none 0 0, .int .i8 0, .string ⟨#[]⟩, .int .i64 0, .string ⟨#[]⟩, .string ⟨#[]⟩, .slice none 0 0, .slice (some ⟨rx2, 0, none⟩) 2 2] 32 := (K01.out.setOther ⟨px1, 0, none⟩ (.string ⟨#[88, 49]⟩) (by omega : px2 ≠ px1))
            have cc1 := hk1.cell 0 (v := .string ⟨#[]⟩) rfl
            have ff1 := hk1.frozen 0
            have J1 : Hid (Blk ((((Vd.setCell ⟨px1, 0, none⟩ (.string ⟨#[88, 49]⟩)).setCell ⟨px2, 0, none⟩ (.string ⟨#[88, 50]⟩)).setCell ⟨px3, 0, none⟩ (.string ⟨#[88, 51]⟩)).setCell ⟨px4, 0, none⟩ (.string ⟨#[88, 52]⟩)) px2 #[.string ⟨#[88, 50]⟩, .int .i8 2, .int .i8 0, .string ⟨#[]⟩, .int .i64 0, .string ⟨#[]⟩, .string ⟨#[]⟩, .slice none 0 0, .int .i8 0, .string ⟨#[]⟩, .int .i64 0, .string ⟨#[]⟩, .string ⟨#[]⟩, .slice none 0 0, .slice (some ⟨rx2, 0, none⟩) 2 2] 32) := Lib.hid ((((hk1.set 0 (.string ⟨#[88, 50]⟩)).eq (cs' := #[.string ⟨#[88, 50]⟩, .int .i8 2, .int .i8 0, .string ⟨#[]⟩, .int .i64 0, .string ⟨#[]⟩, .string ⟨#[]⟩, .slice none 0 0, .int .i8 0, .string ⟨#[]⟩, .int .i64 0, .string ⟨#[]⟩, .string ⟨#[]⟩, .slice none 0 0, .slice (some ⟨rx2, 0, none⟩) 2 2]) (by simp)).setOther ⟨px3, 0, none⟩ (.string ⟨#[88, 51]⟩) (by omega : px2 ≠ px3)).setOther ⟨px4, 0, none⟩ (.string ⟨#[88, 52]⟩) (by omega : px2 ≠ px4))
            have hk2 : Blk ((Vd.setCell ⟨px1, 0, none⟩ (.string ⟨#[88, 49]⟩)).setCell ⟨px2, 0, none⟩ (.string ⟨#[88, 50]⟩)) px3 #[.string ⟨#[]⟩, .int .i8 3, .int .i8 0, .string ⟨#[]⟩, .int .i64 0, .string ⟨#[]⟩, .string ⟨#[]⟩, .slice none 0 0, .int .i8 0, .string ⟨#[]⟩, .int .i64 0, .string ⟨#[]⟩, .string ⟨#[]⟩, .slice none 0 0, .slice (some ⟨rx3, 0, none⟩) 1 1] 32 := ((K02.out.setOther ⟨px1, 0, none⟩ (.string ⟨#[88, 49]⟩) (by omega : px3 ≠ px1)).setOther ⟨px2, 0, none⟩ (.string ⟨#[88, 50]⟩) (by omega : px3 ≠ px2))
            have cc2 := hk2.cell 0 (v := .string ⟨#[]⟩) rfl
            have ff2 := hk2.frozen 0
            have J2 : Hid (Blk ((((Vd.setCell ⟨px1, 0, none⟩ (.string ⟨#[88, 49]⟩)).setCell ⟨px2, 0, none⟩ (.string ⟨#[88, 50]⟩)).setCell ⟨px3, 0, none⟩ (.string ⟨#[88, 51]⟩)).setCell ⟨px4, 0, none⟩ (.string ⟨#[88, 52]⟩)) px3 #[.string ⟨#[88, 51]⟩, .int .i8 3, .int .i8 0, .string ⟨#[]⟩, .int .i64 0, .string ⟨#[]⟩, .string ⟨#[]⟩, .slice none 0 0, .int .i8 0, .string ⟨#[]⟩, .int .i64 0, .string ⟨#[]⟩, .string ⟨#[]⟩, .slice none 0 0, .slice (some ⟨rx3, 0, none⟩) 1 1] 32) := Lib.hid (((hk2.set 0 (.string ⟨#[88, 51]⟩)).eq (cs' := #[.string ⟨#[88, 51]⟩, .int .i8 3, .int .i8 0, .string ⟨#[]⟩, .int .i64 0, .string ⟨#[]⟩, .string ⟨#[]⟩, .slice none 0 0, .int .i8 0, .string ⟨#[]⟩, .int .i64 0, .string ⟨#[]⟩, .string ⟨#[]⟩, .slice none 0 0, .slice (some ⟨rx3, 0, none⟩) 1 1]) (by simp)).setOther ⟨px4, 0, none⟩ (.string ⟨#[88, 52]⟩) (by omega : px3 ≠ px4))
            have hk3 : Blk (((Vd.setCell ⟨px1, 0, none⟩ (.string ⟨#[88, 49]⟩)).setCell ⟨px2, 0, none⟩ (.string ⟨#[88, 50]⟩)).setCell ⟨px3, 0, none⟩ (.string ⟨#[88, 51]⟩)) px4 #[.string ⟨#[]⟩, .int .i8 1, .int .i8 0, .string ⟨#[]⟩, .int .i64 0, .string ⟨#[]⟩, .string ⟨#[]⟩, .slice none 0 0, .int .i8 0, .string ⟨#[]⟩, .int .i64 0, .string ⟨#[]⟩, .string ⟨#[]⟩, .slice none 0 0, .slice (some ⟨rx4, 0, none⟩) 2 2] 32 := (((K03.out.setOther ⟨px1, 0, none⟩ (.string ⟨#[88, 49]⟩) (by omega : px4 ≠ px1)).setOther ⟨px2, 0, none⟩ (.string ⟨#[88, 50]⟩) (by omega : px4 ≠ px2)).setOther ⟨px3, 0, none⟩ (.string ⟨#[88, 51]⟩) (by omega : px4 ≠ px3))
            have cc3 := hk3.cell 0 (v := .string ⟨#[]⟩) rfl
            have ff3 := hk3.frozen 0
            have J3 : Hid (Blk ((((Vd.setCell ⟨px1, 0, none⟩ (.string ⟨#[88, 49]⟩)).setCell ⟨px2, 0, none⟩ (.string ⟨#[88, 50]⟩)).setCell ⟨px3, 0, none⟩ (.string ⟨#[88, 51]⟩)).setCell ⟨px4, 0, none⟩ (.string ⟨#[88, 52]⟩)) px4 #[.string ⟨#[88, 52]⟩, .int .i8 1, .int .i8 0, .string ⟨#[]⟩, .int .i64 0, .string ⟨#[]⟩, .string ⟨#[]⟩, .slice none 0 0, .int .i8 0, .string ⟨#[]⟩, .int .i64 0, .string ⟨#[]⟩, .string ⟨#[]⟩, .slice none 0 0, .slice (some ⟨rx4, 0, none⟩) 2 2] 32) := Lib.hid ((hk3.set 0 (.string ⟨#[88, 52]⟩)).eq (cs' := #[.string ⟨#[88, 52]⟩, .int .i8 1, .int .i8 0, .string ⟨#[]⟩, .int .i64 0, .string ⟨#[]⟩, .string ⟨#[]⟩, .slice none 0 0, .int .i8 0, .string ⟨#[]⟩, .int .i64 0, .string ⟨#[]⟩, .string ⟨#[]⟩, .slice none 0 0, .slice (some ⟨rx4, 0, none⟩) 2 2]) (by simp))
            have HONLY : Hid (Only (fun k => k = px1 ∨ k = px2 ∨ k = px3 ∨ k = px4) Vd ((((Vd.setCell ⟨px1, 0, none⟩ (.string ⟨#[88, 49]⟩)).setCell ⟨px2, 0, none⟩ (.string ⟨#[88, 50]⟩)).setCell ⟨px3, 0, none⟩ (.string ⟨#[88, 51]⟩)).setCell ⟨px4, 0, none⟩ (.string ⟨#[88, 52]⟩))) := Lib.hid (((((Only.refl (fun k => k = px1 ∨ k = px2 ∨ k = px3 ∨ k = px4) Vd).setCell ⟨px1, 0, none⟩ (.string ⟨#[88, 49]⟩) (fun _ => .inl rfl)).setCell ⟨px2, 0, none⟩ (.string ⟨#[88, 50]⟩) (fun _ => .inr (.inl rfl))).setCell ⟨px3, 0, none⟩ (.string ⟨#[88, 51]⟩) (fun _ => .inr (.inr (.inl rfl)))).setCell ⟨px4, 0, none⟩ (.string ⟨#[88, 52]⟩) (fun _ => .inr (.inr (.inr rfl))))
            have T0 : Hid (Trs.at (fun _ => True) ((((Vd.setCell ⟨px1, 0, none⟩ (.string ⟨#[88, 49]⟩)).setCell ⟨px2, 0, none⟩ (.string ⟨#[88, 50]⟩)).setCell ⟨px3, 0, none⟩ (.string ⟨#[88, 51]⟩)).setCell ⟨px4, 0, none⟩ (.string ⟨#[88, 52]⟩)) (mX1 c.name d.name).tr [.string ⟨#[88, 49]⟩, .int .i8 3, .int .i8 0, .string ⟨#[]⟩, .int .i64 0, .string ⟨#[]⟩, .string ⟨#[]⟩, .slice none 0 0, .int .i8 0, .string ⟨#[]⟩, .int .i64 0, .string ⟨#[]⟩, .string ⟨#[]⟩, .slice none 0 0, .slice (some ⟨rx1, 0, none⟩) 1 1]) := Lib.hid (((((HCVa.out ⟨#[88, 49]⟩ (by decide)).below HUVb.out).below HUVc.out |>.below HUVd.out).only HONLY.out (fun k hk e => by rcases e with e | e | e | e <;> omega)).mono (fun _ _ => trivial))
            have T1 : Hid (Trs.at (fun _ => True) ((((Vd.setCell ⟨px1, 0, none⟩ (.string ⟨#[88, 49]⟩)).setCell ⟨px2, 0, none⟩ (.string ⟨#[88, 50]⟩)).setCell ⟨px3, 0, none⟩ (.string ⟨#[88, 51]⟩)).setCell ⟨px4, 0, none⟩ (.string ⟨#[88, 52]⟩)) (mX2 c.name d.name).tr [.string ⟨#[88, 50]⟩, .int .i8 2, .int .i8 0, .string ⟨#[]⟩, .int .i64 0, .string ⟨#[]⟩, .string ⟨#[]⟩, .slice none 0 0, .int .i8 0, .string ⟨#[]⟩, .int .i64 0, .string ⟨#[]⟩, .string ⟨#[]⟩, .slice none 0 0, .slice (some ⟨rx2, 0, none⟩) 2 2]) := Lib.hid (((((HCVb.out ⟨#[88, 50]⟩ (by decide)).below HUVc.out).below HUVd.out).only HONLY.out (fun k hk e => by rcases e with e | e | e | e <;> omega)).mono (fun _ _ => trivial))
            have T2 : Hid (Trs.at (fun _ => True) ((((Vd.setCell ⟨px1, 0, none⟩ (.string ⟨#[88, 49]⟩)).setCell ⟨px2, 0, none⟩ (.string ⟨#[88, 50]⟩)).setCell ⟨px3, 0, none⟩ (.string ⟨#[88, 51]⟩)).setCell ⟨px4, 0, none⟩ (.string ⟨#[88, 52]⟩)) (mX3 c.name d.name).tr [.string ⟨#[88, 51]⟩, .int .i8 3, .int .i8 0, .string ⟨#[]⟩, .int .i64 0, .string ⟨#[]⟩, .string ⟨#[]⟩, .slice none 0 0, .int .i8 0, .string ⟨#[]⟩, .int .i64 0, .string ⟨#[]⟩, .string ⟨#[]⟩, .slice none 0 0, .slice (some ⟨rx3, 0, none⟩) 1 1]) := Lib.hid ((((HCVc.out ⟨#[88, 51]⟩ (by decide)).below HUVd.out).only HONLY.out (fun k hk e => by rcases e with e | e | e | e <;> omega)).mono (fun _ _ => trivial))
            have T3 : Hid (Trs.at (fun _ => True) ((((Vd.setCell ⟨px1, 0, none⟩ (.string ⟨#[88, 49]⟩)).setCell ⟨px2, 0, none⟩ (.string ⟨#[88, 50]⟩)).setCell ⟨px3, 0, none⟩ (.string ⟨#[88, 51]⟩)).setCell ⟨px4, 0, none⟩ (.string ⟨#[88, 52]⟩)) (mX4 c.name d.name).tr [.string ⟨#[88, 52]⟩, .int .i8 1, .int .i8 0, .string ⟨#[]⟩, .int .i64 0, .string ⟨#[]⟩, .string ⟨#[]⟩, .slice none 0 0, .int .i8 0, .string ⟨#[]⟩, .int .i64 0, .string ⟨#[]⟩, .string ⟨#[]⟩, .slice none 0 0, .slice (some ⟨rx4, 0, none⟩) 2 2]) := Lib.hid (((HCVd.out ⟨#[88, 52]⟩ (by decide)).only HONLY.out (fun k hk e => by rcases e with e | e | e | e <;> omega)).mono (fun _ _ => trivial))
            have HWVe : Hid (Below w.heap.size w ((((Vd.setCell ⟨px1, 0, none⟩ (.string ⟨#[88, 49]⟩)).setCell ⟨px2, 0, none⟩ (.string ⟨#[88, 50]⟩)).setCell ⟨px3, 0, none⟩ (.string ⟨#[88, 51]⟩)).setCell ⟨px4, 0, none⟩ (.string ⟨#[88, 52]⟩))) := Lib.hid (HONLY.out.belowB HWVd.out (fun k e => by have := HBAB.out.size; rcases e with e | e | e | e <;> omega))
            go_upto_region 26 with fail
            obtain ⟨Ve, hVe⟩ : ∃ V, V = ((((Vd.setCell ⟨px1, 0, none⟩ (.string ⟨#[88, 49]⟩)).setCell ⟨px2, 0, none⟩ (.string ⟨#[88, 50]⟩)).setCell ⟨px3, 0, none⟩ (.string ⟨#[88, 51]⟩)).setCell ⟨px4, 0, none⟩ (.string ⟨#[88, 52]⟩)) := ⟨_, rfl⟩
            rw [← hVe] at J0 J1 J2 J3 T0 T1 T2 T3 HWVe ⊢
            clear HONLY hVe cc0 cc1 cc2 cc3 ff0 ff1 ff2 ff3 hk0 hk1 hk2 hk3 K00 K01 K02 K03 HNx1 HNx2 HNx3 HNx4 HCVa HCVb HCVc HCVd
            obtain ⟨XS, hxr, hxt⟩ := (HLS.out.below HWVe.out).cells
            have HXT := Lib.hid hxt
            have HX1 := Lib.hid (cds_one hxt)
            have HXR := Lib.hid hxr
            clear hxr hxt
            have HR2' : Hid (∀ w7 A7 c7, Below w.heap.size w w7 → Ls (fun k => k < w7.heap.size) w7 15 224 Cd.tr A7 c7 (l ++ mX c.name d.name) → Calls Tryd.prog 9 #[.slice A7 (l.length + 4) c7, .slice PA ps.length pc] w7 (fun e w'' => ∃ (B : Option Addr) (bn bc bf : Nat), e = .returned (.tuple #[.slice B bn bc, .int .i64 (bf : Nat)]) ∧ Below w7.heap.size w7 w'' ∧ RunR r2 B bn bc bf w'')) := Lib.hid (fun w7 A7 c7 hb hl => by
              have := HR2.out w7 A7 c7 hb hl
              rw [show (l ++ mX c.name d.name).length = l.length + 4 by rw [List.length_append]; rfl] at this
              exact this.mono (fun e w'' h => h.r))
            have HEND : Hid (∀ w7 A7 c7, Below Ve.heap.size Ve w7 → Ow w7 Ve.heap.size 32 15 A7 (l.length + 4) c7 (XS ++ [.string ⟨#[88, 49]⟩, .int .i8 3, .int .i8 0, .string ⟨#[]⟩, .int .i64 0, .string ⟨#[]⟩, .string ⟨#[]⟩, .slice none 0 0, .int .i8 0, .string ⟨#[]⟩, .int .i64 0, .string ⟨#[]⟩, .string ⟨#[]⟩, .slice none 0 0, .slice (some ⟨rx1, 0, none⟩) 1 1, .string ⟨#[88, 50]⟩, .int .i8 2, .int .i8 0, .string ⟨#[]⟩, .int .i64 0, .string ⟨#[]⟩, .string ⟨#[]⟩, .slice none 0 0, .int .i8 0, .string ⟨#[]⟩, .int .i64 0, .string ⟨#[]⟩, .string ⟨#[]⟩, .slice none 0 0, .slice (some ⟨rx2, 0, none⟩) 2 2, .string ⟨#[88, 51]⟩, .int .i8 3, .int .i8 0, .string ⟨#[]⟩, .int .i64 0, .string ⟨#[]⟩, .string ⟨#[]⟩, .slice none 0 0, .int .i8 0, .string ⟨#[]⟩, .int .i64 0, .string ⟨#[]⟩, .string ⟨#[]⟩, .slice none 0 0, .slice (some ⟨rx3, 0, none⟩) 1 1, .string ⟨#[88, 52]⟩, .int .i8 1, .int .i8 0, .string ⟨#[]⟩, .int .i64 0, .string ⟨#[]⟩, .string ⟨#[]⟩, .slice none 0 0, .int .i8 0, .string ⟨#[]⟩, .int .i64 0, .string ⟨#[]⟩, .string ⟨#[]⟩, .slice none 0 0, .slice (some ⟨rx4, 0, none⟩) 2 2]) → Calls Tryd.prog 9 #[.slice A7 (l.length + 4) c7, .slice PA ps.length pc] w7 (fun e w'' => ∃ (B : Option Addr) (bn bc bf : Nat), e = .returned (.tuple #[.slice B bn bc, .int .i64 (bf : Nat)]) ∧ Below w7.heap.size w7 w'' ∧ RunR r2 B bn bc bf w'')) := Lib.hid (fun w7 A7 c7 hb7 ho7 =>
              HR2'.out w7 A7 c7 (HWVe.out.trans (hb7.mono HWVe.out.size)) (own_conds (S := fun _ => True) (by rw [List.length_append]; rfl) (by rw [List.length_append]; show l.length + 4 ≤ _; omega) ho7 (by
                rw [List.flatMap_append]
                refine Trs.at.app.2 ⟨_, _, rfl, (HXT.out.below hb7).mono (fun _ _ => trivial), ?_⟩
                rw [mX, List.flatMap_cons, List.flatMap_cons, List.flatMap_cons, List.flatMap_singleton]
                exact Trs.at.app.2 ⟨[.string ⟨#[88, 49]⟩, .int .i8 3, .int .i8 0, .string ⟨#[]⟩, .int .i64 0, .string ⟨#[]⟩, .string ⟨#[]⟩, .slice none 0 0, .int .i8 0, .string ⟨#[]⟩, .int .i64 0, .string ⟨#[]⟩, .string ⟨#[]⟩, .slice none 0 0, .slice (some ⟨rx1, 0, none⟩) 1 1], [.string ⟨#[88, 50]⟩, .int .i8 2, .int .i8 0, .string ⟨#[]⟩, .int .i64 0, .string ⟨#[]⟩, .string ⟨#[]⟩, .slice none 0 0, .int .i8 0, .string ⟨#[]⟩, .int .i64 0, .string ⟨#[]⟩, .string ⟨#[]⟩, .slice none 0 0, .slice (some ⟨rx2, 0, none⟩) 2 2, .string ⟨#[88, 51]⟩, .int .i8 3, .int .i8 0, .string ⟨#[]⟩, .int .i64 0, .string ⟨#[]⟩, .string ⟨#[]⟩, .slice none 0 0, .int .i8 0, .string ⟨#[]⟩, .int .i64 0, .string ⟨#[]⟩, .string ⟨#[]⟩, .slice none 0 0, .slice (some ⟨rx3, 0, none⟩) 1 1, .string ⟨#[88, 52]⟩, .int .i8 1, .int .i8 0, .string ⟨#[]⟩, .int .i64 0, .string ⟨#[]⟩, .string ⟨#[]⟩, .slice none 0 0, .int .i8 0, .string ⟨#[]⟩, .int .i64 0, .string ⟨#[]⟩, .string ⟨#[]⟩, .slice none 0 0, .slice (some ⟨rx4, 0, none⟩) 2 2], rfl, T0.out.below hb7, Trs.at.app.2 ⟨[.string ⟨#[88, 50]⟩, .int .i8 2, .int .i8 0, .string ⟨#[]⟩, .int .i64 0, .string ⟨#[]⟩, .string ⟨#[]⟩, .slice none 0 0, .int .i8 0, .string ⟨#[]⟩, .int .i64 0, .string ⟨#[]⟩, .string ⟨#[]⟩, .slice none 0 0, .slice (some ⟨rx2, 0, none⟩) 2 2], [.string ⟨#[88, 51]⟩, .int .i8 3, .int .i8 0, .string ⟨#[]⟩, .int .i64 0, .string ⟨#[]⟩, .string ⟨#[]⟩, .slice none 0 0, .int .i8 0, .string ⟨#[]⟩, .int .i64 0, .string ⟨#[]⟩, .string ⟨#[]⟩, .slice none 0 0, .slice (some ⟨rx3, 0, none⟩) 1 1, .string ⟨#[88, 52]⟩, .int .i8 1, .int .i8 0, .string ⟨#[]⟩, .int .i64 0, .string ⟨#[]⟩, .string ⟨#[]⟩, .slice none 0 0, .int .i8 0, .string ⟨#[]⟩, .int .i64 0, .string ⟨#[]⟩, .string ⟨#[]⟩, .slice none 0 0, .slice (some ⟨rx4, 0, none⟩) 2 2], rfl, T1.out.below hb7, Trs.at.app.2 ⟨[.string ⟨#[88, 51]⟩, .int .i8 3, .int .i8 0, .string ⟨#[]⟩, .int .i64 0, .string ⟨#[]⟩, .string ⟨#[]⟩, .slice none 0 0, .int .i8 0, .string ⟨#[]⟩, .int .i64 0, .string ⟨#[]⟩, .string ⟨#[]⟩, .slice none 0 0, .slice (some ⟨rx3, 0, none⟩) 1 1], [.string ⟨#[88, 52]⟩, .int .i8 1, .int .i8 0, .string ⟨#[]⟩, .int .i64 0, .string ⟨#[]⟩, .string ⟨#[]⟩, .slice none 0 0, .int .i8 0, .string ⟨#[]⟩, .int .i64 0, .string ⟨#[]⟩, .string ⟨#[]⟩, .slice none 0 0, .slice (some ⟨rx4, 0, none⟩) 2 2], rfl, T2.out.below hb7, T3.out.below hb7⟩⟩⟩)))
            refine reg26 rfl Ve px1 px2 px3 px4 rx1 rx2 rx3 rx4 (some ad) PA l.length ac ps.length pc (by omega) XS r2 J0 J1 J2 J3 HXR HX1 HEND (fun _ _ dd _ _ h => by cases dd <;> exact h) ?_
            intro B bn bc bf v119 v120 v121 v122 v123 v124 v125 v126 v127 v128 v129 v130 v131 v132 Vf hrr hbf
            have HRR2 := Lib.hid hrr
            have hbc := hrr.1
            have HWVf : Hid (Below w.heap.size w Vf) := Lib.hid (HWVe.out.trans (hbf.mono HWVe.out.size))
            clear hrr hbf HEND HR2' HXT HX1 HXR J0 J1 J2 J3 T0 T1 T2 T3
            go_wp2_with fail
            refine (HR1.out Vf (some ad) ac HWVf.out ((HLS.out.below HWVf.out).mono (fun k hk => Nat.lt_of_lt_of_le hk HWVf.out.size))).mono ?_
            rintro e Vg hr1
            obtain ⟨RA, rn, rc, rf, rfl, hbg, hrr1⟩ := hr1.r
            have HRR1 := Lib.hid hrr1
            have hrc := hrr1.1
            have HFG := Lib.hid hbg
            have HWVg : Hid (Below w.heap.size w Vg) := Lib.hid (HWVf.out.trans (hbg.mono HWVf.out.size))
            clear hr1 hrr1 hbg
            cases r1 with
            | inl m =>
              obtain ⟨_, rfl, rfl⟩ := HRR1.out
              obtain ⟨hm, hr2⟩ := HL1.out _ rfl
              subst hr2
              obtain ⟨_, rfl, rfl⟩ := HRR2.out
              have hm0 : ((bf : Int) == 0) = false := by rw [beq_eq_false_iff_ne]; omega
              have hm1 : ¬ ((bf : Int) = 0) := by omega
              have hm2 : ((bf : Int) != 0) = true := by rw [bne_iff_ne]; omega
              clear hm
              go_wp2_with fail
              refine (HW.out Vg HWVg.out).mono ?_
              rintro e w5 ⟨rfl, hb5⟩
              have HB5 := Lib.hid (HWVg.out.trans (hb5.mono HWVg.out.size))
              go_wp2_with fail
              go_ret
              exact ⟨rfl, HB5.out⟩
            | inr a =>
              obtain ⟨hal, x, y, v, hwx, hwy, hr2, hvl, hv0, hv1, hv2, hv3⟩ := HL2.out a rfl
              subst hr2
              obtain ⟨_, rfl, rfl, hra⟩ := HRR1.out
              obtain ⟨_, rfl, rfl, hrb⟩ := HRR2.out
              rw [hvl] at hbc
              rw [hal] at hrc
              rw [hvl, hal]
              obtain ⟨bd, rfl, g0⟩ := hrb Vg HFG.out _ _ hv0
              obtain ⟨bd', e', g1⟩ := hrb Vg HFG.out _ _ hv1
              injection e' with e'; subst e'
              obtain ⟨bd', e', g2⟩ := hrb Vg HFG.out _ _ hv2
              injection e' with e'; subst e'
              obtain ⟨bd', e', g3⟩ := hrb Vg HFG.out _ _ hv3
              injection e' with e'; subst e'
              obtain ⟨wd, rfl, g4⟩ := hra Vg (Below.refl _ _) _ _ hwx
              obtain ⟨wd', e', g5⟩ := hra Vg (Below.refl _ _) _ _ hwy
              injection e' with e'; subst e'
              simp only [yes] at g0 g1 g2 g3 g4 g5
              obtain ⟨_, _, _, z0, _, _, _, _⟩ := cel8 g0
              obtain ⟨_, _, _, z1, _, _, _, _⟩ := cel8 g1
              obtain ⟨_, _, _, z2, _, _, _, _⟩ := cel8 g2
              obtain ⟨_, _, _, z3, _, _, _, _⟩ := cel8 g3
              obtain ⟨_, _, _, y4, _, _, _, _⟩ := cel8 g4
              obtain ⟨_, _, _, y5, _, _, _, _⟩ := cel8 g5
              have Z0 := Lib.hid z0
              have Z1 := Lib.hid z1
              have Z2 := Lib.hid z2
              have Z3 := Lib.hid z3
              clear g0 g1 g2 g3 g4 g5 hra hrb hv0 hv1 hv2 hv3 hwx hwy hvl hal z0 z1 z2 z3
              go_wp2_with fail
              go_still (by kernel_rfl)
              change Exit.then _ _ _ _ Vg.drew
              have HWVh := Lib.hid HWVg.out.drew
              go_wp2_with fail
              refine reg33 rfl Vg.drew bd l.length (l.length + 4) bc l.length (l.length + 1) (l.length + 2) (l.length + 3) x y (!(x && y)) (!(x || y)) (by omega) rfl rfl rfl rfl rfl Z0.out Z1.out Z2.out Z3.out rfl rfl (Lib.hid (HW.out _ HWVg.out.drew.drew)) ?_
              intro v174 v175 v176 v177 v178 v179 v180 v181 v182 v183 v184 v185 v186 v187 v188 v189 v190 v191 v192 v193 v194 v195 v196 v197 v198 v199 v200 v201 v202 v203 v204 v205 v206 v207 v208 v209 v210 v211 v212 v213 v214 v215 v216 v217 v218 v219 v220 v221 v222 v223 v224 v225 v226 v227 v228 v229 v230 v231 v232 v233 v234 v235 v236 Vi hbi
              have HB9 := Lib.hid (HWVh.out.trans (hbi.mono HWVh.out.size))
              go_wp2_with fail
              go_ret
              exact ⟨rfl, HB9.out⟩
          | succ g =>
            have hjj : (j : Int) < (l.length : Int) := by omega
            have hj0 : (0 : Int) ≤ (j : Int) ∧ (j : Int) < (l.length : Int) := by omega
            obtain ⟨c, hc⟩ := get_lt (l := l) (i := j) (by omega)
            obtain ⟨ad, cs, rfl, hct, hcc⟩ := (HLS.out.below HB.out).elem Cd.trlen hc
            have hcok := HCOK.out trivial c (List.mem_of_getElem? hc)
            obtain ⟨xs1, ys1, L, lc, rfl, hns, _, hxa, hxb, _⟩ := Cd.at_iff.1 hct
            obtain ⟨A1, n1, rfl, _⟩ := ex_cells hxa
            obtain ⟨B1, n2, rfl, _⟩ := ex_cells hxb
            have HNM : Hid (∀ w', Below wo.heap.size wo w' → Calls Tryd.prog 10 #[.agg #[.string c.name, .int .i8 c.kind, .int .i8 c.a.kind, .string c.a.text, .int .i64 c.a.num, .string c.a.name, .string c.a.attr, .slice A1 c.a.l.length n1, .int .i8 c.b.kind, .string c.b.text, .int .i64 c.b.num, .string c.b.name, .string c.b.attr, .slice B1 c.b.l.length n2, .slice L c.l.length lc]] w' (TextsOut (names c) w')) := Lib.hid (fun w' h => rnames_any _ c _ w' hcok.1 (hct.below h) (by have := hcok.2.1; omega))
            obtain ⟨c0, c1, c2, c3, c4, c5, c6, c7, c8, c9, c10, c11, c12, c13, c14⟩ := cel15 hcc
            have hnl : (names c).length ≤ 1000000 := names_len (by have := hcok.2.1; omega)
            obtain ⟨N, hN⟩ : ∃ N, N = names c := ⟨_, rfl⟩
            rw [← hN] at HNM hnl
            have HST : Hid ((∀ z ∈ N ++ [c.name], addedN z = false) → ∀ k c, k < j + 1 → l[k]? = some c → addedN c.name = false ∧ ∀ s ∈ names c, addedN s = false) := Lib.hid (fun hall k d hk hd => by
              rcases Nat.lt_succ_iff_lt_or_eq.1 hk with hk | rfl
              · exact HF.out k d hk hd
              · rw [hc] at hd
                injection hd with hd
                subst hd
                exact ⟨hall _ (by simp), fun s hs => hall s (by rw [hN]; simp [hs])⟩)
            clear hct hcc hxa hxb hc hcok hN
            have hbw : Below wo.heap.size wo (wo.alloc (.cells #[.string c.name, .int .i8 c.kind, .int .i8 c.a.kind, .string c.a.text, .int .i64 c.a.num, .string c.a.name, .string c.a.attr, .slice A1 c.a.l.length n1, .int .i8 c.b.kind, .string c.b.text, .int .i64 c.b.num, .string c.b.name, .string c.b.attr, .slice B1 c.b.l.length n2, .slice L c.l.length lc] 32)) := (Below.refl _ wo).alloc (Nat.le_refl _) _
            have HBW := Lib.hid hbw
            have HBX := Lib.hid (Blk.new wo #[.string c.name, .int .i8 c.kind, .int .i8 c.a.kind, .string c.a.text, .int .i64 c.a.num, .string c.a.name, .string c.a.attr, .slice A1 c.a.l.length n1, .int .i8 c.b.kind, .string c.b.text, .int .i64 c.b.num, .string c.b.name, .string c.b.attr, .slice B1 c.b.l.length n2, .slice L c.l.length lc] 32)
            clear hbw
            go_wp2_with fail
            obtain ⟨WX, hWX⟩ : ∃ WX, WX = wo.alloc (.cells #[.string c.name, .int .i8 c.kind, .int .i8 c.a.kind, .string c.a.text, .int .i64 c.a.num, .string c.a.name, .string c.a.attr, .slice A1 c.a.l.length n1, .int .i8 c.b.kind, .string c.b.text, .int .i64 c.b.num, .string c.b.name, .string c.b.attr, .slice B1 c.b.l.length n2, .slice L c.l.length lc] 32) := ⟨_, rfl⟩
            rw [← hWX] at HBW HBX ⊢
            obtain ⟨q, hq⟩ : ∃ q, q = wo.heap.size := ⟨_, rfl⟩
            rw [← hq] at HBX ⊢
            clear hWX c0 c1 c2 c3 c4 c5 c6 c7 c8 c9 c10 c11 c12 c13 c14
            obtain ⟨d0, d1, d2, d3, d4, d5, d6, d7, d8, d9, d10, d11, d12, d13, d14⟩ := cel15 (celBlk HBX.out)
            have hqlt := HBX.out.lt
            have hqo : wo.heap.size ≤ q := Nat.le_of_eq hq.symm
            clear hq
            refine reg9 rfl wo WX q c A1 B1 L n1 n2 lc N hnl hqo HBW HBX HNM ?_
            intro B bc v65 v66 v67 v68 v69 wc hrb hbc
            have HRB := Lib.hid hrb
            have HBC := Lib.hid hbc
            clear hrb hbc
            have HBWC : Hid (Below w.heap.size w wc) := Lib.hid (HB.out.trans (HBC.out.mono HB.out.size))
            clear HNM HBX HBW d0 d1 d2 d3 d4 d5 d6 d7 d8 d9 d10 d11 d12 d13 d14
            go_wp2_with fail
            go_loopg [72] (N.length + 1) (fun g i wr => ∃ n : Nat, n + g = N.length + 1 ∧ i = .int .i64 (n : Nat) ∧ wr = wc ∧ Hid (∀ k z, k < n → (N ++ [c.name])[k]? = some z → addedN z = false))
            case atStart => exact ⟨0, by omega, rfl, rfl, Lib.hid (fun k z h => by omega)⟩
            case round =>
              obtain ⟨n, hn, rfl, rfl, HAL⟩ := hrel
              cases gk with
              | zero =>
                have hnn : ¬ ((n : Int) < (N.length : Int) + 1) := by omega
                go_wp2_with fail
                go_roundg g
                case measure => omega
                case rel => exact ⟨j + 1, by omega, by go_num, HBWC, Lib.hid (HST.out (fun z hz => by
                  obtain ⟨k, hk, rfl⟩ := List.getElem_of_mem hz
                  exact HAL.out k _ (by simp at hk; omega) (List.getElem?_eq_getElem hk)))⟩
              | succ g2 =>
                have hnn : (n : Int) < (N.length : Int) + 1 := by omega
                have hn0 : (0 : Int) ≤ (n : Int) ∧ (n : Int) < (N.length : Int) + 1 := by omega
                obtain ⟨z, hz⟩ := get_lt (l := N ++ [c.name]) (i := n) (by simp; omega)
                obtain ⟨nd, rfl, hcz⟩ := HRB.out.at_ n (.string z) (by rw [List.getElem?_map, hz]; rfl)
                have HAD := Lib.hid (added_any z wr)
                obtain ⟨b, hb⟩ : ∃ b, b = addedN z := ⟨_, rfl⟩
                rw [← hb] at HAD
                have HZ := Lib.hid hz
                have HBZ := Lib.hid hb
                clear hz hb
                go_wp2_with fail
                refine HAD.out.mono ?_
                rintro e w7 ⟨rfl, rfl⟩
                cases b with
                | true =>
                  go_wp2_with fail
                  refine (HW.out w7 HBWC.out).mono ?_
                  rintro e w8 ⟨rfl, hb8⟩
                  have HB8 := Lib.hid (HBWC.out.trans (hb8.mono HBWC.out.size))
                  go_wp2_with fail
                  go_ret
                  exact ⟨rfl, HB8.out⟩
                | false =>
                  go_wp2_with fail
                  go_roundg g2
                  case measure => omega
                  case rel => exact ⟨n + 1, by omega, by go_num, rfl, Lib.hid (fun k z' hk hz' => by
                    rcases Nat.lt_succ_iff_lt_or_eq.1 hk with hk | rfl
                    · exact HAL.out k z' hk hz'
                    · rw [HZ.out] at hz'
                      injection hz' with hz'
                      rw [← hz']; exact HBZ.out.symm)⟩
theorem condsMorgan_walk (w : World) (hV : VOk w) (A : Option Addr) (n ac : Nat) (l : List Cd) (hn : n = l.length) (hls : Ls (fun k => k < w.heap.size) w 15 224 Cd.tr A ac l) (PA : Option Addr) (m pc : Nat) (ps : List Gv) (hm : m = ps.length) (hps : Ls (fun k => k < w.heap.size) w 8 104 Gv.tr PA pc ps) (i : Int) (hi1 : -9223372036854775808 ≤ i) (hi2 : i ≤ 9223372036854775807) (k : Int) (hk1 : -9223372036854775808 ≤ k) (hk2 : k ≤ 9223372036854775807) :
    Calls Tryd.prog 4 #[.slice A n ac, .slice PA m pc, .int .i64 i, .int .i64 k] w (BoolB true w) := by
  subst hn; subst hm
  exact condsMorgan_any A ac l PA pc ps i k hi1 hi2 hk1 hk2 w hV hls hps
end Go.Proofs.YtmljdppdaaoehaaDoor
namespace Go.Proofs.YtmljdppdaaoehaaDoor.condsMorgan
open Go.ChangeShapes Go.WideShapes Go.ChangeAt Go.RowKit Go.Lib
open Go.ChangeMaps (open_string shut_string)
set_option linter.unusedVariables false

theorem own : ownKnob Tryd.prog.godebug = none := by kernel_rfl
theorem laidOut : laidOutB Tryd.prog = true := by kernel_rfl
theorem wf_i64 {x : Int} (h : (Lit.int .i64 x).wf = true) : -9223372036854775808 ≤ x ∧ x ≤ 9223372036854775807 := by
  simp [Lit.wf, IntKind.min, IntKind.max, IntKind.bits, IntKind.signed] at h; omega
theorem wf_u8 {x : Int} (h : (Lit.int .u8 x).wf = true) : 0 ≤ x ∧ x ≤ 255 := by
  simp [Lit.wf, IntKind.min, IntKind.max, IntKind.bits, IntKind.signed] at h; omega

set_option maxRecDepth 100000 in
theorem lifted (os : Os) (started : os.Started) (H : Type) (enc : TypeId × Value → H) :
    ReturnsInHanded {} Tryd.checked os 4 .any (fun w args => (Rows.condsMorganSpec.pre enc Tryd.prog Tryd.f4 [] false w args ∧ laidMetH Tryd.prog Rows.condsMorganRow.laid w) ∧ sizedMet enc Tryd.prog Tryd.f4 (OpenSpec.ofChange Rows.condsMorganSpec) false w args)
      (Rows.condsMorganSpec.post enc Tryd.prog Tryd.f4 false true false false) := by
  refine returnsInHanded_of_change_and (C := Tryd.checked) (X := fun w _ => laidMetH Tryd.prog Rows.condsMorganRow.laid w) (fun _ _ _ hh h => h.of_heap hh) own started (by kernel_rfl) Tryd.func4
    (ChangeSpec.witness_shaped (enc := enc) (C := Tryd.checked) (os := os) (X := fun w _ => laidMetH Tryd.prog Rows.condsMorganRow.laid w) false (World.laidAll Tryd.prog os Rows.condsMorganRow.laid) #[.slice none 0 0, .slice none 0 0, .int .i64 0, .int .i64 0] 8 (World.laidAll_os _ _ _)
      (World.shaped_of_ZipB (by kernel_rfl) (by kernel_rfl)) (by kernel_rfl) (by kernel_rfl) (by kernel_rfl)
      (by rw [MakeChecks.laidMetH_plain _ _ _ (by kernel_rfl)]; exact laidMet_laidAll _ (by kernel_rfl) (by kernel_rfl))) ?_
  intro W base args ds gs before hval0 hW _ hsz0 hL _
  have hval : ∀ (j : Nat) t v, Tryd.f4.params[j]? = some t → args[j]? = some v → Value.okWide Tryd.prog W .any base t v := hval0
  have hW' := hW
  obtain ⟨p, q, hA0, hV, rfl, _, _⟩ := hW
  have hA : DataW.TrodAll enc Tryd.prog W 0 (fun _ => true) true Tryd.f4.params.toList args.toList ds p := hA0
  have hsz : (DataW.weightsEach Tryd.prog (Tryd.f4.params.toList ++ Rows.condsMorganSpec.plain.varTypes Tryd.prog) (ds ++ gs)).all (· ≤ reachBytes) = true := hsz0
  rw [Tryd.params4] at hA hval hsz
  clear hsz0
  obtain ⟨v0, vs0, d0, ds0, p0, q0, hargs, rfl, rfl, h0, r0⟩ := trodAll_cons hA
  obtain ⟨v1, vs1, d1, ds1, p1, q1, rfl, rfl, rfl, h1, r1⟩ := trodAll_cons r0
  obtain ⟨v2, vs2, d2, ds2, p2, q2, rfl, rfl, rfl, h2, r2⟩ := trodAll_cons r1
  obtain ⟨v3, vs3, d3, ds3, p3, q3, rfl, rfl, rfl, h3, r3⟩ := trodAll_cons r2
  obtain ⟨rfl, rfl, rfl⟩ := trodAll_nil r3
  obtain rfl : args = #[v0, v1, v2, v3] := by cases args; simp_all
  obtain ⟨rfl, rfl⟩ := trodVars_none hV
  obtain ⟨a0, len0, cap0, rfl⟩ := okWide_slice Tryd.underlying22 (hval 0 22 v0 rfl rfl)
  have k0 := h0
  have lt0 := trod_lt' k0
  obtain ⟨l0, w0, r_0⟩ := open_conds h0 (fun z hz => by have := List.all_eq_true.1 hsz z (DataW.weights_mem_each (j := 0) rfl rfl z hz); simpa using this)
  obtain ⟨a1, len1, cap1, rfl⟩ := okWide_slice Tryd.underlying23 (hval 1 23 v1 rfl rfl)
  have k1 := h1
  have lt1 := trod_lt' k1
  obtain ⟨l1, w1, r_1⟩ := open_givens h1 (fun z hz => by have := List.all_eq_true.1 hsz z (DataW.weights_mem_each (j := 1) rfl rfl z hz); simpa using this)
  obtain ⟨a2, rfl, rfl, rfl, w2⟩ := open_int Tryd.underlying3 (hval 2 3 v2 rfl rfl) h2
  obtain ⟨a3, rfl, rfl, rfl, w3⟩ := open_int Tryd.underlying3 (hval 3 3 v3 rfl rfl) h3
  clear hA0 hval0
  simp only [List.append_nil] at hW'
  rw [MakeChecks.laidMetH_plain _ _ _ (by kernel_rfl)] at hL
  refine (condsMorgan_walk W (VOk.of_u8 (u8_of_laid hL)) a0 len0 cap0 l0 w0 r_0 a1 len1 cap1 l1 w1 r_1 a2 (wf_i64 w2).1 (wf_i64 w2).2 a3 (wf_i64 w3).1 (wf_i64 w3).2).mono fun e W' ⟨he, bel⟩ => ?_
  subst he
  exact ⟨_, rfl, _, _, _, [], _, [], hW', trodAll_mk1 (shut_bool Tryd.underlying4 _), (trodAll_cons_mk (Below.trod laidOut (by kernel_rfl) (of_decide_eq_true (by kernel_rfl)) k0 bel lt0) (trodAll_cons_mk (Below.trod laidOut (by kernel_rfl) (of_decide_eq_true (by kernel_rfl)) k1 bel lt1) (trodAll_cons_mk (shut_int Tryd.underlying3 w2) (trodAll_cons_mk (shut_int Tryd.underlying3 w3) trodAll_mk0)))), rfl, bel.frame _, fun h => by cases h⟩

theorem over : Rows.condsMorganRow.holds Tryd.pinned (OpenSpec.ofChange Rows.condsMorganSpec) :=
  OpenClaim.holds_of_wide 4 Tryd.f4 rfl rfl rfl rfl rfl rfl rfl ⟨rfl, rfl, rfl, rfl, rfl⟩ rfl rfl rfl rfl rfl (by kernel_rfl) Tryd.func4 (by kernel_rfl)
    (of_decide_eq_true (by kernel_rfl)) (by unfold Func.isWrapper; first | (rw [if_pos (by decide +kernel)]; kernel_rfl) | (rw [if_neg (by decide +kernel)]; exact ⟨rfl, rfl⟩))
    (fun os started H enc _ => lifted os started H enc)

/-- THE STATEMENT -/
theorem proved : Rows.CondsMorganCardSaid :=
  Claim7.holds_tied_plain_at .later [] [.data, .pinned] true (true, Rows.condsMorganCard.stood.harness.2) true over (fun _ h => by cases h) (by kernel_rfl) (fun _ h => by cases h) condsMorgan_row_tie rfl ⟨rfl, rfl⟩ (by kernel_rfl) rfl
    (fun f fn hf hfn => by
      obtain rfl : f = 4 := Option.some.inj ((show Tryd.prog.funcNamed "hoarding/hoardinglaw15.CondsMorgan" = some 4 by kernel_rfl).symm.trans hf) |>.symm
      obtain rfl : fn = Tryd.f4 := (Option.some.inj (Tryd.func4.symm.trans hfn)).symm
      exact ⟨by kernel_rfl, fun j t ht => by
        rw [Tryd.params4] at ht
        have hm : t ∈ [22, 23, 3, 3] := by simpa using Array.mem_of_getElem? ht
        have hall : ([22, 23, 3, 3].all fun u => !Tryd.prog.wantsStandIn u) = true := by kernel_rfl
        exact (show Tryd.prog.wantsStandIn t = false by simpa using List.all_eq_true.1 hall t hm)⟩)
    (by kernel_rfl)
#print axioms proved
end Go.Proofs.YtmljdppdaaoehaaDoor.condsMorgan
