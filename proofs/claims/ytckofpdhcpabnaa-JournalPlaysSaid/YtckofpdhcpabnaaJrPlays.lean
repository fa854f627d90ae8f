/- The law JournalPlays. -/
import Derived.Test.YtckofpdhcpabnaaJrOver
import Derived.Deep.QuietTactic
import Derived.BigQuiet
import Derived.Laws.BitsAllLaws
namespace Go.Proofs.Ytckofpdhcpabnaa
open Go.RowKit
set_option linter.unusedVariables false
set_option linter.unusedSimpArgs false

theorem BytesP.own {s : DS} {w w' : World} {e : Ending} (h : BytesP s w e w') : Below w.heap.size w w' ∧ ∃ A c, e = .returned (.tuple #[.slice A (fileL s).length c, .int .i64 (dstate s)]) ∧ Ow w' w.heap.size 5 1 A (fileL s).length c (bv (fileL s)) := by
  obtain ⟨h1, h2, h3⟩ := h
  refine ⟨h1, ?_⟩
  unfold fileL dstate
  cases hs : s.down with
  | true => exact ⟨none, 0, by simpa using h2 hs, Ow.nil _ _ _ _⟩
  | false => obtain ⟨A, c, he, ho⟩ := h3 hs; exact ⟨A, c, by simpa using he, ho⟩
theorem fileL_len {t : TypeId} {B q : Nat} {r : Option Nat} {s : DS} {W : World} (h : Dk t B W q r s) : (fileL s).length ≤ 1048576 := by
  have := h.len
  unfold fileL
  split
  · simp
  · exact this
/-- between two acts -/
structure PlI (w : World) (q : Nat) (r : Option Nat) (s : DS) (W : World) : Prop where
  dk : Dk 52 w.heap.size W q r s
  bel : Below w.heap.size w W
theorem PlI.below {w W W' : World} {q : Nat} {r : Option Nat} {s : DS} (h : PlI w q r s W) (hb : Below W.heap.size W W') : PlI w q r s W' := ⟨h.dk.below hb, h.bel.trans (hb.mono h.bel.size)⟩
theorem PlI.step {w W W' : World} {q : Nat} {r : Option Nat} {s s' : DS} (h : PlI w q r s W) (hS : DStep 52 w.heap.size q r s' W W') : ∃ r', PlI w q r' s' W' := by
  have hb := hS.below h.dk
  obtain ⟨⟨r', hk, -⟩, -⟩ := hS
  exact ⟨r', hk, h.bel.trans hb⟩
theorem PlI.free {w W : World} {q : Nat} {r : Option Nat} {s : DS} (h : PlI w q r s W) {b : Nat} (hb : W.heap.size ≤ b) : ¬ (b = q ∨ some b = r) := by
  rintro (e | e)
  · have := h.dk.lt.1; omega
  · have := (h.dk.lt.2 _ e.symm).2; omega
theorem jopen_ok {s : DS} (h : (jOpen s).1 = 0) : s.down = false ∧ (jOpen s).2.down = false ∧ (jOpen s).2.b = s.b.take (szs (loads s.b)) := by
  unfold jOpen at h ⊢
  by_cases hd : s.down = true
  · rw [if_pos hd] at h; simp at h
  · rw [if_neg hd] at h ⊢
    simp at hd
    unfold jOpen2 at h ⊢
    split at h
    · rename_i he
      rw [if_pos he]
      exact ⟨hd, hd, by simp only; rw [he, List.take_length]⟩
    · rename_i he
      rw [if_neg he]
      unfold dCut at h ⊢
      rw [if_neg (by rw [hd]; simp)] at h ⊢
      split at h
      · simp at h
      · rename_i h2
        rw [if_neg h2]
        split at h
        · simp at h
        · rename_i h3
          rw [if_neg h3]
          exact ⟨hd, hd, by simp⟩

theorem bv_set (l : List UInt8) (i : Nat) (u : UInt8) : bv (l.set i u) = (bv l).set i (.int .u8 (u.toNat : Int)) := by unfold bv; rw [List.map_set]
theorem PlI.turn {w W : World} {q : Nat} {r : Option Nat} {s : DS} {base gb ln cb ix : Nat} {l : List UInt8} {u : UInt8} (h : PlI w q r s W) (ho : Ow W base 5 1 (some ⟨gb, 0, none⟩) ln cb (bv l)) (h0 : 0 < ln) (hf : ¬ (gb = q ∨ some gb = r)) (hgb : w.heap.size ≤ gb) :
    PlI w q r s (W.setCell ⟨gb, ix, none⟩ (.int .u8 (u.toNat : Int))) ∧ Rd (W.setCell ⟨gb, ix, none⟩ (.int .u8 (u.toNat : Int))) 1 (some ⟨gb, 0, none⟩) ln cb (bv (l.set ix u)) := by
  have hon : Only (fun k => k = gb) W (W.setCell ⟨gb, ix, none⟩ (.int .u8 (u.toNat : Int))) := (Only.refl _ W).setCell _ _ (fun _ => rfl)
  refine ⟨⟨h.dk.only hon (fun e => hf (.inl e.symm)) (fun g e1 e2 => hf (.inr (by rw [e1, ← e2]))), h.bel.setCell (p := ⟨gb, ix, none⟩) hgb _⟩, ?_⟩
  have hl := ho.blen
  rcases ho.2 with ⟨-, h1, -⟩ | ⟨g', cur, hA, hg, hk, h1, h2, h3, h4⟩
  · omega
  · injection hA with hA; injection hA with hA
    subst hA
    have hb : Blk W gb cur 5 := hk
    have ho2 : Ow (W.setCell ⟨gb, ix, none⟩ (.int .u8 (u.toNat : Int))) base 5 1 (some ⟨gb, 0, none⟩) ln cb (bv (l.set ix u)) := by
      refine ⟨by simp [bv, hl], .inr ⟨gb, cur.setIfInBounds ix (.int .u8 (u.toNat : Int)), rfl, hg, hb.set ix _, h1, h2, by simpa using h3, ?_⟩⟩
      rw [bv_set, ← h4, Array.toList_setIfInBounds, List.take_set]
    exact ho2.rd
theorem rem_ix (nn : Int) (ln : Nat) (T : Int) (hz : 0 < ln) (hl : ln ≤ 2000) (hT : wrap64 (nn.tmod (ln : Int) + (ln : Int)) = T) : ∃ ix : Nat, T.tmod (ln : Int) = (ix : Int) ∧ ix < ln := by
  have h1 : -(ln : Int) < nn.tmod (ln : Int) ∧ nn.tmod (ln : Int) < ln := by
    rcases Int.le_total 0 nn with h | h
    · have := Int.tmod_lt_of_pos nn (b := (ln : Int)) (by omega)
      have := Int.tmod_nonneg (ln : Int) h
      omega
    · have e : nn = -(-nn) := by omega
      have := Int.tmod_lt_of_pos (-nn) (b := (ln : Int)) (by omega)
      have := Int.tmod_nonneg (ln : Int) (a := -nn) (by omega)
      rw [e, Int.neg_tmod]
      omega
  rw [IntWalk.wrap64_in _ ⟨by omega, by omega⟩] at hT
  subst hT
  have h2 := Int.tmod_lt_of_pos (nn.tmod (ln : Int) + (ln : Int)) (b := (ln : Int)) (by omega)
  have h3 := Int.tmod_nonneg (ln : Int) (a := nn.tmod (ln : Int) + (ln : Int)) (by omega)
  exact ⟨((nn.tmod (ln : Int) + (ln : Int)).tmod (ln : Int)).toNat, by omega, by omega⟩
set_option maxRecDepth 100000 in
set_option maxHeartbeats 8000000 in
theorem journalPlays_walk (w : World) (A : Option Addr) (n c : Nat) (xs : List JV) (hA : JVs w A n c xs) (f : Int) (hf1 : -9223372036854775808 ≤ f) (hf2 : f ≤ 9223372036854775807) (lv : Int) (hl1 : -9223372036854775808 ≤ lv) (hl2 : lv ≤ 9223372036854775807) :
    Calls Try.prog 5 #[.slice A n c, .int .i64 f, .int .i64 lv] w (Yes w) := by
  have hc := hA.cap
  have hm := hA.max
  unfold maxLen at hm
  have HL := Lib.hid hA.len
  have HA := Lib.hid hA
  have HG := Lib.hid (great_any w A n c xs hA)
  clear hA
  go_enter Try.func5, Try.ntmps5
  go_wp2_with fail
  refine HG.out.mono ?_
  rintro e w0 ⟨⟨g, rfl⟩, hb0⟩
  have HB0 := Lib.hid hb0
  clear hb0 HG
  cases g with
  | true =>
    go_wp2_with (go_at_call 7; refine (wakes_any _).mono ?_; rintro e w1 ⟨rfl, HB⟩)
    go_ret
    exact ⟨rfl, HB0.out.trans (HB.mono HB0.out.size)⟩
  | false =>
    go_wp2_with fail
    refine (dnew_any _).mono ?_
    rintro e w1 ⟨rfl, hb1, hk1⟩
    have HI0 := Lib.hid (⟨hk1.le HB0.out.size, HB0.out.trans (hb1.mono HB0.out.size)⟩ : PlI w w0.heap.size none DS.new w1)
    clear hb1 hk1
    go_wp2_with fail
    go_loopg [8] n (fun gk i wr => ∃ (k : Nat) (r : Option Nat) (s : DS), k + gk = n ∧ i = .int .i64 k ∧ Hid (PlI w w0.heap.size r s wr))
    case atStart => exact ⟨0, none, DS.new, by omega, rfl, HI0⟩
    case round =>
      obtain ⟨k, r, s, hk, rfl, HI⟩ := hrel
      obtain ⟨W, hW⟩ : ∃ W, W = wr := ⟨_, rfl⟩
      subst hW
      cases gk with
      | succ g =>
        have hlt : k < n := by omega
        obtain ⟨x, hx⟩ : ∃ x, xs[k]? = some x := ⟨_, List.getElem?_eq_getElem (by rw [HL.out]; exact hlt)⟩
        have HF0 := Lib.hid (HA.out.row k x hx).1
        obtain ⟨hf, ad, rfl, c0, c1, c2, c3⟩ := (HA.out.below HI.out.bel).row k x hx
        have HF := Lib.hid hf
        clear hf hx
        go_wp2_with fail
        have HI1 := Lib.hid (HI.out.below ((Below.refl _ W).alloc (Nat.le_refl _) (.cells #[.int .i64 x.d, .slice x.A x.b.length x.c, .slice x.LA x.ls.length x.Lc, .int .i64 x.n] 42)))
        refine (dbytes_any _ _ _ _ _ HI1.out.dk).mono ?_
        intro e w2 hby
        obtain ⟨hb2, Ab, cb, rfl, hob⟩ := hby.own
        have hll := fileL_len HI1.out.dk
        have HK := Lib.hid ((Blk.new W #[.int .i64 x.d, .slice x.A x.b.length x.c, .slice x.LA x.ls.length x.Lc, .int .i64 x.n] 42).below hb2)
        have HI2 := Lib.hid (HI1.out.below hb2)
        obtain ⟨l, hl⟩ : ∃ l, fileL s = l := ⟨_, rfl⟩
        rw [hl] at hob hll ⊢
        have HLE := Lib.hid hl
        have HOB := Lib.hid hob
        obtain ⟨ln, hln⟩ : ∃ ln, l.length = ln := ⟨_, rfl⟩
        rw [hln] at hll HOB ⊢
        have HLN := Lib.hid hln
        have hcap0 := HOB.out.cap
        have hmax0 := HOB.out.max
        unfold maxLen at hmax0
        have hfree : ¬ (W.heap.size = w0.heap.size ∨ some W.heap.size = r) := HI.out.free (Nat.le_refl _)
        have HFR := Lib.hid hfree
        have hble := HK.out.lt
        have hbz := hb2.size
        rw [World.size_alloc] at hbz
        clear hby hb2 hob hl hln c0 c1 c2 c3 HI1 hfree
        have e0 := HK.out.cell 0 rfl
        go_upto_block 2 with fail
        go_cut [] from 44 to 143 (fun wx => ∃ (r : Option Nat) (s : DS), Hid (PlI w w0.heap.size r s wx))
        case first =>
          have e1 := HK.out.cell 1 rfl
          have e2 := HK.out.cell 2 rfl
          have e3 := HK.out.cell 3 rfl
          obtain ⟨d, X, cx, b, LA, Lc, ls, lvs, nn⟩ := x
          simp only at *
          have hd1 := HF.out.d1
          have hd2 := HF.out.d2
          have hbel2 : Below w.heap.size w w2 := HI2.out.bel
          have HRX := Lib.hid (HF0.out.rd.below hbel2)
          have HBX := Lib.hid (HF0.out.bb.below hbel2)
          clear hbel2
          by_cases q0 : d = 0
          · subst q0
            clear e2 e3
            go_wp2_with fail
            refine (japp_any _ _ _ _ _ X b.length cx b HI2.out.dk HRX.out).mono ?_
            rintro e w3 ⟨rfl, hS⟩
            obtain ⟨r3, hi3⟩ := HI2.out.step hS
            have HI3 := Lib.hid hi3
            clear hS hi3
            generalize (jApp s b).1 = ea
            go_wp2_with fail
            go_meet
            case rel => exact ⟨_, _, HI3⟩
          · by_cases q1 : d = 1
            · subst q1
              clear e1 e3
              go_wp2_with fail
              refine (jsnap_any _ _ _ _ _ _ LA ls.length Lc ls lvs HI2.out.dk HBX.out).mono ?_
              rintro e w3 ⟨rfl, hS⟩
              obtain ⟨r3, hi3⟩ := HI2.out.step hS
              have HI3 := Lib.hid hi3
              clear hS hi3
              generalize (jSnap s ls).1 = ea
              go_wp2_with fail
              go_meet
              case rel => exact ⟨_, _, HI3⟩
            · by_cases q2 : d = 2
              · subst q2
                clear e1 e2
                go_wp2_with fail
                refine (darm_any _ _ _ _ _ nn HF.out.n2 HI2.out.dk).mono ?_
                rintro e w3 ⟨rfl, hS⟩
                obtain ⟨r3, hi3⟩ := HI2.out.step hS
                have HI3 := Lib.hid hi3
                clear hS hi3
                generalize (dArm s nn).1 = ea
                go_wp2_with fail
                go_meet
                case rel => exact ⟨_, _, HI3⟩
              · by_cases q3 : d = 3
                · subst q3
                  clear e1 e2 e3
                  go_wp2_with fail
                  refine (dcrash_any _ _ _ _ _ HI2.out.dk).mono ?_
                  rintro e w3 ⟨rfl, hS⟩
                  obtain ⟨r3, hi3⟩ := HI2.out.step hS
                  have HI3 := Lib.hid hi3
                  clear hS hi3
                  generalize (dCrash s).1 = ea
                  go_wp2_with fail
                  refine (dup_any _ _ _ _ _ HI3.out.dk).mono ?_
                  rintro e w4 ⟨rfl, hS⟩
                  obtain ⟨r4, hi4⟩ := HI3.out.step hS
                  have HI4 := Lib.hid hi4
                  clear hS hi4
                  generalize (dUp (dCrash s).2).1 = eb
                  go_wp2_with fail
                  go_meet
                  case rel => exact ⟨_, _, HI4⟩
                · by_cases q4 : d = 4
                  · subst q4
                    clear e1 e2 e3
                    go_wp2_with fail
                    refine (jopen_any _ _ _ _ _ HI2.out.dk).mono ?_
                    rintro e w3 ⟨hS, hg1, hg0, -⟩
                    obtain ⟨r3, hi3⟩ := HI2.out.step hS
                    have HI3 := Lib.hid hi3
                    have HO3 := Lib.hid (HOB.out.only hS.only (fun g hg hF => by
                      have h1 := (HOB.out.lt hg).1
                      rw [World.size_alloc] at h1
                      exact HI.out.free (b := g) (by omega) hF))
                    clear hS hi3
                    by_cases ho : (jOpen s).1 = 0
                    · obtain ⟨A3, c3, vs3, rfl, hbb⟩ := hg0 ho
                      obtain ⟨ho1, ho2, ho3⟩ := jopen_ok ho
                      have hsb : s.b = l := by have := HLE.out; unfold fileL at this; rwa [if_neg (by rw [ho1]; simp)] at this
                      rw [hsb] at hbb ho3 ⊢
                      obtain ⟨m, hm⟩ : ∃ m, szs (loads l) = m := ⟨_, rfl⟩
                      have hml : m ≤ ln := by have := loads_le _ l rfl; rw [hm, HLN.out] at this; exact this
                      rw [hm] at ho3 ⊢
                      have hlt2 : (l.take m).length = m := by rw [List.length_take, HLN.out]; exact Nat.min_eq_left hml
                      have hf2 : fileL (jOpen s).2 = l.take m := by unfold fileL; rw [if_neg (by rw [ho2]; simp), ho3]
                      have hds : dstate (jOpen s).2 = 0 := by unfold dstate; rw [if_neg (by rw [ho2]; simp)]
                      have hd0 : dstate s = 0 := by unfold dstate; rw [if_neg (by rw [ho1]; simp)]
                      rw [HLN.out]
                      obtain ⟨t, ht⟩ : ∃ t : Int, (ln : Int) - (m : Int) = t := ⟨_, rfl⟩
                      rw [ht]
                      have HT := Lib.hid ht
                      have HM := Lib.hid hm
                      have HB3 := Lib.hid hbb
                      have HF2 := Lib.hid hf2
                      have HDS := Lib.hid hds
                      have HLT2 := Lib.hid hlt2
                      clear hg0 hg1 hbb hsb ho3 hm hlt2 hf2 hds hd0 ht ho ho1 ho2
                      go_wp2_with fail
                      refine (rscan_any Ab ln cb l w3 HO3.out.rd (by omega)).mono ?_
                      rintro e w4 ⟨A4, c4, vs4, rfl, hbb4, hb4⟩
                      rw [HLN.out, HM.out, HT.out]
                      have HI4 := Lib.hid (HI3.out.below hb4)
                      have HB4 := Lib.hid (HB3.out.below hb4)
                      have HC4 := Lib.hid hbb4
                      have HO4 := Lib.hid (HO3.out.below hb4)
                      clear hbb4 hb4
                      go_wp2_with fail
                      refine (dbytes_any _ _ _ _ _ HI4.out.dk).mono ?_
                      intro e w5 hby
                      obtain ⟨hb5, A5, c5, rfl, ho5⟩ := hby.own
                      rw [HF2.out, HLT2.out] at ho5
                      rw [HF2.out, HDS.out, HLT2.out]
                      have HI5 := Lib.hid (HI4.out.below hb5)
                      have HB5 := Lib.hid (HB4.out.below hb5)
                      have HC5 := Lib.hid (HC4.out.below hb5)
                      have HO5 := Lib.hid (HO4.out.below hb5)
                      have HP5 := Lib.hid ho5
                      clear hby hb5 ho5
                      have hs1 := fun j => run_str (P := Try.prog) (w5.drewN j) 22 5 9 Try.underlying22 Try.underlying5 Try.underlying9 (HP5.out.rd.drewN j)
                      have hs2 := fun j => run_str (P := Try.prog) (w5.drewN j) 22 5 9 Try.underlying22 Try.underlying5 Try.underlying9 ((HO5.out.rd.drewN j).btake hml)
                      have hsl := fun j => run_slice_to (P := Try.prog) (w5.drewN j) (A := Ab) (n := ln) (c := cb) (m := m) (x := (m : Int)) rfl (t := 22) (e := 5) Try.underlying22 info_bsz (by omega) .i64
                      have hsum : (ln : Int) - t = (m : Int) := by have := HT.out; omega
                      have hsame := fun j => same_any _ _ _ _ _ _ _ _ _ _ _ (HB5.out.drewN j) (HC5.out.drewN j)
                      have HSAME := Lib.hid hsame
                      clear hsame
                      have hm9 : m ≤ 1048576 := by omega
                      go_wp2_with fail
                      go_quiet ((go_at_call 20; exact Calls.quiet_of (HSAME.out _)))
                      go_wp2_with fail
                      go_meet
                      case rel => exact ⟨_, _, Lib.hid (HI5.out.below (below_drewN (Below.refl _ w5) _))⟩
                    · obtain rfl := hg1 ho
                      have hea : ((jOpen s).1 == 0) = false := by simpa using ho
                      generalize (jOpen s).1 = ea at hea ⊢
                      clear hg0 hg1 ho
                      go_wp2_with fail
                      refine (rscan_any Ab ln cb l w3 HO3.out.rd (by omega)).mono ?_
                      rintro e w4 ⟨A4, c4, vs4, rfl, hbb4, hb4⟩
                      have HI4 := Lib.hid (HI3.out.below hb4)
                      generalize (l.length : Int) - (szs (loads l) : Int) = t
                      clear hbb4 hb4
                      go_wp2_with fail
                      refine (dbytes_any _ _ _ _ _ HI4.out.dk).mono ?_
                      intro e w5 hby
                      obtain ⟨hb5, A5, c5, rfl, ho5⟩ := hby.own
                      have HI5 := Lib.hid (HI4.out.below hb5)
                      clear hby hb5 ho5
                      generalize dstate (jOpen s).2 = fa
                      go_wp2_with fail
                      go_quiet (fail)
                      go_wp2_with fail
                      go_meet
                      case rel => exact ⟨_, _, Lib.hid (HI5.out.below (below_drewN (Below.refl _ w5) _))⟩
                  · have g0 : (d == 0) = false := by simpa using q0
                    have g1 : (d == 1) = false := by simpa using q1
                    have g2 : (d == 2) = false := by simpa using q2
                    have g3 : (d == 3) = false := by simpa using q3
                    have g4 : (d == 4) = false := by simpa using q4
                    clear q0 q1 q2 q3 q4 e1 e2
                    by_cases hz : 0 < ln ∧ ln < 2000
                    · obtain ⟨hz1, hz2⟩ := hz
                      have hn1 := HF.out.n1
                      have hn2 := HF.out.n2
                      have hob := HOB.out
                      rcases hob.2 with ⟨-, h0, -⟩ | ⟨gb, cur, rfl, hgb, hgb2, -, -, hcur, htk⟩
                      · omega
                      clear hob
                      obtain ⟨T, hT⟩ : ∃ T, wrap64 (nn.tmod (ln : Int) + (ln : Int)) = T := ⟨_, rfl⟩
                      obtain ⟨ix, hT2, hix⟩ := rem_ix nn ln T hz1 (by omega) hT
                      have HBK : Hid (Blk w2 gb cur 5) := Lib.hid hgb2
                      obtain ⟨y, hy⟩ : ∃ y, l[ix]? = some y := ⟨_, List.getElem?_eq_getElem (by rw [HLN.out]; exact hix)⟩
                      have hyc : w2.cell? ⟨gb, ix, none⟩ = some (.int .u8 (y.toNat : Nat)) := by
                        refine HBK.out.cell ix ?_
                        have h1 : (bv l)[ix]? = some (.int .u8 (y.toNat : Nat)) := by unfold bv; rw [List.getElem?_map, hy]; rfl
                        rw [← htk, List.getElem?_take_of_lt (by omega)] at h1
                        simpa using h1
                      have hfz := HBK.out.frozen ix
                      rw [World.size_alloc] at hgb
                      have hfr := HI.out.free (b := gb) (by omega)
                      have hu : ∃ u : UInt8, bits .xor .u8 (y.toNat : Int) 1 = (u.toNat : Int) := by
                        refine ⟨y ^^^ 1, ?_⟩
                        have := u8_xor_nat y.toNat 1 y.toNat_lt (by omega)
                        rw [show ((1 : Nat) : Int) = 1 from rfl] at this
                        rw [this, UInt8.toNat_xor]; rfl
                      obtain ⟨u, hu⟩ := hu
                      have hwb := HI.out.bel.size
                      obtain ⟨hi3, hr3⟩ := HI2.out.turn (ix := ix) (u := u) HOB.out hz1 hfr (by omega)
                      have HI3 := Lib.hid hi3
                      have HR3 := Lib.hid hr3
                      clear hgb2 htk hy hgb hfr hi3 hr3
                      go_wp2_with fail
                      refine (dswap_any _ _ _ _ _ _ _ _ _ HI3.out.dk HR3.out).mono ?_
                      rintro e w4 ⟨rfl, hS⟩
                      obtain ⟨r4, hi4⟩ := HI3.out.step hS
                      have HI4 := Lib.hid hi4
                      clear hS hi4
                      generalize (dSwap s (l.set ix u)).1 = ea
                      go_wp2_with fail
                      go_meet
                      case rel => exact ⟨_, _, HI4⟩
                    · have hz3 : ln = 0 ∨ 2000 ≤ ln := by omega
                      clear hz
                      rcases hz3 with rfl | hz3
                      · go_wp2_with fail
                        go_meet
                        case rel => exact ⟨_, _, HI2⟩
                      · go_wp2_with fail
                        go_meet
                        case rel => exact ⟨_, _, HI2⟩
        case rest =>
          obtain ⟨r', s', HI'⟩ := hcut
          clear e0 hcap0 hmax0 hble hbz HOB HK HI2 HLE HLN hll HFR
          obtain ⟨l', hl'⟩ : ∃ l', fileL s' = l' := ⟨_, rfl⟩
          have hll := fileL_len HI'.out.dk
          rw [hl'] at hll
          have HL' := Lib.hid hl'
          clear hl'
          go_wp2_with fail
          refine (jrows_any _ _ _ _ _ HI'.out.dk).mono ?_
          rintro e w3 ⟨hb3, A3, c3, vs3, rfl, hbb⟩
          rw [HL'.out] at hbb ⊢
          have HI3 := Lib.hid (HI'.out.below hb3)
          have HB3 := Lib.hid hbb
          clear hb3 hbb
          go_wp2_with fail
          refine (dbytes_any _ _ _ _ _ HI3.out.dk).mono ?_
          intro e w4 hby
          obtain ⟨hb4, A4, c4, rfl, ho4⟩ := hby.own
          rw [HL'.out] at ho4 ⊢
          have HI4 := Lib.hid (HI3.out.below hb4)
          have HB4 := Lib.hid (HB3.out.below hb4)
          have HO4 := Lib.hid ho4
          clear hby hb4 ho4
          have hnn : (dstate s' != dstate s') = false := by simp
          go_wp2_with fail
          refine (rscan_any A4 l'.length c4 l' w4 HO4.out.rd (by omega)).mono ?_
          rintro e w5 ⟨A5, c5, vs5, rfl, hbb5, hb5⟩
          have HI5 := Lib.hid (HI4.out.below hb5)
          have HB5 := Lib.hid (HB4.out.below hb5)
          have HC5 := Lib.hid hbb5
          clear hbb5 hb5 hnn
          generalize ((l'.length : Int) - (szs (loads l') : Int)) = tn
          cases hd : s'.down with
          | true =>
            rw [show dstate s' = 60 from by unfold dstate; rw [hd]; rfl]
            clear hd
            go_wp2_with fail
            go_roundg g
            case rel => exact ⟨k + 1, _, _, by omega, by go_num, HI5⟩
            case measure => omega
          | false =>
            rw [show dstate s' = 0 from by unfold dstate; rw [hd]; rfl]
            clear hd
            go_wp2_with fail
            refine (same_any _ _ _ _ _ _ _ _ _ _ _ HB5.out HC5.out).mono ?_
            rintro e w6 ⟨rfl, k6, rfl⟩
            have HI6 := Lib.hid (HI5.out.below (below_drewN (Below.refl _ w5) k6))
            go_wp2_with fail
            refine (over_any _ _ _ _ _ f lv hf1 hf2 _ _ (HB5.out.drewN k6)).mono ?_
            rintro e w7 ⟨rfl, hb7⟩
            have HI7 := Lib.hid (HI6.out.below hb7)
            clear hb7
            go_wp2_with fail
            go_roundg g
            case rel => exact ⟨k + 1, _, _, by omega, by go_num, HI7⟩
            case measure => omega
      | zero =>
        have hlt : ¬ (k : Int) < (n : Int) := by omega
        go_wp2_with (go_at_call 7; refine (wakes_any _).mono ?_; rintro e w6 ⟨rfl, HB⟩)
        go_ret
        exact ⟨rfl, HI.out.bel.trans (HB.mono HI.out.bel.size)⟩
end Go.Proofs.Ytckofpdhcpabnaa
