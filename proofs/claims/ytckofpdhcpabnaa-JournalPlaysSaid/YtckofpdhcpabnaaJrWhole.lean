/- The law JournalWhole. -/
import Derived.Test.YtckofpdhcpabnaaJrAct
import Derived.Test.YtckofpdhcpabnaaJrPlain
import Derived.Deep.LoopGhost
import Derived.Deep.CutRange
import Derived.Deep.CutBlock
namespace Go.Proofs.Ytckofpdhcpabnaa
open Go.RowKit
set_option linter.unusedVariables false
set_option linter.unusedSimpArgs false

theorem Dk.le {t : TypeId} {B B' : Nat} {W : World} {q : Nat} {r : Option Nat} {s : DS} (h : Dk t B W q r s) (hb : B' ≤ B) : Dk t B' W q r s := by
  obtain ⟨A, c, hk, how, hr⟩ := h.blk
  exact ⟨⟨A, c, hk, how.le hb, hr⟩, Nat.le_trans hb h.q, h.len, h.keep⟩
/-- the rows wanted, in memory -/
structure WI (w W : World) (A : Option Addr) (c : Nat) (want : List (List UInt8)) (vs : List Value) : Prop where
  own : Ow W w.heap.size 22 1 A want.length c vs
  row : ∀ (i : Nat) (x : List UInt8), want[i]? = some x → ∃ Ai ci, vs[i]? = some (Value.slice Ai x.length ci) ∧ Rd w 1 Ai x.length ci (bv x)
theorem WI.nil (w W : World) : WI w W none 0 [] [] := ⟨Ow.nil _ _ _ _, by simp⟩
theorem WI.only {F : Nat → Prop} {w W W' : World} {A : Option Addr} {c : Nat} {want : List (List UInt8)} {vs : List Value} (h : WI w W A c want vs) (ho : Only F W W') (hF : ∀ g, blk A = some g → ¬ F g) : WI w W' A c want vs :=
  ⟨h.own.only ho hF, h.row⟩
theorem WI.below {w W W' : World} {A : Option Addr} {c : Nat} {want : List (List UInt8)} {vs : List Value} (h : WI w W A c want vs) (hb : Below W.heap.size W W') : WI w W' A c want vs := ⟨h.own.below hb, h.row⟩
theorem WI.step {t : TypeId} {B q : Nat} {r : Option Nat} {s s' : DS} {w W W' : World} {A : Option Addr} {c : Nat} {want : List (List UInt8)} {vs : List Value} (h : WI w W A c want vs) (hk : Dk t B W q r s) (hS : DStep t B q r s' W W') (ht : t ≠ 22) : WI w W' A c want vs := by
  refine h.only hS.only (fun g hg hf => ?_)
  obtain ⟨A1, c1, hb, ho, rfl⟩ := hk.blk
  rcases hf with rfl | hf
  · exact h.own.ne_blk hb ht hg
  · rcases Ow.ne' h.own ho (by decide) with h1 | h1
    · rw [h1] at hg; cases hg
    · exact h1 (by rw [hg, hf])
theorem WI.bb {w W : World} {A : Option Addr} {c : Nat} {want : List (List UInt8)} {vs : List Value} (h : WI w W A c want vs) (hb : Below w.heap.size w W) : BB W 0 A want.length c want vs :=
  ⟨h.own.rd, rfl, fun _ _ => Nat.zero_le _, fun i x hx => by
    obtain ⟨Ai, ci, hv, hr⟩ := h.row i x hx
    exact ⟨Ai, ci, hv, hr.below hb, fun _ _ => Nat.zero_le _⟩⟩
theorem BB.one {w : World} {B n c : Nat} {A : Option Addr} {ls : List (List UInt8)} {vs : List Value} (h : BB w B A n c ls vs) : ∀ u ∈ vs, u.oneCell' = true := by
  intro u hu
  obtain ⟨i, hi, rfl⟩ := List.getElem_of_mem hu
  have h1 := h.rd.len
  have h2 := h.len
  have hl : i < ls.length := by omega
  obtain ⟨Ai, ci, hv, -⟩ := h.row i _ (List.getElem?_eq_getElem hl)
  rw [List.getElem?_eq_getElem hi] at hv
  injection hv with hv
  rw [hv]; rfl
/-- between two acts -/
structure WhI (w : World) (q : Nat) (r : Option Nat) (s : DS) (A : Option Addr) (c : Nat) (want : List (List UInt8)) (vs : List Value) (W : World) : Prop where
  dk : Dk 52 w.heap.size W q r s
  wi : WI w W A c want vs
  bel : Below w.heap.size w W
theorem WhI.below {w W W' : World} {q : Nat} {r : Option Nat} {s : DS} {A : Option Addr} {c : Nat} {want : List (List UInt8)} {vs : List Value} (h : WhI w q r s A c want vs W) (hb : Below W.heap.size W W') : WhI w q r s A c want vs W' :=
  ⟨h.dk.below hb, h.wi.below hb, h.bel.trans (hb.mono h.bel.size)⟩
theorem WhI.step {w W W' : World} {q : Nat} {r : Option Nat} {s s' : DS} {A : Option Addr} {c : Nat} {want : List (List UInt8)} {vs : List Value} (h : WhI w q r s A c want vs W) (hS : DStep 52 w.heap.size q r s' W W') : ∃ r', WhI w q r' s' A c want vs W' := by
  have hb := hS.below h.dk
  have hwi := h.wi.step h.dk hS (by decide)
  obtain ⟨⟨r', hk, -⟩, -⟩ := hS
  exact ⟨r', hk, hwi, h.bel.trans hb⟩
theorem WhI.free {w W : World} {q : Nat} {r : Option Nat} {s : DS} {A : Option Addr} {c : Nat} {want : List (List UInt8)} {vs : List Value} (h : WhI w q r s A c want vs W) {b : Nat} (hb : W.heap.size ≤ b) : ¬ (b = q ∨ some b = r) := by
  rintro (e | e)
  · have := h.dk.lt.1; omega
  · have := (h.dk.lt.2 _ e.symm).2; omega
/-- a row more -/
theorem WhI.app {w W W' : World} {q : Nat} {r : Option Nat} {s : DS} {A A' : Option Addr} {c c' : Nat} {want : List (List UInt8)} {vs : List Value} {X : Option Addr} {cx : Nat} {x : List UInt8} {o : Obj} (h : WhI w q r s A c want vs W) (hx : Rd w 1 X x.length cx (bv x))
    (ho : Ow W' w.heap.size 22 1 A' (want.length + 1) c' (vs ++ [Value.slice X x.length cx])) (hg : (W.alloc o).grownBy W' (blk A)) : WhI w q r s A' c' (want ++ [x]) (vs ++ [Value.slice X x.length cx]) W' := by
  have h1 := h.below ((Below.refl _ W).alloc (Nat.le_refl _) o)
  have hl : vs.length = want.length := by have := h.wi.own.len; omega
  refine ⟨h1.dk.only (Only.of_grown hg) (fun e => ?_) (fun g e1 e2 => ?_), ⟨by rw [List.length_append]; exact ho, fun i y hy => ?_⟩, h1.bel.grown hg h1.bel.size (fun g e => (h1.wi.own.lt e).1)⟩
  · obtain ⟨A1, c1, hb, -, -⟩ := h1.dk.blk
    exact h1.wi.own.ne_blk hb (by decide) e.symm
  · obtain ⟨A1, c1, -, ho1, rfl⟩ := h1.dk.blk
    rcases Ow.ne' h1.wi.own ho1 (by decide) with h3 | h3
    · rw [h3] at e2; cases e2
    · exact h3 (by rw [e1, ← e2])
  · rcases Nat.lt_or_ge i want.length with hi | hi
    · rw [List.getElem?_append_left hi] at hy
      obtain ⟨Ai, ci, hv, hr⟩ := h.wi.row i y hy
      exact ⟨Ai, ci, by rw [List.getElem?_append_left (by omega)]; exact hv, hr⟩
    · rw [List.getElem?_append_right hi] at hy
      obtain ⟨hlt, he⟩ := List.getElem?_eq_some_iff.1 hy
      have h0 : i = want.length := by simp at hlt; omega
      subst h0
      simp at he
      subst he
      exact ⟨X, cx, by rw [List.getElem?_append_right (by omega), hl]; simp, hx⟩
/-- all rows in their place -/
theorem WhI.snap {w W W' : World} {q : Nat} {r : Option Nat} {s : DS} {A A' : Option Addr} {c c' : Nat} {want : List (List UInt8)} {vs : List Value} {X : Option Addr} {cx : Nat} {ls : List (List UInt8)} {lvs : List Value} (h : WhI w q r s A c want vs W) (hx : BB w 0 X ls.length cx ls lvs)
    (ho : Ow W' W.heap.size 22 1 A' ls.length c' lvs) (hb : Below W.heap.size W W') : WhI w q r s A' c' ls lvs W' := by
  have h1 := h.below hb
  exact ⟨h1.dk, ⟨ho.le h.bel.size, fun i y hy => by obtain ⟨Ai, ci, hv, hr, -⟩ := hx.row i y hy; exact ⟨Ai, ci, hv, hr⟩⟩, h1.bel⟩
theorem WhI.few {w W : World} {q : Nat} {r : Option Nat} {s : DS} {A : Option Addr} {c : Nat} {want : List (List UInt8)} {vs : List Value} {keep : Int} (h : WhI w q r s A c want vs W) (hj : JW s want keep ∨ JD s want) : want.length ≤ 1048576 := by
  have h1 := frs_len want
  have h2 := h.dk.len
  rcases hj with hj | hj
  · have := hj.b; rw [this] at h2; omega
  · obtain ⟨r, hr, -⟩ := hj.b
    rw [hr, List.length_append] at h2; omega

set_option maxRecDepth 100000 in
set_option maxHeartbeats 8000000 in
theorem journalWhole_walk (w : World) (A : Option Addr) (n c : Nat) (xs : List JV) (hA : JVs w A n c xs) :
    Calls Try.prog 4 #[.slice A n c] w (Yes w) := by
  have hc := hA.cap
  have hm := hA.max
  unfold maxLen at hm
  have HL := Lib.hid hA.len
  have HA := Lib.hid hA
  have HG := Lib.hid (great_any w A n c xs hA)
  clear hA
  go_enter Try.func4, Try.ntmps4
  go_wp2_with fail
  refine HG.out.mono ?_
  rintro e w0 ⟨⟨g, rfl⟩, hb0⟩
  have HB0 := Lib.hid hb0
  clear hb0 HG
  cases g with
  | true =>
    go_wp2_with (go_at_call 7; refine (wakes_any _).mono ?_; rintro e w1 ⟨rfl, HB⟩)
    go_ret
    exact ⟨rfl, HB0.out.trans (HB.mono HB0.out.size)⟩
  | false =>
    go_wp2_with fail
    refine (dnew_any _).mono ?_
    rintro e w1 ⟨rfl, hb1, hk1⟩
    have HI0 := Lib.hid (⟨hk1.le HB0.out.size, WI.nil _ _, HB0.out.trans (hb1.mono HB0.out.size)⟩ : WhI w w0.heap.size none DS.new none 0 [] [] w1)
    clear hb1 hk1
    go_wp2_with fail
    go_loopg [4, 5, 6] n (fun gk wv kv i wr => ∃ (k : Nat) (want : List (List UInt8)) (A1 : Option Addr) (cw : Nat) (vs : List Value) (r : Option Nat) (s : DS) (keep : Int), k + gk = n ∧ i = .int .i64 k ∧ wv = .slice A1 want.length cw ∧ kv = .int .i64 keep ∧ Hid (JW s want keep) ∧ Hid (WhI w w0.heap.size r s A1 cw want vs wr))
    case atStart => exact ⟨0, [], none, 0, [], none, DS.new, 0, by omega, rfl, rfl, rfl, Lib.hid jw_new, HI0⟩
    case round =>
      obtain ⟨k, want, A1, cw, vs, r, s, keep, hk, rfl, rfl, rfl, HJ, HI⟩ := hrel
      obtain ⟨W, hW⟩ : ∃ W, W = wr := ⟨_, rfl⟩
      subst hW
      cases gk with
      | succ g =>
        have hlt : k < n := by omega
        obtain ⟨x, hx⟩ : ∃ x, xs[k]? = some x := ⟨_, List.getElem?_eq_getElem (by rw [HL.out]; exact hlt)⟩
        have HF0 := Lib.hid (HA.out.row k x hx).1
        obtain ⟨hf, ad, rfl, c0, c1, c2, c3⟩ := (HA.out.below HI.out.bel).row k x hx
        have HF := Lib.hid hf
        clear hf hx
        go_upto_block 2 with fail
        go_cut [4, 5] from 31 to 118 (fun wv kv wx => ∃ (want : List (List UInt8)) (A1 : Option Addr) (cw : Nat) (vs : List Value) (r : Option Nat) (s : DS) (keep : Int), wv = .slice A1 want.length cw ∧ kv = .int .i64 keep ∧ Hid (JW s want keep ∨ JD s want) ∧ Hid (WhI w w0.heap.size r s A1 cw want vs wx))
        case first =>
          have HK := Lib.hid (Blk.new W #[.int .i64 x.d, .slice x.A x.b.length x.c, .slice x.LA x.ls.length x.Lc, .int .i64 x.n] 42)
          have HI2 := Lib.hid (HI.out.below ((Below.refl _ W).alloc (Nat.le_refl _) (.cells #[.int .i64 x.d, .slice x.A x.b.length x.c, .slice x.LA x.ls.length x.Lc, .int .i64 x.n] 42)))
          have hfree := HI.out.free (Nat.le_refl _)
          have HFR := Lib.hid hfree
          clear c0 c1 c2 c3 hfree
          have e0 := HK.out.cell 0 rfl
          have e1 := HK.out.cell 1 rfl
          have e2 := HK.out.cell 2 rfl
          have e3 := HK.out.cell 3 rfl
          have hcap := HF.out.rd.cap
          have hmax := HF.out.rd.max
          unfold maxLen at hmax
          obtain ⟨d, X, cx, b, LA, Lc, ls, lvs, nn⟩ := x
          simp only at *
          have hd1 := HF.out.d1
          have hd2 := HF.out.d2
          by_cases q0 : d = 0
          · subst q0
            go_wp2_with fail
            refine (japp_any _ _ _ _ _ X b.length cx b HI2.out.dk (HF.out.rd.alloc _)).mono ?_
            rintro e w2 ⟨rfl, hS⟩
            have hja := jw_app HJ.out b
            rcases hy : jApp s b with ⟨ea, sa⟩
            rw [hy] at hS hja
            simp only at hS hja ⊢
            obtain ⟨r2, hi2⟩ := HI2.out.step hS
            have HI3 := Lib.hid hi2
            have HK3 := Lib.hid (HK.out.only hS.only HFR.out)
            have e1 := HK3.out.cell 1 rfl
            have HHS := Lib.hid hS
            clear hi2 hy hS e0 e2 e3
            rcases hja with ⟨rfl, hj⟩ | ⟨he, he6, hj⟩ | ⟨rfl, hx5, hj⟩
            · have HJ3 := Lib.hid hj
              have HFEW := Lib.hid (HI.out.few (.inl HJ.out))
              clear hj
              go_wp2_with (at_builtin; refine app_bsO rfl (.tmp 55) (.tmp 58) rfl w.heap.size A1 cw want.length vs rfl (HI3.out.wi.own.alloc _) _ 1 1 [.slice X b.length cx] rfl (Rd.lit w2 1 1 #[.slice X b.length cx] _ _ rfl (by simp [maxLen])) (sl_one _ _ _) (by have := HFEW.out; omega) (by rw [World.size_alloc]; have := HI3.out.bel.size; omega) ?_; intro A3 c3 w3 ho3 hg3 hat3; have HI4 := Lib.hid (HI3.out.app HF0.out.rd ho3 hg3); clear ho3 hg3 hat3)
              go_meet
              case rel => exact ⟨want ++ [b], _, _, _, _, _, _, by rw [List.length_append]; rfl, rfl, Lib.hid (.inl HJ3.out), HI4⟩
            · have HJ3 := Lib.hid hj
              have g1 : (ea == 0) = false := by simpa using he
              have g2 : (ea == 60) = false := by simpa using he6
              clear hj he he6
              go_wp2_with fail
              go_meet
              case rel => exact ⟨_, _, _, _, _, _, _, rfl, rfl, Lib.hid (.inl HJ3.out), HI3⟩
            · by_cases hkp : (b.length : Int) + 4 ≤ keep
              · rw [if_pos hkp] at hj
                have HJ3 := Lib.hid hj
                have HFEW := Lib.hid (HI.out.few (.inl HJ.out))
                clear hj
                go_wp2_with (at_builtin; refine app_bsO rfl (.tmp 55) (.tmp 58) rfl w.heap.size A1 cw want.length vs rfl (HI3.out.wi.own.alloc _) _ 1 1 [.slice X b.length cx] rfl (Rd.lit w2 1 1 #[.slice X b.length cx] _ _ rfl (by simp [maxLen])) (sl_one _ _ _) (by have := HFEW.out; omega) (by rw [World.size_alloc]; have := HI3.out.bel.size; omega) ?_; intro A3 c3 w3 ho3 hg3 hat3; have HI4 := Lib.hid (HI3.out.app HF0.out.rd ho3 hg3); clear ho3 hg3 hat3)
                go_meet
                case rel => exact ⟨want ++ [b], _, _, _, _, _, _, by rw [List.length_append]; rfl, rfl, Lib.hid (.inr HJ3.out), HI4⟩
              · rw [if_neg hkp] at hj
                have HJ3 := Lib.hid hj
                clear hj
                go_wp2_with fail
                go_meet
                case rel => exact ⟨_, _, _, _, _, _, _, rfl, rfl, Lib.hid (.inr HJ3.out), HI3⟩
          · by_cases q1 : d = 1
            · subst q1
              go_wp2_with fail
              refine (jsnap_any _ _ _ _ _ _ LA ls.length Lc ls lvs HI2.out.dk (HF.out.bb.below ((Below.refl _ W).alloc (Nat.le_refl _) _))).mono ?_
              rintro e w2 ⟨rfl, hS⟩
              have hja := jw_snap HJ.out ls
              rcases hy : jSnap s ls with ⟨ea, sa⟩
              rw [hy] at hS hja
              simp only at hS hja ⊢
              obtain ⟨r2, hi2⟩ := HI2.out.step hS
              have HI3 := Lib.hid hi2
              have HK3 := Lib.hid (HK.out.only hS.only HFR.out)
              have e2 := HK3.out.cell 2 rfl
              clear hi2 hy hS e0 e1 e3
              rcases hja with ⟨rfl, hls, hj⟩ | ⟨he, hj⟩
              · have HJ3 := Lib.hid hj
                have HO0 := Lib.hid (Ow.of_own (World.ownsRow_lit (base := w2.heap.size) (e := 22) (size := 1) w2 #[] 0 (Nat.le_refl _) (by simp [maxLen]) rfl))
                have HBB := Lib.hid (HF0.out.bb.below (HI3.out.bel))
                have hbl2 := HK3.out.lt
                clear hj
                go_wp2_with (at_builtin; refine app_bsO rfl (.tmp 67) (.tmp 69) rfl w2.heap.size _ 0 0 [] rfl HO0.out LA ls.length Lc lvs rfl (HBB.out.rd.alloc _) HBB.out.one (by omega) (by simp) ?_; intro A3 c3 w3 ho3 hg3 hat3; have HB3 : Hid (Below w2.heap.size w2 w3) := Lib.hid (((Below.refl _ w2).alloc (Nat.le_refl _) _).grown hg3 (by simp) (fun g e => (by injection e with e; exact Nat.le_of_eq e))); have HO3 : Hid (Ow w3 w2.heap.size 22 1 A3 ls.length c3 lvs) := Lib.hid (by simpa using ho3); clear ho3 hg3 hat3)
                try rw [Nat.zero_add]
                go_meet
                case rel => exact ⟨ls, _, _, _, _, _, _, rfl, rfl, Lib.hid (.inl HJ3.out), Lib.hid (HI3.out.snap HF0.out.bb HO3.out HB3.out)⟩
              · have HJ3 := Lib.hid hj
                have g1 : (ea == 0) = false := by simpa using he
                clear hj he
                go_wp2_with fail
                go_meet
                case rel => exact ⟨_, _, _, _, _, _, _, rfl, rfl, Lib.hid HJ3.out, HI3⟩
            · by_cases q2 : d = 2
              · subst q2
                go_wp2_with fail
                refine (darm_any _ _ _ _ _ nn HF.out.n2 HI2.out.dk).mono ?_
                rintro e w2 ⟨rfl, hS⟩
                have hja := jw_arm HJ.out nn
                rcases hy : dArm s nn with ⟨ea, sa⟩
                rw [hy] at hS hja
                simp only at hS hja ⊢
                obtain ⟨r2, hi2⟩ := HI2.out.step hS
                have HI3 := Lib.hid hi2
                have HK3 := Lib.hid (HK.out.only hS.only HFR.out)
                have e3 := HK3.out.cell 3 rfl
                clear hi2 hy hS e0 e1 e2
                rcases hja with ⟨rfl, hj⟩ | ⟨he, hj⟩
                · have HJ3 := Lib.hid hj
                  clear hj
                  go_wp2_with fail
                  go_meet
                  case rel => exact ⟨_, _, _, _, _, _, _, rfl, rfl, Lib.hid (.inl HJ3.out), HI3⟩
                · have HJ3 := Lib.hid hj
                  have g1 : (ea == 0) = false := by simpa using he
                  clear hj he
                  go_wp2_with fail
                  go_meet
                  case rel => exact ⟨_, _, _, _, _, _, _, rfl, rfl, Lib.hid (.inl HJ3.out), HI3⟩
              · have g0 : (d == 0) = false := by simpa using q0
                have g1 : (d == 1) = false := by simpa using q1
                have g2 : (d == 2) = false := by simpa using q2
                clear q0 q1 q2 e1 e2 e3
                go_wp2_with fail
                refine (dcrash_any _ _ _ _ _ HI2.out.dk).mono ?_
                rintro e w2 ⟨rfl, hS⟩
                obtain ⟨r2, hi2⟩ := HI2.out.step hS
                have HI3 := Lib.hid hi2
                have HJ3 := Lib.hid (jw_crash HJ.out)
                clear hi2 hS
                generalize (dCrash s).1 = ea
                go_wp2_with fail
                go_meet
                case rel => exact ⟨_, _, _, _, _, _, _, rfl, rfl, Lib.hid (.inr HJ3.out), HI3⟩
        case rest =>
          obtain ⟨want', A1', cw', vs', r', s', keep', rfl, rfl, HJ', HI'⟩ := hcut
          rcases HJ'.out with hj | hj
          · have HU := Lib.hid hj.up
            have HJ2 := Lib.hid hj
            clear hj HJ'
            go_wp2_with fail
            refine (ddown_any _ _ _ _ _ HI'.out.dk).mono ?_
            rintro e w2 ⟨rfl, rfl⟩
            rw [HU.out]
            go_wp2_with fail
            go_roundg g
            case rel => exact ⟨k + 1, _, _, _, _, _, _, _, by omega, by go_num, rfl, rfl, HJ2, HI'⟩
            case measure => omega
          · obtain ⟨s1, s2, hu, hu1, hl1, ho1, hj2, hl2, hz2, ho2⟩ := jd_open hj keep'
            have HDN := Lib.hid hj.dn
            have HU := Lib.hid hu
            have HU1 := Lib.hid hu1
            have HL1 := Lib.hid hl1
            have HO1 := Lib.hid ho1
            have HJ2 := Lib.hid hj2
            have HL2 := Lib.hid hl2
            have HZ2 := Lib.hid hz2
            have HO2 := Lib.hid ho2
            have HUP2 := Lib.hid hj2.up
            clear hj hu hu1 hl1 ho1 hj2 hl2 hz2 ho2 HJ'
            go_wp2_with fail
            refine (ddown_any _ _ _ _ _ HI'.out.dk).mono ?_
            rintro e w2 ⟨rfl, rfl⟩
            rw [HDN.out]
            go_wp2_with fail
            refine (dup_any _ _ _ _ _ HI'.out.dk).mono ?_
            rintro e w2 ⟨rfl, hS⟩
            rw [HU.out] at hS
            obtain ⟨r2, hi2⟩ := HI'.out.step hS
            have HI2 := Lib.hid hi2
            clear hi2 hS
            generalize (dUp s').1 = eu
            go_wp2_with fail
            refine (jopen_any _ _ _ _ _ HI2.out.dk).mono ?_
            rintro e w3 ⟨hS, -, hg, -⟩
            rw [HO1.out] at hS hg
            rw [HL1.out] at hg
            obtain ⟨A3, c3, vs3, rfl, hbb⟩ := hg rfl
            obtain ⟨r3, hi3⟩ := HI2.out.step hS
            have HI3 := Lib.hid hi3
            have HB3 := Lib.hid hbb
            clear hi3 hS hg hbb
            go_wp2_with fail
            refine (jopen_any _ _ _ _ _ HI3.out.dk).mono ?_
            rintro e w4 ⟨hS, -, hg, hbel⟩
            have HB34 := Lib.hid (hbel HUP2.out (by rw [HL2.out]; exact HZ2.out))
            rw [HO2.out] at hS hg
            rw [HL2.out, HZ2.out] at hg
            obtain ⟨A4, c4, vs4, rfl, hbb⟩ := hg rfl
            obtain ⟨r4, hi4⟩ := HI3.out.step hS
            have HI4 := Lib.hid hi4
            have HB4 := Lib.hid hbb
            have HB3' := Lib.hid (HB3.out.below HB34.out)
            clear hi4 hS hg hbb hbel
            generalize ((s1.b.length : Int) - (szs want' : Int)) = t1
            rw [Int.sub_self]
            go_wp2_with fail
            refine (same_any _ _ _ _ _ _ _ _ _ _ _ HB3'.out (HI4.out.wi.bb HI4.out.bel)).mono ?_
            rintro e w5 ⟨rfl, k5, rfl⟩
            go_wp2_with fail
            refine (same_any _ _ _ _ _ _ _ _ _ _ _ (HB4.out.drewN k5) ((HI4.out.wi.bb HI4.out.bel).drewN k5)).mono ?_
            rintro e w6 ⟨rfl, k6, rfl⟩
            go_wp2_with fail
            go_roundg g
            case rel => exact ⟨k + 1, _, _, _, _, _, _, _, by omega, by go_num, rfl, rfl, HJ2, Lib.hid (HI4.out.below (below_drewN (Below.refl _ w4) _))⟩
            case measure => omega
      | zero =>
        have hlt : ¬ (k : Int) < (n : Int) := by omega
        go_wp2_with fail
        refine (jrows_any _ _ _ _ _ HI.out.dk).mono ?_
        have hup := HJ.out.up
        have hfl : loads (fileL s) = want := by rw [fileL_loads, if_neg (by rw [hup]; simp), HJ.out.b, loads_frs' HJ.out.ok]
        have hds : dstate s = 0 := by unfold dstate; rw [if_neg (by rw [hup]; simp)]
        rintro e w3 ⟨hb3, A3, c3, vs3, rfl, hbb⟩
        rw [hfl] at hbb ⊢
        rw [hds]
        have HB3 := Lib.hid hb3
        have HBB := Lib.hid hbb
        have HI3 := Lib.hid (HI.out.below hb3)
        clear hup hfl hds hb3 hbb
        go_wp2_with fail
        refine (same_any _ _ _ _ _ _ _ _ _ _ _ HBB.out (HI3.out.wi.bb HI3.out.bel)).mono ?_
        rintro e w5 ⟨rfl, k5, rfl⟩
        go_wp2_with (go_at_call 7; refine (wakes_any _).mono ?_; rintro e w6 ⟨rfl, HB⟩)
        go_ret
        have hb5 := below_drewN HI3.out.bel k5
        exact ⟨rfl, hb5.trans (HB.mono hb5.size)⟩
end Go.Proofs.Ytckofpdhcpabnaa
