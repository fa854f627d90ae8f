/- The reference's disk: Append, Swap, Cut, Copy. -/
import Derived.Test.YthbdhilkdamppaaDskRef
import Derived.Deep.RegionHeld3
namespace Go.Proofs.Ythbdhilkdamppaa
open Go.RowKit
set_option linter.unusedVariables false
set_option linter.unusedSimpArgs false

theorem DStep.drewN0 {t : TypeId} {B q : Nat} {r : Option Nat} {s : DS} {W : World} (h : Dk t B W q r s) : DStep t B q r s W W := (DAns.drewN (x := 0) (j := 0) h rfl).2
/-- two steps of one disk -/
theorem DStep.trans {t : TypeId} {B q : Nat} {r r1 : Option Nat} {s2 : DS} {W W1 W2 : World} (hq : q < W.heap.size) (h1 : Only (fun k => k = q ∨ some k = r) W W1) (hr : ∀ g, r1 = some g → r = some g ∨ W.heap.size ≤ g) (h2 : DStep t B q r1 s2 W1 W2) : DStep t B q r s2 W W2 := by
  obtain ⟨⟨r2, hk, hr2⟩, ho⟩ := h2
  refine ⟨⟨r2, hk, fun g hg => ?_⟩, h1.trans ho (fun i hi h => ?_)⟩
  · rcases hr2 g hg with h | h
    · exact hr g h
    · exact .inr (Nat.le_trans h1.size h)
  · rcases h with rfl | h
    · exact .inl rfl
    · rcases hr i h.symm with h | h
      · exact .inr h.symm
      · omega

theorem dk_app' {t : TypeId} {B : Nat} {w w1 : World} {q c c' : Nat} {s : DS} {A A' : Option Addr} {y : List UInt8} {m : Nat} (hb : Blk w q #[.slice A s.b.length c, .bool s.down, .bool s.armed, .int .i64 (s.keep : Nat)] t) (how : Ow w B 5 1 A s.b.length c (bv s.b)) (ht : t ≠ 5)
    (hq : B ≤ q) (hk : s.keep ≤ 9223372036854775807) (ho : Ow w1 B 5 1 A' (s.b.length + m) c' (bv (s.b ++ y))) (hg : w.grownBy w1 (blk A)) (hA : A' = A ∨ A' = some ⟨w.heap.size, 0, none⟩) (hl : s.b.length + m ≤ 1048576) :
    DStep t B q (blk A) { s with b := s.b ++ y } w (w1.setCell ⟨q, 0, none⟩ (.slice A' (s.b.length + m) c')) :=
  dk_app hb how ht hq hk ho ⟨hg.os, hg.tape, hg.output, hg.size, hg.block⟩ hA hl
set_option maxHeartbeats 2000000 in
theorem rappend_any (B : Nat) (w : World) (q : Nat) (r : Option Nat) (s : DS) (X : Option Addr) (m cx : Nat) (x : List UInt8) (h : Dk 49 B w q r s) (hr : Rd w 1 X m cx (bv x)) (hsep : ∀ ad, X = some ad → 0 < m → ad.block ≠ q) :
    Calls Try.prog 39 #[.pointer (some ⟨q, 0, none⟩), .slice X m cx] w (DAns 49 B q r (dAppend s x) w) := by
  have hst := no_any B q r s w h
  have hq := h.q
  have hl := h.len
  have hk := h.keep
  have hlt := h.lt.1
  have hc := hr.cap
  have hmx := hr.max
  unfold maxLen at hmx
  have HX := Lib.hid hr.blen
  have HD := Lib.hid h
  have HR := Lib.hid hr
  obtain ⟨A, c, hb, how, rfl⟩ := h.blk
  have c0 := hb.cell 0 rfl
  have c3 := hb.cell 3 rfl
  have f0 := hb.frozen 0
  have HB := Lib.hid hb
  have HO := Lib.hid how
  cases hd : s.down with
  | true =>
    rw [show dAppend s x = (60, s) from by unfold dAppend; rw [if_pos hd]]
    rw [show dstate s = 60 from by unfold dstate; rw [if_pos hd]] at hst
    have HST := Lib.hid hst
    clear hd h hst hb how hr c0 c3 f0
    go_enter Try.func39, Try.ntmps39
    go_wp2_with fail
    refine HST.out.mono ?_
    rintro e w' ⟨rfl, rfl⟩
    go_wp2_with fail
    go_ret
    exact DAns.drewN (j := 0) HD.out rfl
  | false =>
    have hnd : ¬ s.down = true := by rw [hd]; decide
    rw [show dstate s = 0 from by unfold dstate; rw [if_neg hnd]] at hst
    have HST := Lib.hid hst
    by_cases hlong : 1048576 < s.b.length + x.length
    · rw [show dAppend s x = (3, s) from by unfold dAppend; rw [if_neg hnd, if_pos hlong]]
      rw [HX.out] at hlong
      clear hd h hst hb how hr hnd
      by_cases hm : 1048576 < m
      · go_enter Try.func39, Try.ntmps39
        go_wp2_with fail
        refine HST.out.mono ?_
        rintro e w' ⟨rfl, rfl⟩
        go_wp2_with fail
        go_ret
        exact DAns.drewN (j := 0) HD.out rfl
      · go_enter Try.func39, Try.ntmps39
        go_wp2_with fail
        refine HST.out.mono ?_
        rintro e w' ⟨rfl, rfl⟩
        go_wp2_with fail
        go_ret
        exact DAns.drewN (j := 0) HD.out rfl
    · cases ha : s.armed with
      | true =>
        rw [show dAppend s x = (60, { s with b := s.b ++ x.take s.keep, armed := false, down := true }) from by unfold dAppend; rw [if_neg hnd, if_neg hlong, if_pos ha]]
        rw [HX.out] at hlong
        have hty := Lib.hid (torn_yes B q _ s w HD.out ha)
        obtain ⟨hb1, ho1, hon1⟩ := torn_step hb how (by decide)
        have hr1 : Rd ((w.setCell ⟨q, 2, none⟩ (.bool false)).setCell ⟨q, 1, none⟩ (.bool true)) 1 X m cx (bv x) := hr.only hon1 (fun ad e h0 h1 => hsep ad e h0 h1)
        have hsl : ∀ (W : World) (k : Nat), k ≤ m → Rd W 1 X m cx (bv x) → Rd W 1 X k cx (bv (x.take k)) := fun W k hkm hW => by
          have := hW.bcut (k := 0) (m := k) (x := cx) (Nat.zero_le _) hkm (by omega) (Nat.le_refl _)
          simp only [Nat.sub_zero, List.drop_zero, Nat.zero_mul] at this
          by_cases hk0 : cx = 0
          · rw [if_pos hk0] at this; exact this
          · rw [if_neg hk0] at this
            have ha : X.map (·.add 0) = X := by cases X <;> simp [Addr.add]
            rwa [ha] at this
        obtain ⟨W1, hW1⟩ : ∃ W1, (w.setCell ⟨q, 2, none⟩ (.bool false)).setCell ⟨q, 1, none⟩ (.bool true) = W1 := ⟨_, rfl⟩
        rw [hW1] at hb1 ho1 hon1 hr1
        have HW1 := Lib.hid hW1
        have HSL := Lib.hid hsl
        have HB1 := Lib.hid hb1
        have HO1 := Lib.hid ho1
        have HR1 := Lib.hid hr1
        have e0 := hb1.cell 0 rfl
        have g0 := hb1.frozen 0
        have hne1 := ho1.ne_blk hb1 (by decide)
        have hBs : B ≤ W1.heap.size := Nat.le_trans hq (Nat.le_of_lt hb1.lt)
        clear hd h hst hb how hr hnd hsl hW1 hb1 ho1 hr1
        by_cases hsm : m < s.keep
        · have hX : x.take s.keep = x.take m := by rw [← HX.out, List.take_length, List.take_of_length_le (by rw [HX.out]; omega)]
          rw [hX]
          clear hX
          go_enter Try.func39, Try.ntmps39
          go_wp2_with fail
          refine HST.out.mono ?_
          rintro e w' ⟨rfl, rfl⟩
          go_wp2_with fail
          refine hty.out.mono ?_
          rintro e w1 ⟨rfl, rfl⟩
          rw [HW1.out]
          go_wp2_with fail
          go_region_law ((refine step_u8 rfl (.tmp 39) (.tmp 42) rfl B A c s.b.length s.b (by simp [Act.eval, Act.put]) HO1.out.drew X m cx (x.take m) (by simp [Act.eval, Act.put]) (HSL.out W1 m (Nat.le_refl _) HR1.out).drew (by omega) hBs ?_; intro A2 c2 w2 ho2 hg2 hat2; have hb2 := HB1.out.drew.grown hg2 hne1; have c02 := hb2.cell 0 rfl; have f02 := hb2.frozen 0; have HO2 := Lib.hid ho2; have HG2 := Lib.hid hg2; have HA2 := Lib.hid hat2; clear ho2 hg2 hat2 hb2))
          all_goals
            go_wp2_with fail
            go_ret
            exact ⟨rfl, DStep.trans hlt (hon1.mono (fun i _ h => .inl h)) (fun g hg => .inl hg) (dk_app (s := { s with armed := false, down := true }) HB1.out HO1.out (by decide) hq hk HO2.out HG2.out HA2.out (by simp only; omega))⟩
        · have hkm : s.keep ≤ m := by omega
          go_enter Try.func39, Try.ntmps39
          go_wp2_with fail
          refine HST.out.mono ?_
          rintro e w' ⟨rfl, rfl⟩
          go_wp2_with fail
          refine hty.out.mono ?_
          rintro e w1 ⟨rfl, rfl⟩
          rw [HW1.out]
          have hkc : s.keep ≤ cx := by omega
          go_wp2_with fail
          go_region_law ((refine step_u8 rfl (.tmp 39) (.tmp 42) rfl B A c s.b.length s.b (by simp [Act.eval, Act.put]) HO1.out.drew X s.keep cx (x.take s.keep) (by simp [Act.eval, Act.put]) (HSL.out W1 s.keep hkm HR1.out).drew (by omega) hBs ?_; intro A2 c2 w2 ho2 hg2 hat2; have hb2 := HB1.out.drew.grown hg2 hne1; have c02 := hb2.cell 0 rfl; have f02 := hb2.frozen 0; have HO2 := Lib.hid ho2; have HG2 := Lib.hid hg2; have HA2 := Lib.hid hat2; clear ho2 hg2 hat2 hb2))
          all_goals
            go_wp2_with fail
            go_ret
            exact ⟨rfl, DStep.trans hlt (hon1.mono (fun i _ h => .inl h)) (fun g hg => .inl hg) (dk_app (s := { s with armed := false, down := true }) HB1.out HO1.out (by decide) hq hk HO2.out HG2.out HA2.out (by simp only; omega))⟩
      | false =>
        rw [show dAppend s x = (0, { s with b := s.b ++ x }) from by unfold dAppend; rw [if_neg hnd, if_neg hlong, if_neg (by rw [ha]; decide)]]
        rw [HX.out] at hlong
        have hty := Lib.hid (torn_no B q _ s w HD.out ha)
        have hne1 := how.ne_blk hb (by decide)
        have hBs : B ≤ w.heap.size := Nat.le_trans hq (Nat.le_of_lt hb.lt)
        clear hd h hst hb how hr hnd ha
        by_cases hsm : m < s.keep
        all_goals
          go_enter Try.func39, Try.ntmps39
          go_wp2_with fail
          refine HST.out.mono ?_
          rintro e w' ⟨rfl, rfl⟩
          go_wp2_with fail
          refine hty.out.mono ?_
          rintro e w' ⟨rfl, rfl⟩
          go_wp2_with (at_builtin; refine app_u8o rfl (.tmp 50) (.tmp 51) rfl B A c s.b.length s.b rfl HO.out X m cx x rfl HR.out (by omega) hBs ?_; intro A2 c2 w2 ho2 hg2 hat2; have hb2 := HB.out.grown hg2 hne1; have c02 := hb2.cell 0 rfl; have f02 := hb2.frozen 0; have HO2 := Lib.hid ho2; have HG2 := Lib.hid hg2; have HA2 := Lib.hid hat2; clear ho2 hg2 hat2 hb2)
          go_ret
          exact ⟨rfl, dk_app' HB.out HO.out (by decide) hq hk HO2.out HG2.out HA2.out (by omega)⟩
end Go.Proofs.Ythbdhilkdamppaa
