/- The disk's other operations: Arm, Crash, Up, Bytes, Down, Len, Copy, New; no disk. -/
import Derived.Test.YtckofpdhcpabnaaDskAll
namespace Go.Proofs.Ytckofpdhcpabnaa
open Go.RowKit
set_option linter.unusedVariables false
set_option linter.unusedSimpArgs false

theorem DStep.below {t : TypeId} {B q : Nat} {r : Option Nat} {s s' : DS} {W W' : World} (h : DStep t B q r s' W W') (hk : Dk t B W q r s) : Below B W W' := by
  have hl := hk.lt
  have hq := hk.q
  exact h.only.below (by omega) (fun i hi => by rcases hi with rfl | hi; · exact hq
                                                exact (hl.2 i hi.symm).1)

theorem dk_flags {t : TypeId} {B : Nat} {w : World} {q c i1 i2 : Nat} {v1 v2 : Value} {s s' : DS} {A : Option Addr} (hb : Blk w q #[.slice A s.b.length c, .bool s.down, .bool s.armed, .int .i64 (s.keep : Nat)] t) (how : Ow w B 5 1 A s.b.length c (bv s.b)) (ht : t ≠ 5)
    (hq : B ≤ q) (hk : s'.keep ≤ 9223372036854775807) (hl : s.b.length ≤ 1048576) (hsb : s'.b = s.b)
    (hs : ((#[.slice A s.b.length c, .bool s.down, .bool s.armed, .int .i64 (s.keep : Nat)] : Array Value).setIfInBounds i1 v1).setIfInBounds i2 v2 = #[.slice A s.b.length c, .bool s'.down, .bool s'.armed, .int .i64 (s'.keep : Nat)]) :
    DStep t B q (blk A) s' w ((w.setCell ⟨q, i1, none⟩ v1).setCell ⟨q, i2, none⟩ v2) := by
  have hne := how.ne_blk hb ht
  refine ⟨⟨blk A, ⟨⟨A, c, ?_, ?_, rfl⟩, hq, by rw [hsb]; exact hl, hk⟩, fun g hg => .inl hg⟩, ((Only.refl _ _).setCell _ _ (fun _ => .inl rfl)).setCell _ _ (fun _ => .inl rfl)⟩
  · rw [hsb]; exact ((hb.set i1 v1).set i2 v2).eq hs
  · rw [hsb]; exact (how.setOther _ _ hne).setOther _ _ hne

theorem darm_any (B : Nat) (w : World) (q : Nat) (r : Option Nat) (s : DS) (n : Int) (hn2 : n ≤ 9223372036854775807) (h : Dk 52 B w q r s) :
    Calls Try.prog 16 #[.pointer (some ⟨q, 0, none⟩), .int .i64 n] w (DAns 52 B q r (dArm s n) w) := by
  have hst := state_any B q r s w h
  have hq := h.q
  have hl := h.len
  have hk := h.keep
  have HD := Lib.hid h
  obtain ⟨A, c, hb, how, rfl⟩ := h.blk
  cases hd : s.down with
  | true =>
    rw [show dArm s n = (60, s) from by unfold dArm; rw [if_pos hd]]
    rw [show dstate s = 60 from by unfold dstate; rw [if_pos hd]] at hst
    have HST := Lib.hid hst
    clear hd h hst hb how
    go_enter Try.func16, Try.ntmps16
    go_wp2_with fail
    refine HST.out.mono ?_
    rintro e w' ⟨rfl, rfl⟩
    go_wp2_with fail
    go_ret
    exact DAns.drewN (j := 0) HD.out rfl
  | false =>
    have hnd : ¬ s.down = true := by rw [hd]; decide
    rw [show dstate s = 0 from by unfold dstate; rw [if_neg hnd]] at hst
    by_cases hn : n < 0
    · rw [show dArm s n = (2, s) from by unfold dArm; rw [if_neg hnd, if_pos hn]]
      have HST := Lib.hid hst
      clear hd h hst hb how hnd
      go_enter Try.func16, Try.ntmps16
      go_wp2_with fail
      refine HST.out.mono ?_
      rintro e w' ⟨rfl, rfl⟩
      go_wp2_with (go_at_call 39; refine (check_any _ _ _).mono ?_; rintro e w' ⟨rfl, rfl⟩)
      go_ret
      exact DAns.drewN (j := 0) HD.out rfl
    · rw [show dArm s n = (0, { s with armed := true, keep := n.toNat }) from by unfold dArm; rw [if_neg hnd, if_neg hn]]
      have c2 := hb.cell 2 rfl
      have c3 := hb.cell 3 rfl
      have f2 := hb.frozen 2
      have f3 := hb.frozen 3
      have HST := Lib.hid hst
      have HB := Lib.hid hb
      have HO := Lib.hid how
      have HE := Lib.hid (show n = (n.toNat : Int) by omega)
      clear hd h hst hb how hnd
      go_enter Try.func16, Try.ntmps16
      go_wp2_with fail
      refine HST.out.mono ?_
      rintro e w' ⟨rfl, rfl⟩
      go_wp2_with (go_at_call 39; refine (check_any _ _ _).mono ?_; rintro e w' ⟨rfl, rfl⟩)
      go_ret
      refine ⟨rfl, dk_flags HB.out HO.out (by decide) hq (by simp only; omega) hl rfl ?_⟩
      simp [← HE.out]

theorem dcrash_any (B : Nat) (w : World) (q : Nat) (r : Option Nat) (s : DS) (h : Dk 52 B w q r s) :
    Calls Try.prog 17 #[.pointer (some ⟨q, 0, none⟩)] w (DAns 52 B q r (dCrash s) w) := by
  have hst := state_any B q r s w h
  have hq := h.q
  have hl := h.len
  have hk := h.keep
  have HD := Lib.hid h
  obtain ⟨A, c, hb, how, rfl⟩ := h.blk
  cases hd : s.down with
  | true =>
    rw [show dCrash s = (60, s) from by unfold dCrash; rw [if_pos hd]]
    rw [show dstate s = 60 from by unfold dstate; rw [if_pos hd]] at hst
    have HST := Lib.hid hst
    clear hd h hst hb how
    go_enter Try.func17, Try.ntmps17
    go_wp2_with fail
    refine HST.out.mono ?_
    rintro e w' ⟨rfl, rfl⟩
    go_wp2_with fail
    go_ret
    exact DAns.drewN (j := 0) HD.out rfl
  | false =>
    have hnd : ¬ s.down = true := by rw [hd]; decide
    rw [show dstate s = 0 from by unfold dstate; rw [if_neg hnd]] at hst
    rw [show dCrash s = (0, { s with armed := false, down := true }) from by unfold dCrash; rw [if_neg hnd]]
    have c1 := hb.cell 1 rfl
    have c2 := hb.cell 2 rfl
    have f1 := hb.frozen 1
    have f2 := hb.frozen 2
    have HST := Lib.hid hst
    have HB := Lib.hid hb
    have HO := Lib.hid how
    clear hd h hst hb how hnd
    go_enter Try.func17, Try.ntmps17
    go_wp2_with fail
    refine HST.out.mono ?_
    rintro e w' ⟨rfl, rfl⟩
    go_wp2_with fail
    go_ret
    refine ⟨rfl, dk_flags HB.out HO.out (by decide) hq hk hl rfl ?_⟩
    simp

theorem dup_any (B : Nat) (w : World) (q : Nat) (r : Option Nat) (s : DS) (h : Dk 52 B w q r s) :
    Calls Try.prog 19 #[.pointer (some ⟨q, 0, none⟩)] w (DAns 52 B q r (dUp s) w) := by
  have hst := state_any B q r s w h
  have hq := h.q
  have hl := h.len
  have hk := h.keep
  have HD := Lib.hid h
  obtain ⟨A, c, hb, how, rfl⟩ := h.blk
  cases hd : s.down with
  | true =>
    rw [show dUp s = (0, { s with down := false }) from by unfold dUp; rw [if_pos hd]]
    rw [show dstate s = 60 from by unfold dstate; rw [if_pos hd]] at hst
    have c1 := hb.cell 1 rfl
    have f1 := hb.frozen 1
    have HST := Lib.hid hst
    have HB := Lib.hid hb
    have HO := Lib.hid how
    clear hd h hst hb how
    go_enter Try.func19, Try.ntmps19
    go_wp2_with fail
    refine HST.out.mono ?_
    rintro e w' ⟨rfl, rfl⟩
    go_wp2_with fail
    go_ret
    have hne := HO.out.ne_blk HB.out (by decide)
    exact ⟨rfl, ⟨⟨blk A, ⟨⟨A, c, (HB.out.set 1 _).eq (by simp), HO.out.setOther _ _ hne, rfl⟩, hq, hl, hk⟩, fun g hg => .inl hg⟩, (Only.refl _ _).setCell _ _ (fun _ => .inl rfl)⟩⟩
  | false =>
    have hnd : ¬ s.down = true := by rw [hd]; decide
    rw [show dstate s = 0 from by unfold dstate; rw [if_neg hnd]] at hst
    rw [show dUp s = (2, s) from by unfold dUp; rw [if_neg hnd]]
    have HST := Lib.hid hst
    clear hd h hst hb how hnd
    go_enter Try.func19, Try.ntmps19
    go_wp2_with fail
    refine HST.out.mono ?_
    rintro e w' ⟨rfl, rfl⟩
    go_wp2_with fail
    go_ret
    exact DAns.drewN (j := 0) HD.out rfl

/-- what Bytes answers -/
def BytesP (s : DS) (w : World) (e : Ending) (w' : World) : Prop :=
  Below w.heap.size w w' ∧ (s.down = true → e = .returned (.tuple #[.slice none 0 0, .int .i64 60])) ∧
  (s.down = false → ∃ A c, e = .returned (.tuple #[.slice A s.b.length c, .int .i64 0]) ∧ Ow w' w.heap.size 5 1 A s.b.length c (bv s.b))
theorem dbytes_any (B : Nat) (w : World) (q : Nat) (r : Option Nat) (s : DS) (h : Dk 52 B w q r s) :
    Calls Try.prog 11 #[.pointer (some ⟨q, 0, none⟩)] w (BytesP s w) := by
  have hst := state_any B q r s w h
  have hl := h.len
  obtain ⟨A, c, hb, how, rfl⟩ := h.blk
  cases hd : s.down with
  | true =>
    rw [show dstate s = 60 from by unfold dstate; rw [if_pos hd]] at hst
    have HST := Lib.hid hst
    have HD := Lib.hid hd
    clear hd h hst hb how
    go_enter Try.func11, Try.ntmps11
    go_wp2_with fail
    refine HST.out.mono ?_
    rintro e w' ⟨rfl, rfl⟩
    go_wp2_with fail
    go_ret2
    exact ⟨Below.refl _ _, fun _ => rfl, fun h => (by rw [HD.out] at h; cases h)⟩
  | false =>
    rw [show dstate s = 0 from by unfold dstate; rw [if_neg (by rw [hd]; decide)]] at hst
    have c0 := hb.cell 0 rfl
    have HST := Lib.hid hst
    have HO := Lib.hid how
    have HD := Lib.hid hd
    clear hd h hst hb how
    go_enter Try.func11, Try.ntmps11
    go_wp2_with fail
    refine HST.out.mono ?_
    rintro e w' ⟨rfl, rfl⟩
    go_wp2_with fail
    refine (copied_any _ _ _ _ _ HO.out.rd (by omega)).mono ?_
    rintro e w1 ⟨A1, c1, rfl, ho1, hb1⟩
    have HO1 := Lib.hid ho1
    have HB1 := Lib.hid hb1
    clear ho1 hb1
    go_wp2_with fail
    go_ret2
    exact ⟨HB1.out, fun h => (by rw [HD.out] at h; cases h), fun _ => ⟨A1, c1, rfl, HO1.out⟩⟩
theorem ddown_any (B : Nat) (w : World) (q : Nat) (r : Option Nat) (s : DS) (h : Dk 52 B w q r s) :
    Calls Try.prog 18 #[.pointer (some ⟨q, 0, none⟩)] w fun e w' => e = .returned (.bool s.down) ∧ w = w' := by
  have hst := state_any B q r s w h
  have hs : (dstate s != 0) = s.down := by unfold dstate; cases s.down <;> rfl
  have HST := Lib.hid hst
  clear h hst
  go_enter Try.func18, Try.ntmps18
  go_wp2_with fail
  refine HST.out.mono ?_
  rintro e w' ⟨rfl, rfl⟩
  go_wp2_with fail
  go_ret
  exact ⟨rfl, rfl⟩
theorem dnew_any (w : World) :
    Calls Try.prog 8 #[] w fun e w' => e = .returned (.pointer (some ⟨w.heap.size, 0, none⟩)) ∧ Below w.heap.size w w' ∧ Dk 52 w.heap.size w' w.heap.size none DS.new := by
  go_enter Try.func8, Try.ntmps8
  go_wp2_with fail
  go_ret
  exact ⟨rfl, (Below.refl _ w).alloc (Nat.le_refl _) _, ⟨⟨none, 0, Blk.new w _ _, Ow.nil _ _ _ _, rfl⟩, Nat.le_refl _, by simp [DS.new], by simp [DS.new]⟩⟩

/-- a copy: a disk alike in new memory -/
def CopyD (t : TypeId) (s : DS) (w : World) (e : Ending) (w' : World) : Prop :=
  ∃ q' r', e = .returned (.pointer (some ⟨q', 0, none⟩)) ∧ Below w.heap.size w w' ∧ Dk t w.heap.size w' q' r' s
theorem deed_nil (w : World) (v1 v2 v3 : Value) :
    Calls Try.prog 40 #[.pointer none, v1, v2, v3] w fun e w' => e = .returned (.int .i64 1) ∧ w = w' := by
  go_enter Try.func40, Try.ntmps40
  go_wp2_with (go_at_call 29; refine (state_nil _).mono ?_; rintro e w' ⟨rfl, rfl⟩)
  go_ret
  exact ⟨rfl, rfl⟩
section
variable (w : World)
theorem nappend (X : Option Addr) (m cx : Nat) : Calls Try.prog 28 #[.pointer none, .slice X m cx] w fun e w' => e = .returned (.int .i64 1) ∧ Below w.heap.size w w' := by
  go_enter Try.func28, Try.ntmps28
  go_wp2_with (go_at_call 40; refine (deed_nil _ _ _ _).mono ?_; rintro e w' ⟨rfl, rfl⟩)
  go_ret
  exact ⟨rfl, ((Below.refl _ w).alloc (Nat.le_refl _) _).alloc (by simp) _⟩
theorem nswap (X : Option Addr) (m cx : Nat) : Calls Try.prog 22 #[.pointer none, .slice X m cx] w fun e w' => e = .returned (.int .i64 1) ∧ Below w.heap.size w w' := by
  go_enter Try.func22, Try.ntmps22
  go_wp2_with (go_at_call 40; refine (deed_nil _ _ _ _).mono ?_; rintro e w' ⟨rfl, rfl⟩)
  go_ret
  exact ⟨rfl, ((Below.refl _ w).alloc (Nat.le_refl _) _).alloc (by simp) _⟩
theorem ncut (n : Int) : Calls Try.prog 37 #[.pointer none, .int .i64 n] w fun e w' => e = .returned (.int .i64 1) ∧ Below w.heap.size w w' := by
  go_enter Try.func37, Try.ntmps37
  go_wp2_with (go_at_call 40; refine (deed_nil _ _ _ _).mono ?_; rintro e w' ⟨rfl, rfl⟩)
  go_ret
  exact ⟨rfl, ((Below.refl _ w).alloc (Nat.le_refl _) _).alloc (by simp) _⟩
theorem narm (n : Int) : Calls Try.prog 16 #[.pointer none, .int .i64 n] w fun e w' => e = .returned (.int .i64 1) ∧ Below w.heap.size w w' := by
  go_enter Try.func16, Try.ntmps16
  go_wp2_with (go_at_call 29; refine (state_nil _).mono ?_; rintro e w' ⟨rfl, rfl⟩)
  go_ret
  exact ⟨rfl, Below.refl _ w⟩
theorem ncrash : Calls Try.prog 17 #[.pointer none] w fun e w' => e = .returned (.int .i64 1) ∧ Below w.heap.size w w' := by
  go_enter Try.func17, Try.ntmps17
  go_wp2_with (go_at_call 29; refine (state_nil _).mono ?_; rintro e w' ⟨rfl, rfl⟩)
  go_ret
  exact ⟨rfl, Below.refl _ w⟩
theorem nup : Calls Try.prog 19 #[.pointer none] w fun e w' => e = .returned (.int .i64 1) ∧ Below w.heap.size w w' := by
  go_enter Try.func19, Try.ntmps19
  go_wp2_with (go_at_call 29; refine (state_nil _).mono ?_; rintro e w' ⟨rfl, rfl⟩)
  go_ret
  exact ⟨rfl, Below.refl _ w⟩
theorem ndown : Calls Try.prog 18 #[.pointer none] w fun e w' => e = .returned (.bool true) ∧ Below w.heap.size w w' := by
  go_enter Try.func18, Try.ntmps18
  go_wp2_with (go_at_call 29; refine (state_nil _).mono ?_; rintro e w' ⟨rfl, rfl⟩)
  go_ret
  exact ⟨rfl, Below.refl _ w⟩
theorem nbytes : Calls Try.prog 11 #[.pointer none] w fun e w' => e = .returned (.tuple #[.slice none 0 0, .int .i64 1]) ∧ Below w.heap.size w w' := by
  go_enter Try.func11, Try.ntmps11
  go_wp2_with (go_at_call 29; refine (state_nil _).mono ?_; rintro e w' ⟨rfl, rfl⟩)
  go_ret2
  exact ⟨rfl, Below.refl _ w⟩
end
end Go.Proofs.Ytckofpdhcpabnaa
