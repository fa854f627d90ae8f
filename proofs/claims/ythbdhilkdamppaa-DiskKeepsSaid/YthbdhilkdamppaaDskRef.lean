/- The reference's disk: what its operations answer. -/
import Derived.Test.YthbdhilkdamppaaDskSimple
namespace Go.Proofs.Ythbdhilkdamppaa
open Go.RowKit
set_option linter.unusedVariables false
set_option linter.unusedSimpArgs false

section
variable {w : World} {ops : Array Oper} {rest : List Oper} {o : Oper} {a : Act} {K : Act → World → Prop} {Q : Exit → Act → World → Prop} {E : Prop}
theorem app_u8o (hw : Region.wanted o (yielded ops a.tmps) = true) (s x : Operand)
    (ho : o.op = .call { callee := .builtin .append, args := #[s, x], argTypes := #[23, 23] })
    (base : Nat) (A0 : Option Addr) (c0 n : Nat) (l : List UInt8) (hs : a.eval s = .slice A0 n c0) (hown : Ow w base 5 1 A0 n c0 (bv l))
    (A : Option Addr) (m c : Nat) (k : List UInt8) (hx : a.eval x = .slice A m c) (hr : Rd w 1 A m c (bv k))
    (h63 : n + m ≤ 140737488355328) (hbase : base ≤ w.heap.size)
    (h : ∀ A' c' w', Ow w' base 5 1 A' (n + m) c' (bv (l ++ k)) → w.grownBy w' (blk A0) → (A' = A0 ∨ A' = some ⟨w.heap.size, 0, none⟩) → wpList Try.prog ops Q rest (a.put o.dst (.slice A' (n + m) c')) w') :
    wpList Try.prog ops Q (o :: rest) a w := by
  obtain ⟨i0, hi, hz0, hz1, hz2⟩ := info_parts info_u8
  exact wpList_ow w hw s x _ ho base _ i0 _ 1 1 Try.underlying23 hi hz0 hz1 hz2 rfl (by omega) A0 c0 n (bv l) hs hown A m c (bv k) hx hr (bv_one k) h63 (by omega) hbase (by rw [← bv_append]; exact h)
end

theorem no_any (B : Nat) (q : Nat) (r : Option Nat) (s : DS) (w : World) (h : Dk 49 B w q r s) :
    Calls Try.prog 46 #[.pointer (some ⟨q, 0, none⟩)] w fun e w' => e = .returned (.int .i64 (dstate s)) ∧ w = w' := by
  obtain ⟨A, c, hb, how, rfl⟩ := h.blk
  have c1 := hb.cell 1 rfl
  clear hb how h
  cases hd : s.down <;> rw [hd] at c1
  all_goals
    rw [show dstate s = _ from by unfold dstate; rw [hd]]
    clear hd
    go_enter Try.func46, Try.ntmps46
    go_wp2
    go_ret
    exact ⟨rfl, rfl⟩
theorem torn_no (B : Nat) (q : Nat) (r : Option Nat) (s : DS) (w : World) (h : Dk 49 B w q r s) (ha : s.armed = false) :
    Calls Try.prog 47 #[.pointer (some ⟨q, 0, none⟩)] w fun e w' => e = .returned (.bool false) ∧ w = w' := by
  obtain ⟨A, c, hb, how, rfl⟩ := h.blk
  rw [ha] at hb
  have c1 := hb.cell 2 rfl
  clear hb how h ha
  go_enter Try.func47, Try.ntmps47
  go_wp2
  go_ret
  exact ⟨rfl, rfl⟩
theorem torn_yes (B : Nat) (q : Nat) (r : Option Nat) (s : DS) (w : World) (h : Dk 49 B w q r s) (ha : s.armed = true) :
    Calls Try.prog 47 #[.pointer (some ⟨q, 0, none⟩)] w fun e w' => e = .returned (.bool true) ∧ w' = (w.setCell ⟨q, 2, none⟩ (.bool false)).setCell ⟨q, 1, none⟩ (.bool true) := by
  obtain ⟨A, c, hb, how, rfl⟩ := h.blk
  rw [ha] at hb
  have c1 := hb.cell 1 rfl
  have c2 := hb.cell 2 rfl
  have f1 := hb.frozen 1
  have f2 := hb.frozen 2
  clear hb how h ha
  go_enter Try.func47, Try.ntmps47
  go_wp2
  go_ret
  exact ⟨rfl, rfl⟩
/-- behind torn -/
theorem torn_step {t : TypeId} {B : Nat} {w : World} {q c : Nat} {s : DS} {A : Option Addr} (hb : Blk w q #[.slice A s.b.length c, .bool s.down, .bool s.armed, .int .i64 (s.keep : Nat)] t) (how : Ow w B 5 1 A s.b.length c (bv s.b)) (ht : t ≠ 5) :
    Blk ((w.setCell ⟨q, 2, none⟩ (.bool false)).setCell ⟨q, 1, none⟩ (.bool true)) q #[.slice A s.b.length c, .bool true, .bool false, .int .i64 (s.keep : Nat)] t ∧ Ow ((w.setCell ⟨q, 2, none⟩ (.bool false)).setCell ⟨q, 1, none⟩ (.bool true)) B 5 1 A s.b.length c (bv s.b) ∧
      Only (fun k => k = q) w ((w.setCell ⟨q, 2, none⟩ (.bool false)).setCell ⟨q, 1, none⟩ (.bool true)) := by
  have hne := how.ne_blk hb ht
  exact ⟨((hb.set 2 (.bool false)).set 1 (.bool true)).eq (by simp), (how.setOther _ _ hne).setOther _ _ hne, ((Only.refl (fun k => k = q) w).setCell ⟨q, 2, none⟩ _ (fun _ => rfl)).setCell ⟨q, 1, none⟩ _ (fun _ => rfl)⟩

theorem same_any (A : Option Addr) (n c : Nat) (l : List UInt8) (w : World) (hr : Rd w 1 A n c (bv l)) (hn : n ≤ 70368744177664) :
    Calls Try.prog 45 #[.slice A n c] w (CopyP l w) := by
  have HL := Lib.hid hr.blen
  go_enter Try.func45, Try.ntmps45
  go_wp2_with (at_builtin; refine app_u8o rfl (.tmp 4) (.tmp 5) rfl w.heap.size none 0 0 [] rfl (Ow.nil _ _ _ _) A n c l rfl hr (by omega) (Nat.le_refl _) ?_; intro A1 c1 w1 ho1 hg1 hat1; have HO1 := Lib.hid ho1; have HG1 := Lib.hid hg1; clear ho1 hg1 hat1)
  go_ret
  have h1 := HO1.out
  rw [List.nil_append, Nat.zero_add] at h1
  have hl := HL.out
  subst hl
  exact ⟨A1, c1, rfl, h1, Below.grown (Below.refl _ w) HG1.out (Nat.le_refl _) (fun _ e => by cases e)⟩

theorem rarm_any (B : Nat) (w : World) (q : Nat) (r : Option Nat) (s : DS) (n : Int) (hn2 : n ≤ 9223372036854775807) (h : Dk 49 B w q r s) :
    Calls Try.prog 42 #[.pointer (some ⟨q, 0, none⟩), .int .i64 n] w (DAns 49 B q r (dArm s n) w) := by
  have hst := no_any B q r s w h
  have hq := h.q
  have hl := h.len
  have hk := h.keep
  have HD := Lib.hid h
  obtain ⟨A, c, hb, how, rfl⟩ := h.blk
  cases hd : s.down with
  | true =>
    rw [show dArm s n = (60, s) from by unfold dArm; rw [if_pos hd]]
    rw [show dstate s = 60 from by unfold dstate; rw [if_pos hd]] at hst
    have HST := Lib.hid hst
    clear hd h hst hb how
    go_enter Try.func42, Try.ntmps42
    go_wp2_with fail
    refine HST.out.mono ?_
    rintro e w' ⟨rfl, rfl⟩
    go_wp2_with fail
    go_ret
    exact DAns.drewN (j := 0) HD.out rfl
  | false =>
    have hnd : ¬ s.down = true := by rw [hd]; decide
    rw [show dstate s = 0 from by unfold dstate; rw [if_neg hnd]] at hst
    by_cases hn : n < 0
    · rw [show dArm s n = (2, s) from by unfold dArm; rw [if_neg hnd, if_pos hn]]
      have HST := Lib.hid hst
      clear hd h hst hb how hnd
      go_enter Try.func42, Try.ntmps42
      go_wp2_with fail
      refine HST.out.mono ?_
      rintro e w' ⟨rfl, rfl⟩
      go_wp2_with fail
      go_ret
      exact DAns.drewN (j := 0) HD.out rfl
    · rw [show dArm s n = (0, { s with armed := true, keep := n.toNat }) from by unfold dArm; rw [if_neg hnd, if_neg hn]]
      have c2 := hb.cell 2 rfl
      have c3 := hb.cell 3 rfl
      have f2 := hb.frozen 2
      have f3 := hb.frozen 3
      have HST := Lib.hid hst
      have HB := Lib.hid hb
      have HO := Lib.hid how
      have HE := Lib.hid (show n = (n.toNat : Int) by omega)
      clear hd h hst hb how hnd
      go_enter Try.func42, Try.ntmps42
      go_wp2_with fail
      refine HST.out.mono ?_
      rintro e w' ⟨rfl, rfl⟩
      go_wp2_with fail
      go_ret
      refine ⟨rfl, dk_flags HB.out HO.out (by decide) hq (by simp only; omega) hl rfl ?_⟩
      simp [← HE.out]

theorem rcrash_any (B : Nat) (w : World) (q : Nat) (r : Option Nat) (s : DS) (h : Dk 49 B w q r s) :
    Calls Try.prog 43 #[.pointer (some ⟨q, 0, none⟩)] w (DAns 49 B q r (dCrash s) w) := by
  have hst := no_any B q r s w h
  have hq := h.q
  have hl := h.len
  have hk := h.keep
  have HD := Lib.hid h
  obtain ⟨A, c, hb, how, rfl⟩ := h.blk
  cases hd : s.down with
  | true =>
    rw [show dCrash s = (60, s) from by unfold dCrash; rw [if_pos hd]]
    rw [show dstate s = 60 from by unfold dstate; rw [if_pos hd]] at hst
    have HST := Lib.hid hst
    clear hd h hst hb how
    go_enter Try.func43, Try.ntmps43
    go_wp2_with fail
    refine HST.out.mono ?_
    rintro e w' ⟨rfl, rfl⟩
    go_wp2_with fail
    go_ret
    exact DAns.drewN (j := 0) HD.out rfl
  | false =>
    have hnd : ¬ s.down = true := by rw [hd]; decide
    rw [show dstate s = 0 from by unfold dstate; rw [if_neg hnd]] at hst
    rw [show dCrash s = (0, { s with armed := false, down := true }) from by unfold dCrash; rw [if_neg hnd]]
    have c1 := hb.cell 1 rfl
    have c2 := hb.cell 2 rfl
    have f1 := hb.frozen 1
    have f2 := hb.frozen 2
    have HST := Lib.hid hst
    have HB := Lib.hid hb
    have HO := Lib.hid how
    clear hd h hst hb how hnd
    go_enter Try.func43, Try.ntmps43
    go_wp2_with fail
    refine HST.out.mono ?_
    rintro e w' ⟨rfl, rfl⟩
    go_wp2_with fail
    go_ret
    refine ⟨rfl, dk_flags HB.out HO.out (by decide) hq hk hl rfl ?_⟩
    simp

theorem rup_any (B : Nat) (w : World) (q : Nat) (r : Option Nat) (s : DS) (h : Dk 49 B w q r s) :
    Calls Try.prog 44 #[.pointer (some ⟨q, 0, none⟩)] w (DAns 49 B q r (dUp s) w) := by
  have hq := h.q
  have hl := h.len
  have hk := h.keep
  have HD := Lib.hid h
  obtain ⟨A, c, hb, how, rfl⟩ := h.blk
  have HB := Lib.hid hb
  have HO := Lib.hid how
  cases hd : s.down with
  | true =>
    rw [show dUp s = (0, { s with down := false }) from by unfold dUp; rw [if_pos hd]]
    rw [hd] at hb
    have c1 := hb.cell 1 rfl
    have f1 := hb.frozen 1
    clear hd h hb how
    go_enter Try.func44, Try.ntmps44
    go_wp2_with fail
    go_ret
    have hne := HO.out.ne_blk HB.out (by decide)
    exact ⟨rfl, ⟨⟨blk A, ⟨⟨A, c, (HB.out.set 1 _).eq (by simp), HO.out.setOther _ _ hne, rfl⟩, hq, hl, hk⟩, fun g hg => .inl hg⟩, (Only.refl _ _).setCell _ _ (fun _ => .inl rfl)⟩⟩
  | false =>
    rw [show dUp s = (2, s) from by unfold dUp; rw [if_neg (by rw [hd]; decide)]]
    rw [hd] at hb
    have c1 := hb.cell 1 rfl
    clear hd h hb how
    go_enter Try.func44, Try.ntmps44
    go_wp2_with fail
    go_ret
    exact DAns.drewN (j := 0) HD.out rfl
theorem rdown_any (B : Nat) (w : World) (q : Nat) (r : Option Nat) (s : DS) (h : Dk 49 B w q r s) :
    Calls Try.prog 37 #[.pointer (some ⟨q, 0, none⟩)] w fun e w' => e = .returned (.bool s.down) ∧ w = w' := by
  obtain ⟨A, c, hb, how, rfl⟩ := h.blk
  have c1 := hb.cell 1 rfl
  clear h hb how
  go_enter Try.func37, Try.ntmps37
  go_wp2_with fail
  go_ret
  exact ⟨rfl, rfl⟩
theorem rlen_any (B : Nat) (w : World) (q : Nat) (r : Option Nat) (s : DS) (h : Dk 49 B w q r s) :
    Calls Try.prog 38 #[.pointer (some ⟨q, 0, none⟩)] w fun e w' => e = .returned (.int .i64 (s.b.length : Nat)) ∧ w = w' := by
  obtain ⟨A, c, hb, how, rfl⟩ := h.blk
  have c0 := hb.cell 0 rfl
  clear h hb how
  go_enter Try.func38, Try.ntmps38
  go_wp2_with fail
  go_ret
  exact ⟨rfl, rfl⟩
theorem rnew_any (w : World) :
    Calls Try.prog 19 #[] w fun e w' => e = .returned (.pointer (some ⟨w.heap.size, 0, none⟩)) ∧ Below w.heap.size w w' ∧ Dk 49 w.heap.size w' w.heap.size none DS.new := by
  go_enter Try.func19, Try.ntmps19
  go_wp2_with fail
  go_ret
  exact ⟨rfl, (Below.refl _ w).alloc (Nat.le_refl _) _, ⟨⟨none, 0, Blk.new w _ _, Ow.nil _ _ _ _, rfl⟩, Nat.le_refl _, by simp [DS.new], by simp [DS.new]⟩⟩
theorem rbytes_any (B : Nat) (w : World) (q : Nat) (r : Option Nat) (s : DS) (h : Dk 49 B w q r s) :
    Calls Try.prog 36 #[.pointer (some ⟨q, 0, none⟩)] w (BytesP s w) := by
  have hst := no_any B q r s w h
  have hl := h.len
  obtain ⟨A, c, hb, how, rfl⟩ := h.blk
  cases hd : s.down with
  | true =>
    rw [show dstate s = 60 from by unfold dstate; rw [if_pos hd]] at hst
    have HST := Lib.hid hst
    have HD := Lib.hid hd
    clear hd h hst hb how
    go_enter Try.func36, Try.ntmps36
    go_wp2_with fail
    refine HST.out.mono ?_
    rintro e w' ⟨rfl, rfl⟩
    go_wp2_with fail
    go_ret2
    exact ⟨Below.refl _ _, fun _ => rfl, fun h => (by rw [HD.out] at h; cases h)⟩
  | false =>
    rw [show dstate s = 0 from by unfold dstate; rw [if_neg (by rw [hd]; decide)]] at hst
    have c0 := hb.cell 0 rfl
    have HST := Lib.hid hst
    have HO := Lib.hid how
    have HD := Lib.hid hd
    clear hd h hst hb how
    go_enter Try.func36, Try.ntmps36
    go_wp2_with fail
    refine HST.out.mono ?_
    rintro e w' ⟨rfl, rfl⟩
    go_wp2_with fail
    refine (same_any _ _ _ _ _ HO.out.rd (by omega)).mono ?_
    rintro e w1 ⟨A1, c1, rfl, ho1, hb1⟩
    have HO1 := Lib.hid ho1
    have HB1 := Lib.hid hb1
    clear ho1 hb1
    go_wp2_with fail
    go_ret2
    exact ⟨HB1.out, fun h => (by rw [HD.out] at h; cases h), fun _ => ⟨A1, c1, rfl, HO1.out⟩⟩
end Go.Proofs.Ythbdhilkdamppaa
