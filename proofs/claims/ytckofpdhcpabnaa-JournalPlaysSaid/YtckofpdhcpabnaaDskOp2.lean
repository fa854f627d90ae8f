/- disk.Append, Swap, Cut. -/
import Derived.Test.YtckofpdhcpabnaaDskOp
namespace Go.Proofs.Ytckofpdhcpabnaa
open Go.RowKit
set_option linter.unusedVariables false
set_option linter.unusedSimpArgs false

theorem check_q (b : Bool) (e : Int) (w : World) : Calls Try.prog 39 #[.bool b, .int .i64 e] w fun e' w' => e' = .returned (.int .i64 (if b then 0 else e)) ∧ w' = w :=
  (check_any b e w).mono fun _ _ h => ⟨h.1, h.2.symm⟩

section
variable {w : World} {ops : Array Oper} {o : Oper} {a : Act} {K : Act → World → Prop} {Q : Exit → Act → World → Prop} {E : Prop}
theorem step_u8 (hgd : o.guard = none) (s x : Operand)
    (ho : o.op = .call { callee := .builtin .append, args := #[s, x], argTypes := #[22, 22] })
    (base : Nat) (A0 : Option Addr) (c0 n : Nat) (l : List UInt8) (hs : a.eval s = .slice A0 n c0) (hown : Ow w base 5 1 A0 n c0 (bv l))
    (A : Option Addr) (m c : Nat) (k : List UInt8) (hx : a.eval x = .slice A m c) (hr : Rd w 1 A m c (bv k))
    (h63 : n + m ≤ 140737488355328) (hbase : base ≤ w.heap.size)
    (h : ∀ A' c' w', Ow w' base 5 1 A' (n + m) c' (bv (l ++ k)) → w.grownBy w' (blk A0) → (A' = A0 ∨ A' = some ⟨w.heap.size, 0, none⟩) → K (a.put o.dst (.slice A' (n + m) c')) w') :
    if Region.wanted o (yielded ops a.tmps) = true then Oper.wp Try.prog o a w K Q else E := by
  obtain ⟨i0, hi, hz0, hz1, hz2⟩ := info_parts info_u8
  exact step_ow w hgd s x _ ho base _ i0 _ 1 1 Try.underlying22 hi hz0 hz1 hz2 rfl (by omega) A0 c0 n (bv l) hs hown A m c (bv k) hx hr (bv_one k) h63 (by omega) hbase (by rw [← bv_append]; exact h)
end

/-- where an operation's closures find the disk and the bytes -/
structure Caps (B : Nat) (w : World) (q : Nat) (r : Option Nat) (s : DS) (pb pd : Nat) (X : Option Addr) (m cx : Nat) (x : List UInt8) : Prop where
  dk : Dk 52 B w q r s
  pb : Boxed w pb 22 (.slice X m cx)
  pd : Boxed w pd 26 (.pointer (some ⟨q, 0, none⟩))
  rd : Rd w 1 X m cx (bv x)
theorem Caps.drewN {B : Nat} {w : World} {q : Nat} {r : Option Nat} {s : DS} {pb pd : Nat} {X : Option Addr} {m cx : Nat} {x : List UInt8} (h : Caps B w q r s pb pd X m cx x) (j : Nat) : Caps B (w.drewN j) q r s pb pd X m cx x := ⟨h.dk.drewN j, h.pb, h.pd, h.rd.drewN j⟩

theorem append_may (B : Nat) (w : World) (q : Nat) (r : Option Nat) (s : DS) (pb pd : Nat) (X : Option Addr) (m cx : Nat) (x : List UInt8) (h : Caps B w q r s pb pd X m cx x) :
    Calls Try.prog 47 #[.pointer (some ⟨pb, 0, none⟩), .pointer (some ⟨pd, 0, none⟩)] w fun e w' => e = .returned (.int .i64 (if s.b.length + m ≤ 1048576 then 0 else 3)) ∧ ∃ j, w' = w.drewN j := by
  have hlen := h.dk.len
  have hcx := h.rd.cap
  have hmx := h.rd.max
  unfold maxLen at hmx
  obtain ⟨A, c, hb, how, -⟩ := h.dk.blk
  have b0 := h.pb.cell
  have b1 := h.pd.cell
  have c0 := hb.cell 0 rfl
  have hwr : IntKind.i64.wrap (1048576 - (s.b.length : Int)) = 1048576 - (s.b.length : Int) := by rw [IntKind.wrap_i64]; omega
  have he : (if s.b.length + m ≤ 1048576 then (0 : Int) else 3) = (if decide ((m : Int) ≤ 1048576 - (s.b.length : Int)) = true then 0 else 3) := by
    by_cases hh : s.b.length + m ≤ 1048576
    · rw [if_pos hh, if_pos (by simp; omega)]
    · rw [if_neg hh, if_neg (by simp; omega)]
  rw [he]
  clear he hb how h
  generalize s.b.length = n at *
  go_enter Try.func47, Try.ntmps47
  go_wp2_with fail
  go_quiet ((go_at_call 39; exact Calls.quiet_of_same (check_q _ _ _)))
  go_wp2_with fail
  all_goals
    go_ret
    exact ⟨rfl, _, rfl⟩

theorem dk_app {t : TypeId} {B : Nat} {w w1 : World} {q c c' : Nat} {s : DS} {A A' : Option Addr} {y : List UInt8} {m : Nat} (hb : Blk w q #[.slice A s.b.length c, .bool s.down, .bool s.armed, .int .i64 (s.keep : Nat)] t) (how : Ow w B 5 1 A s.b.length c (bv s.b)) (ht : t ≠ 5)
    (hq : B ≤ q) (hk : s.keep ≤ 9223372036854775807) (ho : Ow w1 B 5 1 A' (s.b.length + m) c' (bv (s.b ++ y))) (hg : w.drew.grownBy w1 (blk A)) (hA : A' = A ∨ A' = some ⟨w.drew.heap.size, 0, none⟩) (hl : s.b.length + m ≤ 1048576) :
    DStep t B q (blk A) { s with b := s.b ++ y } w (w1.setCell ⟨q, 0, none⟩ (.slice A' (s.b.length + m) c')) := by
  have hg' : w.grownBy w1 (blk A) := ⟨hg.os, hg.tape, hg.output, hg.size, hg.block⟩
  have hb1 := hb.grown hg' (how.ne_blk hb ht)
  have hne := ho.ne_blk hb1 ht
  have hlen : (s.b ++ y).length = s.b.length + m := ho.blen
  refine ⟨⟨blk A', ⟨⟨A', c', ?_, ?_, rfl⟩, hq, by simp only; omega, hk⟩, ?_⟩, ?_⟩
  · simp only [hlen]
    exact (hb1.set 0 _).eq (by simp)
  · simp only [hlen]
    exact ho.setOther _ _ hne
  · intro g hgg
    rcases hA with rfl | rfl
    · exact .inl hgg
    · injection hgg with hgg; exact .inr (Nat.le_of_eq hgg)
  · exact ((Only.of_grown hg').mono (fun i _ h => .inr h)).setCell _ _ (fun _ => .inl rfl)

set_option maxHeartbeats 1000000 in
theorem append_whole (B : Nat) (w : World) (q : Nat) (r : Option Nat) (s : DS) (pb pd : Nat) (X : Option Addr) (m cx : Nat) (x : List UInt8) (h : Caps B w q r s pb pd X m cx x) (hm : s.b.length + m ≤ 1048576) :
    Calls Try.prog 48 #[.pointer (some ⟨pd, 0, none⟩), .pointer (some ⟨pb, 0, none⟩)] w fun e w' => e = .returned (.tuple #[]) ∧ DStep 52 B q r { s with b := s.b ++ x } w w' := by
  obtain ⟨A, c, hb, how, rfl⟩ := h.dk.blk
  have hB : B ≤ w.heap.size := Nat.le_trans h.dk.q (Nat.le_of_lt h.dk.lt.1)
  have b0 := h.pb.cell
  have b1 := h.pd.cell
  have c0 := hb.cell 0 rfl
  have f0 := hb.frozen 0
  have hkeep := h.dk.keep
  have hq := h.dk.q
  have hbq := hb.lt
  have hne := how.ne_blk hb (by decide)
  have HR := Lib.hid h.rd
  have HB := Lib.hid hb
  have HO := Lib.hid how
  have hnp := how.ne_blk (Blk.boxed h.pd) (by decide)
  have HPD := Lib.hid (Blk.boxed h.pd)
  clear hb how h
  go_enter Try.func48, Try.ntmps48
  go_wp2_with fail
  go_region_law ((refine step_u8 rfl (.tmp 6) (.tmp 7) rfl B A c s.b.length s.b (by simp [Act.eval, Act.put]) HO.out.drew X m cx x (by simp [Act.eval, Act.put]) HR.out.drew (by omega) hB ?_; intro A1 c1 w1 ho1 hg1 hat1; have hb1 := HB.out.drew.grown hg1 hne; have b11 := (HPD.out.drew.grown hg1 hnp).cell 0 rfl; have c01 := hb1.cell 0 rfl; have f01 := hb1.frozen 0; have HO1 := Lib.hid ho1; have HG1 := Lib.hid hg1; have HA1 := Lib.hid hat1; clear ho1 hg1 hat1 hb1))
  all_goals
    go_wp2_with fail
    go_end0
    exact ⟨rfl, dk_app HB.out HO.out (by decide) hq hkeep HO1.out HG1.out HA1.out hm⟩

set_option maxHeartbeats 1000000 in
theorem append_torn (B : Nat) (w : World) (q : Nat) (r : Option Nat) (s : DS) (pb pd : Nat) (X : Option Addr) (m cx : Nat) (x : List UInt8) (h : Caps B w q r s pb pd X m cx x) (hm : s.b.length + m ≤ 1048576) (k : Nat) (hk : k = min s.keep m) :
    Calls Try.prog 49 #[.pointer (some ⟨pd, 0, none⟩), .pointer (some ⟨pb, 0, none⟩)] w fun e w' => e = .returned (.tuple #[]) ∧ DStep 52 B q r { s with b := s.b ++ x.take k } w w' := by
  obtain ⟨A, c, hb, how, rfl⟩ := h.dk.blk
  have hB : B ≤ w.heap.size := Nat.le_trans h.dk.q (Nat.le_of_lt h.dk.lt.1)
  have b0 := h.pb.cell
  have b1 := h.pd.cell
  have c0 := hb.cell 0 rfl
  have c3 := hb.cell 3 rfl
  have f0 := hb.frozen 0
  have hkeep := h.dk.keep
  have hq := h.dk.q
  have hbq := hb.lt
  have hne := how.ne_blk hb (by decide)
  have hcx := h.rd.cap
  have hkm : k ≤ m := by omega
  have HR := Lib.hid h.rd
  have HB := Lib.hid hb
  have HO := Lib.hid how
  have hnp := how.ne_blk (Blk.boxed h.pd) (by decide)
  have HPD := Lib.hid (Blk.boxed h.pd)
  clear hb how h
  have hr18 : Rd w 1 X k k (bv (x.take k)) := by
    have := HR.out.bcut (k := 0) (m := k) (x := k) (Nat.zero_le _) hkm (Nat.le_refl _) (by omega)
    simp only [Nat.sub_zero, List.drop_zero, Nat.zero_mul] at this
    by_cases hk0 : k = 0
    · subst hk0
      exact ⟨by simp, Nat.le_refl _, by simp [maxLen], by simp⟩
    · rw [if_neg hk0] at this
      have ha : X.map (·.add 0) = X := by cases X <;> simp [Addr.add]
      rwa [ha] at this
  have HR18 := Lib.hid hr18
  clear hr18
  by_cases hlt : m < s.keep
  · obtain rfl : k = m := by omega
    clear hk
    go_enter Try.func49, Try.ntmps49
    go_wp2_with fail
    go_quiet (fail)
    go_wp2_with fail
    go_region_law ((refine step_u8 rfl (.tmp 14) (.tmp 18) rfl B A c s.b.length s.b (by simp [Act.eval, Act.put]) (HO.out.drewN nq).drew X k k (x.take k) (by simp [Act.eval, Act.put]) (HR18.out.drewN nq).drew (by omega) hB ?_; intro A1 c1 w1 ho1 hg1 hat1; have hb1 := (HB.out.drewN nq).drew.grown hg1 hne; have b11 := ((HPD.out.drewN nq).drew.grown hg1 hnp).cell 0 rfl; have c01 := hb1.cell 0 rfl; have f01 := hb1.frozen 0; have HO1 := Lib.hid ho1; have HG1 := Lib.hid hg1; have HA1 := Lib.hid hat1; clear ho1 hg1 hat1 hb1))
    all_goals
      go_wp2_with fail
      go_end0
      exact ⟨rfl, DStep.of_drewN (dk_app (HB.out.drewN nq) (HO.out.drewN nq) (by decide) hq hkeep HO1.out HG1.out HA1.out hm)⟩
  · obtain rfl : k = s.keep := by omega
    clear hk
    have hkc : s.keep ≤ cx := by omega
    go_enter Try.func49, Try.ntmps49
    go_wp2_with fail
    go_quiet (fail)
    go_wp2_with fail
    go_region_law ((refine step_u8 rfl (.tmp 14) (.tmp 18) rfl B A c s.b.length s.b (by simp [Act.eval, Act.put]) (HO.out.drewN nq).drew X s.keep s.keep (x.take s.keep) (by simp [Act.eval, Act.put]) (HR18.out.drewN nq).drew (by omega) hB ?_; intro A1 c1 w1 ho1 hg1 hat1; have hb1 := (HB.out.drewN nq).drew.grown hg1 hne; have b11 := ((HPD.out.drewN nq).drew.grown hg1 hnp).cell 0 rfl; have c01 := hb1.cell 0 rfl; have f01 := hb1.frozen 0; have HO1 := Lib.hid ho1; have HG1 := Lib.hid hg1; have HA1 := Lib.hid hat1; clear ho1 hg1 hat1 hb1))
    all_goals
      go_wp2_with fail
      go_end0
      exact ⟨rfl, DStep.of_drewN (dk_app (HB.out.drewN nq) (HO.out.drewN nq) (by decide) hq hkeep HO1.out HG1.out HA1.out (by omega))⟩
end Go.Proofs.Ytckofpdhcpabnaa
