/- The disk's operations: what each answers, what the disk is behind it. -/
import Derived.Test.YtckofpdhcpabnaaDskOp2
import Derived.Test.YtckofpdhcpabnaaDskOp3
import Derived.Shelf.Abstract
namespace Go.Proofs.Ytckofpdhcpabnaa
open Go.RowKit
set_option linter.unusedVariables false
set_option linter.unusedSimpArgs false

theorem ent26 : ∀ args w, (callFunc 47 args).run Try.prog w = .ok (.enter 47 args) w := enters_of Try.func47 (by kernel_rfl) rfl
theorem ent28 : ∀ args w, (callFunc 48 args).run Try.prog w = .ok (.enter 48 args) w := enters_of Try.func48 (by kernel_rfl) rfl
theorem ent29 : ∀ args w, (callFunc 49 args).run Try.prog w = .ok (.enter 49 args) w := enters_of Try.func49 (by kernel_rfl) rfl
theorem ent30 : ∀ args w, (callFunc 41 args).run Try.prog w = .ok (.enter 41 args) w := enters_of Try.func41 (by kernel_rfl) rfl
theorem ent31 : ∀ args w, (callFunc 42 args).run Try.prog w = .ok (.enter 42 args) w := enters_of Try.func42 (by kernel_rfl) rfl
theorem ent33 : ∀ args w, (callFunc 43 args).run Try.prog w = .ok (.enter 43 args) w := enters_of Try.func43 (by kernel_rfl) rfl
theorem ent34 : ∀ args w, (callFunc 51 args).run Try.prog w = .ok (.enter 51 args) w := enters_of Try.func51 (by kernel_rfl) rfl
theorem ent35 : ∀ args w, (callFunc 52 args).run Try.prog w = .ok (.enter 52 args) w := enters_of Try.func52 (by kernel_rfl) rfl

theorem DAns.drewN {t : TypeId} {B q : Nat} {r : Option Nat} {s : DS} {x : Int} {W : World} {j : Nat} {e : Ending} (h : Dk t B W q r s) (he : e = .returned (.int .i64 x)) : DAns t B q r (x, s) W e (W.drewN j) :=
  ⟨he, ⟨r, h.drewN j, fun _ e => .inl e⟩, (Only.refl _ W).drewN j⟩

/-- the call of deed, for Append -/
theorem deed_append (B : Nat) (w : World) (q : Nat) (r : Option Nat) (s : DS) (pb pd : Nat) (X : Option Addr) (m cx : Nat) (x : List UInt8) (h : Caps B w q r s pb pd X m cx x) :
    Calls Try.prog 40 #[.pointer (some ⟨q, 0, none⟩), .func (.func 47) #[] #[.pointer (some ⟨pb, 0, none⟩), .pointer (some ⟨pd, 0, none⟩)],
      .func (.func 48) #[] #[.pointer (some ⟨pd, 0, none⟩), .pointer (some ⟨pb, 0, none⟩)], .func (.func 49) #[] #[.pointer (some ⟨pd, 0, none⟩), .pointer (some ⟨pb, 0, none⟩)]] w
      (DAns 52 B q r (dAppend s x) w) := by
  have hl := h.rd.blen
  have hmay := append_may B w q r s pb pd X m cx x h
  cases hd : s.down with
  | true =>
    rw [show dAppend s x = (60, s) from by unfold dAppend; rw [if_pos hd]]
    exact (deed_down B q r s w h.dk hd _ _ _).mono fun e w' ⟨he, hw⟩ => by subst hw; exact DAns.drewN (j := 0) h.dk he
  | false =>
    have hnd : ¬ s.down = true := by rw [hd]; decide
    by_cases hlong : 1048576 < s.b.length + x.length
    · rw [show dAppend s x = (3, s) from by unfold dAppend; rw [if_neg hnd, if_pos hlong]]
      rw [if_neg (by omega)] at hmay
      exact (deed_may B q r s w h.dk hd _ _ _ _ 3 (by decide) ent26 hmay).mono fun e w' ⟨he, j, hw⟩ => by subst hw; exact DAns.drewN h.dk he
    · rw [if_pos (by omega)] at hmay
      cases ha : s.armed with
      | true =>
        rw [show dAppend s x = (60, { s with b := s.b ++ x.take s.keep, armed := false, down := true }) from by unfold dAppend; rw [if_neg hnd, if_neg hlong, if_pos ha]]
        have := deed_torn B q r s { s with b := s.b ++ x.take (min s.keep m) } w h.dk hd ha _ _ 49 _ (.func (.func 48) #[] #[.pointer (some ⟨pd, 0, none⟩), .pointer (some ⟨pb, 0, none⟩)]) ent26 ent29 hmay
          (fun j => append_torn B (w.drewN j) q r s pb pd X m cx x (h.drewN j) (by omega) _ rfl)
        rw [← hl, show x.take (min s.keep x.length) = x.take s.keep from by rw [← List.take_take, List.take_length]] at this
        exact this
      | false =>
        rw [show dAppend s x = (0, { s with b := s.b ++ x }) from by unfold dAppend; rw [if_neg hnd, if_neg hlong, if_neg (by rw [ha]; decide)]]
        exact deed_do B q r s { s with b := s.b ++ x } w h.dk hd ha _ _ 48 _ _ ent26 ent28 hmay
          (fun j => append_whole B (w.drewN j) q r s pb pd X m cx x (h.drewN j) (by omega))

theorem dappend_any (B : Nat) (w : World) (q : Nat) (r : Option Nat) (s : DS) (X : Option Addr) (m cx : Nat) (x : List UInt8) (h : Dk 52 B w q r s) (hr : Rd w 1 X m cx (bv x)) :
    Calls Try.prog 28 #[.pointer (some ⟨q, 0, none⟩), .slice X m cx] w (DAns 52 B q r (dAppend s x) w) := by
  have hb : Below w.heap.size w ((w.alloc (.cells #[.pointer (some ⟨q, 0, none⟩)] 26)).alloc (.cells #[.slice X m cx] 22)) := ((Below.refl _ w).alloc (Nat.le_refl _) _).alloc (by simp) _
  have hb2 : Boxed ((w.alloc (.cells #[.pointer (some ⟨q, 0, none⟩)] 26)).alloc (.cells #[.slice X m cx] 22)) (w.heap.size + 1) 22 (.slice X m cx) := by
    have := Boxed.new (w.alloc (.cells #[.pointer (some ⟨q, 0, none⟩)] 26)) 22 (.slice X m cx); rwa [World.size_alloc] at this
  have hD := Lib.hid (deed_append B _ q r s (w.heap.size + 1) w.heap.size X m cx x ⟨h.below hb, hb2, (Boxed.new w _ _).alloc _, hr.below hb⟩)
  have HB := Lib.hid hb
  clear hb hb2 h hr
  go_enter Try.func28, Try.ntmps28
  go_wp2_with fail
  refine hD.out.mono ?_
  rintro e w1 ⟨rfl, hS⟩
  have HS := Lib.hid (hS.pre HB.out)
  clear hS
  go_wp2_with fail
  go_ret
  exact ⟨rfl, HS.out⟩

theorem deed_swap (B : Nat) (w : World) (q : Nat) (r : Option Nat) (s : DS) (pb pd : Nat) (X : Option Addr) (m cx : Nat) (x : List UInt8) (h : Caps B w q r s pb pd X m cx x) :
    Calls Try.prog 40 #[.pointer (some ⟨q, 0, none⟩), .func (.func 41) #[] #[.pointer (some ⟨pb, 0, none⟩)],
      .func (.func 42) #[] #[.pointer (some ⟨pb, 0, none⟩), .pointer (some ⟨pd, 0, none⟩)], .func (.func 43) #[] #[]] w
      (DAns 52 B q r (dSwap s x) w) := by
  have hl := h.rd.blen
  have hmay := swap_may w pb X m cx h.pb
  cases hd : s.down with
  | true =>
    rw [show dSwap s x = (60, s) from by unfold dSwap; rw [if_pos hd]]
    exact (deed_down B q r s w h.dk hd _ _ _).mono fun e w' ⟨he, hw⟩ => by subst hw; exact DAns.drewN (j := 0) h.dk he
  | false =>
    have hnd : ¬ s.down = true := by rw [hd]; decide
    by_cases hlong : 1048576 < x.length
    · rw [show dSwap s x = (3, s) from by unfold dSwap; rw [if_neg hnd, if_pos hlong]]
      rw [if_neg (by omega)] at hmay
      exact (deed_may B q r s w h.dk hd _ _ _ _ 3 (by decide) ent30 hmay).mono fun e w' ⟨he, j, hw⟩ => by subst hw; exact DAns.drewN h.dk he
    · rw [if_pos (by omega)] at hmay
      cases ha : s.armed with
      | true =>
        rw [show dSwap s x = (60, { s with armed := false, down := true }) from by unfold dSwap; rw [if_neg hnd, if_neg hlong, if_pos ha]]
        exact deed_torn B q r s s w h.dk hd ha _ _ 43 _ (.func (.func 42) #[] #[.pointer (some ⟨pb, 0, none⟩), .pointer (some ⟨pd, 0, none⟩)]) ent30 ent33 hmay
          (fun j => (nothing_any _).mono fun e w' ⟨he, hw⟩ => by subst hw; exact ⟨he, (DAns.drewN (x := 0) (j := 0) (h.dk.drewN j) rfl).2⟩)
      | false =>
        rw [show dSwap s x = (0, { s with b := x }) from by unfold dSwap; rw [if_neg hnd, if_neg hlong, if_neg (by rw [ha]; decide)]]
        exact deed_do B q r s { s with b := x } w h.dk hd ha _ _ 42 _ _ ent30 ent31 hmay
          (fun j => swap_whole B (w.drewN j) q r s pb pd X m cx x (h.dk.drewN j) h.pb h.pd (h.rd.drewN j) (by omega))

theorem dswap_any (B : Nat) (w : World) (q : Nat) (r : Option Nat) (s : DS) (X : Option Addr) (m cx : Nat) (x : List UInt8) (h : Dk 52 B w q r s) (hr : Rd w 1 X m cx (bv x)) :
    Calls Try.prog 22 #[.pointer (some ⟨q, 0, none⟩), .slice X m cx] w (DAns 52 B q r (dSwap s x) w) := by
  have hb : Below w.heap.size w ((w.alloc (.cells #[.pointer (some ⟨q, 0, none⟩)] 26)).alloc (.cells #[.slice X m cx] 22)) := ((Below.refl _ w).alloc (Nat.le_refl _) _).alloc (by simp) _
  have hb2 : Boxed ((w.alloc (.cells #[.pointer (some ⟨q, 0, none⟩)] 26)).alloc (.cells #[.slice X m cx] 22)) (w.heap.size + 1) 22 (.slice X m cx) := by
    have := Boxed.new (w.alloc (.cells #[.pointer (some ⟨q, 0, none⟩)] 26)) 22 (.slice X m cx); rwa [World.size_alloc] at this
  have hD := Lib.hid (deed_swap B _ q r s (w.heap.size + 1) w.heap.size X m cx x ⟨h.below hb, hb2, (Boxed.new w _ _).alloc _, hr.below hb⟩)
  have HB := Lib.hid hb
  clear hb hb2 h hr
  go_enter Try.func22, Try.ntmps22
  go_wp2_with fail
  refine hD.out.mono ?_
  rintro e w1 ⟨rfl, hS⟩
  have HS := Lib.hid (hS.pre HB.out)
  clear hS
  go_wp2_with fail
  go_ret
  exact ⟨rfl, HS.out⟩

theorem deed_cut (B : Nat) (w : World) (q : Nat) (r : Option Nat) (s : DS) (pn pd : Nat) (n : Int) (hn1 : -9223372036854775808 ≤ n) (hn2 : n ≤ 9223372036854775807) (h : Dk 52 B w q r s) (hpn : Boxed w pn 3 (.int .i64 n)) (hpd : Boxed w pd 26 (.pointer (some ⟨q, 0, none⟩))) :
    Calls Try.prog 40 #[.pointer (some ⟨q, 0, none⟩), .func (.func 51) #[] #[.pointer (some ⟨pn, 0, none⟩), .pointer (some ⟨pd, 0, none⟩)],
      .func (.func 52) #[] #[.pointer (some ⟨pd, 0, none⟩), .pointer (some ⟨pn, 0, none⟩)], .func (.func 43) #[] #[]] w
      (DAns 52 B q r (dCut s n) w) := by
  have hmay := cut_may B w q r s pn pd n hn1 hn2 h hpn hpd
  cases hd : s.down with
  | true =>
    rw [show dCut s n = (60, s) from by unfold dCut; rw [if_pos hd]]
    exact (deed_down B q r s w h hd _ _ _).mono fun e w' ⟨he, hw⟩ => by subst hw; exact DAns.drewN (j := 0) h he
  | false =>
    have hnd : ¬ s.down = true := by rw [hd]; decide
    by_cases hlong : n < 0 ∨ (s.b.length : Int) < n
    · rw [show dCut s n = (2, s) from by unfold dCut; rw [if_neg hnd, if_pos hlong]]
      rw [if_pos hlong] at hmay
      exact (deed_may B q r s w h hd _ _ _ _ 2 (by decide) ent34 hmay).mono fun e w' ⟨he, j, hw⟩ => by subst hw; exact DAns.drewN h he
    · rw [if_neg hlong] at hmay
      cases ha : s.armed with
      | true =>
        rw [show dCut s n = (60, { s with armed := false, down := true }) from by unfold dCut; rw [if_neg hnd, if_neg hlong, if_pos ha]]
        exact deed_torn B q r s s w h hd ha _ _ 43 _ (.func (.func 52) #[] #[.pointer (some ⟨pd, 0, none⟩), .pointer (some ⟨pn, 0, none⟩)]) ent34 ent33 hmay
          (fun j => (nothing_any _).mono fun e w' ⟨he, hw⟩ => by subst hw; exact ⟨he, (DAns.drewN (x := 0) (j := 0) (h.drewN j) rfl).2⟩)
      | false =>
        rw [show dCut s n = (0, { s with b := s.b.take n.toNat }) from by unfold dCut; rw [if_neg hnd, if_neg hlong, if_neg (by rw [ha]; decide)]]
        have e1 : n = (n.toNat : Int) := by omega
        rw [e1] at hpn
        exact deed_do B q r s { s with b := s.b.take n.toNat } w h hd ha _ _ 52 _ _ ent34 ent35 hmay
          (fun j => cut_whole B (w.drewN j) q r s pn pd n.toNat (h.drewN j) hpn hpd (by omega))

theorem dcut_any (B : Nat) (w : World) (q : Nat) (r : Option Nat) (s : DS) (n : Int) (hn1 : -9223372036854775808 ≤ n) (hn2 : n ≤ 9223372036854775807) (h : Dk 52 B w q r s) :
    Calls Try.prog 37 #[.pointer (some ⟨q, 0, none⟩), .int .i64 n] w (DAns 52 B q r (dCut s n) w) := by
  have hb : Below w.heap.size w ((w.alloc (.cells #[.pointer (some ⟨q, 0, none⟩)] 26)).alloc (.cells #[.int .i64 n] 3)) := ((Below.refl _ w).alloc (Nat.le_refl _) _).alloc (by simp) _
  have hb2 : Boxed ((w.alloc (.cells #[.pointer (some ⟨q, 0, none⟩)] 26)).alloc (.cells #[.int .i64 n] 3)) (w.heap.size + 1) 3 (.int .i64 n) := by
    have := Boxed.new (w.alloc (.cells #[.pointer (some ⟨q, 0, none⟩)] 26)) 3 (.int .i64 n); rwa [World.size_alloc] at this
  have hD := Lib.hid (deed_cut B _ q r s (w.heap.size + 1) w.heap.size n hn1 hn2 (h.below hb) hb2 ((Boxed.new w _ _).alloc _))
  have HB := Lib.hid hb
  clear hb hb2 h
  go_enter Try.func37, Try.ntmps37
  go_wp2_with fail
  refine hD.out.mono ?_
  rintro e w1 ⟨rfl, hS⟩
  have HS := Lib.hid (hS.pre HB.out)
  clear hS
  go_wp2_with fail
  go_ret
  exact ⟨rfl, HS.out⟩
end Go.Proofs.Ytckofpdhcpabnaa
