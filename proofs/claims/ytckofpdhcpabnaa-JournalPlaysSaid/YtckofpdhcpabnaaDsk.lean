/- disk.state, check, copied, New: what they answer; a disk in memory. -/
import Derived.Test.YtckofpdhcpabnaaTyU8
import Derived.Test.YtckofpdhcpabnaaMem
import Derived.OwnWalk
import Derived.Laws.CopyOwn
import Derived.TacticsInMore
namespace Go.Proofs.Ytckofpdhcpabnaa
open Go.RowKit
set_option linter.unusedVariables false


/-- a disk's state -/
structure DS where
  b : List UInt8
  down : Bool
  armed : Bool
  keep : Nat
/-- block q is a disk of the type t, its bytes lie in the block r -/
structure Dk (t : TypeId) (B : Nat) (W : World) (q : Nat) (r : Option Nat) (s : DS) : Prop where
  blk : ∃ A c, Blk W q #[.slice A s.b.length c, .bool s.down, .bool s.armed, .int .i64 (s.keep : Nat)] t ∧ Ow W B 5 1 A s.b.length c (bv s.b) ∧ r = blk A
  q : B ≤ q
  len : s.b.length ≤ 1048576
  keep : s.keep ≤ 9223372036854775807
theorem Dk.only {t : TypeId} {B : Nat} {W W' : World} {q : Nat} {r : Option Nat} {s : DS} {F : Nat → Prop} (h : Dk t B W q r s) (ho : Only F W W') (h1 : ¬ F q) (h2 : ∀ g, r = some g → ¬ F g) : Dk t B W' q r s := by
  obtain ⟨A, c, hb, how, rfl⟩ := h.blk
  exact ⟨⟨A, c, hb.only ho h1, how.only ho h2, rfl⟩, h.q, h.len, h.keep⟩
theorem Dk.lt {t : TypeId} {B : Nat} {W : World} {q : Nat} {r : Option Nat} {s : DS} (h : Dk t B W q r s) : q < W.heap.size ∧ ∀ g, r = some g → B ≤ g ∧ g < W.heap.size := by
  obtain ⟨A, c, hb, how, rfl⟩ := h.blk
  exact ⟨hb.lt, fun g hg => how.lt hg⟩
theorem Dk.below {t : TypeId} {B : Nat} {W W' : World} {q : Nat} {r : Option Nat} {s : DS} (h : Dk t B W q r s) (hb : Below W.heap.size W W') : Dk t B W' q r s := h.only (Only.of_below hb (fun _ => False)) (fun h => h) (fun _ _ h => h)
theorem Dk.drewN {t : TypeId} {B : Nat} {W : World} {q : Nat} {r : Option Nat} {s : DS} (h : Dk t B W q r s) (n : Nat) : Dk t B (W.drewN n) q r s := ⟨h.blk, h.q, h.len, h.keep⟩

/-- one step of a disk: it answers, it reads as s' behind it; nothing else has turned -/
structure DStep (t : TypeId) (B q : Nat) (r : Option Nat) (s' : DS) (W W' : World) : Prop where
  dk : ∃ r', Dk t B W' q r' s' ∧ ∀ g, r' = some g → r = some g ∨ W.heap.size ≤ g
  only : Only (fun k => k = q ∨ some k = r) W W'
def DAns (t : TypeId) (B q : Nat) (r : Option Nat) (x : Int × DS) (W : World) (e : Ending) (W' : World) : Prop := e = .returned (.int .i64 x.1) ∧ DStep t B q r x.2 W W'

theorem DStep.same {t : TypeId} {B q : Nat} {r : Option Nat} {s : DS} {W W' : World} (h : Dk t B W q r s) (hb : Below W.heap.size W W') : DStep t B q r s W W' := ⟨⟨r, h.below hb, fun _ e => .inl e⟩, Only.of_below hb _⟩

theorem DStep.pre {t : TypeId} {B q : Nat} {r : Option Nat} {s : DS} {W W1 W' : World} (hb : Below W.heap.size W W1) (h : DStep t B q r s W1 W') : DStep t B q r s W W' := by
  obtain ⟨⟨r', hk, hr⟩, ho⟩ := h
  exact ⟨⟨r', hk, fun g hg => (hr g hg).imp id (fun h => Nat.le_trans hb.size h)⟩, (Only.of_below hb _).trans ho (fun _ _ h => h)⟩
theorem DAns.pre {t : TypeId} {B q : Nat} {r : Option Nat} {x : Int × DS} {W W1 W' : World} {e : Ending} (hb : Below W.heap.size W W1) (h : DAns t B q r x W1 e W') : DAns t B q r x W e W' := ⟨h.1, h.2.pre hb⟩

def DS.new : DS := ⟨[], false, false, 0⟩
def dstate (s : DS) : Int := if s.down = true then 60 else 0
def dAppend (s : DS) (x : List UInt8) : Int × DS :=
  if s.down = true then (60, s) else if 1048576 < s.b.length + x.length then (3, s) else
  if s.armed = true then (60, { s with b := s.b ++ x.take s.keep, armed := false, down := true }) else (0, { s with b := s.b ++ x })
def dSwap (s : DS) (x : List UInt8) : Int × DS :=
  if s.down = true then (60, s) else if 1048576 < x.length then (3, s) else
  if s.armed = true then (60, { s with armed := false, down := true }) else (0, { s with b := x })
def dCut (s : DS) (n : Int) : Int × DS :=
  if s.down = true then (60, s) else if n < 0 ∨ (s.b.length : Int) < n then (2, s) else
  if s.armed = true then (60, { s with armed := false, down := true }) else (0, { s with b := s.b.take n.toNat })
def dArm (s : DS) (n : Int) : Int × DS := if s.down = true then (60, s) else if n < 0 then (2, s) else (0, { s with armed := true, keep := n.toNat })
def dCrash (s : DS) : Int × DS := if s.down = true then (60, s) else (0, { s with armed := false, down := true })
def dUp (s : DS) : Int × DS := if s.down = true then (0, { s with down := false }) else (2, s)

theorem state_any (B : Nat) (q : Nat) (r : Option Nat) (s : DS) (w : World) (h : Dk 52 B w q r s) :
    Calls Try.prog 29 #[.pointer (some ⟨q, 0, none⟩)] w fun e w' => e = .returned (.int .i64 (dstate s)) ∧ w = w' := by
  obtain ⟨A, c, hb, how, rfl⟩ := h.blk
  have c1 := hb.cell 1 rfl
  clear hb how h
  cases hd : s.down <;> rw [hd] at c1
  all_goals
    rw [show dstate s = _ from by unfold dstate; rw [hd]]
    clear hd
    go_enter Try.func29, Try.ntmps29
    go_wp2
    go_ret
    exact ⟨rfl, rfl⟩
theorem state_nil (w : World) : Calls Try.prog 29 #[.pointer none] w fun e w' => e = .returned (.int .i64 1) ∧ w = w' := by
  go_enter Try.func29, Try.ntmps29
  go_wp2
  go_ret
  exact ⟨rfl, rfl⟩
theorem check_any (b : Bool) (e : Int) (w : World) : Calls Try.prog 39 #[.bool b, .int .i64 e] w fun e' w' => e' = .returned (.int .i64 (if b then 0 else e)) ∧ w = w' := by
  cases b
  all_goals
    go_enter Try.func39, Try.ntmps39
    go_wp2
    go_ret
    exact ⟨rfl, rfl⟩
theorem nothing_any (w : World) : Calls Try.prog 43 #[] w fun e' w' => e' = .returned (.tuple #[]) ∧ w = w' := by
  go_enter Try.func43, Try.ntmps43
  go_wp2
  go_end0
  exact ⟨rfl, rfl⟩

theorem own_cur {w : World} {base n g : Nat} {e : TypeId} {xs : List Value} (h : w.ownsRow base e 1 (.slice (some ⟨g, 0, none⟩) n n) n xs) : ∃ cur : List Value, w.heap[g]? = some (.cells cur.toArray e (0, 0)) ∧ cur.length = n := by
  rcases h.2 with ⟨hv, _⟩ | ⟨g', cap, cur, hv, hb, hg, hn, hm, hcs, ht⟩
  · cases hv
  · injection hv with h1 _ h3
    injection h1 with h1; injection h1 with h1 _ _
    subst h1 h3
    exact ⟨cur.toList, by simpa using hg, by simpa using hcs⟩
/-- what copied, same answer -/
def CopyP (l : List UInt8) (w : World) (e : Ending) (w' : World) : Prop :=
  ∃ A c, e = .returned (.slice A l.length c) ∧ Ow w' w.heap.size 5 1 A l.length c (bv l) ∧ Below w.heap.size w w'
set_option maxHeartbeats 1000000 in
theorem copied_any (A : Option Addr) (n c : Nat) (l : List UInt8) (w : World) (hr : Rd w 1 A n c (bv l)) (hn : n ≤ 70368744177664) :
    Calls Try.prog 30 #[.slice A n c] w (CopyP l w) := by
  have hl := hr.blen
  have HL := Lib.hid hl
  clear hl
  obtain ⟨i0, hi, hz0, hz1, hz2⟩ := info_parts info_u8
  go_enter Try.func30, Try.ntmps30
  go_wp2_with (first
    | (at_make; refine wpList_make_full _ rfl _ _ 22 rfl w.heap.size 5 i0 (.int .u8 0) 1 Try.underlying22 hi hz0 hz1 _ _ _ _ n rfl rfl rfl rfl (by rw [hz2]; omega) (by simp only [maxLen]; omega) (Nat.le_refl _) ?_; intro w1 ho1 hg1; obtain ⟨cur, hcur, hlen⟩ := own_cur ho1; have HC := Lib.hid hcur; have HN := Lib.hid hlen; have HG := Lib.hid hg1; have hr1 := Lib.hid (hr.only (Only.of_grown hg1) (fun _ _ _ e => by cases e)); clear ho1 hg1 hcur hlen)
    | (with_reducible refine wpList_copy_splice rfl (.tmp 7) (.tmp 8) 22 22 rfl 5 Try.underlying22 info_bsz (some ⟨w.heap.size, 0, none⟩) A n n n c rfl rfl w.heap.size 0 cur 5 HC.out (bv l) (by rw [bv_length, HL.out]; exact (Nat.min_self n).symm) (fun h0 => ⟨rfl, by obtain ⟨ad, e, h⟩ := hr1.out.addr (by rw [bv_length, HL.out] at h0; exact h0) (by omega); exact ⟨ad, e, h⟩⟩) (by rw [bv_length, HL.out, HN.out]; omega) (bv_one l) w.heap.size w (Below.grown (Below.refl _ w) HG.out (Nat.le_refl _) (fun _ e => by cases e)) (Nat.le_refl _) ?_; intro w2 hw2 hb2; have HW2 := Lib.hid hw2.out; have HB2 := Lib.hid hb2; clear hw2 hb2))
  go_ret
  have hw2 := HW2.out
  have hl := HL.out
  have hs : splice cur 0 (bv l) = bv l := by
    unfold splice
    rw [List.take_zero, List.nil_append, Nat.zero_add, List.drop_of_length_le (by rw [bv_length, hl, HN.out]; exact Nat.le_refl _), List.append_nil]
  rw [hs] at hw2
  subst hl
  refine ⟨_, _, rfl, ⟨by simp, .inr ⟨w.heap.size, _, rfl, Nat.le_refl _, hw2, Nat.le_refl _, by simp only [maxLen]; omega, by simp, by simp [bv_take]⟩⟩, HB2.out⟩
end Go.Proofs.Ytckofpdhcpabnaa
