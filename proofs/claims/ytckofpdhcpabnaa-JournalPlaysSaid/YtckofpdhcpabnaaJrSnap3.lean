/- journal.Snap: whole. -/
import Derived.Test.YtckofpdhcpabnaaJrSnap2
namespace Go.Proofs.Ytckofpdhcpabnaa
open Go.RowKit
set_option linter.unusedVariables false
set_option linter.unusedSimpArgs false

theorem ent31j : ∀ args w, (callFunc 31 args).run Try.prog w = .ok (.enter 31 args) w := enters_of Try.func31 (by kernel_rfl) rfl
theorem ent32j : ∀ args w, (callFunc 32 args).run Try.prog w = .ok (.enter 32 args) w := enters_of Try.func32 (by kernel_rfl) rfl
set_option maxHeartbeats 1000000 in
theorem jsnap_any (Bb B : Nat) (w : World) (q : Nat) (r : Option Nat) (s : DS) (X : Option Addr) (m cx : Nat) (ls : List (List UInt8)) (vs : List Value) (h : Dk 52 B w q r s) (hb : BB w Bb X m cx ls vs) :
    Calls Try.prog 12 #[.pointer (some ⟨q, 0, none⟩), .slice X m cx] w (DAns 52 B q r (jSnap s ls) w) := by
  obtain ⟨W1, hW1⟩ : ∃ W1, w.alloc (.cells #[.pointer (some ⟨q, 0, none⟩)] 26) = W1 := ⟨_, rfl⟩
  obtain ⟨W2, hW2⟩ : ∃ W2, W1.alloc (.cells #[.slice X m cx] 23) = W2 := ⟨_, rfl⟩
  obtain ⟨W3, hW3⟩ : ∃ W3, W2.alloc (.cells #[.int .i64 0] 3) = W3 := ⟨_, rfl⟩
  obtain ⟨W4, hW4⟩ : ∃ W4, W3.alloc (.cells #[.slice none 0 0] 23) = W4 := ⟨_, rfl⟩
  obtain ⟨W5, hW5⟩ : ∃ W5, W4.alloc (.cells #[fnV 31 #[.pointer (some ⟨w.heap.size + 1, 0, none⟩)],
    fnV 32 #[.pointer (some ⟨w.heap.size + 1, 0, none⟩), .pointer (some ⟨w.heap.size + 1 + 1, 0, none⟩), .pointer (some ⟨w.heap.size + 1 + 1 + 1, 0, none⟩), .pointer (some ⟨w.heap.size, 0, none⟩)]] 44) = W5 := ⟨_, rfl⟩
  have s1 : W1.heap.size = w.heap.size + 1 := by rw [← hW1, World.size_alloc]
  have s2 : W2.heap.size = w.heap.size + 1 + 1 := by rw [← hW2, World.size_alloc, s1]
  have s3 : W3.heap.size = w.heap.size + 1 + 1 + 1 := by rw [← hW3, World.size_alloc, s2]
  have s4 : W4.heap.size = w.heap.size + 1 + 1 + 1 + 1 := by rw [← hW4, World.size_alloc, s3]
  have s5 : W5.heap.size = w.heap.size + 1 + 1 + 1 + 1 + 1 := by rw [← hW5, World.size_alloc, s4]
  have b1 : Below w.heap.size w W1 := by rw [← hW1]; exact (Below.refl _ w).alloc (Nat.le_refl _) _
  have b2 : Below w.heap.size w W2 := by rw [← hW2]; exact b1.alloc (by rw [s1]; omega) _
  have b3 : Below w.heap.size w W3 := by rw [← hW3]; exact b2.alloc (by rw [s2]; omega) _
  have b4 : Below w.heap.size w W4 := by rw [← hW4]; exact b3.alloc (by rw [s3]; omega) _
  have bW : Below w.heap.size w W5 := by rw [← hW5]; exact b4.alloc (by rw [s4]; omega) _
  have hpd : Boxed W5 w.heap.size 26 (.pointer (some ⟨q, 0, none⟩)) := by
    rw [← hW5, ← hW4, ← hW3, ← hW2, ← hW1]; exact ((((Boxed.new w _ _).alloc _).alloc _).alloc _).alloc _
  have hpr : Boxed W5 (w.heap.size + 1) 23 (.slice X m cx) := by
    rw [← s1, ← hW5, ← hW4, ← hW3, ← hW2]; exact (((Boxed.new W1 _ _).alloc _).alloc _).alloc _
  have hpn : Boxed W5 (w.heap.size + 1 + 1) 3 (.int .i64 0) := by
    rw [← s2, ← hW5, ← hW4, ← hW3]; exact ((Boxed.new W2 _ _).alloc _).alloc _
  have hpp : Boxed W5 (w.heap.size + 1 + 1 + 1) 23 (.slice none 0 0) := by
    rw [← s3, ← hW5, ← hW4]; exact (Boxed.new W3 _ _).alloc _
  have hfb : Blk W5 (w.heap.size + 1 + 1 + 1 + 1) #[fnV 31 #[.pointer (some ⟨w.heap.size + 1, 0, none⟩)],
    fnV 32 #[.pointer (some ⟨w.heap.size + 1, 0, none⟩), .pointer (some ⟨w.heap.size + 1 + 1, 0, none⟩), .pointer (some ⟨w.heap.size + 1 + 1 + 1, 0, none⟩), .pointer (some ⟨w.heap.size, 0, none⟩)]] 44 := by
    rw [← s4, ← hW5]; exact Blk.new W4 _ _
  have hlt := h.lt
  have key := first2 W5 (w.heap.size + 1 + 1 + 1 + 1) 31 32 _ _ (fun e W' => DAns 52 B q r (jSnap s ls) w e W') hfb ent31j ent32j
    ((jsnap1 W5 _ Bb X m cx ls vs hpr (hb.below bW)).mono fun e W' hA => by
      obtain ⟨rfl, hbl⟩ := hA
      have hbw : Below w.heap.size w W' := bW.trans (hbl.mono (by rw [s5]; omega))
      refine ⟨rowsErr ls, rfl, ?_⟩
      by_cases h0 : rowsErr ls = 0
      · right
        refine ⟨h0, hfb.below hbl, ?_⟩
        have hbW := hb.below hbw
        refine (jsnap2 W' Bb B q r s _ _ _ _ X m cx ls vs (h.below hbw) (boxBel hpr hbl) hbW (boxBel hpn hbl) (boxBel hpp hbl) (boxBel hpd hbl)
          ⟨by omega, by omega, by omega, by omega, by omega, by omega, by omega, fun e => by have := (hlt.2 _ e).2; omega, fun e => by have := (hlt.2 _ e).2; omega⟩
          (fun ad e hn => by have := hb.head ad e hn; omega) (fun i x Ai ci hx hv ad e hn => by have := hb.rows i x Ai ci hx hv ad e hn; omega) (rowsErr_zero h0)).mono fun e2 w2 hD => ?_
        obtain ⟨rfl, Wm, ho, hS⟩ := hD
        refine ⟨_, rfl, ?_⟩
        have : jSnap s ls = jSnap2 s ls := by unfold jSnap jSnap2; rw [if_neg (by simpa using h0)]
        rw [this]
        exact ⟨rfl, hS.pre (hbw.trans (ho.below (by have := hbw.size; omega) (fun i e => by omega)))⟩
      · left
        refine ⟨h0, ?_⟩
        have : jSnap s ls = (rowsErr ls, s) := by unfold jSnap; rw [if_pos h0]
        rw [this]
        exact ⟨rfl, DStep.same h hbw⟩)
  have KEY := Lib.hid key
  clear key hpd hpr hpn hpp hfb bW b4 b3 b2 b1 s5 s4 s2 s3 s1 hlt
  subst hW1 hW2 hW3 hW4
  rw [← hW5] at KEY
  simp only [fnV] at KEY
  clear hW5 W5 h hb
  go_enter Try.func12, Try.ntmps12
  go_wp2_with fail
  refine KEY.out.mono ?_
  rintro e w1 ⟨rfl, hS⟩
  have HS := Lib.hid hS
  clear hS KEY
  go_wp2_with fail
  go_ret
  exact ⟨rfl, HS.out⟩
theorem jsnap_nil (w : World) (X : Option Addr) (m cx : Nat) :
    Calls Try.prog 12 #[.pointer none, .slice X m cx] w (fun e w' => e = .returned (.int .i64 1) ∧ Below w.heap.size w w') := by
  go_enter Try.func12, Try.ntmps12
  go_wp2_with fail
  go_ret
  exact ⟨rfl, ((Below.refl _ w).alloc (Nat.le_refl _) _).alloc (by rw [World.size_alloc]; omega) _⟩
end Go.Proofs.Ytckofpdhcpabnaa
