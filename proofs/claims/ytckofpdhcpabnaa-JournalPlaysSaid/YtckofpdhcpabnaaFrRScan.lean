/- hoardingref07.Scan, hoardingref07.Same. -/
import Derived.Test.YtckofpdhcpabnaaFrScan
import Derived.Deep.QuietTactic
import Derived.BigQuiet
namespace Go.Proofs.Ytckofpdhcpabnaa
open Go.RowKit

theorem be4_eq (l : List UInt8) (h : 4 ≤ l.length) : beN (l.take 4) = l[0].toNat * 16777216 + l[1].toNat * 65536 + l[2].toNat * 256 + l[3].toNat := by
  match l, h with
  | a :: b :: c :: d :: r, _ => simp [beN]; omega

/-- between two rounds -/
structure RScanI (l : List UInt8) (w : World) (pre : List Ld) (A : Option Addr) (n c : Nat) (A' : Option Addr) (c' : Nat) (W : World) : Prop where
  rd : Rd w 1 A n c (bv (l.drop (szs (lb pre))))
  own : W.ownsRow w.heap.size 22 1 (.slice A' pre.length c') pre.length (pre.map Ld.val)
  lo : loads l = lb pre ++ loads (l.drop (szs (lb pre)))
  le : szs (lb pre) ≤ l.length
  rows : ∀ x ∈ pre, W.ownsRow w.heap.size 5 1 x.val x.b.length (bv x.b)
  bel : Below w.heap.size w W

theorem RScanI.drewN {l : List UInt8} {w W : World} {pre : List Ld} {A A' : Option Addr} {n c c' : Nat} (h : RScanI l w pre A n c A' c' W) (k : Nat) : RScanI l w pre A n c A' c' (W.drewN k) :=
  ⟨h.rd, h.own, h.lo, h.le, h.rows, ⟨h.bel.os, h.bel.tape, h.bel.output, h.bel.size, h.bel.block⟩⟩

theorem own_old {W : World} {base : Nat} {e : TypeId} {sz n : Nat} {v : Value} {xs : List Value} (h : W.ownsRow base e sz v n xs) : v.ownBlock = none ∨ v.ownBlock ≠ some W.heap.size := by
  cases hb : v.ownBlock with
  | none => exact .inl rfl
  | some g => right; intro e'; injection e' with e'; have := (h.lt g hb).2; omega

/-- a round -/
theorem rscan_step {l : List UInt8} {w W w1 w2 : World} {pre : List Ld} {ad : Addr} {A' A1 A2 : Option Addr} {n c c' c1 c2 N : Nat} {o1 o2 : Obj} (h : RScanI l w pre (some ad) n c A' c' W)
    (hN : ¬ (N < 1 ∨ 524288 < N ∨ n < N + 4)) (hf : firstF (l.drop (szs (lb pre))) = some (((l.drop (szs (lb pre))).drop 4).take N))
    (ho1 : w1.ownsRow w.heap.size 5 1 (.slice A1 (0 + (4 + N - 4)) c1) (0 + (4 + N - 4)) (bv ([] ++ ((l.drop (szs (lb pre))).drop 4).take N)))
    (hg1 : (W.alloc o1).grownBy w1 (some W.heap.size))
    (ho2 : w2.ownsRow w.heap.size 22 1 (.slice A2 (pre.length + 1) c2) (pre.length + 1) (pre.map Ld.val ++ [.slice A1 N c1])) (hg2 : (w1.alloc o2).grownBy w2 (Value.slice A' pre.length c').ownBlock) :
    RScanI l w (pre ++ [⟨0, A1, c1, ((l.drop (szs (lb pre))).drop 4).take N⟩]) (if c = 4 + N then some ad else some (ad.add (4 + N))) (n - (4 + N)) (c - (4 + N)) A2 c2 w2 := by
  have hlen := firstF_len hf
  have hn := h.rd.blen
  have hX : (((l.drop (szs (lb pre))).drop 4).take N).length = N := by rw [List.length_take, List.length_drop, hn]; omega
  rw [Nat.add_sub_cancel_left, Nat.zero_add, List.nil_append] at ho1
  have hsz := h.bel.size
  have hsz1 := hg1.size
  simp at hsz1
  have hB1 : Below w.heap.size w w1 := (h.bel.alloc hsz o1).grown hg1 (by simp; omega) (fun k e => by injection e with e; omega)
  have hown1 : w1.ownsRow w.heap.size 22 1 (.slice A' pre.length c') pre.length (pre.map Ld.val) := (h.own.alloc o1).kept hg1 (own_old h.own)
  have hB2 : Below w.heap.size w w2 := below_app (hB1.alloc hB1.size o2) (hown1.alloc o2) hg2 (by have := hB1.size; simp; omega)
  have sep : ∀ {v : Value} {m : Nat} {ys : List Value}, w1.ownsRow w.heap.size 5 1 v m ys → w2.ownsRow w.heap.size 5 1 v m ys := fun h1 => (h1.alloc o2).kept hg2 (own_ne h1 hown1 (by decide))
  have hcut := h.rd.bcut (k := 4 + N) (m := n) (x := c) (by omega) (Nat.le_refl _) h.rd.cap (Nat.le_refl _)
  rw [List.drop_drop, List.take_of_length_le (by rw [List.length_drop]; rw [List.length_drop] at hn; omega)] at hcut
  refine ⟨?_, ?_, ?_, ?_, ?_, hB2⟩
  · rw [lb_snoc, szs_snoc]
    simp only [hX]
    rw [Nat.add_comm N 4]
    rw [Nat.mul_one] at hcut
    exact hcut
  · rw [List.length_append, List.length_singleton, List.map_append, List.map_singleton]
    have e1 : Ld.val ⟨0, A1, c1, ((l.drop (szs (lb pre))).drop 4).take N⟩ = .slice A1 N c1 := by simp only [Ld.val, hX]
    rw [e1]
    exact ho2
  · rw [lb_snoc, szs_snoc, List.append_assoc, h.lo, loads_some hf]
    generalize ((l.drop (szs (lb pre))).drop 4).take N = X
    rw [List.drop_drop]
    rfl
  · rw [lb_snoc, szs_snoc]
    simp only [hX]
    rw [List.length_drop] at hn
    have := h.le
    omega
  · intro x hx
    rcases List.mem_append.1 hx with hx | hx
    · exact sep ((h.rows x hx).alloc o1 |>.kept hg1 (own_old (h.rows x hx)))
    · rw [List.mem_singleton] at hx
      subst hx
      simp only [Ld.val, hX]
      exact sep ho1

/-- the loop is left -/
theorem rscan_end {l : List UInt8} {w W : World} {pre : List Ld} {A A' : Option Addr} {n c c' : Nat} (h : RScanI l w pre A n c A' c' W) (hf : firstF (l.drop (szs (lb pre))) = none) :
    ScanP l w (.returned (.tuple #[.slice A' pre.length c', .int .i64 (n : Int)])) W := by
  have h1 : loads l = lb pre := by rw [h.lo, loads_none hf, List.append_nil]
  have hlen : (loads l).length = pre.length := by rw [h1]; simp [lb]
  have hn := h.rd.blen
  rw [List.length_drop] at hn
  have hle := h.le
  refine ⟨A', c', _, ?_, ⟨by rw [hlen]; exact Rd.of_own h.own, rfl, own_new h.own, ?_⟩, h.bel⟩
  · rw [hlen, h1, show (n : Int) = (l.length : Int) - (szs (lb pre) : Int) from by omega]
  · intro i x hx
    rw [h1] at hx
    simp only [lb, List.getElem?_map, Option.map_eq_some_iff] at hx
    obtain ⟨y, hy, rfl⟩ := hx
    have h2 := h.rows y (List.mem_of_getElem? hy)
    exact ⟨y.ad, y.c, by rw [List.getElem?_map, hy]; rfl, Rd.of_own h2, own_new h2⟩

set_option maxRecDepth 100000 in
set_option maxHeartbeats 2000000 in
theorem rscan_any (A : Option Addr) (n c : Nat) (l : List UInt8) (w : World) (hr : Rd w 1 A n c (bv l)) (hn : n ≤ 1099511627776) :
    Calls Try.prog 21 #[.slice A n c] w (ScanP l w) := by
  have hl := hr.blen
  have HL := Lib.hid hl
  clear hl
  go_enter Try.func21, Try.ntmps21
  go_wp2_with fail
  go_loopw [0, 4] (fun b o wr => ∃ (pre : List Ld) (A0 : Option Addr) (n0 c0 : Nat) (A' : Option Addr) (c' : Nat), b = .slice A0 n0 c0 ∧ o = .slice A' pre.length c' ∧ n0 ≤ n ∧ RScanI l w pre A0 n0 c0 A' c' wr)
    (fun b _ _ => match b with | .slice _ m _ => m | _ => 0)
  case atStart => exact ⟨[], A, n, c, none, 0, rfl, rfl, Nat.le_refl _, ⟨by simpa using hr, World.ownsRow_nil _ _ _ _, by simp, by simp, by simp, Below.refl _ _⟩⟩
  case round =>
    obtain ⟨pre, A0, n0, c0, A', c', rfl, rfl, hn0, hi⟩ := hrel
    have hc := hi.rd.cap
    have hm := hi.rd.max
    unfold maxLen at hm
    have hln := hi.rd.blen
    by_cases h4 : n0 < 4
    · have HLN := Lib.hid hln
      clear hln
      go_wp2
      go_ret2
      exact rscan_end hi (by unfold firstF; rw [if_pos (by rw [HLN.out]; exact h4)])
    · obtain ⟨ad, rfl, h0⟩ := hi.rd.addr (by omega) (by omega)
      clear h0
      have c0' : wr.cell? ad = some (.int .u8 ((l.drop (szs (lb pre)))[0].toNat : Int)) := (hi.rd.below hi.bel).byte (j := 0) (by omega)
      have c1' : wr.cell? ⟨ad.block, ad.off + 1, none⟩ = some (.int .u8 ((l.drop (szs (lb pre)))[1].toNat : Int)) := (hi.rd.below hi.bel).byte (j := 1) (by omega)
      have c2' : wr.cell? ⟨ad.block, ad.off + 2, none⟩ = some (.int .u8 ((l.drop (szs (lb pre)))[2].toNat : Int)) := (hi.rd.below hi.bel).byte (j := 2) (by omega)
      have c3' : wr.cell? ⟨ad.block, ad.off + 3, none⟩ = some (.int .u8 ((l.drop (szs (lb pre)))[3].toNat : Int)) := (hi.rd.below hi.bel).byte (j := 3) (by omega)
      have u0 := ((l.drop (szs (lb pre)))[0]).toNat_lt
      have u1 := ((l.drop (szs (lb pre)))[1]).toNat_lt
      have u2 := ((l.drop (szs (lb pre)))[2]).toNat_lt
      have u3 := ((l.drop (szs (lb pre)))[3]).toNat_lt
      have HB := Lib.hid (be4_eq (l.drop (szs (lb pre))) (by omega))
      generalize (l.drop (szs (lb pre)))[0].toNat = x0 at *
      generalize (l.drop (szs (lb pre)))[1].toNat = x1 at *
      generalize (l.drop (szs (lb pre)))[2].toNat = x2 at *
      generalize (l.drop (szs (lb pre)))[3].toNat = x3 at *
      have HLN := Lib.hid hln
      clear hln
      go_wp2_with fail
      go_quiet (fail)
      have hi1 := hi.drewN nq
      generalize wr.drewN nq = W1 at hi1 ⊢
      clear hi c0' c1' c2' c3'
      obtain ⟨N, hN⟩ : ∃ N : Nat, x0 * 16777216 + x1 * 65536 + x2 * 256 + x3 = N := ⟨_, rfl⟩
      rw [hN] at HB
      rw [show (x0 : Int) * 16777216 + (x1 : Int) * 65536 + (x2 : Int) * 256 + (x3 : Int) = (N : Int) from by omega]
      have hN3 : N < 4294967296 := by omega
      clear hN u0 u1 u2 u3
      have hnone : (N < 1 ∨ 524288 < N ∨ n0 < N + 4) → firstF (l.drop (szs (lb pre))) = none := fun h => by
        unfold firstF; rw [HB.out, HLN.out, if_neg (by omega), if_pos h]
      have hsome : ¬ (N < 1 ∨ 524288 < N ∨ n0 < N + 4) → firstF (l.drop (szs (lb pre))) = some (((l.drop (szs (lb pre))).drop 4).take N) := fun h => by
        unfold firstF; rw [HB.out, HLN.out, if_neg (by omega), if_neg h]
      have HN := Lib.hid hnone
      have HS := Lib.hid hsome
      clear hnone hsome
      by_cases t1 : N < 1
      · go_wp2
        go_ret2
        exact rscan_end hi1 (HN.out (.inl t1))
      by_cases t2 : 524288 < N
      · go_wp2
        go_ret2
        exact rscan_end hi1 (HN.out (.inr (.inl t2)))
      by_cases t3 : n0 < N + 4
      · go_wp2
        go_ret2
        exact rscan_end hi1 (HN.out (.inr (.inr t3)))
      have hf := Lib.hid (HS.out (by omega))
      have hcut : Rd W1 1 (some ⟨ad.block, ad.off + 4, none⟩) (4 + N - 4) (c0 - 4) (bv (((l.drop (szs (lb pre))).drop 4).take N)) := by
        have := (hi1.rd.below hi1.bel).bcut (k := 4) (m := 4 + N) (x := c0) (by omega) (by omega) (by omega) (Nat.le_refl _)
        rw [if_neg (by omega)] at this
        rw [Nat.add_sub_cancel_left] at this ⊢
        exact this
      have hbnd : pre.length + 1 ≤ 1099511627777 := by
        have h1 := length_le_szs (lb pre)
        have h2 := hi1.le
        have h3 := HL.out
        simp [lb] at h1 h2
        omega
      have hsz := hi1.bel.size
      go_wp2_with (first
        | (at_builtin; refine app_u8 rfl (.tmp 45) (.tmp 49) rfl w.heap.size _ 0 0 [] rfl (World.ownsRow_lit (base := w.heap.size) (e := 5) (size := 1) W1 #[] 0 hsz (by simp [maxLen]) rfl) _ _ _ _ rfl (hcut.alloc _) (by omega) (by simp; omega) ?_; intro A1 c1 w1 ho1 hg1 hat1 hn1; have hs1 : W1.heap.size + 1 ≤ w1.heap.size := (by have := hg1.size; simp at this; omega); have HO1 := Lib.hid ho1; have HG1 := Lib.hid hg1; clear ho1 hg1 hat1 hn1)
        | (at_builtin; refine app_bs rfl (.tmp 44) (.tmp 51) rfl w.heap.size A' c' _ _ rfl (((hi1.own.alloc _).kept HG1.out (own_old hi1.own)).alloc _) _ _ _ [.slice A1 N c1] rfl (Rd.lit w1 1 1 #[.slice A1 N c1] _ _ rfl (by simp [maxLen])) (by simp [Value.oneCell']) (by omega) (by simp; omega) ?_; intro A2 c2 w2 ho2 hg2 hat2 hn2; have HO2 := Lib.hid ho2; have HG2 := Lib.hid hg2; clear ho2 hg2 hat2 hn2))
      refine ⟨⟨pre ++ [⟨0, A1, c1, ((l.drop (szs (lb pre))).drop 4).take N⟩], _, _, _, _, _, rfl, by simp, by omega, rscan_step hi1 (by omega) hf.out HO1.out HG1.out HO2.out HG2.out⟩, ?_⟩
      show n0 - (4 + N) < n0
      omega
end Go.Proofs.Ytckofpdhcpabnaa
