/- frame.All: the iterator's contract. -/
import Derived.Test.YtckofpdhcpabnaaFrFirst
import Derived.Test.YtckofpdhcpabnaaFrClone
import Derived.Test.YtckofpdhcpabnaaFrTyIn
namespace Go.Proofs.Ytckofpdhcpabnaa
open Go.RowKit
attribute [local go_sem] Oper.semAt_some

/-- a load as it is handed to a round -/
structure Ld where
  pos : Nat
  ad : Option Addr
  c : Nat
  b : List UInt8
def Ld.enc (x : Ld) : Array Value := #[.int .i64 x.pos, .slice x.ad x.b.length x.c]
def lb (xs : List Ld) : List (List UInt8) := xs.map (·.b)
@[simp] theorem lb_nil : lb [] = [] := rfl
theorem lb_snoc (xs : List Ld) (x : Ld) : lb (xs ++ [x]) = lb xs ++ [x.b] := by simp [lb]

/-- what is known of the load x behind the loads pre, in the world W; from block B on -/
structure LdV (l : List UInt8) (B : Nat) (pre : List Ld) (x : Ld) (W : World) : Prop where
  pos : x.pos = szs (lb pre)
  le : szs (lb pre) + (x.b.length + 4) ≤ l.length
  pre : ∃ r, loads l = lb pre ++ x.b :: r
  own : W.ownsRow B 5 1 (.slice x.ad x.b.length x.c) x.b.length (bv x.b)
  lo : 1 ≤ x.b.length
  hi : x.b.length ≤ 524288

def AllK (Bn : Nat) (A : Option Addr) (n k : Nat) : Prop := k = Bn ∨ ∃ ad, A = some ad ∧ 0 < n ∧ k = ad.block

theorem Rd.keeps {w w' : World} {sz n c : Nat} {A : Option Addr} {xs : List Value} {K : Nat → Prop} (h : Rd w sz A n c xs) (hk : Keeps K w w') (hA : ∀ ad, A = some ad → 0 < n → K ad.block) : Rd w' sz A n c xs :=
  ⟨h.len, h.cap, h.max, fun j u hu => by
    obtain ⟨ad, e, hc⟩ := h.at_ j u hu
    refine ⟨ad, e, (World.cell?_of_block ?_).trans hc⟩
    rw [block_of_add]
    refine hk.block _ (hA ad e ?_)
    rcases Nat.eq_zero_or_pos n with h0 | h0
    · have hl := h.len
      rw [h0, Nat.zero_mul] at hl
      rw [List.eq_nil_of_length_eq_zero hl] at hu
      cases hu
    · exact h0⟩

set_option maxRecDepth 100000 in
set_option maxHeartbeats 2000000 in
theorem all_iter (Bn : Nat) (A : Option Addr) (n c : Nat) (l : List UInt8) (w : World) (hbox : w.heap[Bn]? = some (.cells #[.slice A n c] 22 (0, 0))) (hr : Rd w 1 A n c (bv l)) (hn : n ≤ 70368744177664) :
    Iter Try.prog 55 #[.pointer (some ⟨Bn, 0, none⟩)] Ld.enc (AllK Bn A n) (LdV l w.heap.size) (fun xs => lb xs = loads l) (fun _ => True) w := by
  intro m lp J Jx W hW hJ hJx hY h0
  have hl := hr.blen
  have hc := hr.cap
  have hm := hr.max
  unfold maxLen at hm
  refine callsIn_of_wp Try.func55 rfl trivial ?_
  simp only [Try.ntmps55, List.size_toArray, List.length_cons, List.length_nil, Nat.reduceAdd, Nat.reduceSub, Array.replicate_succ, Array.replicate_zero, List.push_toArray, List.append_toArray, List.nil_append, List.cons_append]
  have HL := Lib.hid hl
  clear hl
  gi_wp2
  gi_loopw [3] (fun p wr => ∃ pre : List Ld, p = .int .i64 (szs (lb pre) : Nat) ∧ loads l = lb pre ++ loads (l.drop (szs (lb pre))) ∧ szs (lb pre) ≤ n ∧ Keeps (AllK Bn A n) W wr ∧ J pre wr)
    (fun p _ => n - (intOf p).toNat)
  case atStart => exact ⟨[], rfl, by simp, by simp, Keeps.refl _ _, h0⟩
  case round =>
    obtain ⟨pre, rfl, hlo, hle, hK, hj⟩ := hrel
    have HLO := Lib.hid hlo
    have HK := Lib.hid hK
    have HJ := Lib.hid hj
    clear hlo hK hj
    have hb0 : wr.heap[Bn]? = some (.cells #[.slice A n c] 22 (0, 0)) := (HK.out.block _ (.inl rfl)).trans ((hW.block _ (Array.getElem?_eq_some_iff.1 hbox).1).trans hbox)
    have hcell : wr.cell? ⟨Bn, 0, none⟩ = some (.slice A n c) := cell_of_row wr Bn 0 _ _ _ hb0
    have hrd : Rd wr 1 A n c (bv l) := (hr.below hW).keeps HK.out (fun ad e h0 => .inr ⟨ad, e, h0, rfl⟩)
    have hcut := hrd.bcut (k := szs (lb pre)) (m := n) (x := c) hle (Nat.le_refl _) hc (Nat.le_refl _)
    have hsl := run_slice_from (P := Try.prog) (w := wr) (A := A) (c := c) (t := 22) (e := 5) Try.underlying22 info_bsz hle .i64
    obtain ⟨A2, hA2⟩ : ∃ A2, (if c = szs (lb pre) then A else A.map (·.add (szs (lb pre) * 1))) = A2 := ⟨_, rfl⟩
    rw [hA2] at hsl hcut
    rw [show (l.drop (szs (lb pre))).take (n - szs (lb pre)) = l.drop (szs (lb pre)) from List.take_of_length_le (by rw [List.length_drop, HL.out]; exact Nat.le_refl _)] at hcut
    have HC := Lib.hid hcut
    clear hA2 hcut hb0
    cases hf : firstF (l.drop (szs (lb pre))) with
    | none =>
      have HF := Lib.hid hf
      clear hf
      gi_wp2_with fail
      refine ⟨trivial, (fun h => by cases h), (callsIn_wide.2 (first_any _ _ _ _ _ HC.out)).mono ?_⟩
      rintro e w1 ⟨rfl, h1, -⟩
      obtain rfl := h1 HF.out
      clear h1
      gi_wp2
      refine ⟨trivial, ?_⟩
      gi_wp2
      refine ⟨(fun _ h => by cases h), ?_⟩
      gi_wp2
      refine bodyPost_ret (results_none rfl _ _ _) rfl ?_
      exact ⟨⟨_, rfl⟩, .inl ⟨pre, by rw [HLO.out, loads_none HF.out, List.append_nil], HJ.out⟩⟩
    | some x =>
      have HF := Lib.hid hf
      have hx := firstF_len hf
      have hx1 := hx.1
      have hx2 := hx.2.1
      have hx3 := hx.2.2.1
      rw [List.length_drop, HL.out] at hx1
      clear hf hx
      gi_wp2_with fail
      refine ⟨trivial, (fun h => by cases h), (callsIn_wide.2 (first_any _ _ _ _ _ HC.out)).mono ?_⟩
      rintro e w1 ⟨rfl, -, h1⟩
      obtain ⟨A3, rfl, hr3⟩ := h1 _ HF.out
      have HR3 := Lib.hid hr3
      clear h1 hr3
      gi_wp2_with fail
      refine ⟨trivial, (fun h => by cases h), (callsIn_wide.2 (clone_any _ _ _ _ _ HR3.out (by omega))).mono ?_⟩
      rintro e w2 ⟨A4, c4, rfl, ho4, hb4⟩
      have hw2 : w.heap.size ≤ wr.heap.size := Nat.le_trans hW.size HK.out.size
      have hK2 : Keeps (AllK Bn A n) W w2 := HK.out.trans (Keeps.of_below hb4 (fun k hk => by
        have hs : w.heap.size ≤ wr.heap.size := hw2
        rcases hk with rfl | ⟨ad, e, _, rfl⟩
        · have := (Array.getElem?_eq_some_iff.1 hbox).1; omega
        · subst e
          have := hr.lt (by rw [bv_length, HL.out]; omega)
          omega))
      have hv : LdV l w.heap.size pre ⟨szs (lb pre), A4, c4, x⟩ w2 :=
        ⟨rfl, by have := HL.out; simp only; omega, ⟨_, by rw [HLO.out, loads_some HF.out]⟩, own_le ho4 hw2, hx2, hx3⟩
      obtain ⟨fn, tmps, assign, body, hy, hR⟩ := hY pre _ w2 (hJ _ _ _ HJ.out hb4) hv
      dsimp only [Ld.enc] at hy
      have HV := Lib.hid hv
      have HK2 := Lib.hid hK2
      clear hv hK2 ho4 hb4
      gi_wp2_with fail
      refine ⟨(fun h => by cases h), hR.mono ?_⟩
      rintro e w3 (⟨rfl, hj3, hk3⟩ | ⟨rfl, hjx3⟩)
      · have HJ3 := Lib.hid hj3
        have HK3 := Lib.hid (HK2.out.trans hk3)
        clear hj3 hk3 hR hy
        gi_wp2_with fail
        refine ⟨trivial, (fun h => by cases h), (callsIn_wide.2 (size_yes _ (by omega) (by omega) _)).mono ?_⟩
        rintro e w' ⟨rfl, rfl⟩
        gi_wp2
        go_roundw
        case rel =>
          refine ⟨pre ++ [⟨szs (lb pre), A4, c4, x⟩], ?_, ?_, ?_, HK3.out, HJ3.out⟩
          · rw [lb_snoc, szs_snoc]; congr 1
          · rw [lb_snoc, szs_snoc, List.append_assoc, HLO.out, loads_some HF.out, List.drop_drop]; rfl
          · rw [lb_snoc, szs_snoc]; simp only; omega
        case measure => simp [intOf]; omega
      · gi_wp2
        refine bodyPost_ret (results_none rfl _ _ _) rfl ?_
        exact ⟨⟨_, rfl⟩, .inr ⟨_, trivial, hjx3⟩⟩

theorem all_any (A : Option Addr) (n c : Nat) (w : World) :
    Calls Try.prog 50 #[.slice A n c] w fun e w' => e = .returned (.func (.func 55) #[] #[.pointer (some ⟨w.heap.size, 0, none⟩)]) ∧ w' = w.alloc (.cells #[.slice A n c] 22) := by
  go_enter Try.func50, Try.ntmps50
  go_wp2
  go_ret
  exact ⟨rfl, rfl⟩
end Go.Proofs.Ytckofpdhcpabnaa
