/- The law FrameOwn. -/
import Derived.Test.YtdfompaenclhnaaFrLong
namespace Go.Proofs.Ytdfompaenclhnaa
open Go.RowKit

/-- block g holds bytes, n at least -/
def ByteBlk (g n : Nat) (w : World) : Prop := ∃ cs : Array Value, w.heap[g]? = some (.cells cs 5 (0, 0)) ∧ ∀ j, j < n → ∃ v : Int, cs[j]? = some (.int .u8 v)
theorem ByteBlk.set {g n : Nat} {w : World} (h : ByteBlk g n w) (j : Nat) (v : Int) : ByteBlk g n (w.setCell ⟨g, j, none⟩ (.int .u8 v)) := by
  obtain ⟨cs, h1, h2⟩ := h
  refine ⟨cs.setIfInBounds j (.int .u8 v), ?_, fun i hi => ?_⟩
  · rw [heap_setCell_same w g j cs _ _ h1]
  · rw [Array.getElem?_setIfInBounds]
    split
    · obtain ⟨u, hu⟩ := h2 i hi
      rename_i e
      subst e
      have := (Array.getElem?_eq_some_iff.1 hu).1
      rw [if_pos this]
      exact ⟨_, rfl⟩
    · exact h2 i hi
theorem ByteBlk.of_own {w : World} {base g n c : Nat} {l : List UInt8} (h : w.ownsRow base 5 1 (.slice (some ⟨g, 0, none⟩) n c) n (bv l)) : ByteBlk g n w := by
  have hl := h.1
  rw [bv_length, Nat.mul_one] at hl
  rcases h.2 with ⟨e, _⟩ | ⟨g', cap, cur, e, hb, hg, hn, hm, hcs, ht⟩
  · cases e
  · injection e with e1 _ _
    injection e1 with e1
    injection e1 with e1 _ _
    subst e1
    refine ⟨cur, hg, fun j hj => ⟨(l[j]'(by omega)).toNat, ?_⟩⟩
    have h1 := bv_get l j (by omega)
    rw [← ht, List.getElem?_take, if_pos (by omega)] at h1
    simpa using h1
theorem ByteBlk.keep {g n : Nat} {w w' : World} (h : ByteBlk g n w) (hb : w'.heap[g]? = w.heap[g]?) : ByteBlk g n w' := by
  obtain ⟨cs, h1, h2⟩ := h
  exact ⟨cs, hb.trans h1, h2⟩
theorem BB.grown {w w' : World} {B g n c : Nat} {A : Option Addr} {ls : List (List UInt8)} {vs : List Value} (h : BB w B A n c ls vs) (hg : w.grownBy w' (some g)) (hlt : g < B) : BB w' B A n c ls vs :=
  ⟨rd_grown h.rd hg (fun ad e e' => by injection e' with e'; have := h.new ad e; omega), h.len, h.new, fun i x hx => by
    obtain ⟨Ai, ci, h1, h2, h3⟩ := h.row i x hx
    exact ⟨Ai, ci, h1, rd_grown h2 hg (fun ad e e' => by injection e' with e'; have := h3 ad e; omega), h3⟩⟩
theorem grownBy_trans' {a b c : World} {r : Option Nat} (h : a.grownBy b r) (k : b.grownBy c r) : a.grownBy c r :=
  ⟨k.os.trans h.os, k.tape.trans h.tape, k.output.trans h.output, Nat.le_trans h.size k.size, fun i hi hr => (k.block i (Nat.lt_of_lt_of_le hi h.size) hr).trans (h.block i hi hr)⟩
theorem grownBy_set' (W : World) (g j : Nat) (v : Value) : W.grownBy (W.setCell ⟨g, j, none⟩ v) (some g) :=
  ⟨rfl, rfl, rfl, (by simp), fun k _ hk => Below.heap_setCell _ _ _ k (fun e => hk (by rw [e]))⟩

set_option maxRecDepth 100000 in
set_option maxHeartbeats 2000000 in
theorem frameOwn_walk (w : World) (A : Option Addr) (n c : Nat) (l : List UInt8) (hr : Rd w 1 A n c (bv l)) (y : Int) (_ : 0 ≤ y) (_ : y ≤ 255) :
    Calls Try.prog 7 #[.slice A n c, .int .u8 y] w (Yes w) := by
  have hc := hr.cap
  have hm := hr.max
  unfold maxLen at hm
  have hl := hr.blen
  by_cases h0 : 2000 < n
  · clear hl
    go_enter Try.func7, Try.ntmps7
    go_wp2_with (go_at_call 9; refine (wakes_any _).mono ?_; rintro e w1 ⟨rfl, HB⟩)
    go_ret
    exact ⟨rfl, HB⟩
  have HL := Lib.hid hl
  clear hl
  have hs0 := run_str (P := Try.prog) w 22 5 9 Try.underlying22 Try.underlying5 Try.underlying9 hr
  have hown : (w.alloc (.cells #[] 5)).ownsRow w.heap.size 5 1 (.slice (some ⟨w.heap.size, 0, none⟩) 0 0) 0 (bv []) :=
    World.ownsRow_lit (base := w.heap.size) (e := 5) (size := 1) w #[] 0 (Nat.le_refl _) (by simp [maxLen]) rfl
  have HO := Lib.hid hown
  clear hown
  go_enter Try.func7, Try.ntmps7
  go_wp2_with (at_builtin; refine app_u8 rfl (.tmp 20) (.tmp 21) rfl w.heap.size _ 0 0 [] rfl HO.out _ _ _ l rfl (hr.alloc _) (by omega) (by simp) ?_; intro A1 c1 w1 ho1 hg1 hat1 hn1; have HO1 := Lib.hid ho1; have HG1 := Lib.hid hg1; have HN1 := Lib.hid hn1; clear ho1 hg1 hat1 hn1)
  have ho : w1.ownsRow w.heap.size 5 1 (.slice A1 n c1) n (bv l) := by simpa using HO1.out
  have hB1 : Below w.heap.size w w1 := below_app ((Below.refl _ _).alloc (Nat.le_refl _) _) HO.out HG1.out (by simp)
  obtain ⟨g, hg, hgl⟩ : ∃ g, A1 = some ⟨g, 0, none⟩ ∧ w.heap.size ≤ g := by
    rcases ho.2 with ⟨e, _⟩ | ⟨g, cap, cur, e, hb, _⟩
    · injection e with e _ _; have := (HN1.out.1 e).1; cases this
    · injection e with e _ _; exact ⟨g, e, hb⟩
  have hgw : g < w1.heap.size := (ho.lt g (by rw [hg]; rfl)).2
  subst hg
  have hblk := ByteBlk.of_own ho
  have HOO := Lib.hid ho
  clear HO1 HG1 HN1 HO hs0 ho
  refine (frame_any _ _ _ l _ (Rd.of_own HOO.out)).mono ?_
  rintro e w2 ⟨HB2, h20, -, h21⟩
  obtain ⟨A2, m2, c2, ev, he, hfr⟩ : ∃ A2 m2 c2 ev, e = .returned (.tuple #[.slice A2 m2 c2, .int .i64 ev]) ∧ ((n = 0 ∧ ev = 2) ∨ (1 ≤ n ∧ ev = 0 ∧ m2 = n + 4 ∧ w2.ownsRow w1.heap.size 5 1 (.slice A2 (n + 4) c2) (n + 4) (bv (by4 n ++ l)))) := by
    have hl := HL.out
    rcases Nat.eq_zero_or_pos n with h | h
    · exact ⟨none, 0, 0, 2, h20 (by omega), .inl ⟨h, rfl⟩⟩
    · obtain ⟨A2, c2, e1, e2⟩ := h21 (by omega) (by omega)
      rw [hl] at e1 e2
      exact ⟨A2, n + 4, c2, 0, e1, .inr ⟨h, rfl, rfl, e2⟩⟩
  subst he
  have HFR := Lib.hid hfr
  have hrd2 := (Rd.of_own HOO.out).below HB2
  have hblk2 := hblk.keep (HB2.block g hgw)
  clear hfr h20 h21
  go_wp2_with fail
  refine (scan_any _ _ _ l _ hrd2 (by omega)).mono ?_
  rintro e w3 ⟨A3, c3, vs3, rfl, hbb3, HB3⟩
  have hb13 := hB1.trans ((HB2.mono hB1.size).trans (HB3.mono (Nat.le_trans hB1.size HB2.size)))
  have hrd3 := hr.below hb13
  have hblk3 := hblk2.keep (HB3.block g (Nat.lt_of_lt_of_le hgw HB2.size))
  go_wp2_with fail
  refine (rscan_any _ _ _ l _ hrd3 (by omega)).mono ?_
  rintro e w4 ⟨A4, c4, vs4, rfl, hbb4, HB4⟩
  have hb14 := Lib.hid (hb13.trans (HB4.mono hb13.size))
  have hblk4 := Lib.hid (hblk3.keep (HB4.block g (Nat.lt_of_lt_of_le hgw (Nat.le_trans HB2.size HB3.size))))
  have BB3 := Lib.hid (hbb3.below HB4)
  have BB4 := Lib.hid hbb4
  have HB24 := Lib.hid (HB3.trans (HB4.mono HB3.size))
  have hz2 := HB2.size
  have hz3 := HB3.size
  have hz4 := HB4.size
  clear hbb3 hbb4 HB2 HB3 HB4 hb13 hrd3 hrd2 hblk hblk2 hblk3 hB1
  go_wp2_with fail
  go_loopw [40] (fun i wr => ∃ k : Nat, k ≤ n ∧ i = .int .i64 k ∧ ByteBlk g n wr ∧ w4.grownBy wr (some g)) (fun i _ => n - (intOf i).toNat)
  case atStart => exact ⟨0, Nat.zero_le _, rfl, hblk4.out, ⟨rfl, rfl, rfl, Nat.le_refl _, fun _ _ _ => rfl⟩⟩
  case round =>
    obtain ⟨k, hk, rfl, hbk, hgr⟩ := hrel
    by_cases hlt : k < n
    · obtain ⟨cs, hcs, hcv⟩ := hbk
      obtain ⟨v, hv⟩ := hcv k hlt
      have hcell : wr.cell? ⟨g, k, none⟩ = some (.int .u8 v) := by rw [cell_of_row wr g k cs _ _ hcs]; exact hv
      have hfz : wr.frozen? ⟨g, k, none⟩ = false := frozen_of_row wr g k cs _ hcs
      have HBK := Lib.hid (show ByteBlk g n wr from ⟨cs, hcs, hcv⟩)
      have HGR := Lib.hid hgr
      clear hcs hcv hv hgr
      go_wp2
      go_roundw
      case rel => exact ⟨k + 1, by omega, by go_num, HBK.out.set k _, grownBy_trans' HGR.out (grownBy_set' _ _ _ _)⟩
      case measure => simp [intOf]; omega
    · have hz5 := hgr.size
      have hbel : Below w.heap.size w wr := hb14.out.grown hgr hb14.out.size (fun j e => by cases e; exact hgl)
      have bb3 := BB3.out.grown hgr (by omega)
      have bb4 := BB4.out.grown hgr (by omega)
      have HBEL := Lib.hid hbel
      have HGR := Lib.hid hgr
      clear hbel hgr
      rcases HFR.out with ⟨hn0, rfl⟩ | ⟨hn1, rfl, rfl, hown2⟩
      · go_wp2_with fail
        refine (same_any _ _ _ _ _ _ _ _ _ _ _ bb3 bb4).mono ?_
        rintro e w5 ⟨rfl, j, rfl⟩
        go_wp2_with (go_at_call 9; refine (wakes_any _).mono ?_; rintro e w6 ⟨rfl, HB6⟩)
        go_ret
        exact ⟨rfl, (below_drewN HBEL.out j).trans (HB6.mono HBEL.out.size)⟩
      · have hrd5 : Rd wr 1 A2 (n + 4) c2 (bv (by4 n ++ l)) :=
          rd_grown ((Rd.of_own hown2).below HB24.out) HGR.out (fun ad e e' => by injection e' with e'; have := own_new hown2 ad e; omega)
        have hcap := hrd5.cap
        have hcut := hrd5.bcut (k := 4) (m := n + 4) (x := c2) (by omega) (Nat.le_refl _) hcap (Nat.le_refl _)
        have hsl := run_slice_from (P := Try.prog) (w := wr) (A := A2) (n := n + 4) (c := c2) (k := 4) (t := 22) (e := 5) Try.underlying22 info_bsz (by omega) .i64
        obtain ⟨A5, hA5⟩ : ∃ A5, (if c2 = 4 then A2 else A2.map (·.add (4 * 1))) = A5 := ⟨_, rfl⟩
        rw [hA5] at hsl hcut
        have hl := HL.out
        rw [Nat.add_sub_cancel, show ((by4 n ++ l).drop 4).take n = l from by
          rw [List.drop_append_of_le_length (by rw [by4_len]; exact Nat.le_refl _), List.drop_of_length_le (by rw [by4_len]; exact Nat.le_refl _), List.nil_append, List.take_of_length_le (by omega)]] at hcut
        rw [Nat.add_sub_cancel] at hsl
        have hs := run_str (P := Try.prog) wr 22 5 9 Try.underlying22 Try.underlying5 Try.underlying9 hcut
        have hsl' : (Instr.slice 22 (.slice A2 (n + 4) c2) (some (.int .i64 4)) none none).run Try.prog wr = .ok (.slice A5 n (c2 - 4)) wr := hsl
        clear hl hA5 hcut hown2 hrd5 hsl
        go_wp2_with fail
        refine (same_any _ _ _ _ _ _ _ _ _ _ _ bb3 bb4).mono ?_
        rintro e w5 ⟨rfl, j, rfl⟩
        go_wp2_with (go_at_call 9; refine (wakes_any _).mono ?_; rintro e w6 ⟨rfl, HB6⟩)
        go_ret
        exact ⟨rfl, (below_drewN HBEL.out j).trans (HB6.mono HBEL.out.size)⟩
end Go.Proofs.Ytdfompaenclhnaa
