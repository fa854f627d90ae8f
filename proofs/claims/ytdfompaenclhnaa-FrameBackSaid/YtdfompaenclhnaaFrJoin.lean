/- The law FrameJoin. -/
import Derived.Test.YtdfompaenclhnaaFrOwn
import Derived.StillTailTactics
import Derived.Deep.RegionWith
namespace Go.Proofs.Ytdfompaenclhnaa
open Go.RowKit

theorem BB.append {w : World} {B1 B2 n1 n2 c1 c2 n c : Nat} {A1 A2 A : Option Addr} {l1 l2 : List (List UInt8)} {v1 v2 : List Value} (h1 : BB w B1 A1 n1 c1 l1 v1) (h2 : BB w B2 A2 n2 c2 l2 v2) (hn : n = n1 + n2)
    (hr : Rd w 1 A n c (v1 ++ v2)) : BB w 0 A n c (l1 ++ l2) (v1 ++ v2) := by
  have e1 := h1.len
  have e2 := h2.len
  have f1 := h1.rd.len
  have f2 := h2.rd.len
  refine ⟨hr, by rw [List.length_append]; omega, fun _ _ => Nat.zero_le _, fun i x hx => ?_⟩
  rcases Nat.lt_or_ge i n1 with hi | hi
  · rw [List.getElem?_append_left (by omega)] at hx ⊢
    obtain ⟨Ai, ci, a, b, _⟩ := h1.row i x hx
    exact ⟨Ai, ci, a, b, fun _ _ => Nat.zero_le _⟩
  · rw [List.getElem?_append_right (by omega)] at hx ⊢
    obtain ⟨Ai, ci, a, b, _⟩ := h2.row (i - l1.length) x hx
    exact ⟨Ai, ci, by rw [← a]; congr 1; omega, b, fun _ _ => Nat.zero_le _⟩
theorem BB.le {w : World} {B B' n c : Nat} {A : Option Addr} {ls : List (List UInt8)} {vs : List Value} (h : BB w B A n c ls vs) (hb : B' ≤ B) : BB w B' A n c ls vs :=
  ⟨h.rd, h.len, fun a e => Nat.le_trans hb (h.new a e), fun i x hx => by obtain ⟨Ai, ci, a, b, c⟩ := h.row i x hx; exact ⟨Ai, ci, a, b, fun d e => Nat.le_trans hb (c d e)⟩⟩
theorem BB.one {w : World} {B n c : Nat} {A : Option Addr} {ls : List (List UInt8)} {vs : List Value} (h : BB w B A n c ls vs) : ∀ u ∈ vs, u.oneCell' = true := by
  intro u hu
  obtain ⟨i, hi, rfl⟩ := List.getElem_of_mem hu
  have f1 := h.rd.len
  have e1 := h.len
  obtain ⟨Ai, ci, a, _⟩ := h.row i (ls[i]'(by omega)) (List.getElem?_eq_getElem _)
  rw [List.getElem?_eq_getElem hi] at a
  injection a with a
  rw [a]; rfl

set_option maxRecDepth 100000 in
set_option maxHeartbeats 4000000 in
theorem frameJoin_walk (w : World) (A : Option Addr) (n c : Nat) (l1 : List UInt8) (hr : Rd w 1 A n c (bv l1)) (B : Option Addr) (m d : Nat) (l2 : List UInt8) (hr2 : Rd w 1 B m d (bv l2)) :
    Calls Try.prog 8 #[.slice A n c, .slice B m d] w (Yes w) := by
  have hc := hr.cap
  have hm := hr.max
  have hc2 := hr2.cap
  have hm2 := hr2.max
  unfold maxLen at hm hm2
  by_cases h0 : 1500 < n
  · go_enter Try.func8, Try.ntmps8
    go_wp2_with (go_at_call 9; refine (wakes_any _).mono ?_; rintro e w1 ⟨rfl, HB⟩)
    go_ret
    exact ⟨rfl, HB⟩
  by_cases h0' : 1500 < m
  · go_enter Try.func8, Try.ntmps8
    go_wp2_with (go_at_call 9; refine (wakes_any _).mono ?_; rintro e w1 ⟨rfl, HB⟩)
    go_ret
    exact ⟨rfl, HB⟩
  have HL1 := Lib.hid hr.blen
  have HL2 := Lib.hid hr2.blen
  obtain ⟨t, ht⟩ : ∃ t : Nat, l1.length = szs (loads l1) + t := ⟨l1.length - szs (loads l1), by have := loads_le _ l1 rfl; omega⟩
  obtain ⟨r, hrr⟩ : ∃ r : Nat, l2.length = szs (loads l2) + r := ⟨l2.length - szs (loads l2), by have := loads_le _ l2 rfl; omega⟩
  obtain ⟨q, hq⟩ : ∃ q, szs (loads l1) = q := ⟨_, rfl⟩
  have e1 : (l1.length : Int) - (szs (loads l1) : Int) = (t : Int) := by omega
  have e2 : (l2.length : Int) - (szs (loads l2) : Int) = (r : Int) := by omega
  have hqt : n = q + t := by have := HL1.out; omega
  have hql : (l1.take q).length = q := by rw [List.length_take]; omega
  have eld : loads (l1.take q ++ l2) = loads l1 ++ loads l2 := by rw [← hq]; exact loads_join _ l1 l2 rfl
  have e3 : ((l1.take q ++ l2).length : Int) - (szs (loads (l1.take q ++ l2)) : Int) = (r : Int) := by
    rw [eld, szs_append, List.length_append, hql]; omega
  have hL1 := length_le_szs (loads l1)
  have hL2 := length_le_szs (loads l2)
  have hLl1 : (loads l1).length ≤ 1500 := by have := HL1.out; omega
  have hLl2 : (loads l2).length ≤ 1500 := by have := HL2.out; omega
  have HLD := Lib.hid eld
  have HQT := Lib.hid hqt
  have HT := Lib.hid ht
  have HQL := Lib.hid hql
  have HQ := Lib.hid hq
  have hqn : q ≤ n := by omega
  have htn : t ≤ n := by omega
  have hsl1 := fun W => run_slice_to (P := Try.prog) W (A := A) (n := n) (c := c) (m := q) (x := (n : Int) - (t : Int)) (by omega) Try.underlying22 info_bsz (by omega) .i64
  obtain ⟨A9, hA9⟩ : ∃ A9, (if c = q then A else A.map (·.add (q * 1))) = A9 := ⟨_, rfl⟩
  have hsl2 : ∀ W, (Instr.slice 22 (.slice A n c) (some (.int .i64 ((n : Int) - (t : Int)))) none none).run Try.prog W = .ok (.slice A9 t (c - q)) W := fun W => by
    have := run_slice_from' (P := Try.prog) W (A := A) (n := n) (c := c) (k := q) (x := (n : Int) - (t : Int)) (by omega) Try.underlying22 info_bsz (by omega) .i64
    rwa [hA9, show n - q = t from by omega] at this
  have hcutB : Rd w 1 A9 t (c - q) (bv (l1.drop q)) := by
    have := hr.bcut (k := q) (m := n) (x := c) (by omega) (by omega) (by omega) (Nat.le_refl _)
    rw [hA9, show n - q = t from by omega, List.take_of_length_le (by rw [List.length_drop]; omega)] at this
    exact this
  have hqd : (l1.drop q).length = t := by rw [List.length_drop]; omega
  have HQD := Lib.hid hqd
  clear hqd hA9
  have hcutA : Rd w 1 A q c (bv (l1.take q)) := by
    have := hr.bcut (k := 0) (m := q) (x := c) (Nat.zero_le _) (by omega) (by omega) (Nat.le_refl _)
    have h1 := hr.len
    refine ⟨by simp [hql], by omega, hr.max, fun j u hu => hr.at_ j u ?_⟩
    rw [← bv_take] at hu
    rw [List.getElem?_take] at hu
    split at hu
    · exact hu
    · cases hu
  clear ht hrr hqt hql eld hL1 hL2 hq
  go_enter Try.func8, Try.ntmps8
  go_wp2_with fail
  refine (scan_any _ _ _ l1 _ hr (by omega)).mono ?_
  rintro e w1 ⟨A1, c1, vs1, rfl, hbb1, HB1⟩
  rw [e1]
  have hr21 := hr2.below HB1
  go_wp2_with fail
  refine (scan_any _ _ _ l2 _ hr21 (by omega)).mono ?_
  rintro e w2 ⟨A2, c2, vs2, rfl, hbb2, HB2⟩
  rw [e2]
  have hb2 := HB1.trans (HB2.mono HB1.size)
  have hown : (w2.alloc (.cells #[] 5)).ownsRow w2.heap.size 5 1 (.slice (some ⟨w2.heap.size, 0, none⟩) 0 0) 0 (bv []) :=
    World.ownsRow_lit (base := w2.heap.size) (e := 5) (size := 1) w2 #[] 0 (Nat.le_refl _) (by simp [maxLen]) rfl
  have HO := Lib.hid hown
  have hA2 := hcutA.below hb2
  have hB2 := hr2.below hb2
  clear e1 e2 hown hr21
  go_wp2_with (first
    | (at_builtin; refine app_u8 rfl (.tmp 43) (.tmp 49) rfl w2.heap.size _ 0 0 [] rfl HO.out _ _ _ _ rfl (hA2.alloc _) (by omega) (by simp) ?_; intro A3 c3 w3 ho1 hg1 hat1 hn1; have hs3 : w2.heap.size + 1 ≤ w3.heap.size := (by have := hg1.size; simp at this; omega); have ho1' : w3.ownsRow w2.heap.size 5 1 (.slice A3 q c3) q (bv (l1.take q)) := (by simpa using ho1); have HO1 := Lib.hid ho1'; have HG1 := Lib.hid hg1; have hb23 := Lib.hid (below_app ((Below.refl w2.heap.size w2).alloc (Nat.le_refl _) _) HO.out hg1 (by simp)); clear ho1 ho1' hg1 hat1 hn1)
    | (at_builtin; refine app_u8 rfl (.tmp 52) (.tmp 53) rfl w2.heap.size A3 c3 _ _ rfl HO1.out _ _ _ l2 rfl (hB2.below hb23.out) (by omega) (by omega) ?_; intro A4 c4 w4 ho1 hg1 hat1 hn1; have HO2 := Lib.hid ho1; have HG2 := Lib.hid hg1; clear ho1 hg1 hat1 hn1))
  have hb34 := below_app hb23.out HO1.out HG2.out (by omega)
  have hr4 := Rd.of_own HO2.out
  have bb1 := (hbb1.below HB2).below hb34
  have bb2 := hbb2.below hb34
  have hb4 := hb2.trans (hb34.mono hb2.size)
  clear hbb1 hbb2 hA2 hB2 HB1 HB2 HO1 HO2 HO HG1 HG2
  refine (scan_any _ _ _ _ _ hr4 (by omega)).mono ?_
  rintro e w5 ⟨A5, c5, vs5, rfl, hbb5, HB5⟩
  rw [e3, HLD.out]
  rw [HLD.out] at hbb5
  have bb51 := bb1.below HB5
  have bb52 := bb2.below HB5
  have hb5 := hb4.trans (HB5.mono hb4.size)
  clear bb1 bb2 e3 hr4 hb34 hb23
  have hown5 : (w5.alloc (.cells #[] 22)).ownsRow w5.heap.size 22 1 (.slice (some ⟨w5.heap.size, 0, none⟩) 0 0) 0 [] :=
    World.ownsRow_lit (base := w5.heap.size) (e := 22) (size := 1) w5 #[] 0 (Nat.le_refl _) (by simp [maxLen]) rfl
  have HO5 := Lib.hid hown5
  have HLL := Lib.hid (List.length_append : (loads l1 ++ loads l2).length = (loads l1).length + (loads l2).length)
  rw [HLL.out] at hbb5 ⊢
  clear hown5
  go_wp2_with (first
    | (at_builtin; refine app_bs rfl (.tmp 63) (.tmp 64) rfl w5.heap.size _ 0 0 [] rfl HO5.out _ _ _ vs1 rfl (bb51.rd.alloc _) bb51.one (by omega) (by simp) ?_; intro A6 c6 w6 ho1 hg1 hat1 hn1; have hb56 := Lib.hid (below_app ((Below.refl w5.heap.size w5).alloc (Nat.le_refl _) _) HO5.out hg1 (by simp)); have ho6 : w6.ownsRow w5.heap.size 22 1 (.slice A6 (loads l1).length c6) (loads l1).length vs1 := (by simpa using ho1); have HO6 := Lib.hid ho6; clear ho1 ho6 hg1 hat1 hn1)
    | (at_builtin; refine app_bs rfl (.tmp 65) (.tmp 66) rfl w5.heap.size A6 c6 _ _ rfl HO6.out _ _ _ vs2 rfl (bb52.rd.below hb56.out) bb52.one (by omega) hb56.out.size ?_; intro A7 c7 w7 ho1 hg1 hat1 hn1; have HO7 := Lib.hid ho1; have hb57 := Lib.hid (below_app hb56.out HO6.out hg1 hb56.out.size); clear ho1 hg1 hat1 hn1))
  have bb7 := BB.append (bb51.below hb57.out) (bb52.below hb57.out) rfl (Rd.of_own HO7.out)
  have bb57 := hbb5.below hb57.out
  have hb7 := Lib.hid (hb5.trans (hb57.out.mono hb5.size))
  clear hb57 hb56 bb51 bb52 hbb5 hb5 hb4 HB5
  refine (same_any _ _ _ _ _ _ _ _ _ _ _ bb57 bb7).mono ?_
  rintro e w8 ⟨rfl, j, rfl⟩
  have hb8 := below_drewN hb7.out j
  generalize w7.drewN j = W8 at hb8 ⊢
  have hcB8 := hcutB.below hb8
  clear bb57 bb7 hb7
  by_cases ht0 : t = 0
  · have ht : (((t : Nat) : Int) == 0) = true := by simp [ht0]
    clear ht0
    go_wp2_with (go_at_call 9; refine (wakes_any _).mono ?_; rintro e w9 ⟨rfl, HB9⟩)
    go_ret
    exact ⟨rfl, hb8.trans (HB9.mono hb8.size)⟩
  have ht1 : 1 ≤ t := by omega
  have ht : (((t : Nat) : Int) == 0) = false := by simp; omega
  clear ht0
  go_wp2_with fail
  refine (frame_any _ _ _ _ _ hcB8).mono ?_
  rintro e w9 ⟨HB9, -, -, h2⟩
  rw [HQD.out] at h2
  obtain ⟨A10, c10, rfl, ho10⟩ := h2 ht1 (by omega)
  have hcB9 := hcB8.below HB9
  have hb9 := hb8.trans (HB9.mono hb8.size)
  clear h2 HB9 hcB8
  go_wp2_with fail
  refine (scan_any _ _ _ _ _ (Rd.of_own ho10) (by omega)).mono ?_
  rintro e w10 ⟨A11, c11, vs11, rfl, hbb11, HB10⟩
  have hld : loads (by4 t ++ l1.drop q) = [l1.drop q] := by have := loads_one (l1.drop q) (by rw [HQD.out]; exact ht1) (by rw [HQD.out]; omega); rwa [HQD.out] at this
  rw [hld] at hbb11 ⊢
  rw [show ((by4 t ++ l1.drop q).length : Int) - (szs [l1.drop q] : Int) = 0 from by simp only [szs, List.length_append, by4_len]; omega]
  obtain ⟨A12, c12, v12, r12, _⟩ := hbb11.row 0 _ rfl
  obtain ⟨ad, rfl, _⟩ := hbb11.rd.addr (by simp) (by omega)
  have hcl := hbb11.rd.get v12
  have hcl' : w10.cell? ad = some (.slice A12 (l1.drop q).length c12) := hcl
  rw [HQD.out] at hcl'
  rw [HQD.out] at r12
  have hs1 := run_str (P := Try.prog) w10.drew 22 5 9 Try.underlying22 Try.underlying5 Try.underlying9 r12.drew
  have hs2 := run_str (P := Try.prog) w10.drew 22 5 9 Try.underlying22 Try.underlying5 Try.underlying9 (hcB9.below HB10).drew
  have hb10 := Lib.hid (hb9.trans (HB10.mono hb9.size))
  clear hcl hld hbb11 v12 r12 hcB9 HB10 hb9 ho10 hb8
  go_wp2_with fail
  have hwr : IntKind.i64.wrap ((n : Int) - (t : Int)) = (n : Int) - (t : Int) := by rw [IntKind.wrap_i64]; omega
  go_still_tail 26, (by kernel_rfl)
  change wpList _ _ _ _ _ w10.drew
  have hb11 := hb10.out.drew
  clear hs1 hs2 hcl'
  generalize w10.drew = w11 at hb11 ⊢
  go_wp2_with (go_at_call 9; refine (wakes_any _).mono ?_; rintro e w12 ⟨rfl, HB12⟩)
  go_ret
  exact ⟨rfl, hb11.trans (HB12.mono hb11.size)⟩
end Go.Proofs.Ytdfompaenclhnaa
