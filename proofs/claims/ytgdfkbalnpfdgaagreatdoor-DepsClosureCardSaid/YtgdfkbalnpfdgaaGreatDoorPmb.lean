/- Parameters: whether a row of them may be; a value by its name. -/
import Derived.Test.YtgdfkbalnpfdgaaGreatDoorPma
namespace Go.Proofs.YtgdfkbalnpfdgaaGreatDoor
open Go.RowKit
set_option linter.unusedVariables false
set_option linter.unusedSimpArgs false
def lastN (l : List Pm) : Nat → ByteArray
 | 0 => ByteArray.empty
 | j + 1 => ((l[j]?).map Pm.name).getD ByteArray.empty
def ckQ (l : List Pm) (j : Nat) : Bool := match l[j]? with | some p => !pMay p || tLe p.name (lastN l j) | none => false
set_option maxRecDepth 100000 in
set_option maxHeartbeats 4000000 in
theorem pck1_any (S : Nat → Prop) (p : Pm) (pc : List Value) (last : ByteArray) (lb : Nat) (w : World) (hV : VOk w) (hp : Trs.at S w p.tr pc) (hs : pSmall p) (hlb : Blk w lb #[.string last] 9) :
 Calls Tryz.prog 135 (#[.agg pc.toArray] ++ #[.pointer (some ⟨lb, 0, none⟩)]) w fun e w' => e = .returned (.bool (!pMay p || tLe p.name last)) ∧ Blk w' lb #[.string p.name] 9 ∧ Only (fun k => k = lb) w w' := by
 obtain ⟨A1, B1, A2, c1, d1, c2, rfl, hP⟩ := PmAt.of hp hs
 have hlt := hlb.lt
 have hbn : Below w.heap.size w (w.alloc (.cells #[.string p.name, .bool p.number, .bool p.has, .int .i8 p.dflt.kind, .bool p.dflt.bool, .int .i64 p.dflt.num, .string p.dflt.text, .slice A1 p.dflt.list.length c1, .slice B1 p.dflt.keys.length d1, .slice A2 p.allowed.length c2] 138)) := (Below.refl _ w).alloc (Nat.le_refl _) _
 have HM := Lib.hid (pmay_any S p A1 B1 A2 c1 d1 c2 (w.alloc (.cells #[.string p.name, .bool p.number, .bool p.has, .int .i8 p.dflt.kind, .bool p.dflt.bool, .int .i64 p.dflt.num, .string p.dflt.text, .slice A1 p.dflt.list.length c1, .slice B1 p.dflt.keys.length d1, .slice A2 p.allowed.length c2] 138)) (hV.below hbn) (hP.below hbn))
 have hk1 := Blk.new w #[.string p.name, .bool p.number, .bool p.has, .int .i8 p.dflt.kind, .bool p.dflt.bool, .int .i64 p.dflt.num, .string p.dflt.text, .slice A1 p.dflt.list.length c1, .slice B1 p.dflt.keys.length d1, .slice A2 p.allowed.length c2] 138
 have HK1 := Lib.hid hk1
 have HK2 := Lib.hid (hlb.alloc (.cells #[.string p.name, .bool p.number, .bool p.has, .int .i8 p.dflt.kind, .bool p.dflt.bool, .int .i64 p.dflt.num, .string p.dflt.text, .slice A1 p.dflt.list.length c1, .slice B1 p.dflt.keys.length d1, .slice A2 p.allowed.length c2] 138))
 obtain ⟨a0, a1, a2, a3, a4, a5, a6, a7, a8, a9⟩ := blk10 hk1
 have HB := Lib.hid hbn
 have HT : Hid (tLe p.name last = (Op.bytesLess p.name.toList last.toList || (p.name.toList == last.toList))) := Lib.hid rfl
 obtain ⟨m, hm⟩ : ∃ m, m = pMay p := ⟨_, rfl⟩
 rw [← hm] at HM ⊢
 clear hm hp hs hP hV hlb hbn hk1
 simp only [List.push_toArray, List.append_toArray, List.cons_append, List.nil_append]
 go_enter Tryz.func135, Tryz.ntmps135
 go_wp2_with fail
 refine HM.out.mono ?_
 rintro e w2 ⟨rfl, hb⟩
 have HB2 := Lib.hid (HB.out.trans (hb.mono HB.out.size))
 have k1 := HK1.out.below hb
 have k2 := HK2.out.below hb
 clear a0 a1 a2 a3 a4 a5 a6 a7 a8 a9 hb
 obtain ⟨a0, a1, a2, a3, a4, a5, a6, a7, a8, a9⟩ := blk10 k1
 have l0 := blk1 k2
 have z0 := k2.frozen 0
 have K2 := Lib.hid k2
 have HO : Hid (Only (fun k => k = lb) w (w2.setCell ⟨lb, 0, none⟩ (.string p.name))) := Lib.hid ((Only.of_below HB2.out _).setCell _ _ (fun _ => rfl))
 have HKL : Hid (Blk (w2.setCell ⟨lb, 0, none⟩ (.string p.name)) lb #[.string p.name] 9) := Lib.hid ((k2.set 0 (.string p.name)).eq (by simp))
 clear k1 k2
 cases m with
 | false =>
   go_wp2_with fail
   go_ret
   exact ⟨by rfl, HKL.out, HO.out⟩
 | true =>
   go_wp2_with fail
   go_ret
   exact ⟨by rw [HT.out]; try rfl, HKL.out, HO.out⟩
theorem pWrong_drop (l : List Pm) : ∀ (g j : Nat), j + g = l.length → (pWrong (lastN l j) (l.drop j) = true ↔ ∃ i, j ≤ i ∧ ckQ l i = true)
 | 0, j, h => by
   rw [List.drop_of_length_le (by omega)]
   constructor
   ·intro h; cases h
   ·rintro ⟨i, hi, hq⟩
    unfold ckQ at hq
    rw [List.getElem?_eq_none (by omega)] at hq
    cases hq
 | g + 1, j, h => by
   obtain ⟨p, hp⟩ := get_lt (l := l) (i := j) (by omega)
   rw [drop_cons hp, pWrong]
   have e1 : lastN l (j + 1) = p.name := by simp [lastN, hp]
   have e2 : ckQ l j = (!pMay p || tLe p.name (lastN l j)) := by unfold ckQ; rw [hp]
   have ih := pWrong_drop l g (j + 1) (by omega)
   rw [e1] at ih
   rw [← e2, Bool.or_eq_true, ih]
   constructor
   ·rintro (hq | ⟨i, hi, hq⟩)
    ·exact ⟨j, Nat.le_refl _, hq⟩
    ·exact ⟨i, by omega, hq⟩
   ·rintro ⟨i, hi, hq⟩
    rcases Nat.lt_or_ge j i with h' | h'
    ·exact .inr ⟨i, h', hq⟩
    ·have : i = j := by omega
     subst this; exact .inl hq
theorem idxQ_ge {q : Nat → Bool} {n : Nat} (h : ∀ i, n ≤ i → q i = false) : 0 ≤ idxQ q n ↔ ∃ i, q i = true := by
 unfold idxQ
 cases hf : (List.range n).find? q with
 | none =>
   rw [List.find?_eq_none] at hf
   constructor
   ·intro h0; simp at h0
   ·rintro ⟨i, hi⟩
    rcases Nat.lt_or_ge i n with h' | h'
    ·exact absurd hi (hf i (List.mem_range.2 h'))
    ·rw [h i h'] at hi; cases hi
 | some i => exact ⟨fun _ => ⟨i, List.find?_some hf⟩, fun _ => by simp⟩
theorem pWrong_idx (l : List Pm) : pWrong ByteArray.empty l = decide (0 ≤ idxQ (ckQ l) l.length) := by
 have h1 := pWrong_drop l l.length 0 (by omega)
 have h2 := idxQ_ge (q := ckQ l) (n := l.length) (fun i hi => by unfold ckQ; rw [List.getElem?_eq_none (by omega)])
 rw [Bool.eq_iff_iff, decide_eq_true_iff, h2]
 exact h1.trans ⟨fun ⟨i, _, h⟩ => ⟨i, h⟩, fun ⟨i, h⟩ => ⟨i, Nat.zero_le _, h⟩⟩
set_option maxRecDepth 100000 in
set_option maxHeartbeats 4000000 in
theorem pcheck_any (S : Nat → Prop) (A : Option Addr) (c : Nat) (l : List Pm) (w : World) (hV : VOk w) (hl : Ls S w 10 128 Pm.tr A c l) (hn : l.length ≤ 1000000) (hs : ∀ p ∈ l, pSmall p) :
 Calls Tryz.prog 105 #[.slice A l.length c] w fun e w' => e = .returned (.int .i64 (pCheck l : Nat)) ∧ Below w.heap.size w w' := by
 have hcap := hl.cap
 have hmax := hl.max
 have HP : Hid (pCheck l = if 6 < l.length then 3 else if pWrong ByteArray.empty l = true then 2 else 0) := Lib.hid rfl
 by_cases h6 : 6 < l.length
 ·have h6i : (6 : Int) < (l.length : Int) := by omega
  rw [if_pos h6] at HP
  clear h6 hl hV hs
  go_enter Tryz.func105, Tryz.ntmps105
  go_wp2_with fail
  go_ret
  exact ⟨by rw [HP.out]; try rfl, Below.refl _ _⟩
 ·have h6i : ¬ ((6 : Int) < (l.length : Int)) := by omega
  rw [if_neg h6] at HP
  have hbn : Below w.heap.size w (w.alloc (.cells #[.string ByteArray.empty] 9)) := (Below.refl _ w).alloc (Nat.le_refl _) _
  have hW : (w.alloc (.cells #[.string ByteArray.empty] 9)).heap.size = w.heap.size + 1 := by simp
  have hlb := (hl.bound).below hbn
  have HFD := Lib.hid (findP_any' (fun k => S k ∧ k < w.heap.size) 135 #[.pointer (some ⟨w.heap.size, 0, none⟩)] (ckQ l)
   (fun j w' => Only (fun k => k = w.heap.size) (w.alloc (.cells #[.string ByteArray.empty] 9)) w' ∧ Blk w' w.heap.size #[.string (lastN l j)] 9) A c l (w.alloc (.cells #[.string ByteArray.empty] 9))
   (fun j w' h => hlb.only h.1 (fun k hk e => by rw [e] at hk; exact Nat.lt_irrefl _ hk.2)) hn (callFunc_go Tryz.func135 rfl rfl) ⟨Only.refl _ _, Blk.new w _ _⟩
   (fun j w' w'' h hb => ⟨h.1.trans (Only.of_below hb _) (fun _ _ h => h), h.2.below hb⟩)
   (fun j x hx cs w' h ht => by
     have hbw : Below w.heap.size w w' := h.1.belowB hbn (fun _ h => by omega)
     refine (pck1_any _ x cs (lastN l j) w.heap.size w' (hV.below hbw) ht (hs x (List.mem_of_getElem? hx)) h.2).mono ?_
     rintro e w'' ⟨rfl, h1, h2⟩
     refine ⟨?_, h.1.trans h2 (fun _ _ h => h), ?_⟩
     ·unfold ckQ; rw [hx]
     ·rw [show lastN l (j + 1) = x.name by simp [lastN, hx]]; exact h1))
  have HG := Lib.hid (pWrong_idx l)
  obtain ⟨z, hz⟩ : ∃ z, z = idxQ (ckQ l) l.length := ⟨_, rfl⟩
  rw [← hz] at HFD HG
  have HB := Lib.hid hbn
  clear h6 hl hV hs hbn hW hlb hz
  go_enter Tryz.func105, Tryz.ntmps105
  go_wp2_with fail
  refine HFD.out.mono ?_
  rintro e w2 ⟨rfl, j, ho, -⟩
  have HB2 : Hid (Below w.heap.size w w2) := Lib.hid (ho.belowB HB.out (fun _ h => by omega))
  clear ho
  by_cases hz0 : 0 ≤ z
  ·rw [HG.out, decide_eq_true hz0, if_pos rfl] at HP
   go_wp2_with fail
   go_ret
   exact ⟨by rw [HP.out]; try rfl, HB2.out⟩
  ·rw [HG.out, decide_eq_false hz0, if_neg (by decide)] at HP
   go_wp2_with fail
   go_ret
   exact ⟨by rw [HP.out]; try rfl, HB2.out⟩
open Go.RowKit
set_option linter.unusedVariables false
set_option linter.unusedSimpArgs false
theorem bEq_tl (a b : ByteArray) : (a.toList == b.toList) = bEq a b := by
 by_cases h : a = b
 ·rw [tl_eq h, bEq_iff.2 h]
 ·rw [tl_ne h, bEq_ne h]
theorem gv_cells {S : Nat → Prop} {w : World} {g : Gv} {cs : List Value} (h : Trs.at S w g.tr cs) : ∃ (GA GB : Option Addr) (gc gd : Nat), cs = #[.string g.name, .bool g.unknown, .int .i8 g.v.kind, .bool g.v.bool, .int .i64 g.v.num, .string g.v.text, .slice GA g.v.list.length gc, .slice GB g.v.keys.length gd].toList ∧ g.name.size ≤ 140737488351232 ∧ Trs.at S w g.v.tr [.int .i8 g.v.kind, .bool g.v.bool, .int .i64 g.v.num, .string g.v.text, .slice GA g.v.list.length gc, .slice GB g.v.keys.length gd] := by
 obtain ⟨vs, rfl, hn, hv⟩ := Gv.at_iff.1 h
 have hv' := hv
 obtain ⟨GA, gc, GB, gd, rfl, -⟩ := Vl.at_iff.1 hv'
 exact ⟨GA, GB, gc, gd, rfl, hn, hv⟩
theorem fdn1_any (S : Nat → Prop) (g : Gv) (cs : List Value) (nm : ByteArray) (nb : Nat) (w : World) (hg : Trs.at S w g.tr cs) (hnb : Blk w nb #[.string nm] 9) :
 Calls Tryz.prog 137 (#[.agg cs.toArray] ++ #[.pointer (some ⟨nb, 0, none⟩)]) w (BoolB (bEq g.name nm) w) := by
 obtain ⟨GA, GB, gc, gd, rfl, -, -⟩ := gv_cells hg
 have hbn : Below w.heap.size w (w.alloc (.cells #[.string g.name, .bool g.unknown, .int .i8 g.v.kind, .bool g.v.bool, .int .i64 g.v.num, .string g.v.text, .slice GA g.v.list.length gc, .slice GB g.v.keys.length gd] 106)) := (Below.refl _ w).alloc (Nat.le_refl _) _
 have HB := Lib.hid hbn
 obtain ⟨e0, e1, e2, e3, e4, e5, e6, e7⟩ := blk8 (Blk.new w #[.string g.name, .bool g.unknown, .int .i8 g.v.kind, .bool g.v.bool, .int .i64 g.v.num, .string g.v.text, .slice GA g.v.list.length gc, .slice GB g.v.keys.length gd] 106)
 have n0 := blk1 (hnb.alloc (.cells #[.string g.name, .bool g.unknown, .int .i8 g.v.kind, .bool g.v.bool, .int .i64 g.v.num, .string g.v.text, .slice GA g.v.list.length gc, .slice GB g.v.keys.length gd] 106))
 have HE := Lib.hid (bEq_tl g.name nm)
 clear hg hnb hbn
 simp only [List.push_toArray, List.append_toArray, List.cons_append, List.nil_append]
 go_enter Tryz.func137, Tryz.ntmps137
 go_wp2_with fail
 go_ret
 exact ⟨by rw [← HE.out]; try rfl, HB.out⟩
theorem fIdx_some {α : Type} {p : α → Bool} {l : List α} {k : Nat} (h : l.findIdx? p = some k) : k < l.length ∧ l.find? p = l[k]? ∧ idxP p l = (k : Int) := by
 obtain ⟨hk, hp, hlt⟩ := List.findIdx?_eq_some_iff_getElem.1 h
 refine ⟨hk, ?_, by unfold idxP; rw [h]⟩
 rw [List.getElem?_eq_getElem hk, List.find?_eq_some_iff_getElem]
 exact ⟨hp, k, hk, rfl, fun j hj => by simpa using hlt j hj⟩
theorem fIdx_none {α : Type} {p : α → Bool} {l : List α} (h : l.findIdx? p = none) : l.find? p = none ∧ idxP p l = -1 := by
 refine ⟨?_, by unfold idxP; rw [h]⟩
 rw [List.findIdx?_eq_none_iff] at h
 exact List.find?_eq_none.2 (fun x hx => by rw [h x hx]; decide)
def FindOut (S : Nat → Prop) (o : Option Gv) (w : World) (e : Ending) (w' : World) : Prop := Below w.heap.size w w' ∧ match o with
 | some g => ∃ cs : List Value, e = .returned (.tuple #[.agg cs.toArray, .bool true]) ∧ Trs.at S w' g.tr cs
 | none => e = .returned (.tuple #[.agg zeroCells, .bool false])
set_option maxRecDepth 100000 in
set_option maxHeartbeats 8000000 in
theorem pfind_any (S : Nat → Prop) (A : Option Addr) (c : Nat) (l : List Gv) (nm : ByteArray) (w : World) (hls : Ls S w 8 104 Gv.tr A c l) (hn : l.length ≤ 1000000) :
 Calls Tryz.prog 110 #[.slice A l.length c, .string nm] w (FindOut S (gFind l nm) w) := by
 have hcap := hls.cap
 have hbyt := hls.bytes
 have hb0 : Below w.heap.size w ((w.alloc (.cells #[.string nm] 9)).alloc (.cells #[.string ⟨#[]⟩, .bool false, .int .i8 0, .bool false, .int .i64 0, .string ⟨#[]⟩, .slice none 0 0, .slice none 0 0] 106)) := ((Below.refl _ w).alloc (Nat.le_refl _) _).alloc (by simp) _
 have hxn : Blk ((w.alloc (.cells #[.string nm] 9)).alloc (.cells #[.string ⟨#[]⟩, .bool false, .int .i8 0, .bool false, .int .i64 0, .string ⟨#[]⟩, .slice none 0 0, .slice none 0 0] 106)) w.heap.size #[.string nm] 9 := (Blk.new w _ _).alloc _
 have hxg : Blk ((w.alloc (.cells #[.string nm] 9)).alloc (.cells #[.string ⟨#[]⟩, .bool false, .int .i8 0, .bool false, .int .i64 0, .string ⟨#[]⟩, .slice none 0 0, .slice none 0 0] 106)) (w.heap.size + 1) #[.string ⟨#[]⟩, .bool false, .int .i8 0, .bool false, .int .i64 0, .string ⟨#[]⟩, .slice none 0 0, .slice none 0 0] 106 := by
  have := Blk.new (w.alloc (.cells #[.string nm] 9)) #[.string ⟨#[]⟩, .bool false, .int .i8 0, .bool false, .int .i64 0, .string ⟨#[]⟩, .slice none 0 0, .slice none 0 0] 106
  rwa [show (w.alloc (.cells #[.string nm] 9)).heap.size = w.heap.size + 1 by simp] at this
 have hlb := hls.bound
 have HFD := Lib.hid (findG_any _ 137 #[.pointer (some ⟨w.heap.size, 0, none⟩)] (fun g => bEq g.name nm) A c l ((w.alloc (.cells #[.string nm] 9)).alloc (.cells #[.string ⟨#[]⟩, .bool false, .int .i8 0, .bool false, .int .i64 0, .string ⟨#[]⟩, .slice none 0 0, .slice none 0 0] 106)) (hlb.below hb0) hn (callFunc_go Tryz.func137 rfl rfl) (fun x hx cs w' hb ht => fdn1_any _ x cs nm w.heap.size w' ht (hxn.below hb)))
 have HLS := Lib.hid (hlb.below hb0)
 have HLW := Lib.hid hlb
 have HXG := Lib.hid hxg
 have HB0 := Lib.hid hb0
 have HGF : Hid (gFind l nm = l.find? fun g => bEq g.name nm) := Lib.hid rfl
 obtain ⟨W2, hW2⟩ : ∃ W2, ((w.alloc (.cells #[.string nm] 9)).alloc (.cells #[.string ⟨#[]⟩, .bool false, .int .i8 0, .bool false, .int .i64 0, .string ⟨#[]⟩, .slice none 0 0, .slice none 0 0] 106)) = W2 := ⟨_, rfl⟩
 have HW := Lib.hid hW2
 rw [hW2] at HFD HXG HB0 HLS
 clear hls hb0 hxn hxg hlb hW2
 cases hfi : l.findIdx? (fun g => bEq g.name nm) with
 | none =>
   obtain ⟨h1, h2⟩ := fIdx_none hfi
   rw [h2] at HFD
   rw [h1] at HGF
   clear hfi h1 h2
   go_enter Tryz.func110, Tryz.ntmps110
   go_wp2_with fail
   rw [HW.out]
   go_wp2_with fail
   refine HFD.out.mono ?_
   rintro e w3 ⟨rfl, hb⟩
   have HB3 := Lib.hid (HB0.out.trans (hb.mono HB0.out.size))
   have hxg3 := HXG.out.below hb
   have HXG3 := Lib.hid hxg3
   obtain ⟨e0, e1, e2, e3, e4, e5, e6, e7⟩ := blk8 hxg3
   clear hb hxg3
   go_wp2_with ((with_reducible refine is_store ?_); refine wpList_store_blk rfl 106 _ _ rfl (w.heap.size + 1) #[.string ⟨#[]⟩, .bool false, .int .i8 0, .bool false, .int .i64 0, .string ⟨#[]⟩, .slice none 0 0, .slice none 0 0] #[.string ⟨#[]⟩, .bool false, .int .i8 0, .bool false, .int .i64 0, .string ⟨#[]⟩, .slice none 0 0, .slice none 0 0] 106 rfl rfl HXG3.out rfl (by kernel_rfl) (by simp [Value.oneCell']) ?_; intro w5 hk5 ho5; have HK5 := Lib.hid hk5; have HO5 := Lib.hid ho5; clear hk5 ho5)
   obtain ⟨r0, r1, r2, r3, r4, r5, r6, r7⟩ := blk8 HK5.out
   refine bodyPost_ret (v := .tuple #[.agg zeroCells, .bool false]) (by simp [zeroCells, results, Tryz.results110, go_sem, r0, r1, r2, r3, r4, r5, r6, r7]) rfl ?_
   rw [HGF.out]
   exact ⟨HO5.out.belowB HB3.out (fun k hk => by omega), rfl⟩
 | some k =>
   obtain ⟨hkl, h1, h2⟩ := fIdx_some hfi
   obtain ⟨g, hg⟩ := get_lt (l := l) (i := k) hkl
   rw [h2] at HFD
   rw [h1, hg] at HGF
   clear hfi h1 h2
   go_enter Tryz.func110, Tryz.ntmps110
   go_wp2_with fail
   rw [HW.out]
   go_wp2_with fail
   refine HFD.out.mono ?_
   rintro e w3 ⟨rfl, hb⟩
   have HB3 := Lib.hid (HB0.out.trans (hb.mono HB0.out.size))
   have HXG3 := Lib.hid (HXG.out.below hb)
   obtain ⟨ad, cs, rfl, hpt, hpc⟩ := (HLS.out.below hb).elem Gv.trlen hg
   have hpt' := hpt
   obtain ⟨GA, GB, gc, gd, rfl, -, -⟩ := gv_cells hpt'
   obtain ⟨d0, d1, d2, d3, d4, d5, d6, d7⟩ := cel8 hpc
   have hki : (0 : Int) ≤ (k : Int) ∧ (k : Int) < (l.length : Int) := by omega
   have hkn : ¬ ((k : Int) < 0) := by omega
   have HPT := Lib.hid hpt
   clear hb hpt hpt' hpc hg
   go_wp2_with ((with_reducible refine is_store ?_); refine wpList_store_blk rfl 106 _ _ rfl (w.heap.size + 1) #[.string g.name, .bool g.unknown, .int .i8 g.v.kind, .bool g.v.bool, .int .i64 g.v.num, .string g.v.text, .slice GA g.v.list.length gc, .slice GB g.v.keys.length gd] #[.string ⟨#[]⟩, .bool false, .int .i8 0, .bool false, .int .i64 0, .string ⟨#[]⟩, .slice none 0 0, .slice none 0 0] 106 rfl rfl HXG3.out rfl (by kernel_rfl) (by simp [Value.oneCell']) ?_; intro w5 hk5 ho5; have HK5 := Lib.hid hk5; have HO5 := Lib.hid ho5; clear hk5 ho5)
   obtain ⟨r0, r1, r2, r3, r4, r5, r6, r7⟩ := blk8 HK5.out
   refine bodyPost_ret (v := .tuple #[.agg #[.string g.name, .bool g.unknown, .int .i8 g.v.kind, .bool g.v.bool, .int .i64 g.v.num, .string g.v.text, .slice GA g.v.list.length gc, .slice GB g.v.keys.length gd], .bool true]) (by simp [results, Tryz.results110, go_sem, r0, r1, r2, r3, r4, r5, r6, r7]) rfl ?_
   rw [HGF.out]
   exact ⟨HO5.out.belowB HB3.out (fun k hk => by omega), _, rfl, (HPT.out.only HO5.out (fun k hk => by have := hk.2; omega)).mono (fun k hk => hk.1)⟩
open Go.RowKit
set_option linter.unusedVariables false
set_option linter.unusedSimpArgs false
theorem pm_cells {S : Nat → Prop} {w : World} {p : Pm} {cs : List Value} (h : Trs.at S w p.tr cs) : ∃ (A1 B1 A2 : Option Addr) (c1 d1 c2 : Nat), cs = #[.string p.name, .bool p.number, .bool p.has, .int .i8 p.dflt.kind, .bool p.dflt.bool, .int .i64 p.dflt.num, .string p.dflt.text, .slice A1 p.dflt.list.length c1, .slice B1 p.dflt.keys.length d1, .slice A2 p.allowed.length c2].toList := by
 obtain ⟨vs, A2, c2, rfl, hn, hv, hl⟩ := Pm.at_iff.1 h
 obtain ⟨A1, c1, B1, d1, rfl, -⟩ := Vl.at_iff.1 hv
 exact ⟨A1, B1, A2, c1, d1, c2, rfl⟩
theorem bd11_any (S : Nat → Prop) (p : Pm) (pc : List Value) (g : Gv) (GA GB : Option Addr) (gc gd : Nat) (gb : Nat) (w : World) (hp : Trs.at S w p.tr pc) (hgb : Blk w gb #[.string g.name, .bool g.unknown, .int .i8 g.v.kind, .bool g.v.bool, .int .i64 g.v.num, .string g.v.text, .slice GA g.v.list.length gc, .slice GB g.v.keys.length gd] 106) :
 Calls Tryz.prog 109 (#[.agg pc.toArray] ++ #[.pointer (some ⟨gb, 0, none⟩)]) w (BoolB (bEq p.name g.name) w) := by
 obtain ⟨A1, B1, A2, c1, d1, c2, rfl⟩ := pm_cells hp
 have hbn : Below w.heap.size w (w.alloc (.cells #[.string p.name, .bool p.number, .bool p.has, .int .i8 p.dflt.kind, .bool p.dflt.bool, .int .i64 p.dflt.num, .string p.dflt.text, .slice A1 p.dflt.list.length c1, .slice B1 p.dflt.keys.length d1, .slice A2 p.allowed.length c2] 138)) := (Below.refl _ w).alloc (Nat.le_refl _) _
 have HB := Lib.hid hbn
 obtain ⟨a0, a1, a2, a3, a4, a5, a6, a7, a8, a9⟩ := blk10 (Blk.new w #[.string p.name, .bool p.number, .bool p.has, .int .i8 p.dflt.kind, .bool p.dflt.bool, .int .i64 p.dflt.num, .string p.dflt.text, .slice A1 p.dflt.list.length c1, .slice B1 p.dflt.keys.length d1, .slice A2 p.allowed.length c2] 138)
 obtain ⟨e0, e1, e2, e3, e4, e5, e6, e7⟩ := blk8 (hgb.alloc (.cells #[.string p.name, .bool p.number, .bool p.has, .int .i8 p.dflt.kind, .bool p.dflt.bool, .int .i64 p.dflt.num, .string p.dflt.text, .slice A1 p.dflt.list.length c1, .slice B1 p.dflt.keys.length d1, .slice A2 p.allowed.length c2] 138))
 have HE := Lib.hid (bEq_tl p.name g.name)
 clear hp hgb hbn
 simp only [List.push_toArray, List.append_toArray, List.cons_append, List.nil_append]
 go_enter Tryz.func109, Tryz.ntmps109
 go_wp2_with fail
 go_ret
 exact ⟨by rw [← HE.out]; try rfl, HB.out⟩
theorem bd1_any (S S' : Nat → Prop) (PA : Option Addr) (pc : Nat) (l : List Pm) (lb : Nat) (g : Gv) (cs : List Value) (w : World) (hl : Ls S w 10 128 Pm.tr PA pc l) (hn : l.length ≤ 1000000) (hlb : Blk w lb #[.slice PA l.length pc] 22) (hg : Trs.at S' w g.tr cs) :
 Calls Tryz.prog 107 (#[.agg cs.toArray] ++ #[.pointer (some ⟨lb, 0, none⟩)]) w (BoolB (!l.any fun p => bEq p.name g.name) w) := by
 obtain ⟨GA, GB, gc, gd, rfl, -, -⟩ := gv_cells hg
 have hbn : Below w.heap.size w (w.alloc (.cells #[.string g.name, .bool g.unknown, .int .i8 g.v.kind, .bool g.v.bool, .int .i64 g.v.num, .string g.v.text, .slice GA g.v.list.length gc, .slice GB g.v.keys.length gd] 106)) := (Below.refl _ w).alloc (Nat.le_refl _) _
 have HB := Lib.hid hbn
 have n0 := blk1 (hlb.alloc (.cells #[.string g.name, .bool g.unknown, .int .i8 g.v.kind, .bool g.v.bool, .int .i64 g.v.num, .string g.v.text, .slice GA g.v.list.length gc, .slice GB g.v.keys.length gd] 106))
 have HFD := Lib.hid (findP_any S 109 #[.pointer (some ⟨w.heap.size, 0, none⟩)] (fun p => bEq p.name g.name) PA pc l _ (hl.below hbn) hn (callFunc_go Tryz.func109 rfl rfl) (fun x hx cs' w' hb ht => bd11_any S x cs' g GA GB gc gd w.heap.size w' ht ((Blk.new w #[.string g.name, .bool g.unknown, .int .i8 g.v.kind, .bool g.v.bool, .int .i64 g.v.num, .string g.v.text, .slice GA g.v.list.length gc, .slice GB g.v.keys.length gd] 106).below hb)))
 have HG := Lib.hid (idxP_lt (fun p => bEq p.name g.name) l)
 obtain ⟨z, hz⟩ : ∃ z, z = idxP (fun p => bEq p.name g.name) l := ⟨_, rfl⟩
 rw [← hz] at HFD HG
 have hcap := hl.cap
 clear hl hlb hbn hg hz
 simp only [List.push_toArray, List.append_toArray, List.cons_append, List.nil_append]
 go_enter Tryz.func107, Tryz.ntmps107
 go_wp2_with fail
 refine HFD.out.mono ?_
 rintro e w2 ⟨rfl, hb⟩
 have HB2 := Lib.hid (HB.out.trans (hb.mono HB.out.size))
 clear hb
 go_wp2_with fail
 go_ret
 exact ⟨by rw [← HG.out]; try rfl, HB2.out⟩
def BindOut (S : Nat → Prop) (r : Nat ⊕ List Gv) (w : World) (e : Ending) (w' : World) : Prop := Below w.heap.size w w' ∧ match r with
 | .inl n => ∃ s, e = .returned (.tuple #[.slice none 0 0, .string s, .int .i64 (n : Nat)])
 | .inr o => ∃ A c xs, e = .returned (.tuple #[.slice A o.length c, .string ⟨#[]⟩, .int .i64 0]) ∧ Ow w' w.heap.size 106 8 A o.length c xs ∧ Trs.at S w' (o.flatMap Gv.tr) xs
theorem gOrd_drop {l : List Gv} {j : Nat} {x y : Gv} (hx : l[j]? = some x) (hy : l[j + 1]? = some y) : gOrd (l.drop j) = (tLt x.name y.name && gOrd (l.drop (j + 1))) := by
 rw [drop_cons hx, drop_cons hy]; rfl
theorem gOrd_end {l : List Gv} {j : Nat} (h : l.length ≤ j + 1) : gOrd (l.drop j) = true := by
 have : (l.drop j).length ≤ 1 := by simp; omega
 match l.drop j, this with
 | [], _ => rfl
 | [x], _ => rfl
theorem pAll_take {given : List Gv} {l : List Pm} {j : Nat} {p : Pm} (h : l[j]? = some p) : pAll given (l.take (j + 1)) = (pAll given (l.take j)).bind fun o => (pOne given p).map fun v => o ++ [v] := by
 rw [List.take_add_one, h, Option.toList_some, pAll_snoc]
theorem pAll_none {given : List Gv} {p : Pm} : ∀ {l : List Pm}, p ∈ l → pOne given p = none → pAll given l = none
 | q :: r, h, hp => by
   unfold pAll
   rcases List.mem_cons.1 h with rfl | h
   ·rw [hp]
   ·cases pOne given q with
    | none => rfl
    | some b => simp only; rw [pAll_none h hp]; rfl
set_option maxRecDepth 100000 in
set_option maxHeartbeats 16000000 in
theorem pbind_any (S : Nat → Prop) (PA : Option Addr) (pc : Nat) (l : List Pm) (A : Option Addr) (c : Nat) (given : List Gv) (w : World) (hV : VOk w) (hl : Ls S w 10 128 Pm.tr PA pc l) (hn : l.length ≤ 1000000) (hs : ∀ p ∈ l, pSmall p) (hls : Ls S w 8 104 Gv.tr A c given) (hgn : given.length ≤ 1000000) (hsg : ∀ g ∈ given, vSmall g.v) :
 Calls Tryz.prog 69 #[.slice PA l.length pc, .slice A given.length c] w (BindOut S (pBind l given) w) := by
 have hcap := hl.cap
 have hmax := hl.max
 have hcap2 := hls.cap
 have hmax2 := hls.max
 have HL := Lib.hid hl.bound
 have HLS := Lib.hid hls.bound
 have HS := Lib.hid hs
 have HSG := Lib.hid hsg
 have HV := Lib.hid hV
 have hb1 : Below w.heap.size w (w.alloc (.cells #[.slice PA l.length pc] 22)) := (Below.refl _ w).alloc (Nat.le_refl _) _
 have HB1 := Lib.hid hb1
 have hlb := Blk.new w #[.slice PA l.length pc] 22
 have HLB := Lib.hid hlb
 have l0 := blk1 hlb
 have HCK := Lib.hid (pcheck_any S PA pc l _ (hV.below hb1) (hl.below hb1) hn hs)
 have HP : Hid (pBind l given = if pCheck l ≠ 0 then .inl (pCheck l) else if gOrd given = false then .inl 2 else if given.any (fun g => !l.any fun p => bEq p.name g.name) = true then .inl 140 else match pAll given l with | none => .inl 140 | some o => .inr o) := Lib.hid rfl
 obtain ⟨z, hz⟩ : ∃ z, z = pCheck l := ⟨_, rfl⟩
 rw [← hz] at HCK HP
 clear hz hV hl hs hls hsg hb1 hlb
 go_enter Tryz.func69, Tryz.ntmps69
 go_wp2_with fail
 refine HCK.out.mono ?_
 rintro e w2 ⟨rfl, hb⟩
 have HB2 := Lib.hid (HB1.out.trans (hb.mono HB1.out.size))
 have HLB2 := Lib.hid (HLB.out.below hb)
 clear hb l0
 by_cases h0 : z = 0
 ·subst h0
  rw [if_neg (by decide)] at HP
  go_wp2_with fail
  go_loopg [8, 4] (given.length - 1) (fun g i o wr => ∃ j : Nat, j + g = given.length - 1 ∧ i = .int .i64 ((j : Int) + 1) ∧ o = .slice none 0 0 ∧ Hid (gOrd given = gOrd (given.drop j)) ∧ Hid (Below w.heap.size w wr) ∧ Hid (Blk wr w.heap.size #[.slice PA l.length pc] 22))
  case atStart => exact ⟨0, by omega, rfl, rfl, Lib.hid rfl, HB2, HLB2⟩
  case round =>
   obtain ⟨j, hj, rfl, rfl, HN, HB3, HLB3⟩ := hrel
   rename World => wo
   cases gk with
   | zero =>
     have hjj : ¬ ((j : Int) + 1 < (given.length : Int)) := by omega
     rw [HN.out, gOrd_end (show given.length ≤ j + 1 by omega), if_neg (by decide)] at HP
     have HFD := Lib.hid (findG_any _ 107 #[.pointer (some ⟨w.heap.size, 0, none⟩)] (fun g => !l.any fun p => bEq p.name g.name) A c given wo (HLS.out.below HB3.out) hgn (callFunc_go Tryz.func107 rfl rfl) (fun x hx cs w' hb ht => bd1_any _ _ PA pc l w.heap.size x cs w' ((HL.out.below HB3.out).below hb) hn (HLB3.out.below hb) ht))
     have HG := Lib.hid (idxP_ge (fun g => !l.any fun p => bEq p.name g.name) given)
     rw [← HG.out] at HP
     cases hfi : given.findIdx? (fun g => !l.any fun p => bEq p.name g.name) with
     | some k =>
       obtain ⟨hkl, -, h2⟩ := fIdx_some hfi
       obtain ⟨g, hg⟩ := get_lt (l := given) (i := k) hkl
       rw [h2] at HFD HP
       rw [if_pos (decide_eq_true (by omega))] at HP
       clear hfi h2 HG
       go_wp2_with fail
       refine HFD.out.mono ?_
       rintro e w4 ⟨rfl, hb⟩
       have HB4 := Lib.hid (HB3.out.trans (hb.mono HB3.out.size))
       obtain ⟨ad, cs, rfl, hpt, hpc⟩ := (HLS.out.below HB4.out).elem Gv.trlen hg
       obtain ⟨GA, GB, gc, gd, rfl, -, -⟩ := gv_cells hpt
       obtain ⟨d0, d1, d2, d3, d4, d5, d6, d7⟩ := cel8 hpc
       have hki : (0 : Int) ≤ (k : Int) ∧ (k : Int) < (given.length : Int) := by omega
       have hk0 : (0 : Int) ≤ (k : Int) := by omega
       clear hb hpt hpc hg
       go_wp2_with fail
       go_quiet (fail)
       go_wp2_with fail
       refine bodyPost_ret (v := .tuple #[.slice none 0 0, .string g.name, .int .i64 140]) (by simp [results, Tryz.results69, go_sem]) rfl ?_
       rw [HP.out]
       exact ⟨HB4.out.drewN _, g.name, rfl⟩
     | none =>
       obtain ⟨-, h2⟩ := fIdx_none hfi
       rw [h2] at HFD HP
       rw [if_neg (by decide)] at HP
       clear hfi h2 HG
       go_wp2_with fail
       refine HFD.out.mono ?_
       rintro e w4 ⟨rfl, hb⟩
       have HB4 := Lib.hid (HB3.out.trans (hb.mono HB3.out.size))
       have l0 := blk1 (HLB3.out.below hb)
       clear hb
       go_wp2_with fail
       go_loopg [49, 4] l.length (fun g i o wr => ∃ (j : Nat) (O : List Gv) (OA : Option Addr) (oc : Nat) (xs : List Value), j + g = l.length ∧ i = .int .i64 (j : Nat) ∧ o = .slice OA O.length oc ∧ O.length ≤ j ∧ Hid (pAll given (l.take j) = some O) ∧ Hid (Ow wr w.heap.size 106 8 OA O.length oc xs) ∧ Hid (Trs.at (fun k => S k ∧ k < w.heap.size) wr (O.flatMap Gv.tr) xs) ∧ Hid (Below w.heap.size w wr))
       case atStart => exact ⟨0, [], none, 0, [], by omega, rfl, rfl, Nat.le_refl _, Lib.hid rfl, Lib.hid (Ow.nil _ _ _ _), Lib.hid (by simp [Trs.at]), HB4⟩
       case round =>
        clear l0
        obtain ⟨j2, O, OA, oc, xs, hj2, rfl, rfl, hOj, HO, HOW, HTR, HB5⟩ := hrel
        rename World => wp
        cases gk with
        | zero =>
          have hjj2 : ¬ ((j2 : Int) < (l.length : Int)) := by omega
          have HO2 := HO.out
          rw [List.take_of_length_le (by omega)] at HO2
          rw [HO2] at HP
          clear HO2
          go_wp2_with fail
          refine bodyPost_ret (v := .tuple #[.slice OA O.length oc, .string ⟨#[]⟩, .int .i64 0]) (by simp [results, Tryz.results69, go_sem]) rfl ?_
          rw [HP.out]
          exact ⟨HB5.out, OA, oc, xs, rfl, HOW.out, HTR.out.mono (fun k hk => hk.1)⟩
        | succ g2 =>
          have hjj2 : (j2 : Int) < (l.length : Int) := by omega
          obtain ⟨p, hp⟩ := get_lt (l := l) (i := j2) (by omega)
          have HTK := Lib.hid (pAll_take (given := given) hp)
          rw [HO.out] at HTK
          have hpm := List.mem_of_getElem? hp
          have HNO : Hid (pOne given p = none → pBind l given = .inl 140) := Lib.hid (fun h => by rw [HP.out, pAll_none hpm h])
          obtain ⟨ad, cs, rfl, hpt, hpc⟩ := (HL.out.below HB5.out).elem Pm.trlen hp
          obtain ⟨A1, B1, A2, c1, d1, c2, rfl, hPM⟩ := PmAt.of hpt (HS.out p hpm)
          obtain ⟨a0, a1, a2, a3, a4, a5, a6, a7, a8, a9⟩ := cel10 hpc
          have hbn : Below wp.heap.size wp (wp.alloc (.cells #[.string p.name, .bool p.number, .bool p.has, .int .i8 p.dflt.kind, .bool p.dflt.bool, .int .i64 p.dflt.num, .string p.dflt.text, .slice A1 p.dflt.list.length c1, .slice B1 p.dflt.keys.length d1, .slice A2 p.allowed.length c2] 138)) := (Below.refl _ wp).alloc (Nat.le_refl _) _
          have hbw := HB5.out.trans (hbn.mono HB5.out.size)
          have HPM0 := Lib.hid hPM
          have HPM := Lib.hid (hPM.below hbn)
          have HKP := Lib.hid (Blk.new wp #[.string p.name, .bool p.number, .bool p.has, .int .i8 p.dflt.kind, .bool p.dflt.bool, .int .i64 p.dflt.num, .string p.dflt.text, .slice A1 p.dflt.list.length c1, .slice B1 p.dflt.keys.length d1, .slice A2 p.allowed.length c2] 138)
          have p0 := (HKP.out.cell 0 (v := .string p.name) rfl)
          have HBN := Lib.hid hbn
          have HBW := Lib.hid hbw
          have HFN := Lib.hid (pfind_any (fun k => S k ∧ k < w.heap.size) A c given p.name (wp.alloc (.cells #[.string p.name, .bool p.number, .bool p.has, .int .i8 p.dflt.kind, .bool p.dflt.bool, .int .i64 p.dflt.num, .string p.dflt.text, .slice A1 p.dflt.list.length c1, .slice B1 p.dflt.keys.length d1, .slice A2 p.allowed.length c2] 138)) (HLS.out.below hbw) hgn)
          have HON : Hid (pOne given p = match gFind given p.name with | some v => if pMayV p v = true then some v else none | none => if p.has = false then none else if pMayV p ⟨p.name, false, p.dflt⟩ = true then some ⟨p.name, false, p.dflt⟩ else none) := Lib.hid rfl
          have hmem : ∀ v, gFind given p.name = some v → vSmall v.v := fun v h => HSG.out v (List.mem_of_find?_eq_some h)
          have HMEM := Lib.hid hmem
          clear hp hpt hpc hPM hbn hbw hpm hmem
          cases hgf : gFind given p.name with
          | some g =>
            rw [hgf] at HFN HON
            have hsv := HMEM.out g hgf
            clear hgf HMEM
            go_wp2_with fail
            refine HFN.out.mono ?_
            rintro e w5 ⟨hb, cs, rfl, ht⟩
            obtain ⟨GA, GB, gc, gd, rfl, -, hvt⟩ := gv_cells ht
            have hb6 : Below w5.heap.size w5 (w5.alloc (.cells #[.string g.name, .bool g.unknown, .int .i8 g.v.kind, .bool g.v.bool, .int .i64 g.v.num, .string g.v.text, .slice GA g.v.list.length gc, .slice GB g.v.keys.length gd] 106)) := (Below.refl _ w5).alloc (Nat.le_refl _) _
            have hb56 := hb.trans (hb6.mono hb.size)
            have HB6 := Lib.hid (HBW.out.trans (hb56.mono HBW.out.size))
            have hk1 := HKP.out.below hb56
            have hk2 := Blk.new w5 #[.string g.name, .bool g.unknown, .int .i8 g.v.kind, .bool g.v.bool, .int .i64 g.v.num, .string g.v.text, .slice GA g.v.list.length gc, .slice GB g.v.keys.length gd] 106
            have HK1 := Lib.hid hk1
            have HK2 := Lib.hid hk2
            have HT := Lib.hid (ht.below hb6)
            have HM := Lib.hid (pMayV_any (fun k => S k ∧ k < w.heap.size) p A1 B1 A2 c1 d1 c2 g GA GB gc gd _ (HV.out.below HB6.out) (HPM.out.below hb56) (hvt.below hb6) hsv)
            have HPW := Lib.hid (hb56)
            obtain ⟨q, hq⟩ : ∃ q, q = pMayV p g := ⟨_, rfl⟩
            rw [← hq] at HM HON
            clear p0 a0 a1 a2 a3 a4 a5 a6 a7 a8 a9 hb hb6 hb56 ht hvt hsv hq
            obtain ⟨a0, a1, a2, a3, a4, a5, a6, a7, a8, a9⟩ := blk10 hk1
            obtain ⟨e0, e1, e2, e3, e4, e5, e6, e7⟩ := blk8 hk2
            clear hk1 hk2
            go_wp2_with fail
            refine HM.out.mono ?_
            rintro e w7 ⟨rfl, hb⟩
            have HB7 := Lib.hid (HB6.out.trans (hb.mono HB6.out.size))
            have hk1 := HK1.out.below hb
            have hk2 := HK2.out.below hb
            have HPW7 := Lib.hid ((HBN.out.trans (HPW.out.mono HBN.out.size)).trans (hb.mono (HBN.out.trans (HPW.out.mono HBN.out.size)).size))
            have HT7 := Lib.hid (HT.out.below hb)
            clear a0 a1 a2 a3 a4 a5 a6 a7 a8 a9 e0 e1 e2 e3 e4 e5 e6 e7 hb
            obtain ⟨a0, a1, a2, a3, a4, a5, a6, a7, a8, a9⟩ := blk10 hk1
            obtain ⟨e0, e1, e2, e3, e4, e5, e6, e7⟩ := blk8 hk2
            clear hk1 hk2
            cases q with
            | false =>
              have HE := Lib.hid (HNO.out (by rw [HON.out]; rfl))
              go_wp2_with fail
              go_quiet (fail)
              go_wp2_with fail
              refine bodyPost_ret (v := .tuple #[.slice none 0 0, .string p.name, .int .i64 140]) (by simp [results, Tryz.results69, go_sem]) rfl ?_
              rw [HE.out]
              exact ⟨HB7.out.drewN _, p.name, rfl⟩
            | true =>
              have HOW7 := Lib.hid (HOW.out.below HPW7.out)
              have HTR7 := Lib.hid (HTR.out.below HPW7.out)
              have HRN := Lib.hid (Rd.lit w7 8 1 #[.string g.name, .bool g.unknown, .int .i8 g.v.kind, .bool g.v.bool, .int .i64 g.v.num, .string g.v.text, .slice GA g.v.list.length gc, .slice GB g.v.keys.length gd] 106 (0, 0) rfl (by simp [maxLen]))
              have hlo := HB7.out.size
              go_wp2_with (at_builtin; refine wpList_row info_given Tryz.underlying28 rfl (by omega) rfl (.tmp 82) (.tmp 84) rfl w.heap.size OA oc O.length xs rfl (HOW7.out.alloc _) (some ⟨w7.heap.size, 0, none⟩) 1 1 #[.string g.name, .bool g.unknown, .int .i8 g.v.kind, .bool g.v.bool, .int .i64 g.v.num, .string g.v.text, .slice GA g.v.list.length gc, .slice GB g.v.keys.length gd].toList rfl HRN.out (by simp [Value.oneCell']) (by omega) (by omega) (by simp; omega) ?_; intro A' c' w8 ho hg hat; have HO8 := Lib.hid ho; have HG8 := Lib.hid hg; clear ho hg hat)
              go_roundg g2
              case measure => omega
              case rel =>
               have hb8 : Below w.heap.size w w8 := (HB7.out.alloc hlo _).grown HG8.out (by simp; omega) (fun k hk => (HOW7.out.lt hk).1)
               have hon : Only (fun k => some k = blk OA) w7 w8 := ((Only.refl _ _).alloc _).grown HG8.out (fun g hg _ => hg.symm)
               have hlw : ∀ k, (S k ∧ k < w.heap.size) → ¬ (some k = blk OA) := fun k hk e => by have := (HOW7.out.lt e.symm).1; omega
               refine ⟨j2 + 1, O ++ [g], A', c', xs ++ #[.string g.name, .bool g.unknown, .int .i8 g.v.kind, .bool g.v.bool, .int .i64 g.v.num, .string g.v.text, .slice GA g.v.list.length gc, .slice GB g.v.keys.length gd].toList, by omega, by go_num, by simp, by simp; omega, Lib.hid (by rw [HTK.out, HON.out]; rfl), Lib.hid (by simpa using HO8.out), Lib.hid ?_, Lib.hid hb8⟩
               rw [List.flatMap_append]
               refine Trs.at.app.2 ⟨_, _, rfl, HTR7.out.only hon hlw, ?_⟩
               simp only [List.flatMap_cons, List.flatMap_nil, List.append_nil]
               exact HT7.out.only hon hlw
          | none =>
            rw [hgf] at HFN HON
            clear hgf HMEM
            go_wp2_with fail
            refine HFN.out.mono ?_
            rintro e w5 ⟨hb, rfl⟩
            have hb6 : Below w5.heap.size w5 (w5.alloc (.cells #[.string ⟨#[]⟩, .bool false, .int .i8 0, .bool false, .int .i64 0, .string ⟨#[]⟩, .slice none 0 0, .slice none 0 0] 106)) := (Below.refl _ w5).alloc (Nat.le_refl _) _
            have hb56 := hb.trans (hb6.mono hb.size)
            have HB6 := Lib.hid (HBW.out.trans (hb56.mono HBW.out.size))
            have hk1 := HKP.out.below hb56
            have hk2 := Blk.new w5 #[.string ⟨#[]⟩, .bool false, .int .i8 0, .bool false, .int .i64 0, .string ⟨#[]⟩, .slice none 0 0, .slice none 0 0] 106
            have HK1 := Lib.hid hk1
            have HK2 := Lib.hid hk2
            have hsz5 : wp.heap.size < w5.heap.size := by have := hb.size; simp at this; omega
            have HPW := Lib.hid (HBN.out.trans (hb56.mono HBN.out.size))
            have HPM6 := Lib.hid (HPM.out.below hb56)
            clear p0 a0 a1 a2 a3 a4 a5 a6 a7 a8 a9 hb hb6 hb56
            obtain ⟨a0, a1, a2, a3, a4, a5, a6, a7, a8, a9⟩ := blk10 hk1
            obtain ⟨e0, e1, e2, e3, e4, e5, e6, e7⟩ := blk8 hk2
            clear hk1 hk2
            cases hh : p.has with
            | false =>
              rw [hh] at a2 HK1
              have HE := Lib.hid (HNO.out (by rw [HON.out, hh]; rfl))
              clear hh
              unfold zeroCells
              go_wp2_with ((with_reducible refine is_store ?_); refine wpList_store_blk rfl 106 _ _ rfl w5.heap.size #[.string p.name, .bool false, .int .i8 p.dflt.kind, .bool p.dflt.bool, .int .i64 p.dflt.num, .string p.dflt.text, .slice A1 p.dflt.list.length c1, .slice B1 p.dflt.keys.length d1] #[.string ⟨#[]⟩, .bool false, .int .i8 0, .bool false, .int .i64 0, .string ⟨#[]⟩, .slice none 0 0, .slice none 0 0] 106 rfl rfl HK2.out rfl (by kernel_rfl) (by simp [Value.oneCell']) ?_; intro w6 hk6 ho6; have HK6 := Lib.hid hk6; have HO6 := Lib.hid ho6; have k16 := HK1.out.only ho6 (by omega); clear hk6 ho6 a0 a1 a2 a3 a4 a5 a6 a7 a8 a9 e0 e1 e2 e3 e4 e5 e6 e7; obtain ⟨a0, a1, a2, a3, a4, a5, a6, a7, a8, a9⟩ := blk10 k16; obtain ⟨e0, e1, e2, e3, e4, e5, e6, e7⟩ := blk8 HK6.out)
              have hbp6 := HO6.out.belowB HPW.out (fun k hk => by omega)
              have hbw6 := HB5.out.trans (hbp6.mono HB5.out.size)
              have HB7 := Lib.hid hbw6
              have HPW6 := Lib.hid hbp6
              have hpm6 := HPM0.out.below hbp6
              have HK16 := Lib.hid k16
              have HM := Lib.hid (pMayV_any (fun k => S k ∧ k < w.heap.size) p A1 B1 A2 c1 d1 c2 ⟨p.name, false, p.dflt⟩ A1 B1 c1 d1 w6 (HV.out.below hbw6) hpm6 hpm6.dflt hpm6.sm.2.1)
              have HNV : Hid (Trs.at (fun k => S k ∧ k < w.heap.size) w6 (Gv.tr ⟨p.name, false, p.dflt⟩) #[.string p.name, .bool false, .int .i8 p.dflt.kind, .bool p.dflt.bool, .int .i64 p.dflt.num, .string p.dflt.text, .slice A1 p.dflt.list.length c1, .slice B1 p.dflt.keys.length d1].toList) := Lib.hid (Gv.at_iff.2 ⟨_, rfl, hpm6.nm, hpm6.dflt⟩)
              clear hbp6 hbw6 hpm6 k16
              clear HM
              go_wp2_with fail
              go_quiet (fail)
              go_wp2_with fail
              refine bodyPost_ret (v := .tuple #[.slice none 0 0, .string p.name, .int .i64 140]) (by simp [results, Tryz.results69, go_sem]) rfl ?_
              rw [HE.out]
              exact ⟨HB7.out.drewN _, p.name, rfl⟩
            | true =>
              rw [hh, if_neg (by decide)] at HON
              rw [hh] at a2 HK1
              unfold zeroCells
              go_wp2_with ((with_reducible refine is_store ?_); refine wpList_store_blk rfl 106 _ _ rfl w5.heap.size #[.string p.name, .bool false, .int .i8 p.dflt.kind, .bool p.dflt.bool, .int .i64 p.dflt.num, .string p.dflt.text, .slice A1 p.dflt.list.length c1, .slice B1 p.dflt.keys.length d1] #[.string ⟨#[]⟩, .bool false, .int .i8 0, .bool false, .int .i64 0, .string ⟨#[]⟩, .slice none 0 0, .slice none 0 0] 106 rfl rfl HK2.out rfl (by kernel_rfl) (by simp [Value.oneCell']) ?_; intro w6 hk6 ho6; have HK6 := Lib.hid hk6; have HO6 := Lib.hid ho6; have k16 := HK1.out.only ho6 (by omega); clear hk6 ho6 a0 a1 a2 a3 a4 a5 a6 a7 a8 a9 e0 e1 e2 e3 e4 e5 e6 e7; obtain ⟨a0, a1, a2, a3, a4, a5, a6, a7, a8, a9⟩ := blk10 k16; obtain ⟨e0, e1, e2, e3, e4, e5, e6, e7⟩ := blk8 HK6.out)
              have hbp6 := HO6.out.belowB HPW.out (fun k hk => by omega)
              have hbw6 := HB5.out.trans (hbp6.mono HB5.out.size)
              have HB7 := Lib.hid hbw6
              have HPW6 := Lib.hid hbp6
              have hpm6 := HPM0.out.below hbp6
              have HK16 := Lib.hid k16
              have HM := Lib.hid (pMayV_any (fun k => S k ∧ k < w.heap.size) p A1 B1 A2 c1 d1 c2 ⟨p.name, false, p.dflt⟩ A1 B1 c1 d1 w6 (HV.out.below hbw6) hpm6 hpm6.dflt hpm6.sm.2.1)
              have HNV : Hid (Trs.at (fun k => S k ∧ k < w.heap.size) w6 (Gv.tr ⟨p.name, false, p.dflt⟩) #[.string p.name, .bool false, .int .i8 p.dflt.kind, .bool p.dflt.bool, .int .i64 p.dflt.num, .string p.dflt.text, .slice A1 p.dflt.list.length c1, .slice B1 p.dflt.keys.length d1].toList) := Lib.hid (Gv.at_iff.2 ⟨_, rfl, hpm6.nm, hpm6.dflt⟩)
              clear hbp6 hbw6 hpm6 k16
              rw [hh] at HM
              clear hh
              obtain ⟨q, hq⟩ : ∃ q, q = pMayV p ⟨p.name, false, p.dflt⟩ := ⟨_, rfl⟩
              rw [← hq] at HM HON
              clear hq
              go_wp2_with fail
              refine HM.out.mono ?_
              rintro e w7 ⟨rfl, hb⟩
              have HB8 := Lib.hid (HB7.out.trans (hb.mono HB7.out.size))
              have HPW7 := Lib.hid (HPW6.out.trans (hb.mono HPW6.out.size))
              have HT7 := Lib.hid (HNV.out.below hb)
              have hk1 := HK16.out.below hb
              have hk2 := HK6.out.below hb
              clear a0 a1 a2 a3 a4 a5 a6 a7 a8 a9 e0 e1 e2 e3 e4 e5 e6 e7 hb
              obtain ⟨a0, a1, a2, a3, a4, a5, a6, a7, a8, a9⟩ := blk10 hk1
              obtain ⟨e0, e1, e2, e3, e4, e5, e6, e7⟩ := blk8 hk2
              clear hk1 hk2
              cases q with
              | false =>
                have HE := Lib.hid (HNO.out (by rw [HON.out]; rfl))
                go_wp2_with fail
                go_quiet (fail)
                go_wp2_with fail
                refine bodyPost_ret (v := .tuple #[.slice none 0 0, .string p.name, .int .i64 140]) (by simp [results, Tryz.results69, go_sem]) rfl ?_
                rw [HE.out]
                exact ⟨HB8.out.drewN _, p.name, rfl⟩
              | true =>
                have HOW7 := Lib.hid (HOW.out.below HPW7.out)
                have HTR7 := Lib.hid (HTR.out.below HPW7.out)
                have HRN := Lib.hid (Rd.lit w7 8 1 #[.string p.name, .bool false, .int .i8 p.dflt.kind, .bool p.dflt.bool, .int .i64 p.dflt.num, .string p.dflt.text, .slice A1 p.dflt.list.length c1, .slice B1 p.dflt.keys.length d1] 106 (0, 0) rfl (by simp [maxLen]))
                have hlo := HB8.out.size
                go_wp2_with (at_builtin; refine wpList_row info_given Tryz.underlying28 rfl (by omega) rfl (.tmp 82) (.tmp 84) rfl w.heap.size OA oc O.length xs rfl (HOW7.out.alloc _) (some ⟨w7.heap.size, 0, none⟩) 1 1 #[.string p.name, .bool false, .int .i8 p.dflt.kind, .bool p.dflt.bool, .int .i64 p.dflt.num, .string p.dflt.text, .slice A1 p.dflt.list.length c1, .slice B1 p.dflt.keys.length d1].toList rfl HRN.out (by simp [Value.oneCell']) (by omega) (by omega) (by simp; omega) ?_; intro A' c' w8 ho hg hat; have HO8 := Lib.hid ho; have HG8 := Lib.hid hg; clear ho hg hat)
                go_roundg g2
                case measure => omega
                case rel =>
                 have hb8 : Below w.heap.size w w8 := (HB8.out.alloc hlo _).grown HG8.out (by simp; omega) (fun k hk => (HOW7.out.lt hk).1)
                 have hon : Only (fun k => some k = blk OA) w7 w8 := ((Only.refl _ _).alloc _).grown HG8.out (fun g hg _ => hg.symm)
                 have hlw : ∀ k, (S k ∧ k < w.heap.size) → ¬ (some k = blk OA) := fun k hk e => by have := (HOW7.out.lt e.symm).1; omega
                 refine ⟨j2 + 1, O ++ [⟨p.name, false, p.dflt⟩], A', c', xs ++ #[.string p.name, .bool false, .int .i8 p.dflt.kind, .bool p.dflt.bool, .int .i64 p.dflt.num, .string p.dflt.text, .slice A1 p.dflt.list.length c1, .slice B1 p.dflt.keys.length d1].toList, by omega, by go_num, by simp, by simp; omega, Lib.hid (by rw [HTK.out, HON.out]; rfl), Lib.hid (by simpa using HO8.out), Lib.hid ?_, Lib.hid hb8⟩
                 rw [List.flatMap_append]
                 refine Trs.at.app.2 ⟨_, _, rfl, HTR7.out.only hon hlw, ?_⟩
                 simp only [List.flatMap_cons, List.flatMap_nil, List.append_nil]
                 exact HT7.out.only hon hlw
   | succ g =>
     have hjj : (j : Int) + 1 < (given.length : Int) := by omega
     obtain ⟨x, hx⟩ := get_lt (l := given) (i := j) (by omega)
     obtain ⟨y, hy⟩ := get_lt (l := given) (i := j + 1) (by omega)
     have HD := Lib.hid (gOrd_drop hx hy)
     obtain ⟨ad, cs, rfl, hpt, hpc⟩ := (HLS.out.below HB3.out).elem Gv.trlen hx
     obtain ⟨ad', cs', e', hpt', hpc'⟩ := (HLS.out.below HB3.out).elem Gv.trlen hy
     injection e' with e'
     subst e'
     obtain ⟨GA, GB, gc, gd, rfl, -, -⟩ := gv_cells hpt
     obtain ⟨HA, HBB, hc, hd, rfl, -, -⟩ := gv_cells hpt'
     obtain ⟨d0, d1, d2, d3, d4, d5, d6, d7⟩ := cel8 hpc
     obtain ⟨e0, e1, e2, e3, e4, e5, e6, e7⟩ := cel8 hpc'
     have hwr : IntKind.i64.wrap ((j : Int) + 1 - 1) = (j : Int) := by rw [IntKind.wrap_i64]; omega
     have hji : (0 : Int) ≤ (j : Int) ∧ (j : Int) < (given.length : Int) := by omega
     have hjk : (0 : Int) ≤ (j : Int) + 1 ∧ (j : Int) + 1 < (given.length : Int) := by omega
     have HTL : Hid (tLt x.name y.name = Op.bytesLess x.name.toList y.name.toList) := Lib.hid rfl
     clear hx hy hpt hpt' hpc hpc'
     cases hlt : Op.bytesLess x.name.toList y.name.toList with
     | true =>
       rw [hlt] at HTL
       go_wp2_with fail
       go_quiet (fail)
       go_wp2_with fail
       go_roundg g
       case measure => omega
       case rel => exact ⟨j + 1, by omega, by go_num, rfl, Lib.hid (by rw [HN.out, HD.out, HTL.out]; rfl), Lib.hid (HB3.out.drewN _), Lib.hid HLB3.out⟩
     | false =>
       rw [hlt] at HTL
       rw [HN.out, HD.out, HTL.out, if_pos (by rfl)] at HP
       go_wp2_with fail
       go_quiet (fail)
       go_wp2_with fail
       refine bodyPost_ret (v := .tuple #[.slice none 0 0, .string ⟨#[]⟩, .int .i64 2]) (by simp [results, Tryz.results69, go_sem]) rfl ?_
       rw [HP.out]
       exact ⟨HB3.out.drewN _, _, rfl⟩
 ·have hz : ((z : Int) == 0) = false := by simpa using h0
  rw [if_pos h0] at HP
  clear h0
  go_wp2_with fail
  refine bodyPost_ret (v := .tuple #[.slice none 0 0, .string ⟨#[]⟩, .int .i64 z]) (by simp [results, Tryz.results69, go_sem]) rfl ?_
  rw [HP.out]
  exact ⟨HB2.out, _, rfl⟩
end Go.Proofs.YtgdfkbalnpfdgaaGreatDoor
