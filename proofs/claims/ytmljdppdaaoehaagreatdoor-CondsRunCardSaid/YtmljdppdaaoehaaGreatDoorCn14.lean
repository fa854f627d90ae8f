/- Conditions: what a plain expression comes to (conds.Plain). -/
/- Conditions: conds.Plain. -/
import Derived.Test.YtmljdppdaaoehaaGreatDoorCn10
import Derived.Test.YtmljdppdaaoehaaGreatDoorSto
namespace Go.Proofs.YtmljdppdaaoehaaGreatDoor
open Go.RowKit
set_option linter.unusedVariables false
set_option linter.unusedSimpArgs false

def txtV (t : ByteArray) : Vl := ⟨3, false, 0, t, [], []⟩
def numV (n : Int) : Vl := ⟨2, false, n, ByteArray.empty, [], []⟩
def zeroV : Vl := ⟨0, false, 0, ByteArray.empty, [], []⟩
def fiG (ps : List Gv) (s : ByteArray) : Option Nat := ps.findIdx? fun p => bEq p.name s
/-- what a plain expression comes to; none: it may not be, or there is no such parameter -/
def plainG (e : Ex) (ps : List Gv) : Option Gv :=
  if xPlain e = false then none else if e.kind = 0 then some ⟨ByteArray.empty, false, txtV e.text⟩ else if e.kind = 1 then some ⟨ByteArray.empty, false, numV e.num⟩
  else match fiG ps e.name with | some k => (ps[k]?).map (fun p => ⟨ByteArray.empty, p.unknown, p.v⟩) | none => none
set_option maxRecDepth 100000 in
set_option maxHeartbeats 4000000 in
theorem pl1_any (bx : Nat) (e : Ex) (XA : Option Addr) (xc : Nat) (p : Gv) (GL GK : Option Addr) (lc kc : Nat) (w : World) (hx : Blk w bx #[.int .i8 e.kind, .string e.text, .int .i64 e.num, .string e.name, .string e.attr, .slice XA e.l.length xc] 27) :
    Calls Tryz.prog 29 #[.agg #[.string p.name, .bool p.unknown, .int .i8 p.v.kind, .bool p.v.bool, .int .i64 p.v.num, .string p.v.text, .slice GL p.v.list.length lc, .slice GK p.v.keys.length kc], .pointer (some ⟨bx, 0, none⟩)] w (BoolB (bEq p.name e.name) w) := by
  have c3 := hx.cell 3 (v := .string e.name) rfl
  have hlt := hx.lt
  have c3' := (World.cell?_alloc_lt w (.cells #[.string p.name, .bool p.unknown, .int .i8 p.v.kind, .bool p.v.bool, .int .i64 p.v.num, .string p.v.text, .slice GL p.v.list.length lc, .slice GK p.v.keys.length kc] 39) ⟨bx, 3, none⟩ hlt).trans c3
  have HB : Hid (Below w.heap.size w (w.alloc (.cells #[.string p.name, .bool p.unknown, .int .i8 p.v.kind, .bool p.v.bool, .int .i64 p.v.num, .string p.v.text, .slice GL p.v.list.length lc, .slice GK p.v.keys.length kc] 39))) := Lib.hid ((Below.refl _ w).alloc (Nat.le_refl _) _)
  clear hx c3
  go_enter Tryz.func29, Tryz.ntmps29
  go_wp2_with fail
  go_ret
  refine ⟨?_, HB.out⟩
  unfold bEq
  rw [← Lib.toList_data, ← Lib.toList_data]
  first | rfl | simp
def idxG (ps : List Gv) (s : ByteArray) : Int := match fiG ps s with | some i => (i : Int) | none => -1
set_option maxRecDepth 100000 in
set_option maxHeartbeats 4000000 in
theorem gidxf_any (S : Nat → Prop) (bx : Nat) (e : Ex) (XA : Option Addr) (xc : Nat) (A : Option Addr) (c : Nat) (ps : List Gv) (w : World) (hx : Blk w bx #[.int .i8 e.kind, .string e.text, .int .i64 e.num, .string e.name, .string e.attr, .slice XA e.l.length xc] 27) (hr : Ls S w 8 104 Gv.tr A c ps) :
    Calls Tryz.prog 28 #[.slice A ps.length c, .func (.func 29) #[] #[.pointer (some ⟨bx, 0, none⟩)]] w fun e' w' => e' = .returned (.int .i64 (idxG ps e.name)) ∧ Below w.heap.size w w' := by
  have hcap := hr.cap
  have hbyt := hr.bytes
  have HR := Lib.hid hr
  have HX := Lib.hid hx
  clear hr hx
  go_enter Tryz.func28, Tryz.ntmps28
  go_wp2_with fail
  go_loopg [8] ps.length (fun g i wr => ∃ j : Nat, j + g = ps.length ∧ i = .int .i64 (j : Nat) ∧ Hid (fiG (ps.take j) e.name = none) ∧ Hid (Below w.heap.size w wr))
  case atStart => exact ⟨0, by omega, rfl, Lib.hid (by simp [fiG]), Lib.hid (Below.refl _ _)⟩
  case round =>
    obtain ⟨j, hj, rfl, HN, HB⟩ := hrel
    rename World => wo
    cases gk with
    | zero =>
      have hjj : ¬ ((j : Int) < (ps.length : Int)) := by omega
      have HE : Hid (idxG ps e.name = -1) := Lib.hid (by
        have := HN.out
        rw [List.take_of_length_le (by omega)] at this
        unfold idxG; rw [this])
      go_wp2_with fail
      go_ret
      rw [HE.out]
      exact ⟨rfl, HB.out⟩
    | succ g =>
      have hjj : (j : Int) < (ps.length : Int) := by omega
      obtain ⟨p, hp⟩ := get_lt (l := ps) (i := j) (by omega)
      obtain ⟨ad, cs, rfl, hpt, hpc⟩ := (HR.out.below HB.out).elem Gv.trlen hp
      obtain ⟨vs, rfl, _, hvt⟩ := Gv.at_iff.1 hpt
      obtain ⟨GL, lc, GK, kc, rfl, _⟩ := Vl.at_iff.1 hvt
      obtain ⟨d0, d1, d2, d3, d4, d5, d6, d7⟩ := cel8 hpc
      have HCL := Lib.hid (pl1_any bx e XA xc p GL GK lc kc wo (HX.out.below HB.out))
      have HTK : Hid (fiG (ps.take (j + 1)) e.name = (fiG (ps.take j) e.name).or (if bEq p.name e.name then some j else none)) := Lib.hid (by
        unfold fiG
        rw [List.take_add_one, hp, List.findIdx?_append]
        congr 1
        simp only [Option.toList_some, List.findIdx?_singleton, List.length_take]
        split <;> simp <;> omega)
      have HFI : Hid (bEq p.name e.name = true → fiG ps e.name = some j) := Lib.hid (fun hp => by
        have h1 := HTK.out
        rw [HN.out, hp] at h1
        unfold fiG at h1 ⊢
        rw [← List.take_append_drop (j + 1) ps, List.findIdx?_append, h1]; rfl)
      clear hp hpt hpc hvt
      cases hp : bEq p.name e.name with
      | true =>
        rw [hp] at HCL
        have HE : Hid (idxG ps e.name = (j : Int)) := Lib.hid (by unfold idxG; rw [HFI.out hp])
        clear hp
        go_wp2_with fail
        refine HCL.out.mono ?_
        rintro e w2 ⟨rfl, hb2⟩
        have HB2 := Lib.hid (HB.out.trans (hb2.mono HB.out.size))
        clear hb2
        go_wp2_with fail
        go_ret
        rw [HE.out]
        exact ⟨rfl, HB2.out⟩
      | false =>
        rw [hp] at HCL HTK
        clear hp HFI
        go_wp2_with fail
        refine HCL.out.mono ?_
        rintro e w2 ⟨rfl, hb2⟩
        have HB2 := Lib.hid (HB.out.trans (hb2.mono HB.out.size))
        clear hb2
        go_wp2_with fail
        go_roundg g
        case measure => omega
        case rel => exact ⟨j + 1, by omega, by go_num, Lib.hid (by rw [HTK.out, HN.out]; rfl), HB2⟩
def ValOut (cs : Array Value) (w : World) (e : Ending) (w' : World) : Prop := e = .returned (.agg cs) ∧ Below w.heap.size w w'
set_option maxRecDepth 100000 in
theorem ttext_any (s : ByteArray) (w : World) : Calls Tryz.prog 26 #[.string s] w (ValOut #[.int .i8 3, .bool false, .int .i64 0, .string s, .slice none 0 0, .slice none 0 0] w) := by
  go_enter Tryz.func26, Tryz.ntmps26
  go_wp2_with fail
  exact bodyPost_ret (v := .agg #[.int .i8 3, .bool false, .int .i64 0, .string s, .slice none 0 0, .slice none 0 0]) (by simp [results, Tryz.results26, go_sem]) rfl ⟨rfl, (Below.refl _ w).alloc (Nat.le_refl _) _⟩
set_option maxRecDepth 100000 in
theorem tnum_any (n : Int) (w : World) : Calls Tryz.prog 27 #[.int .i64 n] w (ValOut #[.int .i8 2, .bool false, .int .i64 n, .string ByteArray.empty, .slice none 0 0, .slice none 0 0] w) := by
  go_enter Tryz.func27, Tryz.ntmps27
  go_wp2_with fail
  exact bodyPost_ret (v := .agg #[.int .i8 2, .bool false, .int .i64 n, .string ByteArray.empty, .slice none 0 0, .slice none 0 0]) (by simp [results, Tryz.results27, go_sem]; try rfl) rfl ⟨rfl, (Below.refl _ w).alloc (Nat.le_refl _) _⟩
/-- eight cells laid anew -/
theorem Blk.set8 {W : World} {q : Nat} {cs : Array Value} {t : TypeId} (h : Blk W q cs t) (hs : cs.size = 8) (b0 b1 b2 b3 b4 b5 b6 b7 : Value) :
    Blk ((((((((W.setCell ⟨q, 0, none⟩ b0).setCell ⟨q, 1, none⟩ b1).setCell ⟨q, 2, none⟩ b2).setCell ⟨q, 3, none⟩ b3).setCell ⟨q, 4, none⟩ b4).setCell ⟨q, 5, none⟩ b5).setCell ⟨q, 6, none⟩ b6).setCell ⟨q, 7, none⟩ b7) q #[b0, b1, b2, b3, b4, b5, b6, b7] t := by
  refine ((((((((h.set 0 b0).set 1 b1).set 2 b2).set 3 b3).set 4 b4).set 5 b5).set 6 b6).set 7 b7).eq ?_
  obtain ⟨l⟩ := cs
  match l, hs with
  | [_, _, _, _, _, _, _, _], _ => simp
theorem Below.set8 {B : Nat} {w W : World} {q : Nat} (h : Below B w W) (hq : B ≤ q) (b0 b1 b2 b3 b4 b5 b6 b7 : Value) :
    Below B w ((((((((W.setCell ⟨q, 0, none⟩ b0).setCell ⟨q, 1, none⟩ b1).setCell ⟨q, 2, none⟩ b2).setCell ⟨q, 3, none⟩ b3).setCell ⟨q, 4, none⟩ b4).setCell ⟨q, 5, none⟩ b5).setCell ⟨q, 6, none⟩ b6).setCell ⟨q, 7, none⟩ b7) :=
  (((((((h.setCell hq _).setCell hq _).setCell hq _).setCell hq _).setCell hq _).setCell hq _).setCell hq _).setCell hq _
end Go.Proofs.YtmljdppdaaoehaaGreatDoor
namespace Go.Proofs.YtmljdppdaaoehaaGreatDoor
open Go.RowKit
set_option linter.unusedVariables false
set_option linter.unusedSimpArgs false
theorem Cel.only {F : Nat → Prop} {w w' : World} {a : Addr} {cs : List Value} (h : Cel w a cs) (ho : Only F w w') (hF : ¬ F a.block) : Cel w' a cs := fun j u hu => by
  have h1 := h j u hu
  have hb : (if j = 0 then a else ⟨a.block, a.off + j, none⟩ : Addr).block = a.block := by split <;> rfl
  have hlt := World.block_lt_of_cell? w _ h1
  rw [hb] at hlt
  exact (World.cell?_of_block (by rw [hb]; exact ho.block _ hlt hF)).trans h1
theorem Cel.drew {w : World} {a : Addr} {cs : List Value} (h : Cel w a cs) : Cel w.drew a cs := h
def zeroCells : Array Value := #[.string ⟨#[]⟩, .bool false, .int .i8 0, .bool false, .int .i64 0, .string ⟨#[]⟩, .slice none 0 0, .slice none 0 0]
def PlainOut (S : Nat → Prop) (o : Option Gv) (w : World) (e : Ending) (w' : World) : Prop := Below w.heap.size w w' ∧ match o with
  | some g => ∃ cs : List Value, e = .returned (.tuple #[.agg cs.toArray, .int .i64 0]) ∧ Trs.at S w' g.tr cs
  | none => e = .returned (.tuple #[.agg zeroCells, .int .i64 150])
theorem at_txt {S : Nat → Prop} {w : World} {t : ByteArray} (h : t.size ≤ 140737488351232) : Trs.at S w (Gv.tr ⟨ByteArray.empty, false, txtV t⟩) [.string ByteArray.empty, .bool false, .int .i8 3, .bool false, .int .i64 0, .string t, .slice none 0 0, .slice none 0 0] :=
  Gv.at_iff.2 ⟨_, rfl, by show ByteArray.empty.size ≤ _; decide, Vl.at_iff.2 ⟨none, 0, none, 0, rfl, (by show (Lit.int .i8 3).wf = true; decide), (by show (Lit.int .i64 0).wf = true; decide), h, Ls.nil _ _ _ _ (by omega) _, Ls.nil _ _ _ _ (by omega) _⟩⟩
theorem at_num {S : Nat → Prop} {w : World} {n : Int} (h : (Lit.int .i64 n).wf = true) : Trs.at S w (Gv.tr ⟨ByteArray.empty, false, numV n⟩) [.string ByteArray.empty, .bool false, .int .i8 2, .bool false, .int .i64 n, .string ByteArray.empty, .slice none 0 0, .slice none 0 0] :=
  Gv.at_iff.2 ⟨_, rfl, by show ByteArray.empty.size ≤ _; decide, Vl.at_iff.2 ⟨none, 0, none, 0, rfl, (by show (Lit.int .i8 2).wf = true; decide), h, by show ByteArray.empty.size ≤ _; decide, Ls.nil _ _ _ _ (by omega) _, Ls.nil _ _ _ _ (by omega) _⟩⟩
theorem idxG_lt {ps : List Gv} {s : ByteArray} {k : Nat} (h : fiG ps s = some k) : k < ps.length := by
  unfold fiG at h
  rw [List.findIdx?_eq_some_iff_getElem] at h
  exact h.1
set_option maxRecDepth 100000 in
set_option maxHeartbeats 8000000 in
theorem pln_any (S : Nat → Prop) (e : Ex) (XA : Option Addr) (xc : Nat) (A : Option Addr) (c : Nat) (ps : List Gv) (w : World) (hV : VOk w) (hx : Trs.at S w e.tr [.int .i8 e.kind, .string e.text, .int .i64 e.num, .string e.name, .string e.attr, .slice XA e.l.length xc]) (hls : Ls S w 8 104 Gv.tr A c ps) :
    Calls Tryz.prog 10 #[.agg #[.int .i8 e.kind, .string e.text, .int .i64 e.num, .string e.name, .string e.attr, .slice XA e.l.length xc], .slice A ps.length c] w (PlainOut S (plainG e ps) w) := by
  obtain ⟨hwk, hwn, hts⟩ : (Lit.int .i8 e.kind).wf = true ∧ (Lit.int .i64 e.num).wf = true ∧ e.text.size ≤ 140737488351232 := by
    obtain ⟨_, _, _, h1, h2, h3, _⟩ := Ex.at_iff.1 hx
    exact ⟨h1, h2, h3⟩
  have hcap := hls.cap
  have hbyt := hls.bytes
  have hb0 : Below w.heap.size w ((w.alloc (.cells #[.int .i8 e.kind, .string e.text, .int .i64 e.num, .string e.name, .string e.attr, .slice XA e.l.length xc] 27)).alloc (.cells #[.string ⟨#[]⟩, .bool false, .int .i8 0, .bool false, .int .i64 0, .string ⟨#[]⟩, .slice none 0 0, .slice none 0 0] 39)) := ((Below.refl _ w).alloc (Nat.le_refl _) _).alloc (by simp) _
  have hxe : Blk ((w.alloc (.cells #[.int .i8 e.kind, .string e.text, .int .i64 e.num, .string e.name, .string e.attr, .slice XA e.l.length xc] 27)).alloc (.cells #[.string ⟨#[]⟩, .bool false, .int .i8 0, .bool false, .int .i64 0, .string ⟨#[]⟩, .slice none 0 0, .slice none 0 0] 39)) w.heap.size #[.int .i8 e.kind, .string e.text, .int .i64 e.num, .string e.name, .string e.attr, .slice XA e.l.length xc] 27 := (Blk.new w #[.int .i8 e.kind, .string e.text, .int .i64 e.num, .string e.name, .string e.attr, .slice XA e.l.length xc] 27).alloc _
  have hxg : Blk ((w.alloc (.cells #[.int .i8 e.kind, .string e.text, .int .i64 e.num, .string e.name, .string e.attr, .slice XA e.l.length xc] 27)).alloc (.cells #[.string ⟨#[]⟩, .bool false, .int .i8 0, .bool false, .int .i64 0, .string ⟨#[]⟩, .slice none 0 0, .slice none 0 0] 39)) (w.heap.size + 1) #[.string ⟨#[]⟩, .bool false, .int .i8 0, .bool false, .int .i64 0, .string ⟨#[]⟩, .slice none 0 0, .slice none 0 0] 39 := by
    have := Blk.new (w.alloc (.cells #[.int .i8 e.kind, .string e.text, .int .i64 e.num, .string e.name, .string e.attr, .slice XA e.l.length xc] 27)) #[.string ⟨#[]⟩, .bool false, .int .i8 0, .bool false, .int .i64 0, .string ⟨#[]⟩, .slice none 0 0, .slice none 0 0] 39
    rwa [show (w.alloc (.cells #[.int .i8 e.kind, .string e.text, .int .i64 e.num, .string e.name, .string e.attr, .slice XA e.l.length xc] 27)).heap.size = w.heap.size + 1 by simp] at this
  have HP : Hid (Calls Tryz.prog 25 #[.agg #[.int .i8 e.kind, .string e.text, .int .i64 e.num, .string e.name, .string e.attr, .slice XA e.l.length xc]] ((w.alloc (.cells #[.int .i8 e.kind, .string e.text, .int .i64 e.num, .string e.name, .string e.attr, .slice XA e.l.length xc] 27)).alloc (.cells #[.string ⟨#[]⟩, .bool false, .int .i8 0, .bool false, .int .i64 0, .string ⟨#[]⟩, .slice none 0 0, .slice none 0 0] 39)) fun e' w' => e' = .returned (.bool (xPlain e)) ∧ Below w.heap.size w w' ∧ Blk w' w.heap.size #[.int .i8 e.kind, .string e.text, .int .i64 e.num, .string e.name, .string e.attr, .slice XA e.l.length xc] 27 ∧ Blk w' (w.heap.size + 1) #[.string ⟨#[]⟩, .bool false, .int .i8 0, .bool false, .int .i64 0, .string ⟨#[]⟩, .slice none 0 0, .slice none 0 0] 39) :=
    Lib.hid ((plain_any e XA xc _ (hV.below hb0) hts).mono (by
      rintro e' w' ⟨rfl, h2⟩
      exact ⟨rfl, hb0.trans (h2.mono hb0.size), hxe.below h2, hxg.below h2⟩))
  have HLS := Lib.hid hls.bound
  obtain ⟨pv, hpv⟩ : ∃ pv, pv = xPlain e := ⟨_, rfl⟩
  have HPV := Lib.hid hpv
  rw [← hpv] at HP
  clear hV hx hls hb0 hxe hxg hpv
  go_enter Tryz.func10, Tryz.ntmps10
  go_wp2_with fail
  refine HP.out.mono ?_
  rintro e' w3 ⟨rfl, hb3, hxe, hxg⟩
  have HB3 := Lib.hid hb3
  have HXE := Lib.hid hxe
  have HXG := Lib.hid hxg
  have hw3 := hb3.size
  clear hb3 hxe hxg HP
  cases pv with
  | false =>
    have HE : Hid (plainG e ps = none) := Lib.hid (by unfold plainG; rw [← HPV.out]; rfl)
    go_wp2_with ((with_reducible refine is_store ?_); refine wpList_store_blk rfl 39 _ _ rfl (w.heap.size + 1) #[.string ⟨#[]⟩, .bool false, .int .i8 0, .bool false, .int .i64 0, .string ⟨#[]⟩, .slice none 0 0, .slice none 0 0] #[.string ⟨#[]⟩, .bool false, .int .i8 0, .bool false, .int .i64 0, .string ⟨#[]⟩, .slice none 0 0, .slice none 0 0] 39 rfl rfl HXG.out rfl (by kernel_rfl) (by simp [Value.oneCell']) ?_; intro w5 hk5 ho5; have HK5 := Lib.hid hk5; have HO5 := Lib.hid ho5; clear hk5 ho5)
    obtain ⟨r0, r1, r2, r3, r4, r5, r6, r7⟩ := blk8 HK5.out
    refine bodyPost_ret (v := .tuple #[.agg zeroCells, .int .i64 150]) (by simp [zeroCells, results, Tryz.results10, go_sem, r0, r1, r2, r3, r4, r5, r6, r7]) rfl ?_
    rw [HE.out]
    exact ⟨HO5.out.belowB HB3.out (fun k hk => by omega), rfl⟩
  | true =>
    obtain ⟨e0, e1, e2, e3, e4, e5⟩ := blk6 HXE.out
    have HPL : Hid (plainG e ps = if e.kind = 0 then some ⟨ByteArray.empty, false, txtV e.text⟩ else if e.kind = 1 then some ⟨ByteArray.empty, false, numV e.num⟩ else match fiG ps e.name with | some k => (ps[k]?).map (fun p => ⟨ByteArray.empty, p.unknown, p.v⟩) | none => none) := Lib.hid (by unfold plainG; rw [← HPV.out]; rfl)
    by_cases h0 : e.kind = 0
    · have k0 : (e.kind == 0) = true := by rw [h0]; rfl
      have HE : Hid (plainG e ps = some ⟨ByteArray.empty, false, txtV e.text⟩) := Lib.hid (by rw [HPL.out, if_pos h0])
      have HT := Lib.hid (ttext_any e.text w3)
      clear h0
      go_wp2_with fail
      refine HT.out.mono ?_
      rintro e' w4 ⟨rfl, hb4⟩
      have HB4 := Lib.hid (HB3.out.trans (hb4.mono hw3))
      have HXG4 := Lib.hid (HXG.out.below hb4)
      clear hb4 e0 e1 e2 e3 e4 e5
      go_wp2_with ((with_reducible refine is_store ?_); refine wpList_store_blk rfl 39 _ _ rfl (w.heap.size + 1) #[.string ⟨#[]⟩, .bool false, .int .i8 3, .bool false, .int .i64 0, .string e.text, .slice none 0 0, .slice none 0 0] #[.string ⟨#[]⟩, .bool false, .int .i8 0, .bool false, .int .i64 0, .string ⟨#[]⟩, .slice none 0 0, .slice none 0 0] 39 rfl rfl HXG4.out rfl (by kernel_rfl) (by simp [Value.oneCell']) ?_; intro w5 hk5 ho5; have HK5 := Lib.hid hk5; have HO5 := Lib.hid ho5; clear hk5 ho5)
      obtain ⟨r0, r1, r2, r3, r4, r5, r6, r7⟩ := blk8 HK5.out
      refine bodyPost_ret (v := .tuple #[.agg #[.string ⟨#[]⟩, .bool false, .int .i8 3, .bool false, .int .i64 0, .string e.text, .slice none 0 0, .slice none 0 0], .int .i64 0]) (by simp [results, Tryz.results10, go_sem, r0, r1, r2, r3, r4, r5, r6, r7]) rfl ?_
      rw [HE.out]
      exact ⟨HO5.out.belowB HB4.out (fun k hk => by omega), _, rfl, at_txt hts⟩
    · have k0 : (e.kind == 0) = false := by simpa using h0
      by_cases h1 : e.kind = 1
      · have k1 : (e.kind == 1) = true := by rw [h1]; rfl
        have HE : Hid (plainG e ps = some ⟨ByteArray.empty, false, numV e.num⟩) := Lib.hid (by rw [HPL.out, if_neg h0, if_pos h1])
        have HT := Lib.hid (tnum_any e.num w3)
        clear h0 h1
        go_wp2_with fail
        refine HT.out.mono ?_
        rintro e' w4 ⟨rfl, hb4⟩
        have HB4 := Lib.hid (HB3.out.trans (hb4.mono hw3))
        have HXG4 := Lib.hid (HXG.out.below hb4)
        clear hb4 e0 e1 e2 e3 e4 e5
        go_wp2_with ((with_reducible refine is_store ?_); refine wpList_store_blk rfl 39 _ _ rfl (w.heap.size + 1) #[.string ⟨#[]⟩, .bool false, .int .i8 2, .bool false, .int .i64 e.num, .string ByteArray.empty, .slice none 0 0, .slice none 0 0] #[.string ⟨#[]⟩, .bool false, .int .i8 0, .bool false, .int .i64 0, .string ⟨#[]⟩, .slice none 0 0, .slice none 0 0] 39 rfl rfl HXG4.out rfl (by kernel_rfl) (by simp [Value.oneCell']) ?_; intro w5 hk5 ho5; have HK5 := Lib.hid hk5; have HO5 := Lib.hid ho5; clear hk5 ho5)
        obtain ⟨r0, r1, r2, r3, r4, r5, r6, r7⟩ := blk8 HK5.out
        refine bodyPost_ret (v := .tuple #[.agg #[.string ⟨#[]⟩, .bool false, .int .i8 2, .bool false, .int .i64 e.num, .string ByteArray.empty, .slice none 0 0, .slice none 0 0], .int .i64 0]) (by simp [results, Tryz.results10, go_sem, r0, r1, r2, r3, r4, r5, r6, r7]) rfl ?_
        rw [HE.out]
        exact ⟨HO5.out.belowB HB4.out (fun k hk => by omega), _, rfl, at_num hwn⟩
      · have k1 : (e.kind == 1) = false := by simpa using h1
        have HPF : Hid (plainG e ps = match fiG ps e.name with | some k => (ps[k]?).map (fun p => ⟨ByteArray.empty, p.unknown, p.v⟩) | none => none) := Lib.hid (by rw [HPL.out, if_neg h0, if_neg h1])
        have HIX := Lib.hid (gidxf_any _ w.heap.size e XA xc A c ps w3 HXE.out (HLS.out.below HB3.out))
        clear h0 h1 HPL
        cases hfi : fiG ps e.name with
        | none =>
          have HE : Hid (plainG e ps = none) := Lib.hid (by rw [HPF.out, hfi])
          have hi : idxG ps e.name = -1 := by unfold idxG; rw [hfi]
          rw [hi] at HIX
          clear hfi hi HPF
          go_wp2_with fail
          refine HIX.out.mono ?_
          rintro e' w4 ⟨rfl, hb4⟩
          have HB4 := Lib.hid (HB3.out.trans (hb4.mono hw3))
          have HXG4 := Lib.hid (HXG.out.below hb4)
          clear hb4 e0 e1 e2 e3 e4 e5
          go_wp2_with ((with_reducible refine is_store ?_); refine wpList_store_blk rfl 39 _ _ rfl (w.heap.size + 1) #[.string ⟨#[]⟩, .bool false, .int .i8 0, .bool false, .int .i64 0, .string ⟨#[]⟩, .slice none 0 0, .slice none 0 0] #[.string ⟨#[]⟩, .bool false, .int .i8 0, .bool false, .int .i64 0, .string ⟨#[]⟩, .slice none 0 0, .slice none 0 0] 39 rfl rfl HXG4.out rfl (by kernel_rfl) (by simp [Value.oneCell']) ?_; intro w5 hk5 ho5; have HK5 := Lib.hid hk5; have HO5 := Lib.hid ho5; clear hk5 ho5)
          obtain ⟨r0, r1, r2, r3, r4, r5, r6, r7⟩ := blk8 HK5.out
          refine bodyPost_ret (v := .tuple #[.agg zeroCells, .int .i64 150]) (by simp [zeroCells, results, Tryz.results10, go_sem, r0, r1, r2, r3, r4, r5, r6, r7]) rfl ?_
          rw [HE.out]
          exact ⟨HO5.out.belowB HB4.out (fun k hk => by omega), rfl⟩
        | some k =>
          have hkl := idxG_lt hfi
          obtain ⟨p, hp⟩ := get_lt (l := ps) (i := k) hkl
          have HE : Hid (plainG e ps = some ⟨ByteArray.empty, p.unknown, p.v⟩) := Lib.hid (by rw [HPF.out, hfi]; simp [hp])
          have hi : idxG ps e.name = (k : Int) := by unfold idxG; rw [hfi]
          rw [hi] at HIX
          clear hfi hi HPF
          go_wp2_with fail
          refine HIX.out.mono ?_
          rintro e' w4 ⟨rfl, hb4⟩
          have HB4 := Lib.hid (HB3.out.trans (hb4.mono hw3))
          have HXG4 := Lib.hid (HXG.out.below hb4)
          clear hb4 e0 e1 e2 e3 e4 e5
          obtain ⟨ad, cs, rfl, hpt, hpc⟩ := (HLS.out.below HB4.out).elem Gv.trlen hp
          obtain ⟨vs, rfl, hpn, hvt⟩ := Gv.at_iff.1 hpt
          obtain ⟨GL, lc, GK, kc, rfl, hw1, hw2, hw3, hw4, hw5⟩ := Vl.at_iff.1 hvt
          obtain ⟨d0, d1, d2, d3, d4, d5, d6, d7⟩ := cel8 hpc
          have hne : (ad.add (k * 8)).block < w.heap.size := by
            obtain ⟨_, _, e1, ht1, h1⟩ := HLS.out.elem Gv.trlen hp
            injection e1 with e1
            subst e1
            obtain ⟨_, rfl, _⟩ := Gv.at_iff.1 ht1
            exact World.block_lt_of_cell? w _ (h1 0 _ rfl)
          have hki : (0 : Int) ≤ (k : Int) ∧ (k : Int) < (ps.length : Int) := by omega
          have hkn : ¬ ((k : Int) < 0) := by omega
          have HVT := Lib.hid hvt
          have HPC := Lib.hid hpc
          clear hpt hpc hvt hp hw1 hw2 hw3 hw4 hw5
          go_wp2_with fail
          refine Rg.start 12 (fun w' => w'.cell? ⟨(ad.add (k * 8)).block, (ad.add (k * 8)).off + 1, none⟩ = some (.bool p.unknown) ∧ w'.cell? ⟨(ad.add (k * 8)).block, (ad.add (k * 8)).off + 2, none⟩ = some (.int .i8 p.v.kind) ∧ w'.cell? ⟨(ad.add (k * 8)).block, (ad.add (k * 8)).off + 3, none⟩ = some (.bool p.v.bool) ∧ w'.cell? ⟨(ad.add (k * 8)).block, (ad.add (k * 8)).off + 4, none⟩ = some (.int .i64 p.v.num) ∧ w'.cell? ⟨(ad.add (k * 8)).block, (ad.add (k * 8)).off + 5, none⟩ = some (.string p.v.text) ∧ w'.cell? ⟨(ad.add (k * 8)).block, (ad.add (k * 8)).off + 6, none⟩ = some (.slice GL p.v.list.length lc) ∧ w'.cell? ⟨(ad.add (k * 8)).block, (ad.add (k * 8)).off + 7, none⟩ = some (.slice GK p.v.keys.length kc)) (by kernel_rfl) (by go_keep) (fun hH0 => ?_)
          simp only [List.length_cons, List.length_nil, List.replicate_succ, List.replicate_zero, Nat.zero_add, Nat.reduceAdd]
          refine Rg.take (v := ?_) hH0 0 rfl (by kernel_rfl) (fun _ _ _ h => h) (by rfl) ?_ ?_
          rotate_left
          · (intro w hSw; (try dsimp only at hSw); go_simp <;> with_reducible rfl)
          try simp only [Act.put, List.setIfInBounds_toArray, List.set_cons_zero, List.set_cons_succ]
          refine Rg.take (v := ?_) hH0 1 rfl (by kernel_rfl) (fun _ _ _ h => h) (by rfl) ?_ ?_
          rotate_left
          · (intro w hSw; (try dsimp only at hSw); go_simp <;> with_reducible rfl)
          try simp only [Act.put, List.setIfInBounds_toArray, List.set_cons_zero, List.set_cons_succ]
          refine Rg.take (v := ?_) hH0 2 rfl (by kernel_rfl) (fun _ _ _ h => h) (by rfl) ?_ ?_
          rotate_left
          · (intro w hSw; (try dsimp only at hSw); go_simp <;> with_reducible rfl)
          try simp only [Act.put, List.setIfInBounds_toArray, List.set_cons_zero, List.set_cons_succ]
          refine Rg.take (v := ?_) hH0 3 rfl (by kernel_rfl) (fun _ _ _ h => h) (by rfl) ?_ ?_
          rotate_left
          · (intro w hSw; (try dsimp only at hSw); go_simp <;> with_reducible rfl)
          try simp only [Act.put, List.setIfInBounds_toArray, List.set_cons_zero, List.set_cons_succ]
          refine Rg.take (v := ?_) hH0 4 rfl (by kernel_rfl) (fun _ _ _ h => h) (by rfl) ?_ ?_
          rotate_left
          · (intro w hSw; (try dsimp only at hSw); go_simp <;> with_reducible rfl)
          try simp only [Act.put, List.setIfInBounds_toArray, List.set_cons_zero, List.set_cons_succ]
          refine Rg.take (v := ?_) hH0 5 rfl (by kernel_rfl) (fun _ _ _ h => h) (by rfl) ?_ ?_
          rotate_left
          · (intro w hSw; (try dsimp only at hSw); go_simp <;> with_reducible rfl)
          try simp only [Act.put, List.setIfInBounds_toArray, List.set_cons_zero, List.set_cons_succ]
          refine Rg.take (v := ?_) hH0 6 rfl (by kernel_rfl) (fun _ _ _ h => h) (by rfl) ?_ ?_
          rotate_left
          · (intro w hSw; (try dsimp only at hSw); go_simp <;> with_reducible rfl)
          try simp only [Act.put, List.setIfInBounds_toArray, List.set_cons_zero, List.set_cons_succ]
          refine Rg.take (v := ?_) hH0 7 rfl (by kernel_rfl) (fun _ _ _ h => h) (by rfl) ?_ ?_
          rotate_left
          · (intro w hSw; (try dsimp only at hSw); go_simp <;> with_reducible rfl)
          try simp only [Act.put, List.setIfInBounds_toArray, List.set_cons_zero, List.set_cons_succ]
          refine Rg.take (v := ?_) hH0 8 rfl (by kernel_rfl) (fun _ _ _ h => h) (by rfl) ?_ ?_
          rotate_left
          · (intro w hSw; (try dsimp only at hSw); go_simp <;> with_reducible rfl)
          try simp only [Act.put, List.setIfInBounds_toArray, List.set_cons_zero, List.set_cons_succ]
          refine Rg.take (v := ?_) hH0 9 rfl (by kernel_rfl) (fun _ _ _ h => h) (by rfl) ?_ ?_
          rotate_left
          · (intro w hSw; (try dsimp only at hSw); go_simp <;> with_reducible rfl)
          try simp only [Act.put, List.setIfInBounds_toArray, List.set_cons_zero, List.set_cons_succ]
          refine Rg.take (v := ?_) hH0 10 rfl (by kernel_rfl) (fun _ _ _ h => h) (by rfl) ?_ ?_
          rotate_left
          · (intro w hSw; (try dsimp only at hSw); go_simp <;> with_reducible rfl)
          try simp only [Act.put, List.setIfInBounds_toArray, List.set_cons_zero, List.set_cons_succ]
          refine Rg.step 11 (by kernel_rfl) rfl (fun K hK => ?_)
          refine step_store_blk 39 _ _ rfl rfl (w.heap.size + 1) #[.string ⟨#[]⟩, .bool p.unknown, .int .i8 p.v.kind, .bool p.v.bool, .int .i64 p.v.num, .string p.v.text, .slice GL p.v.list.length lc, .slice GK p.v.keys.length kc] #[.string ⟨#[]⟩, .bool false, .int .i8 0, .bool false, .int .i64 0, .string ⟨#[]⟩, .slice none 0 0, .slice none 0 0] 39 rfl rfl HXG4.out.drew rfl (by kernel_rfl) (by simp [Value.oneCell']) ?_; intro w5 hk5 ho5; have HK5 := Lib.hid hk5; have HO5 := Lib.hid ho5; have hne5 : ¬ (ad.add (k * 8)).block = w.heap.size + 1 := (by omega); obtain ⟨f0, f1, f2, f3, f4, f5, f6, f7⟩ := cel8 ((Cel.drew HPC.out).only ho5 hne5); clear hk5 ho5
          refine hK.out _ _ ?_ (fun hH1 => ?_)
          · ((try dsimp only) <;> go_keep)
          clear hK K hH0
          try simp only [Act.put, List.setIfInBounds_toArray, List.set_cons_zero, List.set_cons_succ]
          refine Rg.last (by kernel_rfl) (by kernel_rfl) rfl (fun K hK => ?_)
          go_simp
          refine hK.out _ _ ?_
          clear hK K hH1
          go_wp2_with fail
          obtain ⟨r0, r1, r2, r3, r4, r5, r6, r7⟩ := blk8 HK5.out
          refine bodyPost_ret (v := .tuple #[.agg #[.string ⟨#[]⟩, .bool p.unknown, .int .i8 p.v.kind, .bool p.v.bool, .int .i64 p.v.num, .string p.v.text, .slice GL p.v.list.length lc, .slice GK p.v.keys.length kc], .int .i64 0]) (by simp [results, Tryz.results10, go_sem, r0, r1, r2, r3, r4, r5, r6, r7]) rfl ?_
          rw [HE.out]
          exact ⟨HO5.out.belowB HB4.out.drew (fun k hk => by omega), _, rfl, Gv.at_iff.2 ⟨_, rfl, by show ByteArray.empty.size ≤ _; decide, ((HVT.out.drewN 1).only HO5.out (fun k hk => by have := hk.2; omega)).mono (fun k hk => hk.1)⟩⟩
end Go.Proofs.YtmljdppdaaoehaaGreatDoor
