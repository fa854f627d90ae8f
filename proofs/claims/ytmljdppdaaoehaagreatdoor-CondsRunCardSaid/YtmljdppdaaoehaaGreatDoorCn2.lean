/- Conditions: a text put behind others that it is not among; what a condition names. -/
/- Conditions: the parameters that a condition refers to. -/
/- Conditions: where names stand; what a definition leads to. -/
import Derived.Test.YtmljdppdaaoehaaGreatDoorCn1
import Derived.Test.YtmljdppdaaoehaaGreatDoorRow
import Derived.Test.YtmljdppdaaoehaaGreatDoorNs4
import Derived.Deep.RegionHeld3
import Derived.Test.YtmljdppdaaoehaaGreatDoorNs8
namespace Go.Proofs.YtmljdppdaaoehaaGreatDoor
open Go.RowKit
set_option linter.unusedVariables false
set_option linter.unusedSimpArgs false

/-- a row of texts of the call's own, that may have grown where it lay -/
def SetOut (B : Nat) (A : Option Addr) (l' : List ByteArray) (w : World) (e : Ending) (w' : World) : Prop :=
  ∃ A' c', e = .returned (.slice A' l'.length c') ∧ Ow w' B 9 1 A' l'.length c' (l'.map .string) ∧ Only (fun k => blk A = some k) w w' ∧ ∀ k, k < w.heap.size → blk A' = some k → blk A = some k
theorem addT_len (a : List ByteArray) (d : ByteArray) : (addT a d).length ≤ a.length + 1 := by unfold addT; split <;> simp
set_option maxRecDepth 100000 in
set_option maxHeartbeats 4000000 in
theorem set_any (B mc : Nat) (A : Option Addr) (c : Nat) (l : List ByteArray) (d : ByteArray) (M : Addr) (w : World) (ho : Ow w B 9 1 A l.length c (l.map .string)) (hd : w.cell? M = some (.string d)) (hl : l.length ≤ 1000000)
    (hs : ∀ x ∈ l, x.size ≤ 140737488351232) (hB : B ≤ w.heap.size) (hmc : 1 ≤ mc) :
    Calls Tryz.prog 65 #[.slice A l.length c, .slice (some M) 1 mc] w (SetOut B A (addT l d) w) := by
  have HO := Lib.hid ho
  have hc := ho.cap
  have HSC := Lib.hid (scont_any (fun _ => True) A c l d w (Ls.mk_strs ho.rd (by omega) hs (fun _ _ _ => trivial)) (by omega))
  clear ho hs
  go_enter Tryz.func65, Tryz.ntmps65
  go_wp2_with fail
  go_loopg [9, 0] 1 (fun g i v wr => (g = 1 ∧ i = .int .i64 0 ∧ v = .slice A l.length c ∧ wr = w) ∨ (g = 0 ∧ i = .int .i64 1 ∧ ∃ A' c', v = .slice A' (addT l d).length c' ∧ Hid (Ow wr B 9 1 A' (addT l d).length c' ((addT l d).map .string)) ∧ Hid (Only (fun k => blk A = some k) w wr) ∧ Hid (∀ k, k < w.heap.size → blk A' = some k → blk A = some k)))
  case atStart => exact .inl ⟨rfl, rfl, rfl, rfl⟩
  case round =>
    rcases hrel with ⟨rfl, rfl, rfl, rfl⟩ | ⟨rfl, rfl, A', c', rfl, HO2, HN2, HL2⟩
    · cases hh : sHas d l with
      | true =>
        have HH : Hid (addT l d = l) := Lib.hid (by unfold addT; rw [hh]; simp)
        rw [hh] at HSC
        clear hh
        go_wp2_with fail
        refine HSC.out.mono ?_
        rintro e w2 ⟨rfl, rfl⟩
        go_wp2_with fail
        go_roundg 0
        case measure => omega
        case rel => exact .inr ⟨rfl, rfl, A, c, by rw [HH.out], by rw [HH.out]; exact HO, Lib.hid (Only.refl _ _), Lib.hid (fun _ _ h => h)⟩
      | false =>
        have HH : Hid (addT l d = l ++ [d]) := Lib.hid (by unfold addT; rw [hh]; simp)
        rw [hh] at HSC
        clear hh
        go_wp2_with fail
        refine HSC.out.mono ?_
        rintro e w2 ⟨rfl, rfl⟩
        have HRN := Lib.hid (Rd.lit wr 1 1 #[.string d] 9 (0, 0) rfl (by simp [maxLen]))
        go_wp2_with (at_builtin; refine wpList_row info_str Tryz.underlying35 rfl (by omega) rfl (.tmp 17) (.tmp 19) rfl B A c l.length (l.map .string) rfl (HO.out.alloc _) (some ⟨wr.heap.size, 0, none⟩) 1 1 [.string d] rfl HRN.out (by simp [Value.oneCell']) (by omega) (by omega) (by simp; omega) ?_; intro A' c' w6 ho hg hat; have HO6 := Lib.hid ho; have HG6 := Lib.hid hg; have HT6 := Lib.hid hat; clear ho hg hat)
        go_roundg 0
        case measure => omega
        case rel =>
          have hon : Only (fun k => blk A = some k) wr w6 := ((Only.refl _ wr).alloc _).grown HG6.out (fun g hg _ => hg)
          refine .inr ⟨rfl, rfl, A', c', by rw [HH.out]; simp, by rw [HH.out]; exact Lib.hid (by simpa using HO6.out), Lib.hid hon, Lib.hid (fun k hk hb => ?_)⟩
          rcases HT6.out with rfl | rfl
          · exact hb
          · simp [blk] at hb; omega
    · go_wp2_with fail
      go_ret
      exact ⟨A', c', rfl, HO2.out, HN2.out, HL2.out⟩
/-- the texts under way, in a box -/
def Fo (ob : Nat) (A : Option Addr) (k : Nat) : Prop := k = ob ∨ blk A = some k
structure Nst (B ob : Nat) (A : Option Addr) (ac : Nat) (l : List ByteArray) (w : World) : Prop where
  box : Blk w ob #[.slice A l.length ac] 35
  own : Ow w B 9 1 A l.length ac (l.map .string)
  hq : B ≤ ob
def WkOut (B ob : Nat) (A : Option Addr) (l' : List ByteArray) (w : World) (e : Ending) (w' : World) : Prop := e = .returned (.tuple #[]) ∧ ∃ A' ac', Nst B ob A' ac' l' w' ∧ Go1 (Fo ob A) (Fo ob A') w w'
theorem Nst.big {B ob ac : Nat} {A : Option Addr} {l : List ByteArray} {w : World} (h : Nst B ob A ac l w) : B ≤ w.heap.size := Nat.le_of_lt (Nat.lt_of_le_of_lt h.hq h.box.lt)
theorem Nst.below {B ob ac : Nat} {A : Option Addr} {l : List ByteArray} {w w' : World} (h : Nst B ob A ac l w) (hb : Below w.heap.size w w') : Nst B ob A ac l w' := ⟨h.box.below hb, h.own.below hb, h.hq⟩
theorem Nst.ne {B ob ac : Nat} {A : Option Addr} {l : List ByteArray} {w : World} (h : Nst B ob A ac l w) : blk A ≠ some ob := h.own.ne_blk h.box (by decide)
/-- a set's answer laid into the box -/
theorem Nst.set {B ob ac : Nat} {A : Option Addr} {l l' : List ByteArray} {w w1 w2 : World} (h : Nst B ob A ac l w) (hb : Below w.heap.size w w1) {A' : Option Addr} {c' : Nat} (ho : Ow w2 B 9 1 A' l'.length c' (l'.map .string)) (hon : Only (fun k => blk A = some k) w1 w2) (hlt : ∀ k, k < w1.heap.size → blk A' = some k → blk A = some k) :
    Nst B ob A' c' l' (w2.setCell ⟨ob, 0, none⟩ (.slice A' l'.length c')) ∧ Go1 (Fo ob A) (Fo ob A') w (w2.setCell ⟨ob, 0, none⟩ (.slice A' l'.length c')) := by
  have h1 := h.below hb
  have hbx := h1.box.only hon h1.ne
  have hne : blk A' ≠ some ob := ho.ne_blk hbx (by decide)
  refine ⟨⟨(hbx.set 0 _).eq (by simp), ho.setOther _ _ hne, h.hq⟩, (Go1.of_below hb).trans ⟨(hon.mono (fun k _ e => .inr e)).setCell _ _ (fun _ => .inl rfl), fun k hk hf => ?_⟩⟩
  rcases hf with hf | hf
  · exact .inl hf
  · exact .inr (hlt k hk hf)
def NmCl (ob : Nat) : Value := .func (.func 67) #[] #[.pointer (some ⟨ob, 0, none⟩)]
set_option maxRecDepth 100000 in
set_option maxHeartbeats 4000000 in
theorem nm1_any (B ob : Nat) (a : Addr) (A : Option Addr) (ac : Nat) (l : List ByteArray) (nm : ByteArray) (kd : Int) (w : World) (h : Nst B ob A ac l w) (c0 : w.cell? a = some (.string nm)) (c1 : w.cell? ⟨a.block, a.off + 1, none⟩ = some (.int .i8 kd)) (hna : ¬ Fo ob A a.block)
    (hl : l.length ≤ 1000000) (hs : ∀ x ∈ l, x.size ≤ 140737488351232) :
    Calls Tryz.prog 67 #[.pointer (some a), .pointer (some ⟨ob, 0, none⟩)] w (WkOut B ob A (if kd = 4 then addT l nm else l) w) := by
  have cb := h.box.cell 0 (v := .slice A l.length ac) rfl
  have fb := h.box.frozen 0
  have H := Lib.hid h
  have HS := Lib.hid hs
  have HNA := Lib.hid hna
  have hal : a.block < w.heap.size := World.block_lt_of_cell? w _ c0
  have hbl := h.box.lt
  have hbig := h.big
  clear h hs hna
  by_cases hk : kd = 4
  · subst hk
    have e4 : ((4 : Int) == 4) = true := rfl
    have HSET := Lib.hid (set_any B 1 A ac l nm ⟨w.heap.size, 0, none⟩ ((w.alloc (.cells #[.string nm] 9)).drew) (H.out.own.alloc _).drew (Blk.cell (Blk.new w #[.string nm] 9).drew 0 rfl) (by omega) HS.out (by simp; omega) (by omega))
    rw [if_pos rfl]
    go_enter Tryz.func67, Tryz.ntmps67
    go_wp2_with fail
    refine Rg.start 7 (fun w' => w'.cell? ⟨ob, 0, none⟩ = some (.slice A l.length ac) ∧ w'.cell? a = some (.string nm)) (by kernel_rfl) (by go_keep) (fun hH0 => ?_)
    simp only [List.length_cons, List.length_nil, List.replicate_succ, List.replicate_zero, Nat.zero_add, Nat.reduceAdd]
    refine Rg.take (v := ?_) hH0 0 rfl (by kernel_rfl) (fun _ _ _ h => h) (by rfl) ?_ ?_
    rotate_left
    · (intro w hSw; (try dsimp only at hSw); go_simp <;> with_reducible rfl)
    try simp only [Act.put, List.setIfInBounds_toArray, List.set_cons_zero, List.set_cons_succ]
    refine Rg.take (v := ?_) hH0 1 rfl (by kernel_rfl) (fun _ _ _ h => h) (by rfl) ?_ ?_
    rotate_left
    · (intro w hSw; (try dsimp only at hSw); go_simp <;> with_reducible rfl)
    try simp only [Act.put, List.setIfInBounds_toArray, List.set_cons_zero, List.set_cons_succ]
    refine Rg.take (v := ?_) hH0 2 rfl (by kernel_rfl) (fun _ _ _ h => h) (by rfl) ?_ ?_
    rotate_left
    · (intro w hSw; (try dsimp only at hSw); go_simp <;> with_reducible rfl)
    try simp only [Act.put, List.setIfInBounds_toArray, List.set_cons_zero, List.set_cons_succ]
    refine Rg.take (v := ?_) hH0 3 rfl (by kernel_rfl) (fun _ _ _ h => h) (by rfl) ?_ ?_
    rotate_left
    · (intro w hSw; (try dsimp only at hSw); go_simp <;> with_reducible rfl)
    try simp only [Act.put, List.setIfInBounds_toArray, List.set_cons_zero, List.set_cons_succ]
    refine Rg.take (v := ?_) hH0 4 rfl (by kernel_rfl) (fun _ _ _ h => h) (by rfl) ?_ ?_
    rotate_left
    · (intro w hSw; (try dsimp only at hSw); go_simp <;> with_reducible rfl)
    try simp only [Act.put, List.setIfInBounds_toArray, List.set_cons_zero, List.set_cons_succ]
    refine Rg.step 5 (by kernel_rfl) rfl (fun K hK => ?_)
    go_simp
    refine hK.out _ _ ?_ (fun hH1 => ?_)
    · ((try dsimp only) <;> go_keep)
    clear hK K hH0
    try simp only [Act.put, List.setIfInBounds_toArray, List.set_cons_zero, List.set_cons_succ]
    refine Rg.step 6 (by kernel_rfl) rfl (fun K hK => ?_)
    go_simp; (with_reducible refine HSET.out.mono ?_); rintro e w3 ⟨A3, c3, rfl, ho3, hn3, hl3⟩; have HO3 := Lib.hid ho3; have HN3 := Lib.hid hn3; have HL3 := Lib.hid hl3; have k0 : w3.cell? ⟨ob, 0, none⟩ = some (.slice A l.length ac) := (by rw [cell_only hn3 (by simp; omega) H.out.ne]; exact (World.cell?_alloc_lt w _ _ hbl).trans cb); have k1 : w3.cell? a = some (.string nm) := (by rw [cell_only hn3 (by simp; omega) (fun e => HNA.out (.inr e))]; exact (World.cell?_alloc_lt w _ _ hal).trans c0); have k2 : w3.frozen? ⟨ob, 0, none⟩ = false := ((H.out.box.alloc (.cells #[.string nm] 9)).drew.only hn3 H.out.ne).frozen 0; clear ho3 hn3 hl3; dsimp only
    refine hK.out _ _ ?_ (fun hH2 => ?_)
    · ((try dsimp only) <;> go_keep)
    clear hK K hH1
    try simp only [Act.put, List.setIfInBounds_toArray, List.set_cons_zero, List.set_cons_succ]
    refine Rg.last (by kernel_rfl) (by kernel_rfl) rfl (fun K hK => ?_)
    go_simp
    refine hK.out _ _ ?_
    clear hK K hH2
    go_wp2_with fail
    go_end0
    have hst := H.out.set (((Below.refl _ w).alloc (Nat.le_refl _) (.cells #[.string nm] 9)).drew) HO3.out HN3.out HL3.out
    exact ⟨rfl, A3, c3, hst.1, hst.2⟩
  · have e4 : (kd == 4) = false := by simpa using hk
    rw [if_neg hk]
    clear hk
    go_enter Tryz.func67, Tryz.ntmps67
    go_wp2_with fail
    go_end0
    exact ⟨rfl, A, ac, H.out, Go1.refl _ _⟩
theorem cd_cel {S : Nat → Prop} {w : World} {a : Addr} {v : Cd} {cs : List Value} (h : Trs.at S w v.tr cs) (hc : Cel w a cs) :
    ∃ L lc, w.cell? a = some (.string v.name) ∧ w.cell? ⟨a.block, a.off + 1, none⟩ = some (.int .i8 v.kind) ∧ w.cell? ⟨a.block, a.off + 14, none⟩ = some (.slice L v.l.length lc) ∧ Ls S w 15 224 Cd.tr L lc v.l ∧ v.name.size ≤ 140737488351232 := by
  obtain ⟨xs, ys, L, lc, rfl, h1, _, h3, h4, h5⟩ := Cd.at_iff.1 h
  have hx : xs.length = 6 := h3.len.trans (Ex.trlen _)
  have hy : ys.length = 6 := h4.len.trans (Ex.trlen _)
  refine ⟨L, lc, ?_, ?_, ?_, h5, h1⟩
  · have := hc 0 _ rfl
    simpa using this
  · have := hc 1 _ rfl
    simpa using this
  · have := hc 14 (.slice L v.l.length lc) (by
      rw [List.getElem?_cons_succ, List.getElem?_cons_succ, List.getElem?_append_right (by omega), List.getElem?_append_right (by omega), hx, hy]; rfl)
    simpa using this
/-- how deep a condition is at most -/
def Cd.deep : Nat → Cd → Prop
  | 0, _ => False
  | k + 1, c => ∀ p ∈ c.l, Cd.deep k p
def WkC (B ob k : Nat) : Prop := ∀ (c : Cd) (cs : List Value) (a : Addr) (A : Option Addr) (ac : Nat) (l : List ByteArray) (w : World), c.deep k → Trs.at (Sf 0 (Fo ob A) w) w c.tr cs → Cel w a cs → ¬ Fo ob A a.block → Nst B ob A ac l w →
  l.length + (cNm k c).length ≤ 1000000 → (∀ x ∈ l, x.size ≤ 140737488351232) → Calls Tryz.prog 63 #[.pointer (some a), NmCl ob] w (WkOut B ob A ((cNm k c).foldl addT l) w)
theorem addT_mem {a : List ByteArray} {d z : ByteArray} (h : z ∈ addT a d) : z ∈ a ∨ z = d := by
  unfold addT at h
  split at h
  · exact .inl h
  · rcases List.mem_append.1 h with h | h
    · exact .inl h
    · rw [List.mem_singleton] at h; exact .inr h
theorem foldT_len : ∀ (ds a : List ByteArray), (ds.foldl addT a).length ≤ a.length + ds.length
  | [], a => by simp
  | d :: ds, a => by
    have h1 := foldT_len ds (addT a d)
    have h2 := addT_len a d
    simp only [List.foldl_cons, List.length_cons]; omega
theorem foldT_mem : ∀ {ds a : List ByteArray} {z : ByteArray}, z ∈ ds.foldl addT a → z ∈ a ∨ z ∈ ds
  | [], a, z, h => .inl h
  | d :: ds, a, z, h => by
    rcases foldT_mem (ds := ds) h with h | h
    · rcases addT_mem h with h | h
      · exact .inl h
      · exact .inr (by simp [h])
    · exact .inr (by simp [h])
/-- what is named, texts of memory -/
theorem cNm_sizes {S : Nat → Prop} {w : World} : ∀ (k : Nat) (c : Cd) (cs : List Value), Trs.at S w c.tr cs → ∀ z ∈ cNm k c, z.size ≤ 140737488351232
  | 0, c, cs, _, z, hz => by simp [cNm] at hz
  | k + 1, c, cs, h, z, hz => by
    obtain ⟨_, _, L, lc, _, h1, _, _, _, h5⟩ := Cd.at_iff.1 h
    simp only [cNm] at hz
    split at hz
    · rw [List.mem_singleton] at hz; subst hz; exact h1
    · obtain ⟨p, hp, hz⟩ := List.mem_flatMap.1 hz
      obtain ⟨i, hi⟩ := List.mem_iff_getElem?.1 hp
      obtain ⟨_, ps, _, hpt, _⟩ := h5.elem Cd.trlen hi
      exact cNm_sizes k p ps hpt z hz
set_option maxRecDepth 100000 in
set_option maxHeartbeats 8000000 in
theorem wk_step (B ob k : Nat) (IH : WkC B ob k) (c : Cd) (cs : List Value) (a : Addr) (A : Option Addr) (ac : Nat) (l : List ByteArray) (w : World) (hd : c.deep (k + 1)) (htr : Trs.at (Sf 0 (Fo ob A) w) w c.tr cs) (hcel : Cel w a cs) (hna : ¬ Fo ob A a.block) (h : Nst B ob A ac l w)
    (hlen : l.length + (cNm (k + 1) c).length ≤ 1000000) (hs : ∀ x ∈ l, x.size ≤ 140737488351232) :
    Calls Tryz.prog 63 #[.pointer (some a), NmCl ob] w (WkOut B ob A ((cNm (k + 1) c).foldl addT l) w) := by
  obtain ⟨L, lc, c0, c1, c14, hls, hnm⟩ := cd_cel htr hcel
  have HN1 := Lib.hid (nm1_any B ob a A ac l c.name c.kind w h c0 c1 hna (by omega) hs)
  have H := Lib.hid h
  have HS := Lib.hid hs
  have HNA := Lib.hid hna
  have HCEL := Lib.hid hcel
  have HTR := Lib.hid htr
  have HD := Lib.hid hd
  have hcap := hls.cap
  have hbyt := hls.bytes
  have HLS := Lib.hid hls
  unfold NmCl
  clear h hs hna htr hd hls hcel
  by_cases h4 : c.kind = 4
  · have e0 : (c.kind == 0) = false := by rw [h4]; rfl
    have e4 : (c.kind == 4) = true := by rw [h4]; rfl
    have HE : Hid ((cNm (k + 1) c).foldl addT l = addT l c.name) := Lib.hid (by simp only [cNm]; rw [if_pos h4]; rfl)
    rw [if_pos h4] at HN1
    clear h4
    go_enter Tryz.func63, Tryz.ntmps63
    go_wp2_with fail
    refine HN1.out.mono ?_
    rintro e w2 ⟨rfl, A2, ac2, hst, hgo⟩
    have hc2 := HCEL.out.go hgo HNA.out
    have HST := Lib.hid hst
    have HGO := Lib.hid hgo
    obtain ⟨_, _, d0, d1, _⟩ := cd_cel (HTR.out.go hgo) hc2
    clear hst hgo hc2
    go_wp2_with fail
    go_end0
    rw [HE.out]
    exact ⟨rfl, A2, ac2, HST.out, HGO.out⟩
  · have e4 : (c.kind == 4) = false := by simpa using h4
    have hE : cNm (k + 1) c = c.l.flatMap (cNm k) := by simp only [cNm]; rw [if_neg h4]
    have HE : Hid ((cNm (k + 1) c).foldl addT l = (c.l.flatMap (cNm k)).foldl addT l) := Lib.hid (by rw [hE])
    rw [hE] at hlen
    have HLEN := Lib.hid hlen
    rw [if_neg h4] at HN1
    clear h4 hE hlen
    by_cases h0 : c.kind = 0
    · have e0 : (c.kind == 0) = true := by rw [h0]; rfl
      clear h0
      go_enter Tryz.func63, Tryz.ntmps63
      go_wp2_with fail
      refine HN1.out.mono ?_
      rintro e w2 ⟨rfl, A2, ac2, hst, hgo⟩
      have d1 := (cell_only hgo.only (World.block_lt_of_cell? w _ c1) HNA.out).trans c1
      have d14 := (cell_only hgo.only (World.block_lt_of_cell? w _ c14) HNA.out).trans c14
      have HST := Lib.hid hst
      have HGO := Lib.hid hgo
      clear hst hgo
      go_wp2_with fail
      clear d1 d14 e0
      go_loopg [30] c.l.length (fun g i wr => ∃ (j : Nat) (A3 : Option Addr) (ac3 : Nat) (l3 : List ByteArray), j + g = c.l.length ∧ i = .int .i64 (j : Nat) ∧ Hid ((c.l.flatMap (cNm k)).foldl addT l = ((c.l.drop j).flatMap (cNm k)).foldl addT l3) ∧ Hid (Nst B ob A3 ac3 l3 wr) ∧ Hid (Go1 (Fo ob A) (Fo ob A3) w wr) ∧
        Hid (l3.length + ((c.l.drop j).flatMap (cNm k)).length ≤ 1000000) ∧ Hid (∀ x ∈ l3, x.size ≤ 140737488351232))
      case atStart => exact ⟨0, A2, ac2, l, by omega, rfl, Lib.hid (by simp), HST, HGO, Lib.hid (by rw [List.drop_zero]; exact HLEN.out), HS⟩
      case round =>
        obtain ⟨j, A3, ac3, l3, hj, rfl, HE3, HST3, HGO3, HL3, HS3⟩ := hrel
        rename World => wo
        clear HST HGO
        cases gk with
        | zero =>
          have hjj : ¬ ((j : Int) < (c.l.length : Int)) := by omega
          have HEE : Hid ((cNm (k + 1) c).foldl addT l = l3) := Lib.hid (by rw [HE.out, HE3.out, List.drop_of_length_le (by omega)]; rfl)
          go_wp2_with fail
          go_end0
          rw [HEE.out]
          exact ⟨rfl, A3, ac3, HST3.out, HGO3.out⟩
        | succ g =>
          have hjj : (j : Int) < (c.l.length : Int) := by omega
          obtain ⟨p, hp⟩ := get_lt (l := c.l) (i := j) (by omega)
          have hdp := HD.out p (List.mem_of_getElem? hp)
          obtain ⟨ad, pcs, rfl, hpt, hpc⟩ := (HLS.out.go HGO3.out).elem Cd.trlen hp
          have hblk := (HLS.out.go HGO3.out).blk ad rfl (by omega)
          have hdrop : (c.l.drop j).flatMap (cNm k) = cNm k p ++ (c.l.drop (j + 1)).flatMap (cNm k) := by rw [drop_cons hp]; rfl
          have hl3 := HL3.out
          rw [hdrop, List.length_append] at hl3
          have hih := IH p pcs (ad.add (j * 15)) A3 ac3 l3 wo hdp hpt hpc (by rw [block_of_add]; exact hblk.1) HST3.out (by omega) HS3.out
          have HIH := Lib.hid hih
          have HDR := Lib.hid hdrop
          have HSZ := Lib.hid (cNm_sizes k p pcs hpt)
          have c14' := (cell_only HGO3.out.only (World.block_lt_of_cell? w _ c14) HNA.out).trans c14
          have hfl := foldT_len (cNm k p) l3
          unfold NmCl at HIH
          clear hp hdp hpt hpc hblk hdrop hih
          go_wp2_with fail
          refine HIH.out.mono ?_
          rintro e w4 ⟨rfl, A4, ac4, hst4, hgo4⟩
          have HST4 := Lib.hid hst4
          have HGO4 := Lib.hid (HGO3.out.trans hgo4)
          clear hst4 hgo4 c14'
          go_wp2_with fail
          go_roundg g
          case measure => omega
          case rel =>
            refine ⟨j + 1, A4, ac4, (cNm k p).foldl addT l3, by omega, by go_num, Lib.hid (by rw [HE3.out, HDR.out, List.foldl_append]), HST4, HGO4, Lib.hid (by omega), Lib.hid (fun x hx => ?_)⟩
            rcases foldT_mem hx with hx | hx
            · exact HS3.out x hx
            · exact HSZ.out x hx
    · have e0 : (c.kind == 0) = false := by simpa using h0
      obtain ⟨A2, hA2⟩ : ∃ A2, A2 = A := ⟨_, rfl⟩
      obtain ⟨ac2, hac2⟩ : ∃ ac2, ac2 = ac := ⟨_, rfl⟩
      have HST : Hid (Nst B ob A2 ac2 l w) := Lib.hid (by rw [hA2, hac2]; exact H.out)
      have HGO : Hid (Go1 (Fo ob A) (Fo ob A2) w w) := Lib.hid (by rw [hA2]; exact Go1.refl _ _)
      clear h0 hA2 hac2
      go_enter Tryz.func63, Tryz.ntmps63
      go_wp2_with fail
      clear e0
      go_loopg [30] c.l.length (fun g i wr => ∃ (j : Nat) (A3 : Option Addr) (ac3 : Nat) (l3 : List ByteArray), j + g = c.l.length ∧ i = .int .i64 (j : Nat) ∧ Hid ((c.l.flatMap (cNm k)).foldl addT l = ((c.l.drop j).flatMap (cNm k)).foldl addT l3) ∧ Hid (Nst B ob A3 ac3 l3 wr) ∧ Hid (Go1 (Fo ob A) (Fo ob A3) w wr) ∧
        Hid (l3.length + ((c.l.drop j).flatMap (cNm k)).length ≤ 1000000) ∧ Hid (∀ x ∈ l3, x.size ≤ 140737488351232))
      case atStart => exact ⟨0, A2, ac2, l, by omega, rfl, Lib.hid (by simp), HST, HGO, Lib.hid (by rw [List.drop_zero]; exact HLEN.out), HS⟩
      case round =>
        obtain ⟨j, A3, ac3, l3, hj, rfl, HE3, HST3, HGO3, HL3, HS3⟩ := hrel
        rename World => wo
        clear HST HGO
        cases gk with
        | zero =>
          have hjj : ¬ ((j : Int) < (c.l.length : Int)) := by omega
          have HEE : Hid ((cNm (k + 1) c).foldl addT l = l3) := Lib.hid (by rw [HE.out, HE3.out, List.drop_of_length_le (by omega)]; rfl)
          go_wp2_with fail
          go_end0
          rw [HEE.out]
          exact ⟨rfl, A3, ac3, HST3.out, HGO3.out⟩
        | succ g =>
          have hjj : (j : Int) < (c.l.length : Int) := by omega
          obtain ⟨p, hp⟩ := get_lt (l := c.l) (i := j) (by omega)
          have hdp := HD.out p (List.mem_of_getElem? hp)
          obtain ⟨ad, pcs, rfl, hpt, hpc⟩ := (HLS.out.go HGO3.out).elem Cd.trlen hp
          have hblk := (HLS.out.go HGO3.out).blk ad rfl (by omega)
          have hdrop : (c.l.drop j).flatMap (cNm k) = cNm k p ++ (c.l.drop (j + 1)).flatMap (cNm k) := by rw [drop_cons hp]; rfl
          have hl3 := HL3.out
          rw [hdrop, List.length_append] at hl3
          have hih := IH p pcs (ad.add (j * 15)) A3 ac3 l3 wo hdp hpt hpc (by rw [block_of_add]; exact hblk.1) HST3.out (by omega) HS3.out
          have HIH := Lib.hid hih
          have HDR := Lib.hid hdrop
          have HSZ := Lib.hid (cNm_sizes k p pcs hpt)
          have c14' := (cell_only HGO3.out.only (World.block_lt_of_cell? w _ c14) HNA.out).trans c14
          have hfl := foldT_len (cNm k p) l3
          unfold NmCl at HIH
          clear hp hdp hpt hpc hblk hdrop hih
          go_wp2_with fail
          refine HIH.out.mono ?_
          rintro e w4 ⟨rfl, A4, ac4, hst4, hgo4⟩
          have HST4 := Lib.hid hst4
          have HGO4 := Lib.hid (HGO3.out.trans hgo4)
          clear hst4 hgo4 c14'
          go_wp2_with fail
          go_roundg g
          case measure => omega
          case rel =>
            refine ⟨j + 1, A4, ac4, (cNm k p).foldl addT l3, by omega, by go_num, Lib.hid (by rw [HE3.out, HDR.out, List.foldl_append]), HST4, HGO4, Lib.hid (by omega), Lib.hid (fun x hx => ?_)⟩
            rcases foldT_mem hx with hx | hx
            · exact HS3.out x hx
            · exact HSZ.out x hx
theorem walkN_any (B ob : Nat) : ∀ k, WkC B ob k := by
  intro k
  induction k with
  | zero => intro c cs a A ac l w hd; exact absurd hd (by simp [Cd.deep])
  | succ k ih => exact fun c cs a A ac l w hd htr hcel hna h hlen hs => wk_step B ob k ih c cs a A ac l w hd htr hcel hna h hlen hs
theorem celBlk {w : World} {q : Nat} {cs : Array Value} {t : TypeId} (h : Blk w q cs t) : Cel w ⟨q, 0, none⟩ cs.toList := fun j u hu => by
  have h1 := h.cell j (v := u) (by simpa using hu)
  split
  · next hj => subst hj; exact h1
  · show w.cell? ⟨q, 0 + j, none⟩ = some u
    rw [Nat.zero_add]; exact h1
/-- a fresh row of texts -/
def TextsOut (l : List ByteArray) (w : World) (e : Ending) (w' : World) : Prop :=
  ∃ A c, e = .returned (.slice A l.length c) ∧ Ow w' w.heap.size 9 1 A l.length c (l.map .string) ∧ Below w.heap.size w w' ∧ ∀ x ∈ l, x.size ≤ 140737488351232
set_option maxRecDepth 100000 in
set_option maxHeartbeats 4000000 in
theorem names_any (S : Nat → Prop) (c : Cd) (cs : Array Value) (w : World) (hd : c.deep 20) (htr : Trs.at S w c.tr cs.toList) (hlen : (cNm 20 c).length ≤ 1000000) :
    Calls Tryz.prog 45 #[.agg cs] w (TextsOut (names c) w) := by
  have hb : Below w.heap.size w ((w.alloc (.cells cs 46)).alloc (.cells #[.slice none 0 0] 35)) := ((Below.refl _ w).alloc (Nat.le_refl _) _).alloc (by simp) _
  have hbx : Blk ((w.alloc (.cells cs 46)).alloc (.cells #[.slice none 0 0] 35)) (w.heap.size + 1) #[.slice none 0 0] 35 := by
    have := Blk.new (w.alloc (.cells cs 46)) #[.slice none 0 0] 35
    rw [show (w.alloc (.cells cs 46)).heap.size = w.heap.size + 1 by simp] at this
    exact this
  have hst : Nst (w.heap.size + 1) (w.heap.size + 1) none 0 [] ((w.alloc (.cells cs 46)).alloc (.cells #[.slice none 0 0] 35)) := ⟨hbx, Ow.nil _ _ _ _, Nat.le_refl _⟩
  have hcel := celBlk ((Blk.new w cs 46).alloc (.cells #[.slice none 0 0] 35))
  have hS : ∀ k, S k ∧ k < w.heap.size → Sf 0 (Fo (w.heap.size + 1) none) ((w.alloc (.cells cs 46)).alloc (.cells #[.slice none 0 0] 35)) k := fun k hk => by
    refine ⟨fun hf => ?_, by simp; omega, by omega⟩
    rcases hf with hf | hf
    · omega
    · simp [blk] at hf
  have HW := Lib.hid (walkN_any (w.heap.size + 1) (w.heap.size + 1) 20 c cs.toList ⟨w.heap.size, 0, none⟩ none 0 [] _ hd ((htr.bound.below hb).mono hS) hcel (fun hf => by
    rcases hf with hf | hf
    · simp at hf
    · simp [blk] at hf) hst (by simpa using hlen) (by simp))
  have HB := Lib.hid hb
  have HS := Lib.hid (cNm_sizes 20 c cs.toList htr)
  unfold NmCl at HW
  clear hd htr hlen hb hbx hst hcel hS
  go_enter Tryz.func45, Tryz.ntmps45
  go_wp2_with fail
  refine HW.out.mono ?_
  rintro e w3 ⟨rfl, A, ac, hst, hgo⟩
  have hb3 : Below w.heap.size w w3 := HB.out.trans (hgo.only.below HB.out.size (fun k hk => by
    rcases hk with hk | hk
    · omega
    · simp [blk] at hk))
  have c0 := hst.box.cell 0 (v := .slice A ((cNm 20 c).foldl addT []).length ac) rfl
  have f0 := hst.box.frozen 0
  have HST := Lib.hid hst
  have HB3 := Lib.hid hb3
  have c1 := ((hst.box.set 0 (.slice A ((cNm 20 c).foldl addT []).length ac)).eq (cs' := #[.slice A ((cNm 20 c).foldl addT []).length ac]) (by simp)).cell 0 (v := .slice A ((cNm 20 c).foldl addT []).length ac) rfl
  clear hst hgo hb3
  go_wp2_with fail
  refine bodyPost_ret (v := .slice A ((cNm 20 c).foldl addT []).length ac) (by simp [results, Tryz.results45, go_sem, c1]) rfl ?_
  refine ⟨A, ac, rfl, (HST.out.own.setOther _ _ HST.out.ne).le (by omega), HB3.out.setCell (by simp) _, fun x hx => ?_⟩
  rcases foldT_mem hx with hx | hx
  · cases hx
  · exact HS.out x hx
end Go.Proofs.YtmljdppdaaoehaaGreatDoor
namespace Go.Proofs.YtmljdppdaaoehaaGreatDoor
open Go.RowKit
set_option linter.unusedVariables false
set_option linter.unusedSimpArgs false

def PmCl (ob : Nat) : Value := .func (.func 64) #[] #[.pointer (some ⟨ob, 0, none⟩)]
/-- the texts that a part adds -/
def pmAdd (c : Cd) : List ByteArray := if c.kind = 0 then xRef c.a ++ xRef c.b else []
theorem ex_cells {S : Nat → Prop} {w : World} {e : Ex} {cs : List Value} (h : Trs.at S w e.tr cs) : ∃ A c, cs = [.int .i8 e.kind, .string e.text, .int .i64 e.num, .string e.name, .string e.attr, .slice A e.l.length c] ∧ e.name.size ≤ 140737488351232 := by
  obtain ⟨A, c, rfl, _, _, _, h4, _⟩ := Ex.at_iff.1 h
  exact ⟨A, c, rfl, h4⟩
theorem cel_at {w : World} {q : Nat} {cs : Array Value} {t : TypeId} (h : Blk w q cs t) (o : Nat) (l : List Value) (hl : (cs.toList.drop o).take l.length = l) : Cel w ⟨q, o, none⟩ l := fun j u hu => by
  have hj := (List.getElem?_eq_some_iff.1 hu).1
  rw [← hl, List.getElem?_take, if_pos hj, List.getElem?_drop] at hu
  have h1 := h.cell (o + j) (v := u) (by simpa using hu)
  split
  · next h0 => subst h0; exact h1
  · exact h1
set_option maxRecDepth 100000 in
set_option maxHeartbeats 8000000 in
theorem pm1_any (B ob : Nat) (c : Cd) (cs : List Value) (a : Addr) (A : Option Addr) (ac : Nat) (l : List ByteArray) (w : World) (h : Nst B ob A ac l w) (htr : Trs.at (Sf 0 (Fo ob A) w) w c.tr cs) (hcel : Cel w a cs) (hna : ¬ Fo ob A a.block)
    (hl : l.length + 2 ≤ 1000000) (hs : ∀ x ∈ l, x.size ≤ 140737488351232) :
    Calls Tryz.prog 64 #[.pointer (some a), .pointer (some ⟨ob, 0, none⟩)] w (WkOut B ob A ((pmAdd c).foldl addT l) w) := by
  obtain ⟨xs, ys, L, lc, rfl, _, _, hxa, hxb, _⟩ := Cd.at_iff.1 htr
  obtain ⟨A1, n1, rfl, hsa⟩ := ex_cells hxa
  obtain ⟨B1, n2, rfl, hsb⟩ := ex_cells hxb
  obtain ⟨c0, c1, c2, c3, c4, c5, c6, c7, c8, c9, c10, c11, c12, c13, c14⟩ := cel15 hcel
  have H := Lib.hid h
  have HS := Lib.hid hs
  have HNA := Lib.hid hna
  have hal : a.block < w.heap.size := World.block_lt_of_cell? w _ c0
  have HC1 := Lib.hid c1
  have hbig := h.big
  clear h hs hna htr hcel hxa hxb c0
  go_enter Tryz.func64, Tryz.ntmps64
  go_wp2_with fail
  go_region_held3 (fun w' => w'.cell? ⟨a.block, a.off + 2, none⟩ = some (.int .i8 c.a.kind) ∧ w'.cell? ⟨a.block, a.off + 3, none⟩ = some (.string c.a.text) ∧ w'.cell? ⟨a.block, a.off + 4, none⟩ = some (.int .i64 c.a.num) ∧ w'.cell? ⟨a.block, a.off + 5, none⟩ = some (.string c.a.name) ∧ w'.cell? ⟨a.block, a.off + 6, none⟩ = some (.string c.a.attr) ∧ w'.cell? ⟨a.block, a.off + 7, none⟩ = some (.slice A1 c.a.l.length n1) ∧
    w'.cell? ⟨a.block, a.off + 8, none⟩ = some (.int .i8 c.b.kind) ∧ w'.cell? ⟨a.block, a.off + 9, none⟩ = some (.string c.b.text) ∧ w'.cell? ⟨a.block, a.off + 10, none⟩ = some (.int .i64 c.b.num) ∧ w'.cell? ⟨a.block, a.off + 11, none⟩ = some (.string c.b.name) ∧ w'.cell? ⟨a.block, a.off + 12, none⟩ = some (.string c.b.attr) ∧ w'.cell? ⟨a.block, a.off + 13, none⟩ = some (.slice B1 c.b.l.length n2)) (go_keep) (fail)
  have hW1 : Below w.heap.size w ((w.alloc (.cells #[.int .i8 c.a.kind, .string c.a.text, .int .i64 c.a.num, .string c.a.name, .string c.a.attr, .slice A1 c.a.l.length n1, .int .i8 c.b.kind, .string c.b.text, .int .i64 c.b.num, .string c.b.name, .string c.b.attr, .slice B1 c.b.l.length n2] 27)).drew) := ((Below.refl _ w).alloc (Nat.le_refl _) _).drew
  have HST0 := Lib.hid (H.out.below hW1)
  have HGO0 := Lib.hid (Go1.of_below (F := Fo ob A) hW1)
  have HRB0 : Hid (Blk ((w.alloc (.cells #[.int .i8 c.a.kind, .string c.a.text, .int .i64 c.a.num, .string c.a.name, .string c.a.attr, .slice A1 c.a.l.length n1, .int .i8 c.b.kind, .string c.b.text, .int .i64 c.b.num, .string c.b.name, .string c.b.attr, .slice B1 c.b.l.length n2] 27)).drew) w.heap.size #[.int .i8 c.a.kind, .string c.a.text, .int .i64 c.a.num, .string c.a.name, .string c.a.attr, .slice A1 c.a.l.length n1, .int .i8 c.b.kind, .string c.b.text, .int .i64 c.b.num, .string c.b.name, .string c.b.attr, .slice B1 c.b.l.length n2] 27) := Lib.hid (Blk.new w _ _).drew
  have HNR : Hid (w.heap.size ≠ ob) := Lib.hid (by have := H.out.box.lt; omega)
  have HPM : Hid ((pmAdd c).foldl addT l = (([c.a, c.b].drop 0).flatMap fun e => if c.kind = 0 then xRef e else []).foldl addT l) := Lib.hid (by
    unfold pmAdd
    by_cases h0 : c.kind = 0
    · simp [h0]
    · simp [h0])
  have HKEY : Hid (∀ j e, [c.a, c.b][j]? = some e → e.name.size ≤ 140737488351232 ∧ ∃ E en, ∀ wo, Blk wo w.heap.size #[.int .i8 c.a.kind, .string c.a.text, .int .i64 c.a.num, .string c.a.name, .string c.a.attr, .slice A1 c.a.l.length n1, .int .i8 c.b.kind, .string c.b.text, .int .i64 c.b.num, .string c.b.name, .string c.b.attr, .slice B1 c.b.l.length n2] 27 → Cel wo ⟨w.heap.size, j * 6, none⟩ [.int .i8 e.kind, .string e.text, .int .i64 e.num, .string e.name, .string e.attr, .slice E e.l.length en]) := Lib.hid (fun j e hj => by
    match j, hj with
    | 0, hj => simp at hj; subst hj; exact ⟨hsa, A1, n1, fun wo hb => cel_at hb 0 _ rfl⟩
    | 1, hj => simp at hj; subst hj; exact ⟨hsb, B1, n2, fun wo hb => cel_at hb 6 _ rfl⟩
    | j + 2, hj => simp at hj)
  clear c2 c3 c4 c5 c6 c7 c8 c9 c10 c11 c12 c13 c14 hW1 hsa hsb
  go_wp2_with fail
  go_loopg [15] 2 (fun g i wr => ∃ (j : Nat) (A3 : Option Addr) (ac3 : Nat) (l3 : List ByteArray), j + g = 2 ∧ i = .int .i64 (j : Nat) ∧ Hid ((pmAdd c).foldl addT l = (([c.a, c.b].drop j).flatMap fun e => if c.kind = 0 then xRef e else []).foldl addT l3) ∧ Hid (Nst B ob A3 ac3 l3 wr) ∧ Hid (Go1 (Fo ob A) (Fo ob A3) w wr) ∧
    Hid (Blk wr w.heap.size #[.int .i8 c.a.kind, .string c.a.text, .int .i64 c.a.num, .string c.a.name, .string c.a.attr, .slice A1 c.a.l.length n1, .int .i8 c.b.kind, .string c.b.text, .int .i64 c.b.num, .string c.b.name, .string c.b.attr, .slice B1 c.b.l.length n2] 27) ∧ Hid (l3.length ≤ l.length + j) ∧ Hid (∀ x ∈ l3, x.size ≤ 140737488351232) ∧ Hid (w.heap.size < wr.heap.size))
  case atStart => exact ⟨0, A, ac, l, by omega, rfl, HPM, HST0, HGO0, HRB0, Lib.hid (by omega), HS, Lib.hid (by simp)⟩
  case round =>
    obtain ⟨j, A3, ac3, l3, hj, rfl, HE3, HST3, HGO3, HRB3, HL3, HS3, HZ3⟩ := hrel
    rename World => wo
    clear HST0 HGO0 HRB0 HPM
    cases gk with
    | zero =>
      have hjj : ¬ ((j : Int) < 2) := by omega
      have HEE : Hid ((pmAdd c).foldl addT l = l3) := Lib.hid (by rw [HE3.out, show j = 2 by omega]; rfl)
      go_wp2_with fail
      go_end0
      rw [HEE.out]
      exact ⟨rfl, A3, ac3, HST3.out, HGO3.out⟩
    | succ g =>
      have hjj : (j : Int) < 2 := by omega
      obtain ⟨e, he⟩ := get_lt (l := [c.a, c.b]) (i := j) (by simp; omega)
      obtain ⟨hns, E, en, hce⟩ := HKEY.out j e he
      obtain ⟨k0, k1, k2, k3, k4, k5⟩ := cel6 (hce wo HRB3.out)
      have d1 := ((cell_only HGO3.out.only (World.block_lt_of_cell? w _ HC1.out) HNA.out).trans HC1.out)
      have hdr : (([c.a, c.b].drop j).flatMap fun e => if c.kind = 0 then xRef e else []) = (if c.kind = 0 then xRef e else []) ++ (([c.a, c.b].drop (j + 1)).flatMap fun e => if c.kind = 0 then xRef e else []) := by rw [drop_cons he]; rfl
      have HDR := Lib.hid hdr
      have hwe : Below wo.heap.size wo (wo.alloc (.cells #[.int .i8 e.kind, .string e.text, .int .i64 e.num, .string e.name, .string e.attr, .slice E e.l.length en] 27)) := (Below.refl _ wo).alloc (Nat.le_refl _) _
      have d1' := (World.cell?_alloc_lt wo (.cells #[.int .i8 e.kind, .string e.text, .int .i64 e.num, .string e.name, .string e.attr, .slice E e.l.length en] 27) _ (World.block_lt_of_cell? wo _ d1)).trans d1
      have HSTE := Lib.hid (HST3.out.below hwe)
      have HRBE := Lib.hid (HRB3.out.below hwe)
      have HGOE := Lib.hid (HGO3.out.trans (Go1.of_below (F := Fo ob A3) hwe))
      have HWE := Lib.hid hwe
      clear he hce hdr hwe d1
      by_cases h03 : c.kind = 0 ∧ e.kind = 3
      · obtain ⟨h0, h3⟩ := h03
        have e0 : (c.kind == 0) = true := by rw [h0]; rfl
        have e3 : (e.kind == 3) = true := by rw [h3]; rfl
        have HE4 : Hid ((pmAdd c).foldl addT l = (([c.a, c.b].drop (j + 1)).flatMap fun e => if c.kind = 0 then xRef e else []).foldl addT (addT l3 e.name)) := Lib.hid (by
          rw [HE3.out, HDR.out, if_pos h0, List.foldl_append]
          unfold xRef
          rw [if_pos h3]; rfl)
        have hw2 : Below wo.heap.size wo ((wo.alloc (.cells #[.int .i8 e.kind, .string e.text, .int .i64 e.num, .string e.name, .string e.attr, .slice E e.l.length en] 27)).alloc (.cells #[.string e.name] 9)) := HWE.out.alloc HWE.out.size _
        have hnm : Blk ((wo.alloc (.cells #[.int .i8 e.kind, .string e.text, .int .i64 e.num, .string e.name, .string e.attr, .slice E e.l.length en] 27)).alloc (.cells #[.string e.name] 9)) (wo.heap.size + 1) #[.string e.name] 9 := by
          have := Blk.new (wo.alloc (.cells #[.int .i8 e.kind, .string e.text, .int .i64 e.num, .string e.name, .string e.attr, .slice E e.l.length en] 27)) #[.string e.name] 9
          rw [show (wo.alloc (.cells #[.int .i8 e.kind, .string e.text, .int .i64 e.num, .string e.name, .string e.attr, .slice E e.l.length en] 27)).heap.size = wo.heap.size + 1 by simp] at this
          exact this
        have HSET := Lib.hid (set_any B 1 A3 ac3 l3 e.name ⟨wo.heap.size + 1, 0, none⟩ _ (HST3.out.own.below hw2) (hnm.cell 0 rfl) (by have := HL3.out; omega) HS3.out (by simp; have := HST3.out.big; omega) (by omega))
        have cb := HSTE.out.box.cell 0 (v := .slice A3 l3.length ac3) rfl
        have HW2 := Lib.hid hw2
        clear h0 h3 hw2 hnm
        go_wp2_with fail
        refine HSET.out.mono ?_
        rintro e' w3 ⟨A4, c4, rfl, ho4, hn4, hl4⟩
        have hst4 := HST3.out.set HW2.out ho4 hn4 hl4
        have f4 : w3.frozen? ⟨ob, 0, none⟩ = false := ((HST3.out.box.below HW2.out).only hn4 HST3.out.ne).frozen 0
        have g4 : w3.cell? ⟨ob, 0, none⟩ = some (.slice A3 l3.length ac3) := ((HST3.out.box.below HW2.out).only hn4 HST3.out.ne).cell 0 rfl
        have HST4 := Lib.hid hst4.1
        have HGO4 := Lib.hid (HGO3.out.trans hst4.2)
        have HRB4 := Lib.hid (HRB3.out.go hst4.2 (fun hf => by
          rcases hf with hf | hf
          · exact HNR.out hf
          · exact HST3.out.own.ne_blk HRB3.out (by decide) hf))
        have HSZ4 := Lib.hid (Nat.lt_of_lt_of_le HZ3.out hst4.2.only.size)
        clear ho4 hn4 hl4 hst4 cb k0 k1 k2 k3 k4 k5 d1'
        go_wp2_with fail
        go_roundg g
        case measure => omega
        case rel =>
          refine ⟨j + 1, A4, c4, addT l3 e.name, by omega, by go_num, HE4, HST4, HGO4, HRB4, Lib.hid (by have := addT_len l3 e.name; have := HL3.out; omega), Lib.hid (fun x hx => ?_), HSZ4⟩
          rcases addT_mem hx with hx | rfl
          · exact HS3.out x hx
          · exact hns
      · have HE4 : Hid ((pmAdd c).foldl addT l = (([c.a, c.b].drop (j + 1)).flatMap fun e => if c.kind = 0 then xRef e else []).foldl addT l3) := Lib.hid (by
          rw [HE3.out, HDR.out]
          by_cases h0 : c.kind = 0
          · have h3 : ¬ e.kind = 3 := fun h3 => h03 ⟨h0, h3⟩
            rw [if_pos h0]; unfold xRef; rw [if_neg h3]; rfl
          · rw [if_neg h0]; rfl)
        by_cases h0 : c.kind = 0
        · have e0 : (c.kind == 0) = true := by rw [h0]; rfl
          have e3 : (e.kind == 3) = false := by
            have h3 : ¬ e.kind = 3 := fun h3 => h03 ⟨h0, h3⟩
            simpa using h3
          clear h0 h03
          go_wp2_with fail
          go_roundg g
          case measure => omega
          case rel => exact ⟨j + 1, A3, ac3, l3, by omega, by go_num, HE4, HSTE, HGOE, HRBE, Lib.hid (by have := HL3.out; omega), HS3, Lib.hid (by simp; have := HZ3.out; omega)⟩
        · have e0 : (c.kind == 0) = false := by simpa using h0
          clear h0 h03
          go_wp2_with fail
          go_roundg g
          case measure => omega
          case rel => exact ⟨j + 1, A3, ac3, l3, by omega, by go_num, HE4, HSTE, HGOE, HRBE, Lib.hid (by have := HL3.out; omega), HS3, Lib.hid (by simp; have := HZ3.out; omega)⟩
def WpC (B ob k : Nat) : Prop := ∀ (c : Cd) (cs : List Value) (a : Addr) (A : Option Addr) (ac : Nat) (l : List ByteArray) (w : World), c.deep k → Trs.at (Sf 0 (Fo ob A) w) w c.tr cs → Cel w a cs → ¬ Fo ob A a.block → Nst B ob A ac l w →
  l.length + (cPs k c).length ≤ 900000 → (∀ x ∈ l, x.size ≤ 140737488351232) → Calls Tryz.prog 63 #[.pointer (some a), PmCl ob] w (WkOut B ob A ((cPs k c).foldl addT l) w)
/-- the parameters, texts of memory -/
theorem pmAdd_sizes {S : Nat → Prop} {w : World} {c : Cd} {cs : List Value} (h : Trs.at S w c.tr cs) : ∀ z ∈ pmAdd c, z.size ≤ 140737488351232 := by
  obtain ⟨xs, ys, L, lc, _, _, _, hxa, hxb, _⟩ := Cd.at_iff.1 h
  obtain ⟨_, _, _, hsa⟩ := ex_cells hxa
  obtain ⟨_, _, _, hsb⟩ := ex_cells hxb
  intro z hz
  unfold pmAdd at hz
  split at hz
  · rcases List.mem_append.1 hz with hz | hz <;> unfold xRef at hz <;> split at hz
    · rw [List.mem_singleton] at hz; subst hz; exact hsa
    · cases hz
    · rw [List.mem_singleton] at hz; subst hz; exact hsb
    · cases hz
  · cases hz
theorem pmAdd_len (c : Cd) : (pmAdd c).length ≤ 2 := by
  have : ∀ e, (xRef e).length ≤ 1 := fun e => by unfold xRef; split <;> simp
  unfold pmAdd
  split
  · rw [List.length_append]; have h1 := this c.a; have h2 := this c.b; omega
  · simp
theorem cPs_eq (k : Nat) (c : Cd) : cPs (k + 1) c = if c.kind = 4 then [] else pmAdd c ++ c.l.flatMap (cPs k) := rfl
theorem cPs_sizes {S : Nat → Prop} {w : World} : ∀ (k : Nat) (c : Cd) (cs : List Value), Trs.at S w c.tr cs → ∀ z ∈ cPs k c, z.size ≤ 140737488351232
  | 0, c, cs, _, z, hz => by simp [cPs] at hz
  | k + 1, c, cs, h, z, hz => by
    obtain ⟨_, _, L, lc, _, h1, _, _, _, h5⟩ := Cd.at_iff.1 h
    rw [cPs_eq] at hz
    split at hz
    · cases hz
    · rcases List.mem_append.1 hz with hz | hz
      · exact pmAdd_sizes h z hz
      · obtain ⟨p, hp, hz⟩ := List.mem_flatMap.1 hz
        obtain ⟨i, hi⟩ := List.mem_iff_getElem?.1 hp
        obtain ⟨_, ps, _, hpt, _⟩ := h5.elem Cd.trlen hi
        exact cPs_sizes k p ps hpt z hz
set_option maxRecDepth 100000 in
set_option maxHeartbeats 8000000 in
theorem wp_step (B ob k : Nat) (IH : WpC B ob k) (c : Cd) (cs : List Value) (a : Addr) (A : Option Addr) (ac : Nat) (l : List ByteArray) (w : World) (hd : c.deep (k + 1)) (htr : Trs.at (Sf 0 (Fo ob A) w) w c.tr cs) (hcel : Cel w a cs) (hna : ¬ Fo ob A a.block) (h : Nst B ob A ac l w)
    (hlen : l.length + (cPs (k + 1) c).length ≤ 900000) (hs : ∀ x ∈ l, x.size ≤ 140737488351232) :
    Calls Tryz.prog 63 #[.pointer (some a), PmCl ob] w (WkOut B ob A ((cPs (k + 1) c).foldl addT l) w) := by
  obtain ⟨L, lc, c0, c1, c14, hls, hnm⟩ := cd_cel htr hcel
  have hpl := pmAdd_len c
  have H := Lib.hid h
  have HS := Lib.hid hs
  have HNA := Lib.hid hna
  have HCEL := Lib.hid hcel
  have HTR := Lib.hid htr
  have HD := Lib.hid hd
  have hcap := hls.cap
  have hbyt := hls.bytes
  have HLS := Lib.hid hls
  unfold PmCl
  clear h hs hna htr hd hls hcel
  by_cases h4 : c.kind = 4
  · have e0 : (c.kind == 0) = false := by rw [h4]; rfl
    have e4 : (c.kind == 4) = true := by rw [h4]; rfl
    have HE : Hid ((cPs (k + 1) c).foldl addT l = l) := Lib.hid (by rw [cPs_eq, if_pos h4]; rfl)
    have hpa : pmAdd c = [] := by unfold pmAdd; rw [if_neg (by rw [h4]; decide)]
    have HN1 := Lib.hid (pm1_any B ob c cs a A ac l w H.out HTR.out HCEL.out HNA.out (by omega) HS.out)
    rw [hpa] at HN1
    clear h4 hpa
    go_enter Tryz.func63, Tryz.ntmps63
    go_wp2_with fail
    refine HN1.out.mono ?_
    rintro e w2 ⟨rfl, A2, ac2, hst, hgo⟩
    have d1 := (cell_only hgo.only (World.block_lt_of_cell? w _ c1) HNA.out).trans c1
    have HST := Lib.hid hst
    have HGO := Lib.hid hgo
    clear hst hgo
    go_wp2_with fail
    go_end0
    rw [HE.out]
    exact ⟨rfl, A2, ac2, HST.out, HGO.out⟩
  · have e4 : (c.kind == 4) = false := by simpa using h4
    have hE := cPs_eq k c
    rw [if_neg h4] at hE
    have HE : Hid ((cPs (k + 1) c).foldl addT l = (c.l.flatMap (cPs k)).foldl addT ((pmAdd c).foldl addT l)) := Lib.hid (by rw [hE, List.foldl_append])
    rw [hE, List.length_append] at hlen
    have hfl := foldT_len (pmAdd c) l
    have HLEN : Hid (((pmAdd c).foldl addT l).length + (c.l.flatMap (cPs k)).length ≤ 900000) := Lib.hid (by omega)
    have HSP : Hid (∀ x ∈ (pmAdd c).foldl addT l, x.size ≤ 140737488351232) := Lib.hid (fun x hx => by
      rcases foldT_mem hx with hx | hx
      · exact HS.out x hx
      · exact pmAdd_sizes HTR.out x hx)
    have HN1 := Lib.hid (pm1_any B ob c cs a A ac l w H.out HTR.out HCEL.out HNA.out (by omega) HS.out)
    clear h4 hE hlen hfl hpl
    by_cases h0 : c.kind = 0
    · have e0 : (c.kind == 0) = true := by rw [h0]; rfl
      obtain ⟨l2, hl2⟩ : ∃ l2, l2 = (pmAdd c).foldl addT l := ⟨_, rfl⟩
      rw [← hl2] at HE HLEN HSP HN1
      have HE2 := HE
      have HLEN2 := HLEN
      have HS2 := HSP
      clear h0 hl2 HE HLEN HSP
      go_enter Tryz.func63, Tryz.ntmps63
      go_wp2_with fail
      refine HN1.out.mono ?_
      rintro e w2 ⟨rfl, A2, ac2, hst, hgo⟩
      have d1 := (cell_only hgo.only (World.block_lt_of_cell? w _ c1) HNA.out).trans c1
      have d14 := (cell_only hgo.only (World.block_lt_of_cell? w _ c14) HNA.out).trans c14
      have HST := Lib.hid hst
      have HGO := Lib.hid hgo
      clear hst hgo
      go_wp2_with fail
      clear d1 d14 e0
      go_loopg [30] c.l.length (fun g i wr => ∃ (j : Nat) (A3 : Option Addr) (ac3 : Nat) (l3 : List ByteArray), j + g = c.l.length ∧ i = .int .i64 (j : Nat) ∧ Hid ((c.l.flatMap (cPs k)).foldl addT l2 = ((c.l.drop j).flatMap (cPs k)).foldl addT l3) ∧ Hid (Nst B ob A3 ac3 l3 wr) ∧ Hid (Go1 (Fo ob A) (Fo ob A3) w wr) ∧
        Hid (l3.length + ((c.l.drop j).flatMap (cPs k)).length ≤ 900000) ∧ Hid (∀ x ∈ l3, x.size ≤ 140737488351232))
      case atStart => exact ⟨0, A2, ac2, l2, by omega, rfl, Lib.hid (by simp), HST, HGO, Lib.hid (by rw [List.drop_zero]; exact HLEN2.out), HS2⟩
      case round =>
        obtain ⟨j, A3, ac3, l3, hj, rfl, HE3, HST3, HGO3, HL3, HS3⟩ := hrel
        rename World => wo
        clear HST HGO
        cases gk with
        | zero =>
          have hjj : ¬ ((j : Int) < (c.l.length : Int)) := by omega
          have HEE : Hid ((cPs (k + 1) c).foldl addT l = l3) := Lib.hid (by rw [HE2.out, HE3.out, List.drop_of_length_le (by omega)]; rfl)
          go_wp2_with fail
          go_end0
          rw [HEE.out]
          exact ⟨rfl, A3, ac3, HST3.out, HGO3.out⟩
        | succ g =>
          have hjj : (j : Int) < (c.l.length : Int) := by omega
          obtain ⟨p, hp⟩ := get_lt (l := c.l) (i := j) (by omega)
          have hdp := HD.out p (List.mem_of_getElem? hp)
          obtain ⟨ad, pcs, rfl, hpt, hpc⟩ := (HLS.out.go HGO3.out).elem Cd.trlen hp
          have hblk := (HLS.out.go HGO3.out).blk ad rfl (by omega)
          have hdrop : (c.l.drop j).flatMap (cPs k) = cPs k p ++ (c.l.drop (j + 1)).flatMap (cPs k) := by rw [drop_cons hp]; rfl
          have hl3 := HL3.out
          rw [hdrop, List.length_append] at hl3
          have hih := IH p pcs (ad.add (j * 15)) A3 ac3 l3 wo hdp hpt hpc (by rw [block_of_add]; exact hblk.1) HST3.out (by omega) HS3.out
          have HIH := Lib.hid hih
          have HDR := Lib.hid hdrop
          have HSZ := Lib.hid (cPs_sizes k p pcs hpt)
          have c14' := (cell_only HGO3.out.only (World.block_lt_of_cell? w _ c14) HNA.out).trans c14
          have hfl := foldT_len (cPs k p) l3
          unfold PmCl at HIH
          clear hp hdp hpt hpc hblk hdrop hih
          go_wp2_with fail
          refine HIH.out.mono ?_
          rintro e w4 ⟨rfl, A4, ac4, hst4, hgo4⟩
          have HST4 := Lib.hid hst4
          have HGO4 := Lib.hid (HGO3.out.trans hgo4)
          clear hst4 hgo4 c14'
          go_wp2_with fail
          go_roundg g
          case measure => omega
          case rel =>
            refine ⟨j + 1, A4, ac4, (cPs k p).foldl addT l3, by omega, by go_num, Lib.hid (by rw [HE3.out, HDR.out, List.foldl_append]), HST4, HGO4, Lib.hid (by omega), Lib.hid (fun x hx => ?_)⟩
            rcases foldT_mem hx with hx | hx
            · exact HS3.out x hx
            · exact HSZ.out x hx
    · have e0 : (c.kind == 0) = false := by simpa using h0
      have hpa : pmAdd c = [] := by unfold pmAdd; rw [if_neg h0]
      rw [hpa] at HE HLEN HSP
      obtain ⟨A2, hA2⟩ : ∃ A2, A2 = A := ⟨_, rfl⟩
      obtain ⟨ac2, hac2⟩ : ∃ ac2, ac2 = ac := ⟨_, rfl⟩
      obtain ⟨l2, hl2⟩ : ∃ l2, l2 = l := ⟨_, rfl⟩
      have HST : Hid (Nst B ob A2 ac2 l2 w) := Lib.hid (by rw [hA2, hac2, hl2]; exact H.out)
      have HGO : Hid (Go1 (Fo ob A) (Fo ob A2) w w) := Lib.hid (by rw [hA2]; exact Go1.refl _ _)
      have HE2 : Hid ((cPs (k + 1) c).foldl addT l = (c.l.flatMap (cPs k)).foldl addT l2) := Lib.hid (by rw [HE.out, hl2]; rfl)
      have HLEN2 : Hid (l2.length + (c.l.flatMap (cPs k)).length ≤ 900000) := Lib.hid (by rw [hl2]; exact HLEN.out)
      have HS2 : Hid (∀ x ∈ l2, x.size ≤ 140737488351232) := Lib.hid (by rw [hl2]; exact HSP.out)
      clear h0 hA2 hac2 hl2 hpa HE HLEN HSP HN1
      go_enter Tryz.func63, Tryz.ntmps63
      go_wp2_with fail
      clear e0
      go_loopg [30] c.l.length (fun g i wr => ∃ (j : Nat) (A3 : Option Addr) (ac3 : Nat) (l3 : List ByteArray), j + g = c.l.length ∧ i = .int .i64 (j : Nat) ∧ Hid ((c.l.flatMap (cPs k)).foldl addT l2 = ((c.l.drop j).flatMap (cPs k)).foldl addT l3) ∧ Hid (Nst B ob A3 ac3 l3 wr) ∧ Hid (Go1 (Fo ob A) (Fo ob A3) w wr) ∧
        Hid (l3.length + ((c.l.drop j).flatMap (cPs k)).length ≤ 900000) ∧ Hid (∀ x ∈ l3, x.size ≤ 140737488351232))
      case atStart => exact ⟨0, A2, ac2, l2, by omega, rfl, Lib.hid (by simp), HST, HGO, Lib.hid (by rw [List.drop_zero]; exact HLEN2.out), HS2⟩
      case round =>
        obtain ⟨j, A3, ac3, l3, hj, rfl, HE3, HST3, HGO3, HL3, HS3⟩ := hrel
        rename World => wo
        clear HST HGO
        cases gk with
        | zero =>
          have hjj : ¬ ((j : Int) < (c.l.length : Int)) := by omega
          have HEE : Hid ((cPs (k + 1) c).foldl addT l = l3) := Lib.hid (by rw [HE2.out, HE3.out, List.drop_of_length_le (by omega)]; rfl)
          go_wp2_with fail
          go_end0
          rw [HEE.out]
          exact ⟨rfl, A3, ac3, HST3.out, HGO3.out⟩
        | succ g =>
          have hjj : (j : Int) < (c.l.length : Int) := by omega
          obtain ⟨p, hp⟩ := get_lt (l := c.l) (i := j) (by omega)
          have hdp := HD.out p (List.mem_of_getElem? hp)
          obtain ⟨ad, pcs, rfl, hpt, hpc⟩ := (HLS.out.go HGO3.out).elem Cd.trlen hp
          have hblk := (HLS.out.go HGO3.out).blk ad rfl (by omega)
          have hdrop : (c.l.drop j).flatMap (cPs k) = cPs k p ++ (c.l.drop (j + 1)).flatMap (cPs k) := by rw [drop_cons hp]; rfl
          have hl3 := HL3.out
          rw [hdrop, List.length_append] at hl3
          have hih := IH p pcs (ad.add (j * 15)) A3 ac3 l3 wo hdp hpt hpc (by rw [block_of_add]; exact hblk.1) HST3.out (by omega) HS3.out
          have HIH := Lib.hid hih
          have HDR := Lib.hid hdrop
          have HSZ := Lib.hid (cPs_sizes k p pcs hpt)
          have c14' := (cell_only HGO3.out.only (World.block_lt_of_cell? w _ c14) HNA.out).trans c14
          have hfl := foldT_len (cPs k p) l3
          unfold PmCl at HIH
          clear hp hdp hpt hpc hblk hdrop hih
          go_wp2_with fail
          refine HIH.out.mono ?_
          rintro e w4 ⟨rfl, A4, ac4, hst4, hgo4⟩
          have HST4 := Lib.hid hst4
          have HGO4 := Lib.hid (HGO3.out.trans hgo4)
          clear hst4 hgo4 c14'
          go_wp2_with fail
          go_roundg g
          case measure => omega
          case rel =>
            refine ⟨j + 1, A4, ac4, (cPs k p).foldl addT l3, by omega, by go_num, Lib.hid (by rw [HE3.out, HDR.out, List.foldl_append]), HST4, HGO4, Lib.hid (by omega), Lib.hid (fun x hx => ?_)⟩
            rcases foldT_mem hx with hx | hx
            · exact HS3.out x hx
            · exact HSZ.out x hx
theorem walkP_any (B ob : Nat) : ∀ k, WpC B ob k := by
  intro k
  induction k with
  | zero => intro c cs a A ac l w hd; exact absurd hd (by simp [Cd.deep])
  | succ k ih => exact fun c cs a A ac l w hd htr hcel hna h hlen hs => wp_step B ob k ih c cs a A ac l w hd htr hcel hna h hlen hs
set_option maxRecDepth 100000 in
set_option maxHeartbeats 4000000 in
theorem params_any (S : Nat → Prop) (c : Cd) (cs : List Value) (a : Addr) (w : World) (hd : c.deep 20) (htr : Trs.at S w c.tr cs) (hcel : Cel w a cs) (hlen : (cPs 20 c).length ≤ 900000) :
    Calls Tryz.prog 42 #[.pointer (some a)] w (TextsOut (prms c) w) := by
  have hb : Below w.heap.size w (w.alloc (.cells #[.slice none 0 0] 35)) := (Below.refl _ w).alloc (Nat.le_refl _) _
  have hbx := Blk.new w #[.slice none 0 0] 35
  have hst : Nst w.heap.size w.heap.size none 0 [] (w.alloc (.cells #[.slice none 0 0] 35)) := ⟨hbx, Ow.nil _ _ _ _, Nat.le_refl _⟩
  have hal : a.block < w.heap.size := by
    obtain ⟨_, _, c0, _⟩ := cd_cel htr hcel
    exact World.block_lt_of_cell? w _ c0
  have hS : ∀ k, S k ∧ k < w.heap.size → Sf 0 (Fo w.heap.size none) (w.alloc (.cells #[.slice none 0 0] 35)) k := fun k hk => by
    refine ⟨fun hf => ?_, by simp; omega, by omega⟩
    rcases hf with hf | hf
    · omega
    · simp [blk] at hf
  have HW := Lib.hid (walkP_any w.heap.size w.heap.size 20 c cs a none 0 [] _ hd ((htr.bound.below hb).mono hS) (hcel.below hb) (fun hf => by
    rcases hf with hf | hf
    · omega
    · simp [blk] at hf) hst (by simpa using hlen) (by simp))
  have HB := Lib.hid hb
  have HS := Lib.hid (cPs_sizes 20 c cs htr)
  unfold PmCl at HW
  clear hd htr hlen hb hbx hst hcel hS hal
  go_enter Tryz.func42, Tryz.ntmps42
  go_wp2_with fail
  refine HW.out.mono ?_
  rintro e w3 ⟨rfl, A, ac, hst, hgo⟩
  have hb3 : Below w.heap.size w w3 := HB.out.trans (hgo.only.below HB.out.size (fun k hk => by
    rcases hk with hk | hk
    · omega
    · simp [blk] at hk))
  have c0 := hst.box.cell 0 (v := .slice A ((cPs 20 c).foldl addT []).length ac) rfl
  have f0 := hst.box.frozen 0
  have HST := Lib.hid hst
  have HB3 := Lib.hid hb3
  have c1 := ((hst.box.set 0 (.slice A ((cPs 20 c).foldl addT []).length ac)).eq (cs' := #[.slice A ((cPs 20 c).foldl addT []).length ac]) (by simp)).cell 0 (v := .slice A ((cPs 20 c).foldl addT []).length ac) rfl
  clear hst hgo hb3
  go_wp2_with fail
  refine bodyPost_ret (v := .slice A ((cPs 20 c).foldl addT []).length ac) (by simp [results, Tryz.results42, go_sem, c1]) rfl ?_
  refine ⟨A, ac, rfl, (HST.out.own.setOther _ _ HST.out.ne), HB3.out.setCell (by simp) _, fun x hx => ?_⟩
  rcases foldT_mem hx with hx | hx
  · cases hx
  · exact HS.out x hx
end Go.Proofs.YtmljdppdaaoehaaGreatDoor
namespace Go.Proofs.YtmljdppdaaoehaaGreatDoor
open Go.RowKit
set_option linter.unusedVariables false
set_option linter.unusedSimpArgs false

theorem zero_intS (w : World) : (zeroValue 3).run Tryz.prog w = .ok (.int .i64 0) w := by kernel_rfl
/-- block b is a map[string]int that holds f -/
def MP (w : World) (b n : Nat) (f : ByteArray → Option Nat) : Prop :=
  ∃ D : DataW Unit, w.ownsMap Tryz.prog 9 (plainElem Tryz.prog 3) b n D ∧ Go.Maps.IsMap D ∧ ∀ s : ByteArray, D.atKey (.string s.data.toList) (.lit (.int .i64 0)) = .lit (.int .i64 ((f s).getD 0 : Nat)) ∧ Go.Maps.has D (.string s.data.toList) = (f s).isSome
section
variable {w w' : World} {b n : Nat} {f : ByteArray → Option Nat}
theorem MP.new (w : World) : MP (w.alloc (.map #[] 0)) w.heap.size 0 (fun _ => none) := ⟨.map [], World.ownsMap_made _ _ _ _, ⟨[], rfl⟩, fun k => ⟨rfl, rfl⟩⟩
theorem MP.only {F : Nat → Prop} (h : MP w b n f) (ho : Only F w w') (hF : ¬ F b) : MP w' b n f := by
  obtain ⟨D, h1, h2, h3⟩ := h
  exact ⟨D, ownsMap_same h1 (ho.block b h1.lt hF), h2, h3⟩
theorem MP.lt (h : MP w b n f) : b < w.heap.size := by obtain ⟨D, h1, _⟩ := h; exact h1.lt
theorem MP.below (h : MP w b n f) (hb : Below w.heap.size w w') : MP w' b n f := h.only (Only.of_below hb (fun _ => False)) (fun h => h)
theorem MP.eq {g : ByteArray → Option Nat} (h : MP w b n f) (e : ∀ s, f s = g s) : MP w b n g := by
  have : f = g := funext e
  exact this ▸ h
theorem MP.look (h : MP w b n f) {d : ByteArray} (hd : d.size ≤ maxLen) : (Instr.lookup 57 (.map (some b)) (.string d) false).run Tryz.prog w = .ok (.int .i64 ((f d).getD 0 : Nat)) w := by
  obtain ⟨D, g1, g2, g3⟩ := h
  obtain ⟨c, hrun, hc, _⟩ := g1.lookup_int key_str Tryz.underlying57 Tryz.underlying3 (zero_intS w) (skey_of hd)
  rw [(g3 d).1] at hc
  have hc2 := (Lit.int.inj (DataW.lit.inj hc)).2
  rw [hc2]
  exact hrun
theorem MP.lookok (h : MP w b n f) {d : ByteArray} (hd : d.size ≤ maxLen) : (Instr.lookup 57 (.map (some b)) (.string d) true).run Tryz.prog w = .ok (.tuple #[.int .i64 ((f d).getD 0 : Nat), .bool (f d).isSome]) w := by
  obtain ⟨D, g1, g2, g3⟩ := h
  obtain ⟨v, ps, hrun, hv⟩ := g1.look_ok key_str Tryz.underlying57 (zero_intS w) (plainElem_int Tryz.underlying3 (WalkArith.wf_i64 ⟨by omega, by omega⟩)) (skey_of hd)
  rw [(g3 d).1] at hv
  obtain ⟨z, rfl, hz, _⟩ := plainElem_int_inv Tryz.underlying3 hv
  have hz1 := congrArg Prod.fst hz
  have hz2 := (Lit.int.inj (DataW.lit.inj hz1)).2
  rw [(g3 d).2] at hrun
  rw [hz2]
  exact hrun
end
section
variable {w : World} {ops : Array Oper} {rest : List Oper} {o : Oper} {a : Act} {Q : Exit → Act → World → Prop}
theorem put_MP (hg : o.guard = none) (m x v : Operand) (hop : o.op = Op.mapUpdate 57 m x v) (b n : Nat) (f : ByteArray → Option Nat) (hm : a.eval m = .map (some b)) (h : MP w b n f) (hn : n < maxLen)
    (d : ByteArray) (hd : d.size ≤ maxLen) (hx : a.eval x = .string d) (y : Nat) (hy : y ≤ 9223372036854775807) (hv : a.eval v = .int .i64 (y : Int))
    (hK : ∀ w', MP w' b (n + 1) (fun s => if s = d then some y else f s) → w.grownBy w' (some b) → wpList Tryz.prog ops Q rest (a.put o.dst undef) w') : wpList Tryz.prog ops Q (o :: rest) a w := by
  obtain ⟨D, g1, g2, g3⟩ := h
  refine wpList_mapUpdate_own w hg m x v 57 hop 9 3 key_str Tryz.underlying57 _ b n D hm g1 hn _ _ (.string d.data.toList) hx hv (skey_of hd) (.lit (.int .i64 (y : Int))) [] (plainElem_int Tryz.underlying3 (WalkArith.wf_i64 ⟨by omega, by omega⟩)) (fun w' h1 h2 => hK w' ⟨_, h1, g2.put _ _, fun s => ?_⟩ h2)
  by_cases hj : s = d
  · subst hj
    exact ⟨by rw [Go.Maps.atKey_put_same g2 (isKey_str _)]; simp, by rw [Go.Maps.has_put_same g2 (isKey_str _)]; simp⟩
  · have hne : (Lit.string s.data.toList) ≠ (Lit.string d.data.toList) := fun e => bytes_ne hj (by injection e)
    exact ⟨by rw [Go.Maps.atKey_put_other hne, (g3 s).1]; simp [hj], by rw [Go.Maps.has_put_other hne, (g3 s).2]; simp [hj]⟩
end
theorem plAt_take {l : List Cd} {j : Nat} {c : Cd} (h : l[j]? = some c) (s : ByteArray) : plAt (l.take (j + 1)) s = (plAt (l.take j) s).or (if bEq c.name s then some j else none) := by
  have hj := (List.getElem?_eq_some_iff.1 h).1
  unfold plAt
  rw [List.take_add_one, h, List.findIdx?_append]
  congr 1
  simp only [Option.toList_some, List.findIdx?_singleton, List.length_take]
  split <;> simp <;> omega
theorem plAt_none {l : List Cd} {s : ByteArray} (h : plAt l s = none) : ∀ c ∈ l, c.name ≠ s := by
  intro c hc e
  unfold plAt at h
  rw [List.findIdx?_eq_none_iff] at h
  have := h c hc
  rw [bEq_iff.2 e] at this
  cases this
theorem MP.le {w : World} {b n m : Nat} {f : ByteArray → Option Nat} (h : MP w b n f) (hm : n ≤ m) : MP w b m f := by
  obtain ⟨D, h1, h2⟩ := h
  obtain ⟨es, clock, g1, g2, g3, g4⟩ := h1
  exact ⟨D, ⟨es, clock, g1, g2, Nat.le_trans g3 hm, g4⟩, h2⟩
set_option maxRecDepth 100000 in
set_option maxHeartbeats 4000000 in
theorem places_any (S : Nat → Prop) (A : Option Addr) (ac : Nat) (l : List Cd) (w : World) (hls : Ls S w 15 224 Cd.tr A ac l) :
    Calls Tryz.prog 21 #[.slice A l.length ac] w fun e w' => e = .returned (.map (some w.heap.size)) ∧ MP w' w.heap.size l.length (plAt l) ∧ Below w.heap.size w w' := by
  have hmm := @run_makeMap Tryz.prog
  have hcap := hls.cap
  have hbyt := hls.bytes
  have HLS := Lib.hid hls
  have HM0 := Lib.hid (MP.new w)
  have HW0 : Hid (Below w.heap.size w (w.alloc (.map #[] 0))) := Lib.hid ((Below.refl _ w).alloc (Nat.le_refl _) _)
  clear hls
  go_enter Tryz.func21, Tryz.ntmps21
  go_wp2_with fail
  go_loopg [11] l.length (fun g i wr => ∃ j : Nat, j + g = l.length ∧ i = .int .i64 (j : Nat) ∧ Hid (MP wr w.heap.size j (plAt (l.take j))) ∧ Hid (Below w.heap.size w wr))
  case atStart => exact ⟨0, by omega, rfl, Lib.hid (HM0.out.eq (fun s => by simp [plAt])), HW0⟩
  case round =>
    obtain ⟨j, hj, rfl, HM, HW⟩ := hrel
    rename World => wo
    clear HM0 HW0
    cases gk with
    | zero =>
      have hjj : ¬ ((j : Int) < (l.length : Int)) := by omega
      have HMM : Hid (MP wo w.heap.size l.length (plAt l)) := Lib.hid (by
        have := HM.out
        rw [List.take_of_length_le (by omega), show j = l.length by omega] at this
        exact this)
      go_wp2_with fail
      go_ret
      exact ⟨rfl, HMM.out, HW.out⟩
    | succ g =>
      have hjj : (j : Int) < (l.length : Int) := by omega
      obtain ⟨c, hc⟩ := get_lt (l := l) (i := j) (by omega)
      obtain ⟨ad, cs, rfl, hct, hcc⟩ := (HLS.out.below HW.out).elem Cd.trlen hc
      obtain ⟨xs, ys, L, lc, rfl, hns, _, hxa, hxb, _⟩ := Cd.at_iff.1 hct
      obtain ⟨A1, n1, rfl, _⟩ := ex_cells hxa
      obtain ⟨B1, n2, rfl, _⟩ := ex_cells hxb
      obtain ⟨c0, c1, c2, c3, c4, c5, c6, c7, c8, c9, c10, c11, c12, c13, c14⟩ := cel15 hcc
      have HCC : Hid (MP (wo.alloc (.cells #[.string c.name, .int .i8 c.kind, .int .i8 c.a.kind, .string c.a.text, .int .i64 c.a.num, .string c.a.name, .string c.a.attr, .slice A1 c.a.l.length n1, .int .i8 c.b.kind, .string c.b.text, .int .i64 c.b.num, .string c.b.name, .string c.b.attr, .slice B1 c.b.l.length n2, .slice L c.l.length lc] 46)) w.heap.size j (plAt (l.take j))) := Lib.hid (HM.out.below ((Below.refl _ wo).alloc (Nat.le_refl _) _))
      have HWC : Hid (Below w.heap.size w (wo.alloc (.cells #[.string c.name, .int .i8 c.kind, .int .i8 c.a.kind, .string c.a.text, .int .i64 c.a.num, .string c.a.name, .string c.a.attr, .slice A1 c.a.l.length n1, .int .i8 c.b.kind, .string c.b.text, .int .i64 c.b.num, .string c.b.name, .string c.b.attr, .slice B1 c.b.l.length n2, .slice L c.l.length lc] 46))) := Lib.hid (HW.out.alloc HW.out.size _)
      have hlk := HCC.out.lookok (d := c.name) (by unfold maxLen; omega)
      have HPT := Lib.hid (plAt_take hc)
      have hlo := HW.out.size
      clear hc hct hcc hxa hxb
      cases hp : plAt (l.take j) c.name with
      | some i0 =>
        rw [hp] at hlk
        have HM2 : Hid (MP (wo.alloc (.cells #[.string c.name, .int .i8 c.kind, .int .i8 c.a.kind, .string c.a.text, .int .i64 c.a.num, .string c.a.name, .string c.a.attr, .slice A1 c.a.l.length n1, .int .i8 c.b.kind, .string c.b.text, .int .i64 c.b.num, .string c.b.name, .string c.b.attr, .slice B1 c.b.l.length n2, .slice L c.l.length lc] 46)) w.heap.size (j + 1) (plAt (l.take (j + 1)))) := Lib.hid ((HCC.out.eq (fun s => by
          rw [HPT.out s]
          by_cases hb : bEq c.name s = true
          · rw [← bEq_iff.1 hb, hp]; rfl
          · rw [if_neg hb]; cases plAt (l.take j) s <;> rfl)).le (by omega))
        clear hp
        go_wp2_with fail
        go_roundg g
        case measure => omega
        case rel => exact ⟨j + 1, by omega, by go_num, HM2, HWC⟩
      | none =>
        rw [hp] at hlk
        have HF2 : Hid (∀ s, (if s = c.name then some j else plAt (l.take j) s) = plAt (l.take (j + 1)) s) := Lib.hid (fun s => by
          rw [HPT.out s]
          by_cases hb : s = c.name
          · rw [if_pos hb, hb, hp, bEq_iff.2 rfl]; rfl
          · rw [if_neg hb, if_neg (by rw [bEq_iff]; exact fun e => hb e.symm)]; cases plAt (l.take j) s <;> rfl)
        clear hp
        go_wp2_with (at_mapUpdate; refine put_MP rfl _ _ _ rfl w.heap.size j (plAt (l.take j)) rfl HCC.out (by unfold maxLen; omega) c.name (by unfold maxLen; omega) rfl j (by omega) rfl ?_; intro w6 hm6 hg6; have HM6 := Lib.hid hm6; have HG6 := Lib.hid hg6; clear hm6 hg6)
        go_roundg g
        case measure => omega
        case rel => exact ⟨j + 1, by omega, by go_num, Lib.hid (HM6.out.eq HF2.out), Lib.hid (HWC.out.grown HG6.out (by simp; omega) (fun k hk => by injection hk with hk; omega))⟩
/-- what is asked of the conditions: not deep, not long -/
def CsOk (l : List Cd) : Prop := ∀ c ∈ l, c.deep 20 ∧ (cNm 20 c).length ≤ 100000 ∧ (cPs 20 c).length ≤ 100000
def IntsOut (O : List Nat) (w : World) (e : Ending) (w' : World) : Prop := ∃ A c, e = .returned (.slice A O.length c) ∧ Ow w' w.heap.size 3 1 A O.length c (cN O) ∧ Below w.heap.size w w'
set_option maxRecDepth 100000 in
set_option maxHeartbeats 8000000 in
theorem next_any (S : Nat → Prop) (A : Option Addr) (ac : Nat) (l : List Cd) (mb mn i : Nat) (w : World) (hls : Ls S w 15 224 Cd.tr A ac l) (hm : MP w mb mn (plAt l)) (hi : i < l.length) (hok : CsOk l) :
    Calls Tryz.prog 69 #[.slice A l.length ac, .map (some mb), .int .i64 (i : Int)] w (IntsOut (nextOf l i) w) := by
  have hcap := hls.cap
  have hbyt := hls.bytes
  have hii : (i : Int) < (l.length : Int) := by omega
  obtain ⟨c, hc⟩ := get_lt (l := l) (i := i) hi
  obtain ⟨hd, hln, _⟩ := hok c (List.mem_of_getElem? hc)
  obtain ⟨ad, cs, rfl, hct, hcc⟩ := hls.elem Cd.trlen hc
  have hnm := names_any S c cs.toArray w hd (by simpa using hct) (by omega)
  have hfl := foldT_len (cNm 20 c) []
  obtain ⟨xs, ys, L, lc, rfl, hns, _, hxa, hxb, _⟩ := Cd.at_iff.1 hct
  obtain ⟨A1, n1, rfl, _⟩ := ex_cells hxa
  obtain ⟨B1, n2, rfl, _⟩ := ex_cells hxb
  obtain ⟨c0, c1, c2, c3, c4, c5, c6, c7, c8, c9, c10, c11, c12, c13, c14⟩ := cel15 hcc
  have HNM : Hid (Calls Tryz.prog 45 #[.agg #[.string c.name, .int .i8 c.kind, .int .i8 c.a.kind, .string c.a.text, .int .i64 c.a.num, .string c.a.name, .string c.a.attr, .slice A1 c.a.l.length n1, .int .i8 c.b.kind, .string c.b.text, .int .i64 c.b.num, .string c.b.name, .string c.b.attr, .slice B1 c.b.l.length n2, .slice L c.l.length lc]] w (TextsOut (names c) w)) := Lib.hid hnm
  have HM := Lib.hid hm
  have hnl : (names c).length ≤ 100000 := by
    have : (names c).length ≤ 0 + (cNm 20 c).length := hfl
    omega
  by_cases h4 : c.kind = 4
  · have e4 : (c.kind == 4) = true := by rw [h4]; rfl
    have HE : Hid (nextOf l i = []) := Lib.hid (by unfold nextOf; rw [hc]; simp only; rw [if_pos h4])
    clear hls hm hok hc hct hcc hxa hxb hnm h4 hfl
    go_enter Tryz.func69, Tryz.ntmps69
    go_wp2_with fail
    go_ret
    rw [HE.out]
    exact ⟨none, 0, rfl, Ow.nil _ _ _ _, Below.refl _ _⟩
  · have e4 : (c.kind == 4) = false := by simpa using h4
    have HE : Hid (nextOf l i = (names c).filterMap (plAt l)) := Lib.hid (by unfold nextOf; rw [hc]; simp only; rw [if_neg h4])
    clear hls hm hok hc hct hcc hxa hxb hnm h4 hfl
    go_enter Tryz.func69, Tryz.ntmps69
    go_wp2_with fail
    refine HNM.out.mono ?_
    rintro e w2 ⟨NA, nc, rfl, hno, hnb, hnsz⟩
    have hncap := hno.cap
    have HNO := Lib.hid hno
    have HNB := Lib.hid hnb
    have HNS := Lib.hid hnsz
    have HM2 := Lib.hid (HM.out.below hnb)
    have hns2 := hnb.size
    obtain ⟨N, hN⟩ : ∃ N, N = names c := ⟨_, rfl⟩
    rw [← hN] at HNO HNS HE hnl hncap
    rw [← hN]
    clear hno hnb hnsz hN HM HNM c0 c1 c2 c3 c4 c5 c6 c7 c8 c9 c10 c11 c12 c13 c14
    go_wp2_with fail
    go_loopg [23, 6] N.length (fun g i v wr => ∃ (j : Nat) (Ao : Option Addr) (co : Nat) (O : List Nat), j + g = N.length ∧ i = .int .i64 (j : Nat) ∧ v = .slice Ao O.length co ∧ O.length ≤ j ∧ Hid (N.filterMap (plAt l) = O ++ (N.drop j).filterMap (plAt l)) ∧ Hid (Ow wr w2.heap.size 3 1 Ao O.length co (cN O)) ∧ Hid (Below w2.heap.size w2 wr))
    case atStart => exact ⟨0, none, 0, [], by omega, rfl, rfl, by simp, Lib.hid (by simp), Lib.hid (Ow.nil _ _ _ _), Lib.hid (Below.refl _ _)⟩
    case round =>
      obtain ⟨j, Ao, co, O, hj, rfl, rfl, hOj, HO, HOW, HW⟩ := hrel
      rename World => wo
      cases gk with
      | zero =>
        have hjj : ¬ ((j : Int) < (N.length : Int)) := by omega
        have HEE : Hid (nextOf l i = O) := Lib.hid (by rw [HE.out, HO.out, List.drop_of_length_le (by omega)]; simp)
        go_wp2_with fail
        go_ret
        rw [HEE.out]
        exact ⟨Ao, co, rfl, HOW.out.le hns2, HNB.out.trans (HW.out.mono hns2)⟩
      | succ g =>
        have hjj : (j : Int) < (N.length : Int) := by omega
        obtain ⟨s, hs⟩ := get_lt (l := N) (i := j) (by omega)
        obtain ⟨na, rfl, hsc⟩ := (HNO.out.below HW.out).rd.at_ j (.string s) (by simp [hs])
        have hss := HNS.out s (List.mem_of_getElem? hs)
        have hlk := (HM2.out.below HW.out).lookok (d := s) (by unfold maxLen; omega)
        have hdr : (N.drop j).filterMap (plAt l) = (plAt l s).toList ++ (N.drop (j + 1)).filterMap (plAt l) := by
          rw [drop_cons hs, List.filterMap_cons]
          cases plAt l s <;> rfl
        have HDR := Lib.hid hdr
        clear hs hdr
        cases hp : plAt l s with
        | none =>
          rw [hp] at hlk HDR
          clear hp
          go_wp2_with fail
          go_roundg g
          case measure => omega
          case rel => exact ⟨j + 1, Ao, co, O, by omega, by go_num, rfl, by omega, Lib.hid (by rw [HO.out, HDR.out]; rfl), HOW, HW⟩
        | some i0 =>
          have hi0 := plAt_lt hp
          rw [hp] at hlk HDR
          have HRN := Lib.hid (Rd.lit wo 1 1 #[.int .i64 (i0 : Int)] 3 (0, 0) rfl (by simp [maxLen]))
          have hw2 := HW.out.size
          clear hp
          go_wp2_with (at_builtin; refine wpList_row info_int Tryz.underlying98 rfl (by omega) rfl (.tmp 34) (.tmp 36) rfl w2.heap.size Ao co O.length (cN O) rfl (HOW.out.alloc _) (some ⟨wo.heap.size, 0, none⟩) 1 1 [.int .i64 (i0 : Int)] rfl HRN.out (by simp [Value.oneCell']) (by omega) (by omega) (by simp; omega) ?_; intro A' c' w6 ho hg hat; have HO6 := Lib.hid ho; have HG6 := Lib.hid hg; clear ho hg hat)
          go_roundg g
          case measure => omega
          case rel => exact ⟨j + 1, A', c', O ++ [i0], by omega, by go_num, by simp, by simp; omega, Lib.hid (by rw [HO.out, HDR.out]; simp), Lib.hid (by have := HO6.out; simpa [cN] using this), Lib.hid ((HW.out.alloc HW.out.size _).grown HG6.out (by simp; omega) (fun k hk => (HOW.out.lt hk).1))⟩
end Go.Proofs.YtmljdppdaaoehaaGreatDoor
