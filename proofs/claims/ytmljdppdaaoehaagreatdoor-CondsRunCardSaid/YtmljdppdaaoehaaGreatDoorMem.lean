/- Words for memory that is written: blocks known whole, a frame by the blocks that may turn, a slice that the call owns (its capacity may be cut). No program is named here. -/
import Derived.Test.YtmljdppdaaoehaaGreatDoorBase
import Derived.Deep.RegionLaw
import Derived.RangeFuncBox
namespace Go.Proofs.YtmljdppdaaoehaaGreatDoor
open Go.RowKit

/-- block q is known whole -/
def Blk (W : World) (q : Nat) (cs : Array Value) (t : TypeId) : Prop := W.heap[q]? = some (.cells cs t (0, 0))
/-- the blocks outside F lie as they lay -/
structure Only (F : Nat → Prop) (W W' : World) : Prop where
  os : W'.os = W.os
  tape : W'.tape = W.tape
  output : W'.output = W.output
  size : W.heap.size ≤ W'.heap.size
  block : ∀ k, k < W.heap.size → ¬ F k → W'.heap[k]? = W.heap[k]?

theorem Only.refl (F : Nat → Prop) (W : World) : Only F W W := ⟨rfl, rfl, rfl, Nat.le_refl _, fun _ _ _ => rfl⟩
theorem Only.trans {F G : Nat → Prop} {a b c : World} (h : Only F a b) (k : Only G b c) (hG : ∀ i, i < a.heap.size → G i → F i) : Only F a c :=
  ⟨k.os.trans h.os, k.tape.trans h.tape, k.output.trans h.output, Nat.le_trans h.size k.size, fun i hi hf => (k.block i (Nat.lt_of_lt_of_le hi h.size) (fun hg => hf (hG i hi hg))).trans (h.block i hi hf)⟩
theorem Only.mono {F G : Nat → Prop} {a b : World} (h : Only F a b) (hG : ∀ i, i < a.heap.size → F i → G i) : Only G a b := ⟨h.os, h.tape, h.output, h.size, fun i hi hf => h.block i hi (fun hg => hf (hG i hi hg))⟩
theorem Only.below {F : Nat → Prop} {B : Nat} {a b : World} (h : Only F a b) (hB : B ≤ a.heap.size) (hF : ∀ i, F i → B ≤ i) : Below B a b :=
  ⟨h.os, h.tape, h.output, h.size, fun k hk => h.block k (Nat.lt_of_lt_of_le hk hB) (fun hf => by have := hF k hf; omega)⟩
theorem Only.of_below {a b : World} (h : Below a.heap.size a b) (F : Nat → Prop) : Only F a b := ⟨h.os, h.tape, h.output, h.size, fun k hk _ => h.block k hk⟩
theorem Only.of_grown {a b : World} {row : Option Nat} (h : a.grownBy b row) : Only (fun k => some k = row) a b := ⟨h.os, h.tape, h.output, h.size, fun k hk hf => h.block k hk hf⟩
theorem Only.drewN {F : Nat → Prop} {a b : World} (h : Only F a b) (n : Nat) : Only F a (b.drewN n) := ⟨h.os, h.tape, h.output, h.size, h.block⟩
theorem Only.drew {F : Nat → Prop} {a b : World} (h : Only F a b) : Only F a b.drew := ⟨h.os, h.tape, h.output, h.size, h.block⟩
theorem Only.alloc {F : Nat → Prop} {a b : World} (h : Only F a b) (o : Obj) : Only F a (b.alloc o) :=
  h.trans (Only.of_below ((Below.refl _ b).alloc (Nat.le_refl _) o) F) (fun _ _ h => h)
theorem Only.setCell {F : Nat → Prop} {a b : World} (h : Only F a b) (p : Addr) (u : Value) (hp : p.block < a.heap.size → F p.block) : Only F a (b.setCell p u) :=
  h.trans (G := fun k => k = p.block) ⟨rfl, rfl, rfl, by simp [World.setCell], fun k _ hk => Below.heap_setCell _ _ _ _ hk⟩ (fun i hi e => by subst e; exact hp hi)
theorem Only.grown {F : Nat → Prop} {a b c : World} {row : Option Nat} (h : Only F a b) (k : b.grownBy c row) (hr : ∀ g, row = some g → g < a.heap.size → F g) : Only F a c :=
  h.trans (Only.of_grown k) (fun i hi e => hr i e.symm hi)

section
variable {W W' : World} {q : Nat} {cs : Array Value} {t : TypeId} {F : Nat → Prop}
theorem Blk.lt (h : Blk W q cs t) : q < W.heap.size := (Array.getElem?_eq_some_iff.1 h).1
theorem Blk.cell (h : Blk W q cs t) (i : Nat) {v : Value} (hv : cs[i]? = some v) : W.cell? ⟨q, i, none⟩ = some v := by rw [cell_of_row W q i cs t _ h]; exact hv
theorem Blk.frozen (h : Blk W q cs t) (i : Nat) : W.frozen? ⟨q, i, none⟩ = false := frozen_of_row W q i cs t h
theorem Blk.only (h : Blk W q cs t) (ho : Only F W W') (hF : ¬ F q) : Blk W' q cs t := (ho.block q h.lt hF).trans h
theorem Blk.below (h : Blk W q cs t) (hb : Below W.heap.size W W') : Blk W' q cs t := (hb.block q h.lt).trans h
theorem Blk.new (W : World) (cs : Array Value) (t : TypeId) : Blk (W.alloc (.cells cs t)) W.heap.size cs t := World.alloc_heap_new W _
theorem Blk.alloc (h : Blk W q cs t) (o : Obj) : Blk (W.alloc o) q cs t := (Below.heap_alloc W o q h.lt).trans h
theorem Blk.drew (h : Blk W q cs t) : Blk W.drew q cs t := h
theorem Blk.drewN (h : Blk W q cs t) (n : Nat) : Blk (W.drewN n) q cs t := h
theorem Blk.grown {row : Option Nat} (h : Blk W q cs t) (hg : W.grownBy W' row) (hne : row ≠ some q) : Blk W' q cs t := (hg.block q h.lt (fun e => hne e.symm)).trans h
theorem Blk.setOther (h : Blk W q cs t) (p : Addr) (u : Value) (hp : q ≠ p.block) : Blk (W.setCell p u) q cs t := (Below.heap_setCell W p u q hp).trans h
theorem Blk.set (h : Blk W q cs t) (i : Nat) (u : Value) : Blk (W.setCell ⟨q, i, none⟩ u) q (cs.setIfInBounds i u) t := by
  obtain ⟨hlt, hk⟩ := Array.getElem?_eq_some_iff.1 h
  show (W.heap.modify q _)[q]? = _
  rw [Array.getElem?_eq_getElem (by rw [Array.size_modify]; exact hlt), Array.getElem_modify_self, hk]
  rfl
theorem Blk.eq {cs' : Array Value} (h : Blk W q cs t) (e : cs = cs') : Blk W q cs' t := e ▸ h
theorem Blk.boxed {v : Value} (h : Boxed W q t v) : Blk W q #[v] t := h
end

theorem Rd.only {F : Nat → Prop} {W W' : World} {sz n c : Nat} {A : Option Addr} {xs : List Value} (h : Rd W sz A n c xs) (ho : Only F W W') (hF : ∀ ad, A = some ad → 0 < n → ¬ F ad.block) : Rd W' sz A n c xs :=
  ⟨h.len, h.cap, h.max, fun j u hu => by
    obtain ⟨ad, e, hc⟩ := h.at_ j u hu
    have hlt := World.block_lt_of_cell? W _ hc
    rw [block_of_add] at hlt
    refine ⟨ad, e, (World.cell?_of_block (a := ad.add j) ?_).trans hc⟩
    rw [block_of_add]
    refine ho.block _ hlt (hF ad e ?_)
    rcases Nat.eq_zero_or_pos n with h0 | h0
    · have hl := h.len
      rw [h0, Nat.zero_mul] at hl
      rw [List.eq_nil_of_length_eq_zero hl] at hu
      cases hu
    · exact h0⟩

theorem Rd.take {w : World} {sz n c m : Nat} {A : Option Addr} {xs : List Value} (h : Rd w sz A n c xs) (hm : m ≤ n) : Rd w sz A m c (xs.take (m * sz)) := by
  refine ⟨?_, Nat.le_trans hm h.cap, h.max, fun j u hu => h.at_ j u ?_⟩
  · rw [List.length_take, h.len]; exact Nat.min_eq_left (Nat.mul_le_mul_right _ hm)
  · rw [List.getElem?_take] at hu
    split at hu
    · exact hu
    · cases hu
theorem Rd.btake {w : World} {n c m : Nat} {A : Option Addr} {l : List UInt8} (h : Rd w 1 A n c (bv l)) (hm : m ≤ n) : Rd w 1 A m c (bv (l.take m)) := by
  have := h.take hm
  rwa [Nat.mul_one, bv_take] at this

/-- the slice (A, n, c) owns a row's head; the row may be longer than its capacity -/
def Ow (w : World) (base : Nat) (e : TypeId) (sz : Nat) (A : Option Addr) (n c : Nat) (xs : List Value) : Prop :=
  xs.length = n * sz ∧ ((A = none ∧ n = 0 ∧ c = 0) ∨
    ∃ g cur, A = some ⟨g, 0, none⟩ ∧ base ≤ g ∧ w.heap[g]? = some (.cells cur e (0, 0)) ∧ n ≤ c ∧ c ≤ maxLen ∧ c * sz ≤ cur.size ∧ cur.toList.take (n * sz) = xs)

/-- the block of a slice -/
def blk (A : Option Addr) : Option Nat := A.map (·.block)
@[simp] theorem blk_none : blk none = none := rfl
@[simp] theorem blk_some (a : Addr) : blk (some a) = some a.block := rfl
theorem ownBlock_blk (A : Option Addr) (n c : Nat) : (Value.slice A n c).ownBlock = blk A := by cases A <;> rfl

section
variable {w w' : World} {base n c sz : Nat} {e : TypeId} {A : Option Addr} {xs : List Value}
theorem Ow.nil (w : World) (base : Nat) (e : TypeId) (sz : Nat) : Ow w base e sz none 0 0 [] := ⟨by simp, .inl ⟨rfl, rfl, rfl⟩⟩
theorem Ow.of_own (h : w.ownsRow base e sz (.slice A n c) n xs) : Ow w base e sz A n c xs := by
  obtain ⟨hl, h2⟩ := h
  refine ⟨hl, ?_⟩
  rcases h2 with ⟨hv, rfl⟩ | ⟨g, cap, cur, hv, hb, hg, hn, hm, hcs, ht⟩
  · injection hv with h1 h2 h3; exact .inl ⟨h1, rfl, h3⟩
  · injection hv with h1 h2 h3; subst h1 h3
    exact .inr ⟨g, cur, rfl, hb, hg, hn, hm, Nat.le_of_eq hcs.symm, ht⟩
theorem Ow.cap (h : Ow w base e sz A n c xs) : n ≤ c := by
  rcases h.2 with ⟨_, rfl, rfl⟩ | ⟨g, cur, _, _, _, hn, _⟩
  · exact Nat.le_refl _
  · exact hn
theorem Ow.max (h : Ow w base e sz A n c xs) : c ≤ maxLen := by
  rcases h.2 with ⟨_, rfl, rfl⟩ | ⟨g, cur, _, _, _, _, hm, _⟩
  · exact Nat.zero_le _
  · exact hm
theorem Ow.rd (h : Ow w base e sz A n c xs) : Rd w sz A n c xs := by
  obtain ⟨hl, h2⟩ := h
  rcases h2 with ⟨rfl, rfl, rfl⟩ | ⟨g, cur, rfl, hb, hg, hn, hm, hcs, ht⟩
  · have : xs = [] := List.eq_nil_of_length_eq_zero (by simpa using hl)
    subst this
    exact Rd.nil w sz
  · refine ⟨hl, hn, hm, fun j u hu => ⟨_, rfl, ?_⟩⟩
    rw [add_plain, Nat.zero_add, cell_of_row w g j cur e (0, 0) hg]
    rw [← ht] at hu
    have hj : j < n * sz := by
      rcases Nat.lt_or_ge j (n * sz) with hj | hj
      · exact hj
      · rw [List.getElem?_take, if_neg (by omega)] at hu; cases hu
    rw [List.getElem?_take_of_lt hj] at hu
    simpa using hu
theorem Ow.lt (h : Ow w base e sz A n c xs) {g : Nat} (hg : blk A = some g) : base ≤ g ∧ g < w.heap.size := by
  rcases h.2 with ⟨rfl, _⟩ | ⟨g', cur, rfl, hb, hg', _⟩
  · cases hg
  · injection hg with hg; subst hg
    exact ⟨hb, (Array.getElem?_eq_some_iff.1 hg').1⟩
theorem Ow.le (h : Ow w base e sz A n c xs) {base' : Nat} (hb : base' ≤ base) : Ow w base' e sz A n c xs := by
  refine ⟨h.1, ?_⟩
  rcases h.2 with h2 | ⟨g, cur, hA, hbg, rest⟩
  · exact .inl h2
  · exact .inr ⟨g, cur, hA, Nat.le_trans hb hbg, rest⟩
theorem Ow.raise (h : Ow w base e sz A n c xs) {base' : Nat} (hb : ∀ g, blk A = some g → base' ≤ g) : Ow w base' e sz A n c xs := by
  refine ⟨h.1, ?_⟩
  rcases h.2 with h2 | ⟨g, cur, hA, hbg, rest⟩
  · exact .inl h2
  · exact .inr ⟨g, cur, hA, hb g (by rw [hA]; rfl), rest⟩
theorem Ow.only {F : Nat → Prop} (h : Ow w base e sz A n c xs) (ho : Only F w w') (hF : ∀ g, blk A = some g → ¬ F g) : Ow w' base e sz A n c xs := by
  refine ⟨h.1, ?_⟩
  rcases h.2 with h2 | ⟨g, cur, hA, hbg, hg, rest⟩
  · exact .inl h2
  · exact .inr ⟨g, cur, hA, hbg, (ho.block g (Array.getElem?_eq_some_iff.1 hg).1 (hF g (by rw [hA]; rfl))).trans hg, rest⟩
theorem Ow.below (h : Ow w base e sz A n c xs) (hb : Below w.heap.size w w') : Ow w' base e sz A n c xs := h.only (Only.of_below hb (fun _ => False)) (fun _ _ h => h)
theorem Ow.drewN (h : Ow w base e sz A n c xs) (k : Nat) : Ow (w.drewN k) base e sz A n c xs := h
theorem Ow.drew (h : Ow w base e sz A n c xs) : Ow w.drew base e sz A n c xs := h
theorem Ow.alloc (h : Ow w base e sz A n c xs) (o : Obj) : Ow (w.alloc o) base e sz A n c xs := h.below ((Below.refl _ w).alloc (Nat.le_refl _) o)
theorem Ow.grown {row : Option Nat} (h : Ow w base e sz A n c xs) (hg : w.grownBy w' row) (hr : blk A = none ∨ blk A ≠ row) : Ow w' base e sz A n c xs :=
  h.only (Only.of_grown hg) (fun g hg e => by rcases hr with hr | hr <;> rw [hg] at hr; · cases hr
                                              exact hr e)
theorem Ow.setOther (h : Ow w base e sz A n c xs) (p : Addr) (u : Value) (hp : blk A ≠ some p.block) : Ow (w.setCell p u) base e sz A n c xs :=
  h.only (F := fun k => k = p.block) ⟨rfl, rfl, rfl, by simp [World.setCell], fun k _ hk => Below.heap_setCell _ _ _ _ hk⟩ (fun g hg e' => hp (by rw [hg, e']))
/-- s[:m:x] -/
theorem Ow.cut (h : Ow w base e sz A n c xs) {m x : Nat} (hm : m ≤ n) (hx : m ≤ x) (hxc : x ≤ c) : Ow w base e sz A m x (xs.take (m * sz)) := by
  have hl : (xs.take (m * sz)).length = m * sz := by rw [List.length_take, h.1]; exact Nat.min_eq_left (Nat.mul_le_mul_right _ hm)
  refine ⟨hl, ?_⟩
  rcases h.2 with ⟨hA, hn, hc⟩ | ⟨g, cur, hA, hbg, hg, hn, hcm, hcs, ht⟩
  · exact .inl ⟨hA, by omega, by omega⟩
  · refine .inr ⟨g, cur, hA, hbg, hg, hx, by omega, Nat.le_trans (Nat.mul_le_mul_right _ hxc) hcs, ?_⟩
    rw [← ht, List.take_take, Nat.min_eq_left (Nat.mul_le_mul_right _ hm)]
theorem Ow.ne_blk (h : Ow w base e sz A n c xs) {q : Nat} {cs : Array Value} {t : TypeId} (hb : Blk w q cs t) (hne : t ≠ e) : blk A ≠ some q := by
  intro hq
  rcases h.2 with ⟨rfl, _⟩ | ⟨g, cur, rfl, _, hg, _⟩
  · cases hq
  · injection hq with hq; subst hq
    rw [show w.heap[g]? = _ from hb] at hg
    injection hg with hg; injection hg with _ ht; exact hne ht
theorem Ow.len (h : Ow w base e sz A n c xs) : xs.length = n * sz := h.1
theorem Ow.blen {l : List UInt8} (h : Ow w base e 1 A n c (bv l)) : l.length = n := by have := h.1; simpa using this
end

section
variable {P : Program} (w : World)
theorem run_app_nil (t ty e : TypeId) (i : TypeInfo) (ht : P.underlying t = some (.slice e)) (hi : P.info? e = some i) (A0 : Option Addr) (n c0 c : Nat) (hnc : n ≤ c0) :
    (Builtin.append_ #[t, t] ty #[.slice A0 n c0, .slice none 0 c]).run P w = .ok (.slice A0 n c0) w := by
  cases A0 with
  | none => simp [Builtin.append_, run_underlying ht, sizeOf, typeInfo, hi, Builtin.lenOf, Builtin.firstCells, hnc]
  | some ad => simp [Builtin.append_, run_underlying ht, sizeOf, typeInfo, hi, Builtin.lenOf, Builtin.firstCells, hnc, storeCells]

/-- append(s, xs...) onto an owned slice, whatever the source -/
theorem run_ow (base : Nat) (t ty e : TypeId) (i : TypeInfo) (z : Value) (size bytes : Nat) (ht : P.underlying t = some (.slice e)) (hi : P.info? e = some i) (hz : i.zero = some z)
    (hsize : i.size = size) (hby : i.bytes = bytes) (hzs : z.cells.size = size) (hsz : 0 < size)
    (A0 : Option Addr) (c0 n : Nat) (xs : List Value) (hown : Ow w base e size A0 n c0 xs)
    (A : Option Addr) (m c : Nat) (news : List Value) (hr : Rd w size A m c news) (h1 : ∀ u ∈ news, u.oneCell' = true)
    (h63 : n + m ≤ maxLen) (hbytes : (n + m) * bytes ≤ 140737488355328) (hbase : base ≤ w.heap.size) :
    ∃ A' c' w', (Builtin.append_ #[t, t] ty #[.slice A0 n c0, .slice A m c]).run P w = .ok (.slice A' (n + m) c') w' ∧ Ow w' base e size A' (n + m) c' (xs ++ news) ∧
      w.grownBy w' (blk A0) ∧ (A' = A0 ∨ A' = some ⟨w.heap.size, 0, none⟩) := by
  subst hsize
  subst hby
  have hlen : (xs ++ news).length = (n + m) * i.size := by rw [List.length_append, hown.1, hr.len, Nat.add_mul]
  cases hA : A with
  | none =>
    subst hA
    have hm : m = 0 := by
      rcases Nat.eq_zero_or_pos m with h0 | h0
      · exact h0
      · obtain ⟨ad, h, _⟩ := hr.addr h0 hsz
        cases h
    subst hm
    have hn : news = [] := List.eq_nil_of_length_eq_zero (by simpa using hr.len)
    subst hn
    exact ⟨A0, c0, w, run_app_nil w t ty e i ht hi A0 n c0 c hown.cap, by simpa using hown, ⟨rfl, rfl, rfl, Nat.le_refl _, fun _ _ _ => rfl⟩, .inl rfl⟩
  | some ad =>
    subst hA
    have hsmall : n + m ≤ 9223372036854775807 := by simp only [maxLen] at h63; omega
    have hnews : ∀ j u, news[j]? = some u → w.cell? (ad.add j) = some u := fun j u hu => hr.get hu
    have grown : ∀ (old : Nat), old < n + m → ∀ (row : Option Nat),
        Ow (w.drew.alloc (.cells (xs.toArray ++ news.toArray ++ Builtin.zeroCells z.cells (grownCap w (n + m) old e - (n + m))) e)) base e i.size
          (some ⟨w.heap.size, 0, none⟩) (n + m) (grownCap w (n + m) old e) (xs ++ news) ∧
        w.grownBy (w.drew.alloc (.cells (xs.toArray ++ news.toArray ++ Builtin.zeroCells z.cells (grownCap w (n + m) old e - (n + m))) e)) row := by
      intro old ho row
      have hge := grownCap_ge w (n + m) old e
      have hcm : grownCap w (n + m) old e ≤ maxLen := grownCap_le_maxLen w (n + m) old e h63
      refine ⟨⟨hlen, .inr ⟨w.heap.size, _, rfl, hbase, heap_alloc_new w.drew _, hge, hcm, ?_, ?_⟩⟩, ⟨rfl, rfl, rfl, by simp, fun k hk _ => Below.heap_alloc w.drew _ k hk⟩⟩
      · simp only [Array.size_append, List.size_toArray, size_zeroCells, hzs, hown.1, hr.len, ← Nat.add_mul]
        exact Nat.mul_le_mul_right _ (by omega)
      · simp only [Array.toList_append, List.append_assoc]
        rw [← List.append_assoc, ← hlen]
        exact List.take_left
    rcases hown.2 with ⟨rfl, rfl, rfl⟩ | ⟨g, cur, rfl, hbg, hg, hnc, hcm, hcs, htake⟩
    · have hx : xs = [] := List.eq_nil_of_length_eq_zero (by simpa using hown.1)
      subst hx
      by_cases hm : m = 0
      · subst hm
        have hn : news = [] := List.eq_nil_of_length_eq_zero (by simpa using hr.len)
        subst hn
        refine ⟨none, 0, w, ?_, Ow.nil w base e i.size, ⟨rfl, rfl, rfl, Nat.le_refl _, fun _ _ _ => rfl⟩, .inl rfl⟩
        simp [Builtin.append_, run_underlying ht, sizeOf, typeInfo, hi, Builtin.lenOf, Builtin.firstCells, loadCells, loadCellsFrom]
      · have hrn := run_append_nil (P := P) w t ty e i z ht hi hz ad m c news hr.len hnews (by omega) (by omega) (by have hb := hbytes; simp only [Nat.zero_add] at hb; omega)
        have hgr := grown 0 (by omega) (blk none)
        simp only [Nat.zero_add, List.nil_append, Array.empty_append] at hgr ⊢
        exact ⟨_, _, _, hrn, hgr.1, hgr.2, .inr rfl⟩
    · by_cases hroom : n + m ≤ c0
      · have hfit : n * i.size + news.length ≤ cur.size := by rw [hr.len, ← Nat.add_mul]; exact Nat.le_trans (Nat.mul_le_mul_right _ hroom) hcs
        have hrn := run_append_room (P := P) w t ty e i ht hi g n c0 cur hg ad m c news hr.len hnews h1 hroom hfit
        refine ⟨_, _, _, hrn, ⟨hlen, .inr ⟨g, _, rfl, hbg, setRow_heap w g cur _ e _ hg, hroom, hcm, ?_, ?_⟩⟩, ⟨rfl, rfl, rfl, by simp, fun k _ hk => setRow_other w g k _ (fun e => hk (by simp [e]))⟩, .inl rfl⟩
        · simp only [List.size_toArray, List.length_append, List.length_take, List.length_drop, Array.length_toList]
          omega
        · rw [htake, ← hlen]
          exact List.take_left
      · have holds : ∀ j u, xs[j]? = some u → w.cell? ((⟨g, 0, none⟩ : Addr).add j) = some u := fun j u hu => hown.rd.get hu
        have hrn := run_append_grow (P := P) w t ty e i z ht hi hz ⟨g, 0, none⟩ n c0 xs hown.1 holds ad m c news hr.len hnews (by omega) (by omega) (growslice_fits (by omega) hbytes)
        have hgr := grown c0 (by omega) (blk (some ⟨g, 0, none⟩))
        exact ⟨_, _, _, hrn, hgr.1, hgr.2, .inr rfl⟩

theorem wp_ow {o : Oper} {a : Act} {K : Act → World → Prop} {Q : Exit → Act → World → Prop} (s x : Operand) (t : TypeId)
    (ho : o.op = .call { callee := .builtin .append, args := #[s, x], argTypes := #[t, t] })
    (base : Nat) (e : TypeId) (i : TypeInfo) (z : Value) (size bytes : Nat) (ht : P.underlying t = some (.slice e)) (hi : P.info? e = some i) (hz : i.zero = some z)
    (hsize : i.size = size) (hby : i.bytes = bytes) (hzs : z.cells.size = size) (hsz : 0 < size)
    (A0 : Option Addr) (c0 n : Nat) (xs : List Value) (hs : a.eval s = .slice A0 n c0) (hown : Ow w base e size A0 n c0 xs)
    (A : Option Addr) (m c : Nat) (news : List Value) (hx : a.eval x = .slice A m c) (hr : Rd w size A m c news) (h1 : ∀ u ∈ news, u.oneCell' = true)
    (h63 : n + m ≤ 140737488355328) (hbytes : (n + m) * bytes ≤ 140737488355328) (hbase : base ≤ w.heap.size)
    (h : ∀ A' c' w', Ow w' base e size A' (n + m) c' (xs ++ news) → w.grownBy w' (blk A0) → (A' = A0 ∨ A' = some ⟨w.heap.size, 0, none⟩) → K (a.put o.dst (.slice A' (n + m) c')) w') : o.wp P a w K Q := by
  obtain ⟨A', c', w', hrun, h2, h3, h4⟩ := run_ow (P := P) w base t o.type e i z size bytes ht hi hz hsize hby hzs hsz A0 c0 n xs hown A m c news hr h1 (by simp only [maxLen]; omega) hbytes hbase
  unfold Oper.wp execOp
  simp only [ho, resolve, invoke, builtin, Sem.run_bind, Sem.run_pure, Result.andThen_ok, List.map_toArray, List.map_cons, List.map_nil, hs, hx, hrun]
  exact h A' c' w' h2 h3 h4

/-- the walk's arm -/
theorem wpList_ow {ops : Array Oper} {rest : List Oper} {o : Oper} {a : Act} {Q : Exit → Act → World → Prop} (hw : Region.wanted o (yielded ops a.tmps) = true) (s x : Operand) (t : TypeId)
    (ho : o.op = .call { callee := .builtin .append, args := #[s, x], argTypes := #[t, t] })
    (base : Nat) (e : TypeId) (i : TypeInfo) (z : Value) (size bytes : Nat) (ht : P.underlying t = some (.slice e)) (hi : P.info? e = some i) (hz : i.zero = some z)
    (hsize : i.size = size) (hby : i.bytes = bytes) (hzs : z.cells.size = size) (hsz : 0 < size)
    (A0 : Option Addr) (c0 n : Nat) (xs : List Value) (hs : a.eval s = .slice A0 n c0) (hown : Ow w base e size A0 n c0 xs)
    (A : Option Addr) (m c : Nat) (news : List Value) (hx : a.eval x = .slice A m c) (hr : Rd w size A m c news) (h1 : ∀ u ∈ news, u.oneCell' = true)
    (h63 : n + m ≤ 140737488355328) (hbytes : (n + m) * bytes ≤ 140737488355328) (hbase : base ≤ w.heap.size)
    (h : ∀ A' c' w', Ow w' base e size A' (n + m) c' (xs ++ news) → w.grownBy w' (blk A0) → (A' = A0 ∨ A' = some ⟨w.heap.size, 0, none⟩) → wpList P ops Q rest (a.put o.dst (.slice A' (n + m) c')) w') :
    wpList P ops Q (o :: rest) a w := by
  refine wpList_step fun K hK => ?_
  rw [if_pos hw]
  exact wp_ow w s x t ho base e i z size bytes ht hi hz hsize hby hzs hsz A0 c0 n xs hs hown A m c news hx hr h1 h63 hbytes hbase fun A' c' w' h2 h3 h4 => hK _ _ (h A' c' w' h2 h3 h4)

/-- at a step of a region that draws its order -/
theorem step_ow {ops : Array Oper} {o : Oper} {a : Act} {K : Act → World → Prop} {Q : Exit → Act → World → Prop} {E : Prop} (hgd : o.guard = none) (s x : Operand) (t : TypeId)
    (ho : o.op = .call { callee := .builtin .append, args := #[s, x], argTypes := #[t, t] })
    (base : Nat) (e : TypeId) (i : TypeInfo) (z : Value) (size bytes : Nat) (ht : P.underlying t = some (.slice e)) (hi : P.info? e = some i) (hz : i.zero = some z)
    (hsize : i.size = size) (hby : i.bytes = bytes) (hzs : z.cells.size = size) (hsz : 0 < size)
    (A0 : Option Addr) (c0 n : Nat) (xs : List Value) (hs : a.eval s = .slice A0 n c0) (hown : Ow w base e size A0 n c0 xs)
    (A : Option Addr) (m c : Nat) (news : List Value) (hx : a.eval x = .slice A m c) (hr : Rd w size A m c news) (h1 : ∀ u ∈ news, u.oneCell' = true)
    (h63 : n + m ≤ 140737488355328) (hbytes : (n + m) * bytes ≤ 140737488355328) (hbase : base ≤ w.heap.size)
    (h : ∀ A' c' w', Ow w' base e size A' (n + m) c' (xs ++ news) → w.grownBy w' (blk A0) → (A' = A0 ∨ A' = some ⟨w.heap.size, 0, none⟩) → K (a.put o.dst (.slice A' (n + m) c')) w') :
    if Region.wanted o (yielded ops a.tmps) = true then Oper.wp P o a w K Q else E := by
  have hw : Region.wanted o (yielded ops a.tmps) = true := by simp [Region.wanted, hgd]
  rw [if_pos hw]
  exact wp_ow w s x t ho base e i z size bytes ht hi hz hsize hby hzs hsz A0 c0 n xs hs hown A m c news hx hr h1 h63 hbytes hbase h
end
end Go.Proofs.YtmljdppdaaoehaaGreatDoor
