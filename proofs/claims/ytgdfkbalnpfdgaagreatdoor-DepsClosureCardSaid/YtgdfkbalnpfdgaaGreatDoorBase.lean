/- Words for memory: a slice that reads as a list of cells, its laws; byte slices. No program is named here. -/
import Derived.WalkKit
import Derived.Lib.Hide
import Derived.Maps.AppendAt
import Derived.Deep.AppendLies
import Derived.Deep.Draws
namespace Go.Proofs.YtgdfkbalnpfdgaaGreatDoor
open Go.RowKit
theorem block_of_add (a : Addr) (n : Nat) : (a.add n).block = a.block := by unfold Addr.add; split <;> rfl
theorem add_of_add (a : Addr) (i j : Nat) : (a.add i).add j = a.add (i + j) := by
 unfold Addr.add
 by_cases hi : i = 0 <;> by_cases hj : j = 0 <;> simp [hi, hj, Nat.add_assoc]
theorem add_plain (b o j : Nat) : (⟨b, o, none⟩ : Addr).add j = ⟨b, o + j, none⟩ := by
 unfold Addr.add; split <;> simp_all
structure Rd (w : World) (sz : Nat) (A : Option Addr) (n c : Nat) (xs : List Value) : Prop where
 len : xs.length = n * sz
 cap : n ≤ c
 max : c ≤ maxLen
 at_ : ∀ (j : Nat) (u : Value), xs[j]? = some u → ∃ ad, A = some ad ∧ w.cell? (ad.add j) = some u
section
variable {w w' : World} {sz n c : Nat} {A : Option Addr} {xs : List Value}
theorem Rd.keep (h : Rd w sz A n c xs) (hk : ∀ p : Addr, p.block < w.heap.size → w'.cell? p = w.cell? p) : Rd w' sz A n c xs :=
 ⟨h.len, h.cap, h.max, fun j u hu => by
   obtain ⟨ad, e, hc⟩ := h.at_ j u hu
   exact ⟨ad, e, (hk _ (World.block_lt_of_cell? w _ hc)).trans hc⟩⟩
theorem Rd.below (h : Rd w sz A n c xs) (hb : Below w.heap.size w w') : Rd w' sz A n c xs := h.keep fun _ hp => hb.cell hp
theorem Rd.drew (h : Rd w sz A n c xs) : Rd w.drew sz A n c xs := h.keep fun _ _ => rfl
theorem Rd.drewN (h : Rd w sz A n c xs) (k : Nat) : Rd (w.drewN k) sz A n c xs := h.keep fun _ _ => rfl
theorem Rd.alloc (h : Rd w sz A n c xs) (o : Obj) : Rd (w.alloc o) sz A n c xs := h.keep fun p hp => World.cell?_alloc_lt w o p hp
theorem Rd.nil (w : World) (sz : Nat) : Rd w sz none 0 0 [] := ⟨by simp, Nat.le_refl _, by simp [maxLen], by simp⟩
theorem Rd.addr (h : Rd w sz A n c xs) (hn : 0 < n) (hs : 0 < sz) : ∃ ad, A = some ad ∧ ∀ j u, xs[j]? = some u → w.cell? (ad.add j) = some u := by
 have hl : 0 < xs.length := by rw [h.len]; exact Nat.mul_pos hn hs
 obtain ⟨ad, rfl, _⟩ := h.at_ 0 _ (List.getElem?_eq_getElem hl)
 exact ⟨ad, rfl, fun j u hu => by obtain ⟨_, e, hc⟩ := h.at_ j u hu; injection e with e; exact e ▸ hc⟩
theorem Rd.get {ad : Addr} (h : Rd w sz (some ad) n c xs) {j : Nat} {u : Value} (hu : xs[j]? = some u) : w.cell? (ad.add j) = some u := by
 obtain ⟨_, e, hc⟩ := h.at_ j u hu; injection e with e; exact e ▸ hc
theorem Rd.lt {ad : Addr} (h : Rd w sz (some ad) n c xs) (hn : 0 < xs.length) : ad.block < w.heap.size := by
 have := World.block_lt_of_cell? w _ (h.get (List.getElem?_eq_getElem hn))
 rwa [block_of_add] at this
theorem Rd.cut (h : Rd w sz A n c xs) {k m x : Nat} (hkm : k ≤ m) (hm : m ≤ n) (hx : m ≤ x) (hxc : x ≤ c) :
 Rd w sz (if x = k then A else A.map (·.add (k * sz))) (m - k) (x - k) ((xs.drop (k * sz)).take ((m - k) * sz)) := by
 refine ⟨?_, by omega, by have := h.max; omega, fun j u hu => ?_⟩
 ·rw [List.length_take, List.length_drop, h.len, ← Nat.sub_mul]; exact Nat.min_eq_left (Nat.mul_le_mul_right _ (by omega))
 ·have hj : j < (m - k) * sz := by
   rcases Nat.lt_or_ge j ((m - k) * sz) with hj | hj
   ·exact hj
   ·rw [List.getElem?_take, if_neg (by omega)] at hu; cases hu
  rw [List.getElem?_take_of_lt hj, List.getElem?_drop] at hu
  obtain ⟨ad, rfl, hc⟩ := h.at_ _ u hu
  rw [if_neg (by rintro rfl; have : m - x = 0 := by omega
                 simp [this] at hj)]
  exact ⟨ad.add (k * sz), rfl, by rw [add_of_add]; exact hc⟩
theorem Rd.of_own {base : Nat} {e : TypeId} (h : w.ownsRow base e sz (.slice A n c) n xs) : Rd w sz A n c xs := by
 obtain ⟨hl, h2⟩ := h
 rcases h2 with ⟨hv, rfl⟩ | ⟨g, cap, cur, hv, hb, hg, hn, hm, hcs, ht⟩
 ·injection hv with h1 h2 h3; subst h1 h3
  have : xs = [] := List.eq_nil_of_length_eq_zero (by simpa using hl)
  subst this
  exact Rd.nil w sz
 ·injection hv with h1 h2 h3; subst h1 h3
  refine ⟨hl, hn, hm, fun j u hu => ⟨_, rfl, ?_⟩⟩
  rw [add_plain, Nat.zero_add, cell_of_row w g j cur e (0, 0) hg]
  rw [← ht] at hu
  have hj : j < n * sz := by
   rcases Nat.lt_or_ge j (n * sz) with hj | hj
   ·exact hj
   ·rw [List.getElem?_take, if_neg (by omega)] at hu; cases hu
  rw [List.getElem?_take_of_lt hj] at hu
  simpa using hu
end
theorem Rd.lit (w : World) (sz n : Nat) (cs : Array Value) (t : TypeId) (fr : Nat × Nat) (h : cs.size = n * sz) (hm : n ≤ maxLen) : Rd (w.alloc (.cells cs t fr)) sz (some ⟨w.heap.size, 0, none⟩) n n cs.toList :=
 ⟨by simpa using h, Nat.le_refl _, hm, fun j u hu => ⟨_, rfl, by rw [add_plain, Nat.zero_add, cell_of_row _ _ j cs t fr (heap_alloc_new w _)]; simpa using hu⟩⟩
def bv (l : List UInt8) : List Value := l.map fun b => .int .u8 (b.toNat : Int)
@[simp] theorem bv_nil : bv [] = [] := rfl
@[simp] theorem bv_length (l : List UInt8) : (bv l).length = l.length := by simp [bv]
theorem Rd.one (w : World) (t : TypeId) (x : Int) (b : UInt8) (h : x = (b.toNat : Int)) : Rd (w.alloc (.cells #[.int .u8 x] t)) 1 (some ⟨w.heap.size, 0, none⟩) 1 1 (bv [b]) := by
 subst h
 exact Rd.lit w 1 1 #[.int .u8 (b.toNat : Int)] t (0, 0) rfl (by simp [maxLen])
section
variable {P : Program} (w : World)
theorem own_form {w : World} {base : Nat} {e : TypeId} {size : Nat} {v : Value} {n : Nat} {xs : List Value} (h : w.ownsRow base e size v n xs) : ∃ A c, v = .slice A n c := by
 rcases h.2 with ⟨rfl, rfl⟩ | ⟨g, cap, cur, rfl, _⟩
 ·exact ⟨_, _, rfl⟩
 ·exact ⟨_, _, rfl⟩
theorem run_slice_from {t e : TypeId} {A : Option Addr} {n c k sz : Nat} (ht : P.underlying t = some (.slice e)) (hs : (P.info? e).map (·.size) = some sz) (hk : k ≤ n) (kd : IntKind) :
 (Instr.slice t (.slice A n c) (some (.int kd k)) none none).run P w = .ok (.slice (if c = k then A else A.map (·.add (k * sz))) (n - k) (c - k)) w := by
 obtain ⟨i, hi, rfl⟩ : ∃ i, P.info? e = some i ∧ i.size = sz := by
  cases h : P.info? e with
  | none => rw [h] at hs; cases hs
  | some i => rw [h] at hs; simp at hs; exact ⟨i, rfl, hs⟩
 simp [Instr.slice, run_underlying ht, Instr.sliceBounds, run_sliceBound, sizeOf, typeInfo, hi, hk]
theorem run_slice_from' {t e : TypeId} {A : Option Addr} {n c k sz : Nat} {x : Int} (hx : x = (k : Int)) (ht : P.underlying t = some (.slice e)) (hs : (P.info? e).map (·.size) = some sz) (hk : k ≤ n) (kd : IntKind) :
 (Instr.slice t (.slice A n c) (some (.int kd x)) none none).run P w = .ok (.slice (if c = k then A else A.map (·.add (k * sz))) (n - k) (c - k)) w := by
 subst hx; exact run_slice_from w ht hs hk kd
end
end Go.Proofs.YtgdfkbalnpfdgaaGreatDoor
