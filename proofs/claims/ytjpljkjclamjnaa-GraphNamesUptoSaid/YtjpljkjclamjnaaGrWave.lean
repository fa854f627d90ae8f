/- The waves of graph.steps. -/
import Derived.Test.YtjpljkjclamjnaaGrMap2
import Derived.Test.YtjpljkjclamjnaaGrPlain5
namespace Go.Proofs.Ytjpljkjclamjnaa
open Go.RowKit
set_option linter.unusedVariables false
set_option linter.unusedSimpArgs false

def ofN (f : Nat → Nat) : Int → Nat := fun z => if z < 0 then 0 else f z.toNat
theorem ofN_nat (f : Nat → Nat) (i : Nat) : ofN f (i : Int) = f i := by
  have : ¬ ((i : Int) < 0) := by omega
  simp [ofN, this]
theorem ofN_put (f : Nat → Nat) (i d : Nat) : fput (ofN f) (i : Int) d = ofN (upd f i d) := by
  funext z
  by_cases hz : z = (i : Int)
  · subst hz; rw [fput_same, ofN_nat]; simp [upd]
  · rw [fput_other _ _ hz]
    unfold ofN upd
    by_cases h : z < 0
    · simp [h]
    · have : ¬ (z.toNat = i) := by omega
      simp [h, this]
theorem ofN_zero : ofN (fun _ => 0) = fun _ => 0 := by funext z; simp [ofN]

/-- ahead of a wave -/
structure WvS (W0 : World) (m : Nat) (f : Nat → Nat) (A : Option Addr) (c : Nat) (Wv : List Nat) (W : World) : Prop where
  map : MI W W0.heap.size m (ofN f)
  wave : IOw W (W0.heap.size + 1) A Wv.length c (cI Wv)
  bel : Below W0.heap.size W0 W
  sz : W0.heap.size + 1 ≤ W.heap.size
/-- within a wave that began in W1 -/
structure WvR (W0 W1 : World) (m : Nat) (f : Nat → Nat) (A : Option Addr) (c : Nat) (nx : List Nat) (W : World) : Prop where
  map : MI W W0.heap.size m (ofN f)
  next : IOw W W1.heap.size A nx.length c (cI nx)
  bel : Below W0.heap.size W0 W
  only : Only (fun k => k = W0.heap.size) W1 W
  sz : W0.heap.size + 1 ≤ W1.heap.size
theorem WvS.start (W0 : World) (t : Nat) : WvS W0 0 (fun _ => 0) (some ⟨W0.heap.size + 1, 0, none⟩) 1 [t] ((W0.alloc (.map #[] 0)).alloc (.cells #[.int .i64 (t : Int)] 3)) := by
  have hs := World.size_alloc W0 (.map #[] 0)
  have hs2 := World.size_alloc (W0.alloc (.map #[] 0)) (.cells #[.int .i64 (t : Int)] 3)
  have hb := Blk.new (W0.alloc (.map #[] 0)) #[.int .i64 (t : Int)] 3
  rw [hs] at hb
  refine ⟨by rw [ofN_zero]; exact (MI.new W0).below ((Below.refl _ _).alloc (Nat.le_refl _) _), RowI.ow (l := cI [t]) hb (Nat.le_refl _) (by rw [cI_len]; simp), ((Below.refl _ W0).alloc (Nat.le_refl _) _).alloc (by rw [hs]; omega) _, by omega⟩
theorem WvS.begin {W0 W : World} {m c : Nat} {f : Nat → Nat} {A : Option Addr} {Wv : List Nat} (h : WvS W0 m f A c Wv W) : WvR W0 W m f none 0 [] W :=
  ⟨h.map, Ow.nil _ _ _ _, h.bel, Only.refl _ _, h.sz⟩
theorem WvR.row1 {W0 W1 W w1 : World} {m c : Nat} {f : Nat → Nat} {A : Option Addr} {nx : List Nat} (h : WvR W0 W1 m f A c nx W) (hg1 : W.grownBy w1 (some W0.heap.size)) (ob : Obj) : IOw (w1.alloc ob) W1.heap.size A nx.length c (cI nx) := by
  refine Ow.alloc (Ow.grown h.next hg1 ?_) ob
  cases hA : blk A with
  | none => exact .inl rfl
  | some g => exact .inr (fun e => by injection e with e; have := (h.next.lt hA).1; have := h.sz; omega)
theorem WvR.put {W0 W1 W w1 w2 : World} {m c c2 i d : Nat} {f : Nat → Nat} {A A2 : Option Addr} {nx : List Nat} {ob : Obj} (h : WvR W0 W1 m f A c nx W)
    (hm : MI w1 W0.heap.size (m + 1) (fput (ofN f) (i : Int) d)) (hg1 : W.grownBy w1 (some W0.heap.size))
    (ho : IOw w2 W1.heap.size A2 (nx.length + 1) c2 (cI nx ++ [(i : Int)])) (hg2 : (w1.alloc ob).grownBy w2 (blk A)) : WvR W0 W1 (m + 1) (upd f i d) A2 c2 (nx ++ [i]) w2 := by
  have hs := h.sz
  have hs0 := h.only.size
  have hs1 := hg1.size
  have hs2 := hg2.size
  rw [World.size_alloc] at hs2
  have hA : ∀ g, blk A = some g → W1.heap.size ≤ g := fun g e => (h.next.lt e).1
  have hne : some W0.heap.size ≠ blk A := fun e => by have := hA _ e.symm; omega
  refine ⟨?_, ?_, ?_, ?_, hs⟩
  · rw [← ofN_put]
    obtain ⟨D, g1, g2, g3⟩ := hm
    refine ⟨D, ownsMap_same g1 ?_, g2, g3⟩
    exact (hg2.block _ (by simp; omega) hne).trans (Below.heap_alloc _ _ _ (by omega))
  · rw [show (nx ++ [i]).length = nx.length + 1 by simp, cI_app]; exact ho
  · exact ((h.bel.grown hg1 h.bel.size (fun k e => by injection e with e; omega)).alloc (by have := h.bel.size; omega) ob).grown hg2 (by have := h.bel.size; simp; omega) (fun k e => by have := hA k e; omega)
  · exact ((h.only.grown hg1 (fun g e _ => by injection e with e; exact e.symm)).alloc ob).grown hg2 (fun g e hlt => by have := hA g e; omega)
theorem WvR.done {W0 W1 W : World} {m c : Nat} {f : Nat → Nat} {A : Option Addr} {nx : List Nat} (h : WvR W0 W1 m f A c nx W) : WvS W0 m f A c nx W :=
  ⟨h.map, h.next.le h.sz, h.bel, by have := h.sz; have := h.only.size; omega⟩

/-- the wave's row, while the next one grows -/
theorem WvR.wav {W0 W1 W : World} {m m' c c' : Nat} {f f' : Nat → Nat} {A A' : Option Addr} {Wv nx : List Nat} (hs : WvS W0 m f A c Wv W1) (h : WvR W0 W1 m' f' A' c' nx W) : IOw W (W0.heap.size + 1) A Wv.length c (cI Wv) :=
  Ow.only hs.wave h.only (fun g hg e => by have := (hs.wave.lt hg).1; omega)

/-! the plain part -/
structure NxI (n : Nat) (l : List Nat) (d m : Nat) (f0 f : Nat → Nat) (nx : List Nat) : Prop where
  eq : (f, nx) = l.foldl (bStep d) (f0, [])
  cnt : m + unk n f ≤ n
  len : nx.length ≤ m
theorem NxI.skip {n d m i : Nat} {l : List Nat} {f0 f : Nat → Nat} {nx : List Nat} (h : NxI n l d m f0 f nx) (hi : f i ≠ 0) : NxI n (l ++ [i]) d m f0 f nx :=
  ⟨by rw [List.foldl_append, ← h.eq]; simp [bStep, hi], h.cnt, h.len⟩
theorem NxI.put {n d m i : Nat} {l : List Nat} {f0 f : Nat → Nat} {nx : List Nat} (h : NxI n l d m f0 f nx) (hd : d ≠ 0) (hn : i < n) (hi : f i = 0) : NxI n (l ++ [i]) d (m + 1) f0 (upd f i d) (nx ++ [i]) := by
  refine ⟨by rw [List.foldl_append, ← h.eq]; simp [bStep, hi], ?_, by have := h.len; simp; omega⟩
  have := unk_lt f (upd f i d) (fun j hj => by
    unfold upd at hj
    by_cases e : j = i
    · subst e; exact hi
    · rwa [if_neg e] at hj) hi (by simp [upd, hd]) n hn
  have := h.cnt
  omega
/-- ahead of a wave: what is left, what is bounded -/
structure WvP (L : List (List Nat)) (t n d m : Nat) (f : Nat → Nat) (Wv : List Nat) (g : Nat) : Prop where
  bfs : BfsI L t d f Wv
  gh : 2 * unk n f + (if Wv = [] then 0 else 1) ≤ g
  cnt : m + unk n f ≤ n
  lev : d + unk n f ≤ n + 1 + (if Wv = [] then 1 else 0)
theorem WvP.start (L : List (List Nat)) (t n : Nat) : WvP L t n 1 0 (fun _ => 0) [t] (2 * n + 1) :=
  ⟨BfsI.start L t, by rw [unk_zero, if_neg (by simp)]; omega, by rw [unk_zero]; omega, by rw [unk_zero, if_neg (by simp)]; omega⟩
theorem WvP.next {L : List (List Nat)} {t n d m m' : Nat} {f f' : Nat → Nat} {Wv nx l : List Nat} {g : Nat} (h : WvP L t n d m f Wv (g + 1)) (hL : L.length = n) (hW : Wv ≠ []) (hl : ∀ i, i ∈ l ↔ ∃ x ∈ Wv, x ∈ lean' L i) (hN : NxI n l d m' f f' nx) : WvP L t n (d + 1) m' f' nx g := by
  have hd := h.bfs.pos
  have hb := h.bfs.round hl
  obtain ⟨h1, h2⟩ := bStep_fold (d := d) (by omega) l f [] (by simp)
  rw [← hN.eq] at hb h1 h2
  simp only at hb h1 h2
  have hg := h.gh
  have hv := h.lev
  rw [if_neg hW] at hg hv
  have hle := unk_le f f' (fun i hi => by
    by_cases hf : f i = 0
    · exact hf
    · rw [h1 i, if_pos hf] at hi; exact absurd hi hf) n
  have key : nx ≠ [] → unk n f' < unk n f := by
    intro hnx
    obtain ⟨i, nx', rfl⟩ := List.exists_cons_of_ne_nil hnx
    have hm := (h2 i).1 (by simp)
    rcases hm with hm | ⟨hf, hm⟩
    · cases hm
    · obtain ⟨x, _, hx⟩ := (hl i).1 hm
      have hi := lean_lt hx
      refine unk_lt f f' (fun j hj => ?_) hf ?_ n (by omega)
      · by_cases hfj : f j = 0
        · exact hfj
        · rw [h1 j, if_pos hfj] at hj; exact absurd hj hfj
      · rw [h1 i, if_neg (by simpa using hf), if_pos hm]; omega
  refine ⟨hb, ?_, hN.cnt, ?_⟩
  · by_cases hx : nx = []
    · rw [if_pos hx]; omega
    · rw [if_neg hx]; have := key hx; omega
  · by_cases hx : nx = []
    · rw [if_pos hx]; omega
    · rw [if_neg hx]; have := key hx; omega
theorem WvP.nonzero {L : List (List Nat)} {t n d m : Nat} {f : Nat → Nat} {Wv : List Nat} {g : Nat} (h : WvP L t n d m f Wv g) (hW : Wv ≠ []) : 1 ≤ g := by
  have := h.gh; rw [if_neg hW] at this; omega
theorem WvP.small {L : List (List Nat)} {t n d m : Nat} {f : Nat → Nat} {Wv : List Nat} {g : Nat} (h : WvP L t n d m f Wv g) : d ≤ n + 2 ∧ 1 ≤ d := by
  have := h.lev
  refine ⟨?_, h.bfs.pos⟩
  split at this <;> omega
theorem WvP.node {L : List (List Nat)} {t n d m : Nat} {f : Nat → Nat} {Wv : List Nat} {g : Nat} (h : WvP L t n d m f Wv g) (hL : L.length = n) (ht : t < n) {x : Nat} (hx : x ∈ Wv) : x < n := by
  rcases (h.bfs.wave x).1 hx with ⟨_, rfl⟩ | ⟨h1, h2⟩
  · exact ht
  · have := (h.bfs.sound x (by omega)).1.lt
    omega
/-- the wave's concatenated rows: who leans on it -/
theorem flat_mem {L : List (List Nat)} {R : Nat → List Nat} {Wv : List Nat} (hR : ∀ x y, y ∈ R x ↔ x ∈ lean' L y) (i : Nat) : i ∈ Wv.flatMap R ↔ ∃ x ∈ Wv, x ∈ lean' L i := by
  rw [List.mem_flatMap]
  constructor
  · rintro ⟨x, hx, h⟩; exact ⟨x, hx, (hR x i).1 h⟩
  · rintro ⟨x, hx, h⟩; exact ⟨x, hx, (hR x i).2 h⟩
theorem flat_take {R : Nat → List Nat} {Wv : List Nat} {j x : Nat} (h : Wv[j]? = some x) : (Wv.take (j + 1)).flatMap R = (Wv.take j).flatMap R ++ R x := by
  rw [List.take_add_one, h, List.flatMap_append]; simp
theorem take_one {l : List Nat} {k i : Nat} (h : l[k]? = some i) : l.take (k + 1) = l.take k ++ [i] := by
  rw [List.take_add_one, h]; rfl
end Go.Proofs.Ytjpljkjclamjnaa
