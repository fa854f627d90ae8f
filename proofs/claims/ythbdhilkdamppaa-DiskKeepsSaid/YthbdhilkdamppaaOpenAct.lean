/- Opening what comes in: an act, a slice of acts. -/
import Derived.Test.YthbdhilkdamppaaOpen
import Derived.Test.YthbdhilkdamppaaProg
import Derived.Test.YthbdhilkdamppaaMem
import Derived.Deep.Slices
import Derived.Lib.SmallJoins
namespace Go.Proofs.Ythbdhilkdamppaa
open Go.RowKit Go.ChangeShapes Go.WideShapes Go.ChangeAt

/-- an act -/
structure AV where
  d : Int
  A : Option Addr
  c : Nat
  b : List UInt8
  n : Int
def AV.cs (x : AV) : Array Value := #[.int .i64 x.d, .slice x.A x.b.length x.c, .int .i64 x.n]
structure AVFits (w : World) (x : AV) : Prop where
  rd : Rd w 1 x.A x.b.length x.c (bv x.b)
  d1 : -9223372036854775808 ≤ x.d
  d2 : x.d ≤ 9223372036854775807
  n1 : -9223372036854775808 ≤ x.n
  n2 : x.n ≤ 9223372036854775807
theorem AVFits.below {w w' : World} {x : AV} (h : AVFits w x) (hb : Below w.heap.size w w') : AVFits w' x := ⟨h.rd.below hb, h.d1, h.d2, h.n1, h.n2⟩

section
variable {H : Type} {enc : TypeId × Value → H} {w : World} {base : Nat} {held : Bool}
theorem bytes_of_trod {P : Program} {t e : TypeId} {fuel : Nat} {cs : List Value} {x : DataW H × List MemPlace} (ht : P.underlying t = some (.slice e)) (he : P.underlying e = some (.int .u8)) (hc : P.cellsOf e = 1)
    (h : DataW.trod enc P w base (fun _ => true) held fuel t cs = some x) : ∃ A n c l, cs = [.slice A n c] ∧ Rd w 1 A n c (bv l) := by
  rcases open_ints ht he hc h with ⟨hcs, _⟩ | ⟨x, l, c, zs, hcs, _, hl, hm, hz, _, hcell, hwz⟩
  · exact ⟨_, _, _, [], hcs, Rd.nil w 1⟩
  · exact ⟨_, _, _, _, hcs, rd_of_ints hl hm (by simpa using hz) hcell hwz⟩

theorem act_of_cells {fuel : Nat} {cs : List Value} {x : DataW H × List MemPlace} (h : DataW.trod enc Try.prog w base (fun _ => true) held fuel 25 cs = some x) : ∃ y : AV, cs = y.cs.toList ∧ AVFits w y := by
  obtain ⟨y0, y1, y2, n, -, hl, h0, h1, h2⟩ := Deep.trod_struct3 Try.underlying25 h
  have hC : Try.prog.cellsOf 25 = 3 := by kernel_rfl
  have k3 : Try.prog.cellsOf 3 = 1 := by kernel_rfl
  have k23 : Try.prog.cellsOf 23 = 1 := by kernel_rfl
  rw [hC] at hl
  match cs, hl with
  | [a, b, c], _ =>
    simp [k3, k23] at h0 h1 h2
    obtain ⟨z0, e0, -, w0⟩ := DataW.trod_int Try.underlying3 h0
    obtain ⟨z2, e2, -, w2⟩ := DataW.trod_int Try.underlying3 h2
    obtain ⟨A, k, cc, l, e1, hr⟩ := bytes_of_trod Try.underlying23 Try.underlying5 (by kernel_rfl) h1
    have hb := hr.blen
    subst hb
    simp at e0 e1 e2
    subst e0 e1 e2
    exact ⟨⟨z0, A, cc, l, z2⟩, rfl, ⟨hr, (wf_i64 w0).1, (wf_i64 w0).2, (wf_i64 w2).1, (wf_i64 w2).2⟩⟩

theorem open_act {r : Reach} {b0 : Nat} {v : Value} {d : DataW H} {p : List MemPlace} (hv : Value.okWide Try.prog w r b0 25 v) (h : DataW.Trod enc Try.prog w base (fun _ => true) held 25 v d p) : ∃ y : AV, v = .agg y.cs ∧ AVFits w y := by
  obtain ⟨cs, rfl, hsz⟩ := okWide_struct Try.underlying25 hv
  obtain ⟨fuel, hf⟩ := h
  obtain ⟨y, hy, hf⟩ := act_of_cells hf
  have : cs = y.cs := by
    have := congrArg List.toArray hy
    simpa [Value.cells] using this
  exact ⟨y, by rw [this], hf⟩

/-- acts, one behind the other -/
structure Acts (w : World) (A : Option Addr) (n c : Nat) (xs : List AV) : Prop where
  len : xs.length = n
  cap : n ≤ c
  max : c ≤ maxLen
  row : ∀ (i : Nat) (x : AV), xs[i]? = some x → AVFits w x ∧ ∃ ad, A = some ad ∧ w.cell? (ad.add (i * 3)) = some (.int .i64 x.d) ∧ w.cell? ⟨(ad.add (i * 3)).block, (ad.add (i * 3)).off + 1, none⟩ = some (.slice x.A x.b.length x.c) ∧ w.cell? ⟨(ad.add (i * 3)).block, (ad.add (i * 3)).off + 2, none⟩ = some (.int .i64 x.n)
theorem Acts.below {w w' : World} {A : Option Addr} {n c : Nat} {xs : List AV} (h : Acts w A n c xs) (hb : Below w.heap.size w w') : Acts w' A n c xs :=
  ⟨h.len, h.cap, h.max, fun i x hx => by
    obtain ⟨hf, ad, e, c0, c1, c2⟩ := h.row i x hx
    have k : ∀ {a : Addr} {v : Value}, w.cell? a = some v → w'.cell? a = some v := fun hc => (hb.cell (World.block_lt_of_cell? w _ hc)).trans hc
    exact ⟨hf.below hb, ad, e, k c0, k c1, k c2⟩⟩

theorem open_acts {A : Option Addr} {n c : Nat} {d : DataW H} {ps : List MemPlace} (h : DataW.Trod enc Try.prog w base (fun _ => true) held 22 (.slice A n c) d ps) : ∃ xs, Acts w A n c xs := by
  obtain ⟨fuel, hf⟩ := h
  have hC : Try.prog.cellsOf 25 = 3 := by kernel_rfl
  rcases Deep.open_slice Try.underlying22 hf with ⟨hcs, _⟩ | ⟨a, len, cap, m, k, D, Pl, hcs, _, hl, hm, hmm, _, hx⟩
  · simp [Value.cells] at hcs
    obtain ⟨rfl, rfl, rfl⟩ := hcs
    exact ⟨[], rfl, Nat.le_refl _, by simp [maxLen], by simp⟩
  · simp [Value.cells] at hcs
    obtain ⟨rfl, rfl, rfl⟩ := hcs
    simp only [if_true] at hmm
    rw [hC] at hx
    haveI : Inhabited AV := ⟨⟨0, none, 0, [], 0⟩⟩
    obtain ⟨L, hL⟩ := Deep.choose_lt (α := AV) (n := n) (p := fun i x => AVFits w x ∧ w.cell? (a.add (i * 3)) = some (.int .i64 x.d) ∧ w.cell? (a.add (i * 3 + 1)) = some (.slice x.A x.b.length x.c) ∧ w.cell? (a.add (i * 3 + 2)) = some (.int .i64 x.n)) (fun i hi => by
      obtain ⟨cs', h1, h2⟩ := hx i (by omega)
      obtain ⟨y, rfl, hfit⟩ := act_of_cells h2
      obtain ⟨_, _, hc⟩ := World.cells?_some h1
      refine ⟨y, hfit, ?_, ?_, ?_⟩
      · have := hc 0 (by omega)
        simpa [add_of_add, AV.cs] using this
      · have := hc 1 (by omega)
        simpa [add_of_add, AV.cs] using this
      · have := hc 2 (by omega)
        simpa [add_of_add, AV.cs] using this)
    refine ⟨(List.range n).map L, by simp, hl, hm, fun i x hi => ?_⟩
    rcases Nat.lt_or_ge i n with hj | hj
    · simp [hj] at hi
      subst hi
      obtain ⟨q0, q1, q2, q3⟩ := hL i hj
      have f : ∀ k : Nat, 0 < k → a.add (i * 3 + k) = ⟨(a.add (i * 3)).block, (a.add (i * 3)).off + k, none⟩ := fun k hk => by
        rw [← add_of_add]; generalize a.add (i * 3) = z; unfold Addr.add; rw [if_neg (by omega)]
      rw [f 1 (by omega)] at q2
      rw [f 2 (by omega)] at q3
      exact ⟨q0, a, rfl, q1, q2, q3⟩
    · rw [List.getElem?_eq_none (by simpa using hj)] at hi; cases hi
end
end Go.Proofs.Ythbdhilkdamppaa
