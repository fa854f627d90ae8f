/- Opening what comes in: acts on a journal; great, over acts. -/
import Derived.Test.YtckofpdhcpabnaaOpen2
import Derived.Test.YtckofpdhcpabnaaJrRows2
import Derived.Lib.SmallJoins
import Derived.RegionTactic
namespace Go.Proofs.Ytckofpdhcpabnaa
open Go.RowKit Go.ChangeShapes Go.WideShapes Go.ChangeAt
set_option linter.unusedVariables false
set_option linter.unusedSimpArgs false

/-- an act -/
structure JV where
  d : Int
  A : Option Addr
  c : Nat
  b : List UInt8
  LA : Option Addr
  Lc : Nat
  ls : List (List UInt8)
  vs : List Value
  n : Int
def JV.cs (x : JV) : Array Value := #[.int .i64 x.d, .slice x.A x.b.length x.c, .slice x.LA x.ls.length x.Lc, .int .i64 x.n]
structure JVFits (w : World) (x : JV) : Prop where
  rd : Rd w 1 x.A x.b.length x.c (bv x.b)
  bb : BB w 0 x.LA x.ls.length x.Lc x.ls x.vs
  d1 : -9223372036854775808 ≤ x.d
  d2 : x.d ≤ 9223372036854775807
  n1 : -9223372036854775808 ≤ x.n
  n2 : x.n ≤ 9223372036854775807
theorem JVFits.below {w w' : World} {x : JV} (h : JVFits w x) (hb : Below w.heap.size w w') : JVFits w' x := ⟨h.rd.below hb, h.bb.below hb, h.d1, h.d2, h.n1, h.n2⟩

section
variable {H : Type} {enc : TypeId × Value → H} {w : World} {base : Nat} {held : Bool}
theorem jv_of_cells {fuel : Nat} {cs : List Value} {x : DataW H × List MemPlace} (h : DataW.trod enc Try.prog w base (fun _ => true) held fuel 42 cs = some x) : ∃ y : JV, cs = y.cs.toList ∧ JVFits w y := by
  obtain ⟨y0, y1, y2, y3, n, -, hl, h0, h1, h2, h3⟩ := Joins.trod_struct4 Try.underlying42 h
  have hC : Try.prog.cellsOf 42 = 4 := by kernel_rfl
  have k3 : Try.prog.cellsOf 3 = 1 := by kernel_rfl
  have k23 : Try.prog.cellsOf 22 = 1 := by kernel_rfl
  have k24 : Try.prog.cellsOf 23 = 1 := by kernel_rfl
  rw [hC] at hl
  match cs, hl with
  | [a, b, c, d], _ =>
    simp [k3, k23, k24] at h0 h1 h2 h3
    obtain ⟨z0, e0, -, w0⟩ := DataW.trod_int Try.underlying3 h0
    obtain ⟨z3, e3, -, w3⟩ := DataW.trod_int Try.underlying3 h3
    obtain ⟨A, k, cc, l, e1, hr⟩ := bytes_of_trod Try.underlying22 Try.underlying5 (by kernel_rfl) h1
    obtain ⟨LA, Ln, Lc, ls, vs, e2, hbb⟩ := bytes2_of_trod Try.underlying23 k23 Try.underlying22 Try.underlying5 (by kernel_rfl) h2
    have hb := hr.blen
    have hb2 := hbb.len
    subst hb hb2
    simp at e0 e1 e2 e3
    subst e0 e1 e2 e3
    exact ⟨⟨z0, A, cc, l, LA, Lc, ls, vs, z3⟩, rfl, ⟨hr, hbb, (wf_i64 w0).1, (wf_i64 w0).2, (wf_i64 w3).1, (wf_i64 w3).2⟩⟩

/-- acts, one behind the other -/
structure JVs (w : World) (A : Option Addr) (n c : Nat) (xs : List JV) : Prop where
  len : xs.length = n
  cap : n ≤ c
  max : c ≤ maxLen
  row : ∀ (i : Nat) (x : JV), xs[i]? = some x → JVFits w x ∧ ∃ ad, A = some ad ∧ w.cell? (ad.add (i * 4)) = some (.int .i64 x.d) ∧ w.cell? ⟨(ad.add (i * 4)).block, (ad.add (i * 4)).off + 1, none⟩ = some (.slice x.A x.b.length x.c) ∧ w.cell? ⟨(ad.add (i * 4)).block, (ad.add (i * 4)).off + 2, none⟩ = some (.slice x.LA x.ls.length x.Lc) ∧ w.cell? ⟨(ad.add (i * 4)).block, (ad.add (i * 4)).off + 3, none⟩ = some (.int .i64 x.n)
theorem JVs.below {w w' : World} {A : Option Addr} {n c : Nat} {xs : List JV} (h : JVs w A n c xs) (hb : Below w.heap.size w w') : JVs w' A n c xs :=
  ⟨h.len, h.cap, h.max, fun i x hx => by
    obtain ⟨hf, ad, e, c0, c1, c2, c3⟩ := h.row i x hx
    have k : ∀ {a : Addr} {v : Value}, w.cell? a = some v → w'.cell? a = some v := fun hc => (hb.cell (World.block_lt_of_cell? w _ hc)).trans hc
    exact ⟨hf.below hb, ad, e, k c0, k c1, k c2, k c3⟩⟩

theorem open_jvs {A : Option Addr} {n c : Nat} {d : DataW H} {ps : List MemPlace} (h : DataW.Trod enc Try.prog w base (fun _ => true) held 39 (.slice A n c) d ps) : ∃ xs, JVs w A n c xs := by
  obtain ⟨fuel, hf⟩ := h
  have hC : Try.prog.cellsOf 42 = 4 := by kernel_rfl
  rcases Deep.open_slice Try.underlying39 hf with ⟨hcs, _⟩ | ⟨a, len, cap, m, k, D, Pl, hcs, _, hl, hm, hmm, _, hx⟩
  · simp [Value.cells] at hcs
    obtain ⟨rfl, rfl, rfl⟩ := hcs
    exact ⟨[], rfl, Nat.le_refl _, by simp [maxLen], by simp⟩
  · simp [Value.cells] at hcs
    obtain ⟨rfl, rfl, rfl⟩ := hcs
    simp only [if_true] at hmm
    rw [hC] at hx
    haveI : Inhabited JV := ⟨⟨0, none, 0, [], none, 0, [], [], 0⟩⟩
    obtain ⟨L, hL⟩ := Deep.choose_lt (α := JV) (n := n) (p := fun i x => JVFits w x ∧ w.cell? (a.add (i * 4)) = some (.int .i64 x.d) ∧ w.cell? (a.add (i * 4 + 1)) = some (.slice x.A x.b.length x.c) ∧ w.cell? (a.add (i * 4 + 2)) = some (.slice x.LA x.ls.length x.Lc) ∧ w.cell? (a.add (i * 4 + 3)) = some (.int .i64 x.n)) (fun i hi => by
      obtain ⟨cs', h1, h2⟩ := hx i (by omega)
      obtain ⟨y, rfl, hfit⟩ := jv_of_cells h2
      obtain ⟨_, _, hc⟩ := World.cells?_some h1
      refine ⟨y, hfit, ?_, ?_, ?_, ?_⟩
      · have := hc 0 (by omega)
        simpa [add_of_add, JV.cs] using this
      · have := hc 1 (by omega)
        simpa [add_of_add, JV.cs] using this
      · have := hc 2 (by omega)
        simpa [add_of_add, JV.cs] using this
      · have := hc 3 (by omega)
        simpa [add_of_add, JV.cs] using this)
    refine ⟨(List.range n).map L, by simp, hl, hm, fun i x hi => ?_⟩
    rcases Nat.lt_or_ge i n with hj | hj
    · simp [hj] at hi
      subst hi
      obtain ⟨q0, q1, q2, q3, q4⟩ := hL i hj
      have f : ∀ k : Nat, 0 < k → a.add (i * 4 + k) = ⟨(a.add (i * 4)).block, (a.add (i * 4)).off + k, none⟩ := fun k hk => by
        rw [← add_of_add]; generalize a.add (i * 4) = z; unfold Addr.add; rw [if_neg (by omega)]
      rw [f 1 (by omega)] at q2
      rw [f 2 (by omega)] at q3
      rw [f 3 (by omega)] at q4
      exact ⟨q0, a, rfl, q1, q2, q3, q4⟩
    · rw [List.getElem?_eq_none (by simpa using hj)] at hi; cases hi
end
def szT (ls : List (List UInt8)) (k : Nat) : Nat := ((ls.take k).map fun x => min x.length 1048576 + 4).sum
theorem szT_next {ls : List (List UInt8)} {k : Nat} {x : List UInt8} (h : ls[k]? = some x) : szT ls (k + 1) = szT ls k + (min x.length 1048576 + 4) := by
  obtain ⟨hk, rfl⟩ := List.getElem?_eq_some_iff.1 h
  unfold szT
  rw [List.take_add_one, h, List.map_append, List.sum_append]
  simp
theorem szT_le (ls : List (List UInt8)) : ∀ k, szT ls k ≤ k * 1048580 := by
  intro k
  induction k with
  | zero => simp [szT]
  | succ k ih =>
    cases h : ls[k]? with
    | some x => rw [szT_next h]; omega
    | none =>
      have : ls.take (k + 1) = ls.take k := by rw [List.take_add_one, h, Option.toList_none, List.append_nil]
      unfold szT at ih ⊢
      rw [this]
      exact Nat.le_trans ih (Nat.mul_le_mul_right _ (Nat.le_succ k))
set_option maxRecDepth 100000 in
set_option maxHeartbeats 1000000 in
theorem size_b (T : Nat) (B : Nat) (A : Option Addr) (n c : Nat) (ls : List (List UInt8)) (vs : List Value) (w : World) (hb : BB w B A n c ls vs) (hT : T = szT ls (min n 201)) :
    Calls Try.prog 6 #[.slice A n c] w (fun e w' => e = .returned (.int .i64 (T : Nat)) ∧ w' = w) := by
  have hc := hb.rd.cap
  have hm := hb.rd.max
  unfold maxLen at hm
  have HB := Lib.hid hb
  have HL := Lib.hid hb.len
  clear hb
  go_enter Try.func6, Try.ntmps6
  go_wp2_with fail
  go_loop [3, 4] (fun z i => ∃ k t : Nat, k ≤ n ∧ k ≤ 201 ∧ t = szT ls k ∧ i = .int .i64 k ∧ z = .int .i64 t) (fun _ i => n - (intOf i).toNat)
  case atStart => exact ⟨0, 0, Nat.zero_le _, Nat.zero_le _, rfl, rfl, rfl⟩
  case round =>
    obtain ⟨k, t, hk, hk2, ht, rfl, rfl⟩ := hrel
    by_cases hlt : k < n
    · by_cases h60 : k ≤ 200
      · obtain ⟨x, hx⟩ : ∃ x, ls[k]? = some x := ⟨_, List.getElem?_eq_getElem (by rw [HL.out]; exact hlt)⟩
        obtain ⟨Ai, ci, hv, hr, -⟩ := HB.out.row k x hx
        obtain ⟨ad, rfl, -⟩ := HB.out.rd.addr (by omega) (by omega)
        have hcl := HB.out.rd.get hv
        have hrc := hr.cap
        have hrm := hr.max
        unfold maxLen at hrm
        clear hr hv
        have ht9 : t ≤ 1000000000 := by have := szT_le ls k; omega
        have hnx := szT_next hx
        by_cases h4 : 1048576 < x.length
        · have hrel2 : t + 1048576 + 4 = szT ls (k + 1) := by rw [hnx, ← ht]; omega
          have HT := Lib.hid hrel2
          clear ht hrel2 hnx hx
          go_wp2_with fail
          go_round
          case rel => exact ⟨k + 1, t + 1048576 + 4, by omega, by omega, HT.out, by go_num, by go_num⟩
          case measure => simp [intOf]; omega
        · have hrel2 : t + x.length + 4 = szT ls (k + 1) := by rw [hnx, ← ht]; omega
          have HT := Lib.hid hrel2
          clear ht hrel2 hnx hx
          go_wp2_with fail
          go_round
          case rel => exact ⟨k + 1, t + x.length + 4, by omega, by omega, HT.out, by go_num, by go_num⟩
          case measure => simp [intOf]; omega
      · have h61 : 200 < k := by omega
        have hz : t = T := by rw [ht, hT]; congr 1; omega
        subst hz
        clear ht hT
        go_wp2_with fail
        all_goals
          go_ret
          exact ⟨rfl, rfl⟩
    · have hz : t = T := by rw [ht, hT]; congr 1; omega
      subst hz
      clear ht hT
      go_wp2_with fail
      all_goals
        go_ret
        exact ⟨rfl, rfl⟩

def GreatP (w : World) (e : Ending) (w' : World) : Prop := (∃ b, e = .returned (.bool b)) ∧ Below w.heap.size w w'
set_option maxRecDepth 100000 in
set_option maxHeartbeats 1000000 in
theorem great_any (w : World) (A : Option Addr) (n c : Nat) (xs : List JV) (hA : JVs w A n c xs) :
    Calls Try.prog 15 #[.slice A n c] w (GreatP w) := by
  have hc := hA.cap
  have hm := hA.max
  unfold maxLen at hm
  have HL := Lib.hid hA.len
  have HA := Lib.hid hA
  clear hA
  go_enter Try.func15, Try.ntmps15
  go_wp2_with fail
  go_loopw [3, 4] (fun z i wr => ∃ k t : Nat, k ≤ n ∧ k ≤ 101 ∧ t ≤ k * 300000000 ∧ i = .int .i64 k ∧ z = .int .i64 t ∧ Below w.heap.size w wr) (fun _ i _ => n - (intOf i).toNat)
  case atStart => exact ⟨0, 0, Nat.zero_le _, Nat.zero_le _, Nat.zero_le _, rfl, rfl, Below.refl _ _⟩
  case round =>
    obtain ⟨k, t, hk, hk2, ht, rfl, rfl, hbw⟩ := hrel
    obtain ⟨W, hW⟩ : ∃ W, W = wr := ⟨_, rfl⟩
    subst hW
    have ht2 : t ≤ 30300000000 := by omega
    have HBW := Lib.hid hbw
    by_cases hlt : k < n
    · by_cases h200 : k ≤ 100
      · obtain ⟨x, hx⟩ : ∃ x, xs[k]? = some x := ⟨_, List.getElem?_eq_getElem (by rw [HL.out]; exact hlt)⟩
        obtain ⟨hf, ad, rfl, c0, c1, c2, c3⟩ := (HA.out.below hbw).row k x hx
        have hcap := hf.rd.cap
        have hmax := hf.rd.max
        unfold maxLen at hmax
        have HF := Lib.hid hf
        have hsz := szT_le x.ls (min x.ls.length 201)
        obtain ⟨sz, hsz'⟩ : ∃ sz, szT x.ls (min x.ls.length 201) = sz := ⟨_, rfl⟩
        have hS : ∀ m, Calls Try.prog 6 #[.slice x.LA x.ls.length x.Lc] (W.drewN m) (fun e w' => e = .returned (.int .i64 (sz : Nat)) ∧ w' = W.drewN m) := fun m => by
          exact size_b sz 0 x.LA x.ls.length x.Lc x.ls x.vs _ (HF.out.bb.drewN m) hsz'.symm
        rw [hsz'] at hsz
        have hS := Lib.hid hS
        clear hx c0 c3 hbw hf hsz'
        have hlc := HF.out.bb.rd.cap
        have hlm := HF.out.bb.rd.max
        unfold maxLen at hlm
        by_cases h4 : 1048576 < x.b.length
        · go_wp2_with fail
          go_quiet ((go_at_call 6; exact Calls.quiet_of_same (hS.out _)))
          by_cases h5 : 200 < x.ls.length
          · go_wp2_with fail
            all_goals
              go_ret
              exact ⟨⟨_, rfl⟩, below_drewN HBW.out nq⟩
          · go_wp2_with fail
            go_roundw
            case rel => exact ⟨k + 1, t + 1048576 + sz, by omega, by omega, by omega, by go_num, by go_num, below_drewN HBW.out nq⟩
            case measure => simp [intOf]; omega
        · go_wp2_with fail
          go_quiet ((go_at_call 6; exact Calls.quiet_of_same (hS.out _)))
          by_cases h5 : 200 < x.ls.length
          · go_wp2_with fail
            all_goals
              go_ret
              exact ⟨⟨_, rfl⟩, below_drewN HBW.out nq⟩
          · go_wp2_with fail
            go_roundw
            case rel => exact ⟨k + 1, t + x.b.length + sz, by omega, by omega, by omega, by go_num, by go_num, below_drewN HBW.out nq⟩
            case measure => simp [intOf]; omega
      · go_wp2_with fail
        all_goals
          go_ret
          exact ⟨⟨_, rfl⟩, HBW.out⟩
    · go_wp2_with fail
      all_goals
        go_ret
        exact ⟨⟨_, rfl⟩, HBW.out⟩
end Go.Proofs.Ytckofpdhcpabnaa
