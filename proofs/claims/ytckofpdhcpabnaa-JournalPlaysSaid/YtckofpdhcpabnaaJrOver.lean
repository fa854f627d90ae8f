/- journal.Replay: the iterator's contract; over. -/
import Derived.Test.YtckofpdhcpabnaaJrWhole
import Derived.Test.YtckofpdhcpabnaaQuietR
namespace Go.Proofs.Ytckofpdhcpabnaa
open Go.RowKit
attribute [local go_sem] Oper.semAt_some
set_option linter.unusedVariables false
set_option linter.unusedSimpArgs false

theorem info_bbz : (Try.prog.info? 22).map (fun i => (i.size)) = some 1 := by kernel_rfl
theorem run_eql_func_nil {P : Program} (w : World) {t : TypeId} {as' rs : Array TypeId} {b : Bool} (h : P.underlying t = some (.func as' rs b)) (f : Fn) (x y : Array Value) :
    (binOp .eql t (.func f x y) .nilFunc).run P w = .ok (.bool false) w := by
  have h1 : ∀ d : Nat, (Op.equalIn (d + 1) t (.func f x y) .nilFunc).run P w = .ok false w := fun d => by simp [Op.equalIn, run_underlying h]
  simp only [binOp]
  simp [Op.equal, Op.maxDepth, h1 9999]
def stF (f : Int) (n : Nat) : Nat := min f.toNat n
theorem stF_le (f : Int) (n : Nat) : stF f n ≤ n := Nat.min_le_right _ _
def fromA (A : Option Addr) (c k : Nat) : Option Addr := if c = k then A else A.map (·.add (k * 1))
set_option maxHeartbeats 1000000 in
theorem from_any (A : Option Addr) (n c : Nat) (f : Int) (hf1 : -9223372036854775808 ≤ f) (hf2 : f ≤ 9223372036854775807) (hn : n ≤ c) (hc : c ≤ 9223372036854775807) (w : World) :
    Calls Try.prog 44 #[.slice A n c, .int .i64 f] w fun e w' => e = .returned (.tuple #[.slice (fromA A c (stF f n)) (n - stF f n) (c - stF f n), .int .i64 (stF f n : Nat)]) ∧ w' = w := by
  have hs := stF_le f n
  have hsl : (Instr.slice 23 (.slice A n c) (some (.int .i64 (stF f n : Nat))) none none).run Try.prog w = .ok (.slice (fromA A c (stF f n)) (n - stF f n) (c - stF f n)) w := run_slice_from (P := Try.prog) (w := w) (A := A) (c := c) (t := 23) (e := 22) Try.underlying23 info_bbz hs .i64
  have hd : (f ≤ 0 ∧ stF f n = 0) ∨ (0 < f ∧ f < n ∧ (stF f n : Int) = f) ∨ (0 < f ∧ n ≤ f ∧ stF f n = n) := by unfold stF; omega
  obtain ⟨k, hk⟩ : ∃ k, stF f n = k := ⟨_, rfl⟩
  obtain ⟨A', hA'⟩ : ∃ A', fromA A c (stF f n) = A' := ⟨_, rfl⟩
  rw [hA'] at hsl ⊢
  clear hA'
  rw [hk] at hd hsl hs ⊢
  clear hk
  rcases hd with ⟨h1, rfl⟩ | ⟨h1, h2, rfl⟩ | ⟨h1, h2, rfl⟩
  · rcases Int.lt_or_eq_of_le h1 with h1 | rfl
    all_goals
      simp only [Int.ofNat_zero, Nat.sub_zero] at hsl ⊢
      go_enter Try.func44, Try.ntmps44
      go_wp2
      go_ret2
      exact ⟨rfl, rfl⟩
  · go_enter Try.func44, Try.ntmps44
    go_wp2
    go_ret2
    exact ⟨rfl, rfl⟩
  · rcases Int.lt_or_eq_of_le h2 with h2 | rfl
    all_goals
      go_enter Try.func44, Try.ntmps44
      go_wp2
      go_ret2
      exact ⟨by rw [Nat.sub_self]; rfl, rfl⟩
theorem replay_any (A : Option Addr) (n c : Nat) (f : Int) (w : World) :
    Calls Try.prog 45 #[.slice A n c, .int .i64 f] w fun e w' => e = .returned (.func (.func 54) #[] #[.pointer (some ⟨w.heap.size + 1, 0, none⟩), .pointer (some ⟨w.heap.size, 0, none⟩)]) ∧ w' = (w.alloc (.cells #[.slice A n c] 23)).alloc (.cells #[.int .i64 f] 3) := by
  go_enter Try.func45, Try.ntmps45
  go_wp2
  go_ret
  exact ⟨rfl, rfl⟩
/-- a row as it is handed to a round -/
structure Rp where
  pos : Nat
  ad : Option Addr
  c : Nat
  b : List UInt8
def Rp.enc (x : Rp) : Array Value := #[.int .i64 x.pos, .slice x.ad x.b.length x.c]
def rb (xs : List Rp) : List (List UInt8) := xs.map (·.b)
structure RpV (ls : List (List UInt8)) (st : Nat) (w : World) (pre : List Rp) (x : Rp) : Prop where
  pos : x.pos = st + pre.length
  get : (ls.drop st)[pre.length]? = some x.b
  rd : Rd w 1 x.ad x.b.length x.c (bv x.b)

set_option maxRecDepth 100000 in
set_option maxHeartbeats 2000000 in
theorem replay_iter (Ba Bf : Nat) (Bb : Nat) (A : Option Addr) (n c : Nat) (f : Int) (hf1 : -9223372036854775808 ≤ f) (hf2 : f ≤ 9223372036854775807) (ls : List (List UInt8)) (vs : List Value) (w : World) (D : Nat) (hD : D ≤ w.heap.size)
    (hba : Boxed w Ba 23 (.slice A n c)) (hbf : Boxed w Bf 3 (.int .i64 f)) (hBa : Ba < D) (hBf : Bf < D)
    (w0 : World) (hD0 : w0.heap.size ≤ D) (hbel : Below w0.heap.size w0 w) (hb : BB w0 Bb A n c ls vs) :
    Iter Try.prog 54 #[.pointer (some ⟨Bf, 0, none⟩), .pointer (some ⟨Ba, 0, none⟩)] Rp.enc (· < D) (fun pre x _ => RpV ls (stF f n) w0 pre x) (fun xs => rb xs = ls.drop (stF f n)) (fun _ => True) w := by
  intro m lp J Jx W hW hJ hJx hY h0
  have hc := hb.rd.cap
  have hm := hb.rd.max
  unfold maxLen at hm
  have HL := Lib.hid hb.len
  have HB := Lib.hid hb
  have hca := (boxBel hba hW).cell
  have hcf := (boxBel hbf hW).cell
  have HBA := Lib.hid (boxBel hba hW)
  have hs := stF_le f n
  have hd : (f ≤ 0 ∧ stF f n = 0) ∨ (0 < f ∧ f < n ∧ (stF f n : Int) = f) ∨ (0 < f ∧ n ≤ f ∧ stF f n = n) := by unfold stF; omega
  have HW := Lib.hid hW
  have HY := Lib.hid hY
  have HJ := Lib.hid hJ
  obtain ⟨k, hk⟩ : ∃ k, stF f n = k := ⟨_, rfl⟩
  rw [hk] at HY hd hs ⊢
  have HBW : Hid (Below w0.heap.size w0 W) := Lib.hid (hbel.trans (hW.mono (Nat.le_trans hD0 hD)))
  clear hk hb hba hbf hbel hY hJ hW hJx
  refine callsIn_of_wp Try.func54 rfl trivial ?_
  simp only [Try.ntmps54, List.size_toArray, List.length_cons, List.length_nil, Nat.reduceAdd, Nat.reduceSub, Array.replicate_succ, Array.replicate_zero, List.push_toArray, List.append_toArray, List.nil_append, List.cons_append]
  have hd4 : (f < 0 ∧ Hid (k = 0)) ∨ (f = 0 ∧ Hid (k = 0)) ∨ (0 < f ∧ f < n ∧ Hid ((k : Int) = f)) ∨ (0 < f ∧ (n : Int) < f ∧ Hid (k = n)) ∨ (0 < f ∧ (n : Int) = f ∧ Hid (k = n)) := by
    rcases hd with ⟨h1, h2⟩ | ⟨h1, h2, h3⟩ | ⟨h1, h2, h3⟩
    · rcases Int.lt_or_eq_of_le h1 with h1 | h1
      · exact .inl ⟨h1, Lib.hid h2⟩
      · exact .inr (.inl ⟨h1, Lib.hid h2⟩)
    · exact .inr (.inr (.inl ⟨h1, h2, Lib.hid h3⟩))
    · rcases Int.lt_or_eq_of_le h2 with h2 | h2
      · exact .inr (.inr (.inr (.inl ⟨h1, h2, Lib.hid h3⟩)))
      · exact .inr (.inr (.inr (.inr ⟨h1, h2, Lib.hid h3⟩)))
  have H0 := Lib.hid h0
  clear hd h0
  rcases hd4 with ⟨h1, HK⟩ | ⟨rfl, HK⟩ | ⟨h1, h2, HK⟩ | ⟨h1, h2, HK⟩ | ⟨h1, rfl, HK⟩
  all_goals
    gi_wp2
    gi_loopw [4] (fun p wr => ∃ pre : List Rp, p = .int .i64 (k + pre.length : Nat) ∧ Hid (rb pre = (ls.drop k).take pre.length) ∧ k + pre.length ≤ n ∧ Hid (Keeps (· < D) W wr) ∧ Hid (J pre wr))
      (fun p _ => n - (intOf p).toNat)
    case atStart => exact ⟨[], by have := HK.out; simp only [List.length_nil, Nat.add_zero]; congr 1; omega, Lib.hid rfl, by simpa using hs, Lib.hid (Keeps.refl _ _), H0⟩
    case round =>
      obtain ⟨pre, rfl, HP, hle, HKP, HJP⟩ := hrel
      clear hca hcf
      have hca : wr.cell? ⟨Ba, 0, none⟩ = some (.slice A n c) := Boxed.cell (t := 23) ((HKP.out.block _ hBa).trans HBA.out)
      have hle9 : k + pre.length ≤ c := Nat.le_trans hle hc
      obtain ⟨z, hz⟩ : ∃ z, k + pre.length = z := ⟨_, rfl⟩
      rw [hz] at hle hle9 ⊢
      have HZ := Lib.hid hz
      clear hz
      by_cases hlt : z < n
      · obtain ⟨x, hx⟩ : ∃ x, ls[z]? = some x := ⟨_, List.getElem?_eq_getElem (by rw [HL.out]; exact hlt)⟩
        obtain ⟨Ai, ci, hv, hr, -⟩ := HB.out.row z x hx
        obtain ⟨ad, rfl, -⟩ := HB.out.rd.addr (by omega) (by omega)
        have hcl0 := HB.out.rd.get hv
        have hbwr : Below w0.heap.size w0 wr := HBW.out.trans ⟨HKP.out.os, HKP.out.tape, HKP.out.output, HKP.out.size, fun q hq => HKP.out.block q (by omega)⟩
        have hcl : wr.cell? (ad.add z) = some (.slice Ai x.length ci) := (hbwr.cell (World.block_lt_of_cell? w0 _ hcl0)).trans hcl0
        have hvv : RpV ls k w0 pre ⟨z, Ai, ci, x⟩ := ⟨HZ.out.symm, by rw [List.getElem?_drop, HZ.out]; exact hx, hr⟩
        obtain ⟨fn, tmps, assign, body, hy, hR⟩ := HY.out pre _ wr HJP.out hvv
        dsimp only [Rp.enc] at hy
        have HV := Lib.hid hvv
        have HX := Lib.hid hx
        clear hbwr hvv hr hv hx hcl0
        gi_wp2_with fail
        refine ⟨(fun h => by cases h), hR.mono ?_⟩
        rintro e w3 (⟨rfl, hj3, hk3⟩ | ⟨rfl, hjx3⟩)
        · have HJ3 := Lib.hid hj3
          have HK3 := Lib.hid (HKP.out.trans hk3)
          clear hj3 hk3 hR hy
          gi_wp2
          go_roundw
          case rel =>
            refine ⟨pre ++ [⟨z, Ai, ci, x⟩], ?_, Lib.hid ?_, ?_, HK3, HJ3⟩
            · have := HZ.out; rw [List.length_append, List.length_singleton]; congr 1; omega
            · rw [List.length_append, List.length_singleton, List.take_add_one, ← HP.out, List.getElem?_drop, HZ.out, HX.out]; simp [rb]
            · have := HZ.out; rw [List.length_append, List.length_singleton]; omega
          case measure => simp [intOf]; omega
        · gi_wp2
          refine bodyPost_ret (results_none rfl _ _ _) rfl ?_
          exact ⟨⟨_, rfl⟩, .inr ⟨_, trivial, hjx3⟩⟩
      · gi_wp2
        go_end0
        refine ⟨⟨_, rfl⟩, .inl ⟨pre, ?_, HJP.out⟩⟩
        rw [HP.out, List.take_of_length_le (by rw [List.length_drop, HL.out]; have := HZ.out; omega)]

/-- between two rounds: what lay ahead of n's box (in the world V) lies -/
structure OvI (V : World) (pre : List Rp) (W : World) : Prop where
  bel : Below V.heap.size V W
  n : Boxed W V.heap.size 3 (.int .i64 (pre.length : Nat))
theorem ovI_own (V : World) (B : Nat) (hB : V.heap.size ≤ B) : OwnFrom B (OvI V) := by
  intro pre W W' row h hg hr
  exact ⟨h.bel.grown hg h.bel.size (fun k e => by have := (hr k e).1; omega), boxed_kept h.n hg (fun r e => (hr r e).2)⟩
theorem OvI.drewN {V W : World} {pre : List Rp} (h : OvI V pre W) (k : Nat) : OvI V pre (W.drewN k) := ⟨below_drewN h.bel k, h.n⟩
/-- a round has left by a break -/
structure OvX (V : World) (lv : Int) (id : Nat) (c : Code) (pre : List Rp) (W : World) : Prop where
  jump : c = .exit id
  here : (pre.length : Int) = lv
  i : OvI V pre W
theorem ovX_own (V : World) (lv : Int) (id B : Nat) (hB : V.heap.size ≤ B) (c : Code) : OwnFrom B (OvX V lv id c) := by
  intro pre W W' row h hg hr
  exact ⟨h.jump, h.here, ovI_own V B hB pre W W' row h.i hg hr⟩

theorem ov_step {V W : World} {pre : List Rp} {y : Rp} {p : Int} (h : OvI V pre W) (hp : p = ((pre ++ [y]).length : Nat)) (B : Nat) :
    KeepsFrom B W (W.setCell ⟨V.heap.size, 0, none⟩ (.int .i64 p)) ∧ Keeps (· < V.heap.size) W (W.setCell ⟨V.heap.size, 0, none⟩ (.int .i64 p)) ∧ OvI V (pre ++ [y]) (W.setCell ⟨V.heap.size, 0, none⟩ (.int .i64 p)) := by
  have hb : Below V.heap.size W (W.setCell ⟨V.heap.size, 0, none⟩ (.int .i64 p)) := (Below.refl V.heap.size W).setCell (p := ⟨V.heap.size, 0, none⟩) (Nat.le_refl _) _
  refine ⟨(KeepsOthers.setCell W _ _).from B, ⟨hb.os, hb.tape, hb.output, hb.size, fun q hq => hb.block q hq⟩, h.bel.trans hb, ?_⟩
  rw [← hp]
  exact h.n.set _

set_option maxRecDepth 100000 in
set_option maxHeartbeats 4000000 in
theorem over_any (w : World) (Bb : Nat) (A : Option Addr) (n c : Nat) (f lv : Int) (hf1 : -9223372036854775808 ≤ f) (hf2 : f ≤ 9223372036854775807) (ls : List (List UInt8)) (vs : List Value) (hb : BB w Bb A n c ls vs) :
    Calls Try.prog 23 #[.slice A n c, .int .i64 f, .int .i64 lv] w (Yes w) := by
  have hc := hb.rd.cap
  have hm := hb.rd.max
  unfold maxLen at hm
  have HL := Lib.hid hb.len
  have HB := Lib.hid hb
  have hs := stF_le f n
  obtain ⟨k, hk⟩ : ∃ k, stF f n = k := ⟨_, rfl⟩
  obtain ⟨A2, hA2⟩ : ∃ A2, fromA A c k = A2 := ⟨_, rfl⟩
  have HK := Lib.hid hk
  have HA2 := Lib.hid hA2
  rw [hk] at hs
  obtain ⟨nk, hnk⟩ : ∃ nk, n - k = nk := ⟨_, rfl⟩
  obtain ⟨ck, hck⟩ : ∃ ck, c - k = ck := ⟨_, rfl⟩
  have HNK := Lib.hid hnk
  have HCK := Lib.hid hck
  have hnk2 : nk ≤ n := by omega
  clear hb hk hA2 hnk hck
  obtain ⟨W1, hW1⟩ : ∃ W1, w.alloc (.cells #[.int .i64 lv] 3) = W1 := ⟨_, rfl⟩
  obtain ⟨W2, hW2⟩ : ∃ W2, W1.alloc (.cells #[.bool false] 4) = W2 := ⟨_, rfl⟩
  obtain ⟨W3, hW3⟩ : ∃ W3, W2.alloc (.cells #[.slice A2 nk ck] 23) = W3 := ⟨_, rfl⟩
  obtain ⟨W4, hW4⟩ : ∃ W4, W3.alloc (.cells #[.int .i64 (k : Nat)] 3) = W4 := ⟨_, rfl⟩
  obtain ⟨W5, hW5⟩ : ∃ W5, W4.alloc (.cells #[.slice A n c] 23) = W5 := ⟨_, rfl⟩
  obtain ⟨V, hV⟩ : ∃ V, W5.alloc (.cells #[.int .i64 f] 3) = V := ⟨_, rfl⟩
  have s1 : W1.heap.size = w.heap.size + 1 := by rw [← hW1, World.size_alloc]
  have s2 : W2.heap.size = w.heap.size + 1 + 1 := by rw [← hW2, World.size_alloc, s1]
  have s3 : W3.heap.size = w.heap.size + 1 + 1 + 1 := by rw [← hW3, World.size_alloc, s2]
  have s4 : W4.heap.size = w.heap.size + 1 + 1 + 1 + 1 := by rw [← hW4, World.size_alloc, s3]
  have s5 : W5.heap.size = w.heap.size + 1 + 1 + 1 + 1 + 1 := by rw [← hW5, World.size_alloc, s4]
  have s6 : V.heap.size = w.heap.size + 1 + 1 + 1 + 1 + 1 + 1 := by rw [← hV, World.size_alloc, s5]
  have b1 : Below w.heap.size w W1 := by rw [← hW1]; exact (Below.refl _ w).alloc (Nat.le_refl _) _
  have b2 : Below w.heap.size w W2 := by rw [← hW2]; exact b1.alloc (by omega) _
  have b3 : Below w.heap.size w W3 := by rw [← hW3]; exact b2.alloc (by omega) _
  have b4 : Below w.heap.size w W4 := by rw [← hW4]; exact b3.alloc (by omega) _
  have b5 : Below w.heap.size w W5 := by rw [← hW5]; exact b4.alloc (by omega) _
  have b6 : Below w.heap.size w V := by rw [← hV]; exact b5.alloc (by omega) _
  have X0 : Boxed V w.heap.size 3 (.int .i64 lv) := by rw [← hV, ← hW5, ← hW4, ← hW3, ← hW2, ← hW1]; exact (((((Boxed.new w _ _).alloc _).alloc _).alloc _).alloc _).alloc _
  have X1 : Boxed V (w.heap.size + 1) 4 (.bool false) := by rw [← s1, ← hV, ← hW5, ← hW4, ← hW3, ← hW2]; exact ((((Boxed.new W1 _ _).alloc _).alloc _).alloc _).alloc _
  have X2 : Boxed V (w.heap.size + 1 + 1) 23 (.slice A2 nk ck) := by rw [← s2, ← hV, ← hW5, ← hW4, ← hW3]; exact (((Boxed.new W2 _ _).alloc _).alloc _).alloc _
  have X3 : Boxed V (w.heap.size + 1 + 1 + 1) 3 (.int .i64 (k : Nat)) := by rw [← s3, ← hV, ← hW5, ← hW4]; exact ((Boxed.new W3 _ _).alloc _).alloc _
  have X4 : Boxed V (w.heap.size + 1 + 1 + 1 + 1) 23 (.slice A n c) := by rw [← s4, ← hV, ← hW5]; exact (Boxed.new W4 _ _).alloc _
  have X5 : Boxed V (w.heap.size + 1 + 1 + 1 + 1 + 1) 3 (.int .i64 f) := by rw [← s5, ← hV]; exact Boxed.new W5 _ _
  have HX0 := Lib.hid X0
  have HX1 := Lib.hid X1
  have HX2 := Lib.hid X2
  have HX3 := Lib.hid X3
  have HX4 := Lib.hid X4
  have HX5 := Lib.hid X5
  have HBV := Lib.hid b6
  have HSV := Lib.hid s6
  have HV := Lib.hid (show (((((w.alloc (.cells #[.int .i64 lv] 3)).alloc (.cells #[.bool false] 4)).alloc (.cells #[.slice A2 nk ck] 23)).alloc (.cells #[.int .i64 (k : Nat)] 3)).alloc (.cells #[.slice A n c] 23)).alloc (.cells #[.int .i64 f] 3) = V by rw [hW1, hW2, hW3, hW4, hW5, hV])
  clear X0 X1 X2 X3 X4 X5 b1 b2 b3 b4 b5 b6 s1 s2 s3 s4 s5 s6 hW1 hW2 hW3 hW4 hW5 hV W1 W2 W3 W4 W5
  refine (callsIn_wide (n := 3)).1 ?_
  refine callsIn_of_wp_marks Try.func23 rfl trivial ?_
  simp only [Try.ntmps23, List.size_toArray, List.length_cons, List.length_nil, Nat.reduceAdd, Nat.reduceSub, Array.replicate_succ, Array.replicate_zero, List.push_toArray, List.append_toArray, List.nil_append, List.cons_append]
  gi_wp2_with fail
  refine ⟨trivial, (callsIn_wide.2 (from_any _ _ _ _ hf1 hf2 hc (by omega) _)).mono ?_⟩
  rintro e w1 ⟨rfl, rfl⟩
  rw [HK.out, HA2.out, HNK.out, HCK.out]
  gi_wp2_with fail
  refine ⟨trivial, (callsIn_wide.2 (replay_any _ _ _ _ _)).mono ?_⟩
  rintro e w' ⟨rfl, rfl⟩
  have hq := fun W x y => run_eql_func_nil (P := Try.prog) W Try.underlying64 (.func 54) #[] #[.pointer (some x), .pointer (some y)]
  gi_wp2_with fail
  rw [HV.out]
  clear hq
  have hi0 : OvI V [] (V.alloc (.cells #[.int .i64 0] 3)) := ⟨(Below.refl _ V).alloc (Nat.le_refl _) _, Boxed.new V _ _⟩
  have hB0 : Below V.heap.size V (V.alloc (.cells #[.int .i64 0] 3)) := hi0.bel
  have hsz0 : (V.alloc (.cells #[.int .i64 0] 3)).heap.size = V.heap.size + 1 := World.size_alloc ..
  obtain ⟨W0, hW0⟩ : ∃ W0, V.alloc (.cells #[.int .i64 0] 3) = W0 := ⟨_, rfl⟩
  rw [hW0] at hi0 hB0 hsz0 ⊢
  have HI0 := Lib.hid hi0
  have HB0 := Lib.hid hB0
  have HS0 := Lib.hid hsz0
  clear hW0 hi0 hB0 hsz0
  rw [show w.heap.size + 1 + 1 + 1 + 1 + 1 + 1 = V.heap.size from HSV.out.symm]
  refine wpIn_range (gf := 54) (lb := #[.pointer (some ⟨w.heap.size + 1 + 1 + 1 + 1 + 1, 0, none⟩), .pointer (some ⟨w.heap.size + 1 + 1 + 1 + 1, 0, none⟩)]) rfl (enters_of Try.func54 (by kernel_rfl) rfl)
    (replay_iter (w.heap.size + 1 + 1 + 1 + 1) (w.heap.size + 1 + 1 + 1 + 1 + 1) Bb A n c f hf1 hf2 ls vs W0 V.heap.size HB0.out.size (boxBel HX4.out HB0.out) (boxBel HX5.out HB0.out) (by rw [HSV.out]; omega) (by rw [HSV.out]; omega) w HBV.out.size (HBV.out.trans (HB0.out.mono HBV.out.size)) HB.out)
    (fun q hq => by rw [HS0.out]; exact Nat.lt_succ_of_lt hq) (Below.refl _ _) (fun _ => rfl) (fun _ _ _ _ h _ _ => h) (OvI V) (OvX V lv 0) (ovI_own V _ HB0.out.size) (fun ch => ovX_own V lv 0 _ HB0.out.size ch)
    HI0.out
    (fun y => { tmps := #[.slice A n c, .int .i64 f, .int .i64 lv, undef, undef, .pointer (some ⟨w.heap.size, 0, none⟩), .pointer (some ⟨w.heap.size + 1, 0, none⟩), .pointer (some ⟨w.heap.size + 1 + 1, 0, none⟩), .pointer (some ⟨w.heap.size + 1 + 1 + 1, 0, none⟩),
      .func (.func 54) #[] #[.pointer (some ⟨w.heap.size + 1 + 1 + 1 + 1 + 1, 0, none⟩), .pointer (some ⟨w.heap.size + 1 + 1 + 1 + 1, 0, none⟩)],
      .pointer (some ⟨V.heap.size, 0, none⟩), .int .i64 y.pos, .slice y.ad y.b.length y.c, .tuple #[.slice A2 nk ck, .int .i64 (k : Nat)], .slice A n c, .int .i64 f, .tuple #[.slice A2 nk ck, .int .i64 (k : Nat)], .slice A2 nk ck, .int .i64 (k : Nat), .slice A n c, .int .i64 f,
      .func (.func 54) #[] #[.pointer (some ⟨w.heap.size + 1 + 1 + 1 + 1 + 1, 0, none⟩), .pointer (some ⟨w.heap.size + 1 + 1 + 1 + 1, 0, none⟩)],
      .func (.func 54) #[] #[.pointer (some ⟨w.heap.size + 1 + 1 + 1 + 1 + 1, 0, none⟩), .pointer (some ⟨w.heap.size + 1 + 1 + 1 + 1, 0, none⟩)], .bool false,
      .func (.func 54) #[] #[.pointer (some ⟨w.heap.size + 1 + 1 + 1 + 1 + 1, 0, none⟩), .pointer (some ⟨w.heap.size + 1 + 1 + 1 + 1, 0, none⟩)], .int .i64 y.pos, .slice y.ad y.b.length y.c,
      undef, undef, undef, undef, undef, undef, undef, undef, undef, undef, undef, undef, undef, undef, undef, undef, undef, undef, undef, undef, undef, undef, undef, undef, undef, undef, undef, undef, undef, undef, undef, undef, undef, undef, undef], defers := [] }) ?assign ?body ?done ?stop
  case assign =>
    intro lp y W K hK
    dsimp only [Rp.enc]
    gi_wp2
    exact hK
  case body =>
    rintro lp pre y W hi hv hle
    rw [HK.out] at hv
    have hV := HSV.out
    have hbw : Below w.heap.size w W := HBV.out.trans (hi.bel.mono HBV.out.size)
    have wl : Boxed W w.heap.size 3 (.int .i64 lv) := (hi.bel.block _ (by omega)).trans HX0.out
    have wm : Boxed W (w.heap.size + 1 + 1) 23 (.slice A2 nk ck) := (hi.bel.block _ (by omega)).trans HX2.out
    have wa : Boxed W (w.heap.size + 1 + 1 + 1) 3 (.int .i64 (k : Nat)) := (hi.bel.block _ (by omega)).trans HX3.out
    have wbb := HB.out.below hbw
    have hc0 := wl.cell
    have hc2 := wm.cell
    have hc3 := wa.cell
    have hc4 := hi.n.cell
    have hf4 := hi.n.frozen
    have hget := hv.get
    rw [List.getElem?_drop] at hget
    obtain ⟨Ai, ci, v1, r1, _⟩ := wbb.row _ _ hget
    have hpl : k + pre.length < n := by have := (List.getElem?_eq_some_iff.1 hget).1; have := HL.out; omega
    have hnk3 : n - k = nk := HNK.out
    have hpl2 : pre.length < nk := by omega
    have hrd2 := wbb.rd.cut (k := k) (m := n) (x := c) hs (Nat.le_refl _) hc (Nat.le_refl _)
    have hA2 : (if c = k then A else A.map (·.add (k * 1))) = A2 := HA2.out
    rw [hA2, HNK.out, HCK.out] at hrd2
    obtain ⟨ad, rfl, _⟩ := hrd2.addr (by omega) (by omega)
    have hcl : W.cell? (ad.add pre.length) = some (.slice Ai y.b.length ci) := hrd2.get (by
      rw [List.getElem?_take_of_lt (by omega), Nat.mul_one, List.getElem?_drop]; exact v1)
    have hs1 := fun j => run_str (P := Try.prog) (W.drewN j) 22 5 9 Try.underlying22 Try.underlying5 Try.underlying9 (r1.drewN j)
    have hs2 := fun j => run_str (P := Try.prog) (W.drewN j) 22 5 9 Try.underlying22 Try.underlying5 Try.underlying9 ((hv.rd.below hbw).drewN j)
    have hpos : (y.pos : Int) = (k : Int) + (pre.length : Int) := by rw [hv.pos]; omega
    obtain ⟨yp, hyp⟩ : ∃ yp : Int, (y.pos : Int) = yp := ⟨_, rfl⟩
    have hw1 : wrap64 yp = yp := IntWalk.wrap64_in yp ⟨by omega, by omega⟩
    have hw2 : (k : Int) + (pre.length : Int) = yp := by rw [← hyp, hpos]
    have HI := Lib.hid hi
    have hmix : Try.prog.follows .mixedOrders = true := by kernel_rfl
    rw [hyp]
    have t1 : decide (nk ≤ pre.length) = false := by rw [decide_eq_false_iff_not]; omega
    have HPL := Lib.hid hpl2
    have HHL := Lib.hid hpl
    have hle3 : pre.length < 9223372036854775807 := by omega
    clear hi hv hget v1 r1 hrd2 hA2 wbb hnk3 hpl hpos hyp hV wl wm wa hbw
    gi_wp2_with fail
    refine wpIn_region_quiet_round (F := Fence.wide) rfl (by kernel_rfl) (by kernel_rfl) rfl ?_
    repeat (gi_big_quiet_step (fail))
    refine wpQuietIn_nil ?_
    intro _ hw'
    obtain ⟨nq, hw''⟩ := hw'
    subst hw''
    have HI1 := Lib.hid (HI.out.drewN nq)
    have hK1 : KeepsFrom W0.heap.size W (W.drewN nq) := ⟨Nat.le_refl _, fun _ _ _ h _ => h⟩
    have hK2 : Keeps (· < V.heap.size) W (W.drewN nq) := ⟨rfl, rfl, rfl, Nat.le_refl _, fun _ _ => rfl⟩
    have hsz1 : (W.drewN nq).heap.size = W.heap.size := rfl
    have zs : (W.drewN nq).cell? ⟨w.heap.size, 0, none⟩ = some (.int .i64 lv) := hc0
    generalize W.drewN nq = W1 at zs HI1 hK1 hK2 hsz1 ⊢
    have HK1 := Lib.hid hK1
    have HK2 := Lib.hid hK2
    have HS1 := Lib.hid hsz1
    clear hK1 hK2 hsz1 hc0 hc2 hc3 hc4 hf4 hcl hs1 hs2 t1 hw1 hw2
    have hc4 := HI1.out.n.cell
    have hf4 := HI1.out.n.frozen
    have hne : V.heap.size ≠ w.heap.size := by have := HSV.out; omega
    by_cases hst : (pre.length : Int) + 1 = lv
    · have hq : ((pre.length : Int) + 1 == lv) = true := by simp [hst]
      have HST := Lib.hid hst
      clear hst
      gi_wp2_with fail
      obtain ⟨k1, -, k3⟩ := ov_step (y := y) HI1.out (p := (pre.length : Int) + 1) (by simp) W0.heap.size
      exact ⟨⟨Nat.le_trans (by rw [HS1.out]; exact Nat.le_refl _) k1.size, fun k o hk h1 h2 => k1.same k o hk (HK1.out.same k o hk h1 h2) h2⟩, rfl, by simpa using HST.out, k3⟩
    · have hq : ((pre.length : Int) + 1 == lv) = false := by simp [hst]
      clear hst
      gi_wp2_with fail
      obtain ⟨k1, k2, k3⟩ := ov_step (y := y) HI1.out (p := (pre.length : Int) + 1) (by simp) W0.heap.size
      exact ⟨⟨Nat.le_trans (by rw [HS1.out]; exact Nat.le_refl _) k1.size, fun k o hk h1 h2 => k1.same k o hk (HK1.out.same k o hk h1 h2) h2⟩, HK2.out.trans k2, k3⟩
  case done =>
    rintro D xs W hD hS hi hK
    have hV := HSV.out
    have hD2 := HS0.out
    rw [HK.out] at hS
    have hbW : Below w.heap.size w W := HBV.out.trans (hi.bel.mono HBV.out.size)
    have wr : Boxed W (w.heap.size + 1) 4 (.bool false) := (hi.bel.block _ (by omega)).trans HX1.out
    have wm : Boxed W (w.heap.size + 1 + 1) 23 (.slice A2 nk ck) := (hi.bel.block _ (by omega)).trans HX2.out
    have wl : Boxed W w.heap.size 3 (.int .i64 lv) := (hi.bel.block _ (by omega)).trans HX0.out
    have hc0 := wl.cell
    have hc1 := wr.cell
    have hf1 := wr.frozen
    have hc2 := wm.cell
    have hlen : xs.length = nk := by
      have h1 := congrArg List.length hS
      have h2 := HL.out
      have h3 := HNK.out
      simp [rb] at h1
      omega
    have hc4 : W.cell? ⟨V.heap.size, 0, none⟩ = some (.int .i64 (nk : Nat)) := by rw [← hlen]; exact hi.n.cell
    have hy := (wr.set (.bool true)).kept (grownBy_putObj' _ D (.deferred none)) (fun e => by injection e with e; omega)
    have HY := Lib.hid hy
    have hK6 : (W.setCell ⟨w.heap.size + 1, 0, none⟩ (.bool true)).heap[D]? = some (.deferred (some [])) := (KeepsOthers.setCell W _ _).same D _ hK rfl
    have HK6 := Lib.hid hK6
    have HB7 := Lib.hid (hbW.setCell (p := ⟨w.heap.size + 1, 0, none⟩) (Nat.le_succ _) (.bool true))
    clear hi wr wm wl hbW hy hK6 hS hlen hV hD2
    gi_wp2_with fail
    refine ⟨by simp, .inl ⟨_, _, rfl, run_takeDeferred HK6.out, ?_⟩⟩
    have q1 := HY.out.cell
    refine ⟨.bool true, ?_, rfl, HB7.out.grown (grownBy_putObj' _ D (.deferred none)) HB7.out.size (fun k e => by cases e; have := HS0.out; have := HSV.out; omega)⟩
    clear hc0 hc1 hf1 hc2 hc4
    generalize (W.setCell ⟨w.heap.size + 1, 0, none⟩ (.bool true)).putObj D (.deferred none) = W9 at q1 ⊢
    simp [results, Try.results23, go_sem, q1]
  case stop =>
    rintro D ch pre W hD _ hx hK
    obtain rfl := hx.jump
    have hhere := hx.here
    have hi := hx.i
    have hV := HSV.out
    have hD2 := HS0.out
    have hbW : Below w.heap.size w W := HBV.out.trans (hi.bel.mono HBV.out.size)
    have wr : Boxed W (w.heap.size + 1) 4 (.bool false) := (hi.bel.block _ (by omega)).trans HX1.out
    have wm : Boxed W (w.heap.size + 1 + 1) 23 (.slice A2 nk ck) := (hi.bel.block _ (by omega)).trans HX2.out
    have wl : Boxed W w.heap.size 3 (.int .i64 lv) := (hi.bel.block _ (by omega)).trans HX0.out
    have hc0 : W.cell? ⟨w.heap.size, 0, none⟩ = some (.int .i64 (pre.length : Nat)) := by rw [hhere]; exact wl.cell
    have hc1 := wr.cell
    have hf1 := wr.frozen
    have hc2 := wm.cell
    have hc4 := hi.n.cell
    have hy := (wr.set (.bool true)).kept (grownBy_putObj' _ D (.deferred none)) (fun e => by injection e with e; omega)
    have HY := Lib.hid hy
    have hK6 : (W.setCell ⟨w.heap.size + 1, 0, none⟩ (.bool true)).heap[D]? = some (.deferred (some [])) := (KeepsOthers.setCell W _ _).same D _ hK rfl
    have HK6 := Lib.hid hK6
    have HB7 := Lib.hid (hbW.setCell (p := ⟨w.heap.size + 1, 0, none⟩) (Nat.le_succ _) (.bool true))
    clear hi wr wm wl hbW hy hK6 hhere hV hD2 hx
    by_cases hlen : pre.length = nk
    · have hq : ((pre.length : Int) == (nk : Int)) = true := by simp [hlen]
      have hq2 : (pre.length == nk) = true := by simp [hlen]
      clear hlen
      gi_wp2_with fail
      refine ⟨by simp, .inl ⟨_, _, rfl, run_takeDeferred HK6.out, ?_⟩⟩
      have q1 := HY.out.cell
      refine ⟨.bool true, ?_, rfl, HB7.out.grown (grownBy_putObj' _ D (.deferred none)) HB7.out.size (fun k e => by cases e; have := HS0.out; have := HSV.out; omega)⟩
      clear hc0 hc1 hf1 hc2 hc4
      generalize (W.setCell ⟨w.heap.size + 1, 0, none⟩ (.bool true)).putObj D (.deferred none) = W9 at q1 ⊢
      simp [results, Try.results23, go_sem, q1]
    · have hq : ((pre.length : Int) == (nk : Int)) = false := by simp; omega
      have hq2 : (pre.length == nk) = false := by simpa using hlen
      clear hlen
      gi_wp2_with fail
      refine ⟨by simp, .inl ⟨_, _, rfl, run_takeDeferred HK6.out, ?_⟩⟩
      have q1 := HY.out.cell
      refine ⟨.bool true, ?_, rfl, HB7.out.grown (grownBy_putObj' _ D (.deferred none)) HB7.out.size (fun k e => by cases e; have := HS0.out; have := HSV.out; omega)⟩
      clear hc0 hc1 hf1 hc2 hc4
      generalize (W.setCell ⟨w.heap.size + 1, 0, none⟩ (.bool true)).putObj D (.deferred none) = W9 at q1 ⊢
      simp [results, Try.results23, go_sem, q1]
end Go.Proofs.Ytckofpdhcpabnaa
