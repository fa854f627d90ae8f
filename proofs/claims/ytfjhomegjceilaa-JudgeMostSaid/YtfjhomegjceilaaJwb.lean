/- hoardinglaw31.wakes: judge.steps over the work's traces. -/
import Derived.Test.YtfjhomegjceilaaJwa
import Derived.Sort.QuietIn
namespace Go.Proofs.Ytfjhomegjceilaa
open Go.RowKit Go.Maps
set_option linter.unusedVariables false
set_option linter.unusedSimpArgs false
/-- block q begins with the cells cs -/
structure Htr (w : World) (q : Nat) (cs : List Value) : Prop where
  cell : ∀ (i : Nat) (v : Value), cs[i]? = some v → w.cell? ⟨q, i, none⟩ = some v
  lt : q < w.heap.size
theorem Htr.keep {w w' : World} {q : Nat} {cs : List Value} (h : Htr w q cs) (hs : w.heap.size ≤ w'.heap.size) (hb : w'.heap[q]? = w.heap[q]?) : Htr w' q cs :=
  ⟨fun i v hv => (World.cell?_of_block (a := ⟨q, i, none⟩) hb).trans (h.cell i v hv), Nat.lt_of_lt_of_le h.lt hs⟩
theorem Htr.below {w w' : World} {q : Nat} {cs : List Value} (h : Htr w q cs) (hb : Below w.heap.size w w') : Htr w' q cs := h.keep hb.size (hb.block _ h.lt)
def tcEnc (x : Tc) : Array Value := #[.agg #[.int .i64 x.tok, .bool x.fin, .bool x.ok]]
theorem steps_any (p : Addr) (A : Option Addr) (n c : Nat) (w : World) : Calls Try.prog 13 #[.pointer (some p), .slice A n c] w fun e w' => e = .returned (.func (.func 26) #[] #[.pointer (some ⟨w.heap.size + 1, 0, none⟩), .pointer (some ⟨w.heap.size, 0, none⟩)]) ∧ w' = (w.alloc (.cells #[.pointer (some p)] 55)).alloc (.cells #[.slice A n c] 22) := by
  go_enter Try.func13, Try.ntmps13
  go_wp2_with fail
  go_ret
  exact ⟨rfl, rfl⟩
/-- what the steps lean on -/
structure Sb (w : World) (qtb qwb q0 qtr qc c qt n : Nat) (cs : List Value) : Prop where
  tb : Boxed w qtb 22 (.slice (some ⟨qtr, 0, none⟩) n n)
  wb : Boxed w qwb 55 (.pointer (some ⟨q0, 0, none⟩))
  wk : Blk w q0 #[.int .i8 0, .int .i64 2, .slice none 0 0, .slice none 0 0, .slice none 0 0, .slice none 0 0, .string ⟨#[]⟩, .slice none 0 0, .int .i64 0, .int .i8 0, .slice none 0 0, .slice none 0 0, .string ⟨#[]⟩, .slice none 0 0, .slice (some ⟨qc, 0, none⟩) 2 c, .slice (some ⟨qt, 0, none⟩) 2 2, .int .i8 0, .int .i8 0] 44
  tr : Htr w qtr cs
theorem Sb.keep {w w' : World} {qtb qwb q0 qtr qc c qt n : Nat} {cs : List Value} (h : Sb w qtb qwb q0 qtr qc c qt n cs) (hs : w.heap.size ≤ w'.heap.size) (hb : ∀ k, (k = qtb ∨ k = qwb ∨ k = q0 ∨ k = qtr) → w'.heap[k]? = w.heap[k]?) : Sb w' qtb qwb q0 qtr qc c qt n cs :=
  ⟨(hb _ (.inl rfl)).trans h.tb, (hb _ (.inr (.inl rfl))).trans h.wb, (hb _ (.inr (.inr (.inl rfl)))).trans h.wk, h.tr.keep hs (hb _ (.inr (.inr (.inr rfl))))⟩
theorem Sb.below {w w' : World} {qtb qwb q0 qtr qc c qt n : Nat} {cs : List Value} (h : Sb w qtb qwb q0 qtr qc c qt n cs) (hb : Below w.heap.size w w') : Sb w' qtb qwb q0 qtr qc c qt n cs :=
  h.keep hb.size (fun k hk => hb.block k (by rcases hk with rfl | rfl | rfl | rfl <;> first | exact h.tb.lt | exact h.wb.lt | exact h.wk.lt | exact h.tr.lt))
def tr3 : List Tc := [⟨1, false, false⟩, ⟨1, true, true⟩, ⟨2, false, false⟩]
def Vt3 (pre : List Tc) (x : Tc) : Prop := (pre = [] ∧ x = ⟨1, false, false⟩) ∨ (pre = [⟨1, false, false⟩] ∧ x = ⟨1, true, true⟩) ∨ (pre = [⟨1, false, false⟩, ⟨1, true, true⟩] ∧ x = ⟨2, false, false⟩)
set_option maxRecDepth 100000 in
set_option maxHeartbeats 16000000 in
theorem steps3_iter (w : World) (qtb qwb q0 qtr qc c qt : Nat) (h : Sb w qtb qwb q0 qtr qc c qt 3 [.int .i64 1, .bool false, .bool false, .int .i64 1, .bool true, .bool true, .int .i64 2, .bool false, .bool false]) :
    Iter Try.prog 26 #[.pointer (some ⟨qtb, 0, none⟩), .pointer (some ⟨qwb, 0, none⟩)] tcEnc (fun k => k = qtb ∨ k = qwb ∨ k = q0 ∨ k = qtr) (fun pre x _ => Vt3 pre x) (fun xs => xs = tr3) (fun _ => True) w := by
  intro m lp J Jx W hW hJ hJx hY h0
  have h' := h.below hW
  have tb := h'.tb.cell
  have H0 := Lib.hid h'
  have HY := Lib.hid hY
  have HJ := Lib.hid hJ
  have HJ0 := Lib.hid h0
  clear hY hJ h0 hW hJx h h'
  refine callsIn_of_wp Try.func26 rfl trivial ?_
  simp only [Try.ntmps26, List.size_toArray, List.length_cons, List.length_nil, Nat.reduceAdd, Nat.reduceSub, Array.replicate_succ, Array.replicate_zero, List.push_toArray, List.append_toArray, List.nil_append, List.cons_append]
  gi_wp2_with fail
  clear tb
  refine wpIn_loop_rounds 4 ?_
  have t0 := H0.out.tr.cell 0 _ rfl
  have t1 := H0.out.tr.cell 1 _ rfl
  have t2 := H0.out.tr.cell 2 _ rfl
  rw [roundsIn_succ]
  gi_wp2_with fail
  obtain ⟨X, hX⟩ : ∃ X, X = W.alloc (.cells #[.int .i64 1, .bool false, .bool false] 26) := ⟨_, rfl⟩
  have hb : Below W.heap.size W X := by rw [hX]; exact (Below.refl _ _).alloc (Nat.le_refl _) _
  have hn : Blk X W.heap.size #[.int .i64 1, .bool false, .bool false] 26 := by rw [hX]; exact Blk.new _ _ _
  rw [← hX]
  have hx := H0.out.below hb
  have wb := hx.wb.cell
  have k8 := hx.wk.cell 8 rfl
  have k15 := hx.wk.cell 15 rfl
  have n0 := hn.cell 0 rfl
  have n1 := hn.cell 1 rfl
  have n2 := hn.cell 2 rfl
  have z0 := hn.frozen 0
  have HX := Lib.hid hx
  have HBX := Lib.hid hb
  have HNX := Lib.hid hn
  clear hX hb hn hx t0 t1 t2
  gi_quiet (fail)
  gi_wp2_with fail
  rename Nat => nqa
  gi_quiet (fail)
  gi_wp2_with fail
  obtain ⟨Z, hZ⟩ : ∃ Z, Z = (X.drewN (nqa + nq)).setCell ⟨W.heap.size, 0, none⟩ (.int .i64 1) := ⟨_, rfl⟩
  have hbz : Below W.heap.size W Z := by
    rw [hZ]
    exact (HBX.out.trans (show Below W.heap.size X (X.drewN (nqa + nq)) from ⟨rfl, rfl, rfl, Nat.le_refl _, fun _ _ => rfl⟩)).setCell (p := ⟨W.heap.size, 0, none⟩) (Nat.le_refl _) _
  have hj := HJ.out [] W Z HJ0.out hbz
  have HSZ := Lib.hid (H0.out.below hbz)
  obtain ⟨fn, tmps, assign, body, hy, hR⟩ := HY.out [] ⟨1, false, false⟩ Z hj (by unfold Vt3; simp)
  dsimp only [tcEnc] at hy
  have HR := Lib.hid hR
  rw [← hZ]
  clear hZ hbz hj hR wb k8 k15 n0 n1 n2 z0 HX HBX HNX
  rw [hy]
  gi_wp2_with fail
  refine ⟨(fun h => by cases h), HR.out.mono ?_⟩
  rintro e w0 (⟨rfl, hj3, hk3⟩ | ⟨rfl, hjx3⟩)
  rotate_left
  · gi_wp2
    refine bodyPost_ret (results_none rfl _ _ _) rfl ?_
    exact ⟨⟨_, rfl⟩, .inr ⟨_, trivial, hjx3⟩⟩
  have HJ1 := Lib.hid hj3
  simp only [List.nil_append, List.cons_append] at HJ1
  have H1 := Lib.hid (HSZ.out.keep hk3.size (fun k hk => hk3.block k hk))
  clear hj3 hk3 HR hy HSZ
  gi_wp2_with fail
  have t0 := H1.out.tr.cell 3 _ rfl
  have t1 := H1.out.tr.cell 4 _ rfl
  have t2 := H1.out.tr.cell 5 _ rfl
  rw [roundsIn_succ]
  gi_wp2_with fail
  obtain ⟨X, hX⟩ : ∃ X, X = w0.alloc (.cells #[.int .i64 1, .bool true, .bool true] 26) := ⟨_, rfl⟩
  have hb : Below w0.heap.size w0 X := by rw [hX]; exact (Below.refl _ _).alloc (Nat.le_refl _) _
  have hn : Blk X w0.heap.size #[.int .i64 1, .bool true, .bool true] 26 := by rw [hX]; exact Blk.new _ _ _
  rw [← hX]
  have hx := H1.out.below hb
  have wb := hx.wb.cell
  have k8 := hx.wk.cell 8 rfl
  have k15 := hx.wk.cell 15 rfl
  have n0 := hn.cell 0 rfl
  have n1 := hn.cell 1 rfl
  have n2 := hn.cell 2 rfl
  have z0 := hn.frozen 0
  have HX := Lib.hid hx
  have HBX := Lib.hid hb
  have HNX := Lib.hid hn
  clear hX hb hn hx t0 t1 t2
  gi_quiet (fail)
  gi_wp2_with fail
  rename Nat => nqa
  gi_quiet (fail)
  gi_wp2_with fail
  obtain ⟨Z, hZ⟩ : ∃ Z, Z = (X.drewN (nqa + nq)).setCell ⟨w0.heap.size, 0, none⟩ (.int .i64 1) := ⟨_, rfl⟩
  have hbz : Below w0.heap.size w0 Z := by
    rw [hZ]
    exact (HBX.out.trans (show Below w0.heap.size X (X.drewN (nqa + nq)) from ⟨rfl, rfl, rfl, Nat.le_refl _, fun _ _ => rfl⟩)).setCell (p := ⟨w0.heap.size, 0, none⟩) (Nat.le_refl _) _
  have hj := HJ.out [⟨1, false, false⟩] w0 Z HJ1.out hbz
  have HSZ := Lib.hid (H1.out.below hbz)
  obtain ⟨fn, tmps, assign, body, hy, hR⟩ := HY.out [⟨1, false, false⟩] ⟨1, true, true⟩ Z hj (by unfold Vt3; simp)
  dsimp only [tcEnc] at hy
  have HR := Lib.hid hR
  rw [← hZ]
  clear hZ hbz hj hR wb k8 k15 n0 n1 n2 z0 HX HBX HNX
  rw [hy]
  gi_wp2_with fail
  refine ⟨(fun h => by cases h), HR.out.mono ?_⟩
  rintro e w1 (⟨rfl, hj3, hk3⟩ | ⟨rfl, hjx3⟩)
  rotate_left
  · gi_wp2
    refine bodyPost_ret (results_none rfl _ _ _) rfl ?_
    exact ⟨⟨_, rfl⟩, .inr ⟨_, trivial, hjx3⟩⟩
  have HJ2 := Lib.hid hj3
  simp only [List.nil_append, List.cons_append] at HJ2
  have H2 := Lib.hid (HSZ.out.keep hk3.size (fun k hk => hk3.block k hk))
  clear hj3 hk3 HR hy HSZ
  gi_wp2_with fail
  have t0 := H2.out.tr.cell 6 _ rfl
  have t1 := H2.out.tr.cell 7 _ rfl
  have t2 := H2.out.tr.cell 8 _ rfl
  rw [roundsIn_succ]
  gi_wp2_with fail
  obtain ⟨X, hX⟩ : ∃ X, X = w1.alloc (.cells #[.int .i64 2, .bool false, .bool false] 26) := ⟨_, rfl⟩
  have hb : Below w1.heap.size w1 X := by rw [hX]; exact (Below.refl _ _).alloc (Nat.le_refl _) _
  have hn : Blk X w1.heap.size #[.int .i64 2, .bool false, .bool false] 26 := by rw [hX]; exact Blk.new _ _ _
  rw [← hX]
  have hx := H2.out.below hb
  have wb := hx.wb.cell
  have k8 := hx.wk.cell 8 rfl
  have k15 := hx.wk.cell 15 rfl
  have n0 := hn.cell 0 rfl
  have n1 := hn.cell 1 rfl
  have n2 := hn.cell 2 rfl
  have z0 := hn.frozen 0
  have HX := Lib.hid hx
  have HBX := Lib.hid hb
  have HNX := Lib.hid hn
  clear hX hb hn hx t0 t1 t2
  gi_quiet (fail)
  gi_wp2_with fail
  rename Nat => nqa
  gi_quiet (fail)
  gi_wp2_with fail
  obtain ⟨Z, hZ⟩ : ∃ Z, Z = (X.drewN (nqa + nq)).setCell ⟨w1.heap.size, 0, none⟩ (.int .i64 2) := ⟨_, rfl⟩
  have hbz : Below w1.heap.size w1 Z := by
    rw [hZ]
    exact (HBX.out.trans (show Below w1.heap.size X (X.drewN (nqa + nq)) from ⟨rfl, rfl, rfl, Nat.le_refl _, fun _ _ => rfl⟩)).setCell (p := ⟨w1.heap.size, 0, none⟩) (Nat.le_refl _) _
  have hj := HJ.out [⟨1, false, false⟩, ⟨1, true, true⟩] w1 Z HJ2.out hbz
  have HSZ := Lib.hid (H2.out.below hbz)
  obtain ⟨fn, tmps, assign, body, hy, hR⟩ := HY.out [⟨1, false, false⟩, ⟨1, true, true⟩] ⟨2, false, false⟩ Z hj (by unfold Vt3; simp)
  dsimp only [tcEnc] at hy
  have HR := Lib.hid hR
  rw [← hZ]
  clear hZ hbz hj hR wb k8 k15 n0 n1 n2 z0 HX HBX HNX
  rw [hy]
  gi_wp2_with fail
  refine ⟨(fun h => by cases h), HR.out.mono ?_⟩
  rintro e w2 (⟨rfl, hj3, hk3⟩ | ⟨rfl, hjx3⟩)
  rotate_left
  · gi_wp2
    refine bodyPost_ret (results_none rfl _ _ _) rfl ?_
    exact ⟨⟨_, rfl⟩, .inr ⟨_, trivial, hjx3⟩⟩
  have HJ3 := Lib.hid hj3
  simp only [List.nil_append, List.cons_append] at HJ3
  have H3 := Lib.hid (HSZ.out.keep hk3.size (fun k hk => hk3.block k hk))
  clear hj3 hk3 HR hy HSZ
  gi_wp2_with fail
  rw [roundsIn_succ]
  gi_wp2_with fail
  go_end0
  exact ⟨⟨_, rfl⟩, .inl ⟨_, rfl, HJ3.out⟩⟩
def tr2 : List Tc := [⟨1, false, false⟩, ⟨2, false, false⟩]
def Vt2 (pre : List Tc) (x : Tc) : Prop := (pre = [] ∧ x = ⟨1, false, false⟩) ∨ (pre = [⟨1, false, false⟩] ∧ x = ⟨2, false, false⟩)
set_option maxRecDepth 100000 in
set_option maxHeartbeats 16000000 in
theorem steps2_iter (w : World) (qtb qwb q0 qtr qc c qt : Nat) (h : Sb w qtb qwb q0 qtr qc c qt 2 [.int .i64 1, .bool false, .bool false, .int .i64 2, .bool false, .bool false]) :
    Iter Try.prog 26 #[.pointer (some ⟨qtb, 0, none⟩), .pointer (some ⟨qwb, 0, none⟩)] tcEnc (fun k => k = qtb ∨ k = qwb ∨ k = q0 ∨ k = qtr) (fun pre x _ => Vt2 pre x) (fun xs => xs = tr2) (fun _ => True) w := by
  intro m lp J Jx W hW hJ hJx hY h0
  have h' := h.below hW
  have tb := h'.tb.cell
  have H0 := Lib.hid h'
  have HY := Lib.hid hY
  have HJ := Lib.hid hJ
  have HJ0 := Lib.hid h0
  clear hY hJ h0 hW hJx h h'
  refine callsIn_of_wp Try.func26 rfl trivial ?_
  simp only [Try.ntmps26, List.size_toArray, List.length_cons, List.length_nil, Nat.reduceAdd, Nat.reduceSub, Array.replicate_succ, Array.replicate_zero, List.push_toArray, List.append_toArray, List.nil_append, List.cons_append]
  gi_wp2_with fail
  clear tb
  refine wpIn_loop_rounds 3 ?_
  have t0 := H0.out.tr.cell 0 _ rfl
  have t1 := H0.out.tr.cell 1 _ rfl
  have t2 := H0.out.tr.cell 2 _ rfl
  rw [roundsIn_succ]
  gi_wp2_with fail
  obtain ⟨X, hX⟩ : ∃ X, X = W.alloc (.cells #[.int .i64 1, .bool false, .bool false] 26) := ⟨_, rfl⟩
  have hb : Below W.heap.size W X := by rw [hX]; exact (Below.refl _ _).alloc (Nat.le_refl _) _
  have hn : Blk X W.heap.size #[.int .i64 1, .bool false, .bool false] 26 := by rw [hX]; exact Blk.new _ _ _
  rw [← hX]
  have hx := H0.out.below hb
  have wb := hx.wb.cell
  have k8 := hx.wk.cell 8 rfl
  have k15 := hx.wk.cell 15 rfl
  have n0 := hn.cell 0 rfl
  have n1 := hn.cell 1 rfl
  have n2 := hn.cell 2 rfl
  have z0 := hn.frozen 0
  have HX := Lib.hid hx
  have HBX := Lib.hid hb
  have HNX := Lib.hid hn
  clear hX hb hn hx t0 t1 t2
  gi_quiet (fail)
  gi_wp2_with fail
  rename Nat => nqa
  gi_quiet (fail)
  gi_wp2_with fail
  obtain ⟨Z, hZ⟩ : ∃ Z, Z = (X.drewN (nqa + nq)).setCell ⟨W.heap.size, 0, none⟩ (.int .i64 1) := ⟨_, rfl⟩
  have hbz : Below W.heap.size W Z := by
    rw [hZ]
    exact (HBX.out.trans (show Below W.heap.size X (X.drewN (nqa + nq)) from ⟨rfl, rfl, rfl, Nat.le_refl _, fun _ _ => rfl⟩)).setCell (p := ⟨W.heap.size, 0, none⟩) (Nat.le_refl _) _
  have hj := HJ.out [] W Z HJ0.out hbz
  have HSZ := Lib.hid (H0.out.below hbz)
  obtain ⟨fn, tmps, assign, body, hy, hR⟩ := HY.out [] ⟨1, false, false⟩ Z hj (by unfold Vt2; simp)
  dsimp only [tcEnc] at hy
  have HR := Lib.hid hR
  rw [← hZ]
  clear hZ hbz hj hR wb k8 k15 n0 n1 n2 z0 HX HBX HNX
  rw [hy]
  gi_wp2_with fail
  refine ⟨(fun h => by cases h), HR.out.mono ?_⟩
  rintro e w0 (⟨rfl, hj3, hk3⟩ | ⟨rfl, hjx3⟩)
  rotate_left
  · gi_wp2
    refine bodyPost_ret (results_none rfl _ _ _) rfl ?_
    exact ⟨⟨_, rfl⟩, .inr ⟨_, trivial, hjx3⟩⟩
  have HJ1 := Lib.hid hj3
  simp only [List.nil_append, List.cons_append] at HJ1
  have H1 := Lib.hid (HSZ.out.keep hk3.size (fun k hk => hk3.block k hk))
  clear hj3 hk3 HR hy HSZ
  gi_wp2_with fail
  have t0 := H1.out.tr.cell 3 _ rfl
  have t1 := H1.out.tr.cell 4 _ rfl
  have t2 := H1.out.tr.cell 5 _ rfl
  rw [roundsIn_succ]
  gi_wp2_with fail
  obtain ⟨X, hX⟩ : ∃ X, X = w0.alloc (.cells #[.int .i64 2, .bool false, .bool false] 26) := ⟨_, rfl⟩
  have hb : Below w0.heap.size w0 X := by rw [hX]; exact (Below.refl _ _).alloc (Nat.le_refl _) _
  have hn : Blk X w0.heap.size #[.int .i64 2, .bool false, .bool false] 26 := by rw [hX]; exact Blk.new _ _ _
  rw [← hX]
  have hx := H1.out.below hb
  have wb := hx.wb.cell
  have k8 := hx.wk.cell 8 rfl
  have k15 := hx.wk.cell 15 rfl
  have n0 := hn.cell 0 rfl
  have n1 := hn.cell 1 rfl
  have n2 := hn.cell 2 rfl
  have z0 := hn.frozen 0
  have HX := Lib.hid hx
  have HBX := Lib.hid hb
  have HNX := Lib.hid hn
  clear hX hb hn hx t0 t1 t2
  gi_quiet (fail)
  gi_wp2_with fail
  rename Nat => nqa
  gi_quiet (fail)
  gi_wp2_with fail
  obtain ⟨Z, hZ⟩ : ∃ Z, Z = (X.drewN (nqa + nq)).setCell ⟨w0.heap.size, 0, none⟩ (.int .i64 2) := ⟨_, rfl⟩
  have hbz : Below w0.heap.size w0 Z := by
    rw [hZ]
    exact (HBX.out.trans (show Below w0.heap.size X (X.drewN (nqa + nq)) from ⟨rfl, rfl, rfl, Nat.le_refl _, fun _ _ => rfl⟩)).setCell (p := ⟨w0.heap.size, 0, none⟩) (Nat.le_refl _) _
  have hj := HJ.out [⟨1, false, false⟩] w0 Z HJ1.out hbz
  have HSZ := Lib.hid (H1.out.below hbz)
  obtain ⟨fn, tmps, assign, body, hy, hR⟩ := HY.out [⟨1, false, false⟩] ⟨2, false, false⟩ Z hj (by unfold Vt2; simp)
  dsimp only [tcEnc] at hy
  have HR := Lib.hid hR
  rw [← hZ]
  clear hZ hbz hj hR wb k8 k15 n0 n1 n2 z0 HX HBX HNX
  rw [hy]
  gi_wp2_with fail
  refine ⟨(fun h => by cases h), HR.out.mono ?_⟩
  rintro e w1 (⟨rfl, hj3, hk3⟩ | ⟨rfl, hjx3⟩)
  rotate_left
  · gi_wp2
    refine bodyPost_ret (results_none rfl _ _ _) rfl ?_
    exact ⟨⟨_, rfl⟩, .inr ⟨_, trivial, hjx3⟩⟩
  have HJ2 := Lib.hid hj3
  simp only [List.nil_append, List.cons_append] at HJ2
  have H2 := Lib.hid (HSZ.out.keep hk3.size (fun k hk => hk3.block k hk))
  clear hj3 hk3 HR hy HSZ
  gi_wp2_with fail
  rw [roundsIn_succ]
  gi_wp2_with fail
  go_end0
  exact ⟨⟨_, rfl⟩, .inl ⟨_, rfl, HJ2.out⟩⟩
end Go.Proofs.Ytfjhomegjceilaa
