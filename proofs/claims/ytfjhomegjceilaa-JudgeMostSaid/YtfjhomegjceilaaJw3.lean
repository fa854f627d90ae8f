/- hoardinglaw31.wakes: the work's changes; slices.Clone and slices.Backward of them; a map[string]int. -/
import Derived.Test.YtfjhomegjceilaaJw2
import Derived.Test.YtfjhomegjceilaaRangeA
import Derived.Maps.OwnIn
namespace Go.Proofs.Ytfjhomegjceilaa
open Go.RowKit
open Go.Maps (Keyed)
open Go.WideMaps (keyOf_string_mk)
set_option linter.unusedVariables false
set_option linter.unusedSimpArgs false

theorem key_str : Keyed Try.prog 9 := Go.Maps.string_keyed Try.underlying9
theorem skey_of {s : ByteArray} (hs : s.size ≤ maxLen) : keyOf Try.prog 9 (.string s) = some (.string s.data.toList) := keyOf_string_mk Try.underlying9 hs
theorem isKey_str (l : List UInt8) : WideAt.IsKeyLit (.string l) := by unfold WideAt.IsKeyLit; trivial
theorem ownsMap_same {H : Type} {P : Program} {k : TypeId} {R : Value → Option (DataW H × List MemPlace)} {w w' : World} {b n : Nat} {D : DataW H} (h : w.ownsMap P k R b n D) (hb : w'.heap[b]? = w.heap[b]?) : w'.ownsMap P k R b n D := by
  obtain ⟨es, clock, h1, h2⟩ := h
  exact ⟨es, clock, hb.trans h1, h2⟩
theorem bytes_ne {s d : ByteArray} (h : s ≠ d) : s.data.toList ≠ d.data.toList := fun e => h (by
  cases s; cases d
  simp at e
  rw [e])
theorem zero_intS (w : World) : (zeroValue 3).run Try.prog w = .ok (.int .i64 0) w := by kernel_rfl
/-- block b is a map[string]int that holds f -/
def MP (w : World) (b n : Nat) (f : ByteArray → Option Nat) : Prop :=
  ∃ D : DataW Unit, w.ownsMap Try.prog 9 (plainElem Try.prog 3) b n D ∧ Go.Maps.IsMap D ∧ ∀ s : ByteArray, D.atKey (.string s.data.toList) (.lit (.int .i64 0)) = .lit (.int .i64 ((f s).getD 0 : Nat)) ∧ Go.Maps.has D (.string s.data.toList) = (f s).isSome
section
variable {w w' : World} {b n : Nat} {f : ByteArray → Option Nat}
theorem MP.new (w : World) : MP (w.alloc (.map #[] 0)) w.heap.size 0 (fun _ => none) := ⟨.map [], World.ownsMap_made _ _ _ _, ⟨[], rfl⟩, fun k => ⟨rfl, rfl⟩⟩
theorem MP.only {F : Nat → Prop} (h : MP w b n f) (ho : Only F w w') (hF : ¬ F b) : MP w' b n f := by
  obtain ⟨D, h1, h2, h3⟩ := h
  exact ⟨D, ownsMap_same h1 (ho.block b h1.lt hF), h2, h3⟩
theorem MP.lt (h : MP w b n f) : b < w.heap.size := by obtain ⟨D, h1, _⟩ := h; exact h1.lt
theorem MP.below (h : MP w b n f) (hb : Below w.heap.size w w') : MP w' b n f := h.only (Only.of_below hb (fun _ => False)) (fun h => h)
theorem MP.eq {g : ByteArray → Option Nat} (h : MP w b n f) (e : ∀ s, f s = g s) : MP w b n g := by
  have : f = g := funext e
  exact this ▸ h
theorem MP.look (h : MP w b n f) {d : ByteArray} (hd : d.size ≤ maxLen) : (Instr.lookup 78 (.map (some b)) (.string d) false).run Try.prog w = .ok (.int .i64 ((f d).getD 0 : Nat)) w := by
  obtain ⟨D, g1, g2, g3⟩ := h
  obtain ⟨c, hrun, hc, _⟩ := g1.lookup_int key_str Try.underlying78 Try.underlying3 (zero_intS w) (skey_of hd)
  rw [(g3 d).1] at hc
  have hc2 := (Lit.int.inj (DataW.lit.inj hc)).2
  rw [hc2]
  exact hrun
theorem MP.lookok (h : MP w b n f) {d : ByteArray} (hd : d.size ≤ maxLen) : (Instr.lookup 78 (.map (some b)) (.string d) true).run Try.prog w = .ok (.tuple #[.int .i64 ((f d).getD 0 : Nat), .bool (f d).isSome]) w := by
  obtain ⟨D, g1, g2, g3⟩ := h
  obtain ⟨v, ps, hrun, hv⟩ := g1.look_ok key_str Try.underlying78 (zero_intS w) (plainElem_int Try.underlying3 (WalkArith.wf_i64 ⟨by omega, by omega⟩)) (skey_of hd)
  rw [(g3 d).1] at hv
  obtain ⟨z, rfl, hz, _⟩ := plainElem_int_inv Try.underlying3 hv
  have hz1 := congrArg Prod.fst hz
  have hz2 := (Lit.int.inj (DataW.lit.inj hz1)).2
  rw [(g3 d).2] at hrun
  rw [hz2]
  exact hrun
end
section
variable {w : World} {ops : Array Oper} {rest : List Oper} {o : Oper} {a : Act} {Q : Exit → Act → World → Prop}
theorem put_MP (hg : o.guard = none) (m x v : Operand) (hop : o.op = Op.mapUpdate 78 m x v) (b n : Nat) (f : ByteArray → Option Nat) (hm : a.eval m = .map (some b)) (h : MP w b n f) (hn : n < maxLen)
    (d : ByteArray) (hd : d.size ≤ maxLen) (hx : a.eval x = .string d) (y : Nat) (hy : y ≤ 9223372036854775807) (hv : a.eval v = .int .i64 (y : Int))
    (hK : ∀ w', MP w' b (n + 1) (fun s => if s = d then some y else f s) → w.grownBy w' (some b) → wpList Try.prog ops Q rest (a.put o.dst undef) w') : wpList Try.prog ops Q (o :: rest) a w := by
  obtain ⟨D, g1, g2, g3⟩ := h
  refine wpList_mapUpdate_own w hg m x v 78 hop 9 3 key_str Try.underlying78 _ b n D hm g1 hn _ _ (.string d.data.toList) hx hv (skey_of hd) (.lit (.int .i64 (y : Int))) [] (plainElem_int Try.underlying3 (WalkArith.wf_i64 ⟨by omega, by omega⟩)) (fun w' h1 h2 => hK w' ⟨_, h1, g2.put _ _, fun s => ?_⟩ h2)
  by_cases hj : s = d
  · subst hj
    exact ⟨by rw [Go.Maps.atKey_put_same g2 (isKey_str _)]; simp, by rw [Go.Maps.has_put_same g2 (isKey_str _)]; simp⟩
  · have hne : (Lit.string s.data.toList) ≠ (Lit.string d.data.toList) := fun e => bytes_ne hj (by injection e)
    exact ⟨by rw [Go.Maps.atKey_put_other hne, (g3 s).1]; simp [hj], by rw [Go.Maps.has_put_other hne, (g3 s).2]; simp [hj]⟩
end
theorem putIn_MP {F : Fence} {nF : Nat} {w : World} {ops : Array Oper} {rest : List Oper} {o : Oper} {a : Act} {Q : Exit → Act → World → Prop} (hg : o.guard = none) (m x v : Operand) (hop : o.op = Op.mapUpdate 78 m x v) (b n : Nat) (f : ByteArray → Option Nat) (hm : a.eval m = .map (some b)) (h : MP w b n f) (hn : n < maxLen)
    (d : ByteArray) (hd : d.size ≤ maxLen) (hx : a.eval x = .string d) (y : Nat) (hy : y ≤ 9223372036854775807) (hv : a.eval v = .int .i64 (y : Int))
    (hK : ∀ w', MP w' b (n + 1) (fun s => if s = d then some y else f s) → w.grownBy w' (some b) → wpListIn F nF Try.prog ops Q rest (a.put o.dst undef) w') : wpListIn F nF Try.prog ops Q (o :: rest) a w := by
  obtain ⟨D, g1, g2, g3⟩ := h
  refine wpListIn_mapUpdate_own w hg m x v 78 hop 9 3 key_str Try.underlying78 _ b n D hm g1 hn _ _ (.string d.data.toList) hx hv (skey_of hd) (.lit (.int .i64 (y : Int))) [] (plainElem_int Try.underlying3 (WalkArith.wf_i64 ⟨by omega, by omega⟩)) (fun w' h1 h2 => hK w' ⟨_, h1, g2.put _ _, fun s => ?_⟩ h2)
  by_cases hj : s = d
  · subst hj
    exact ⟨by rw [Go.Maps.atKey_put_same g2 (isKey_str _)]; simp, by rw [Go.Maps.has_put_same g2 (isKey_str _)]; simp⟩
  · have hne : (Lit.string s.data.toList) ≠ (Lit.string d.data.toList) := fun e => bytes_ne hj (by injection e)
    exact ⟨by rw [Go.Maps.atKey_put_other hne, (g3 s).1]; simp [hj], by rw [Go.Maps.has_put_other hne, (g3 s).2]; simp [hj]⟩

/-- the change A, the change B (who leans on A) -/
def chA : List Value := [.string ⟨#[65]⟩, .int .i8 1, .string ⟨#[68, 105, 115, 107]⟩, .slice none 0 0, .bool false, .int .i64 0, .bool false, .slice none 0 0]
def chB (ql : Nat) : List Value := [.string ⟨#[66]⟩, .int .i8 1, .string ⟨#[68, 105, 115, 107]⟩, .slice none 0 0, .bool false, .int .i64 0, .bool false, .slice (some ⟨ql, 0, none⟩) 1 1]
/-- block qc begins with the changes A and B -/
structure Hc (w : World) (qc ql : Nat) : Prop where
  cell : ∀ (i : Nat) (v : Value), (chA ++ chB ql)[i]? = some v → w.cell? ⟨qc, i, none⟩ = some v
  nm : w.cell? ⟨ql, 0, none⟩ = some (.string ⟨#[65]⟩)
theorem Hc.keep {w w' : World} {qc ql : Nat} (h : Hc w qc ql) (hb : ∀ k, k < w.heap.size → (k = qc ∨ k = ql) → w'.heap[k]? = w.heap[k]?) : Hc w' qc ql :=
  ⟨fun i v hv => by
    have := h.cell i v hv
    exact (World.cell?_of_block (a := ⟨qc, i, none⟩) (hb _ (World.block_lt_of_cell? w _ this) (.inl rfl))).trans this,
   (World.cell?_of_block (a := ⟨ql, 0, none⟩) (hb _ (World.block_lt_of_cell? w _ h.nm) (.inr rfl))).trans h.nm⟩
theorem Hc.below {w w' : World} {qc ql : Nat} (h : Hc w qc ql) (hb : Below w.heap.size w w') : Hc w' qc ql := h.keep fun k hk _ => hb.block k hk
theorem Hc.lt {w : World} {qc ql : Nat} (h : Hc w qc ql) : qc < w.heap.size := World.block_lt_of_cell? w _ (h.cell 0 _ rfl)
theorem Hc.ltl {w : World} {qc ql : Nat} (h : Hc w qc ql) : ql < w.heap.size := World.block_lt_of_cell? w _ h.nm
theorem Hc.rd {w : World} {qc ql c : Nat} (h : Hc w qc ql) (h2 : 2 ≤ c) (hm : c ≤ maxLen) : Rd w 8 (some ⟨qc, 0, none⟩) 2 c (chA ++ chB ql) :=
  ⟨rfl, h2, hm, fun j u hu => ⟨_, rfl, by rw [add_plain, Nat.zero_add]; exact h.cell j u hu⟩⟩
theorem Hc.of_own {w : World} {base q c ql : Nat} (h : w.ownsRow base 33 8 (.slice (some ⟨q, 0, none⟩) 2 c) 2 (chA ++ chB ql)) (hn : w.cell? ⟨ql, 0, none⟩ = some (.string ⟨#[65]⟩)) : Hc w q ql :=
  ⟨fun i v hv => by
    obtain ⟨ad, e, hc⟩ := (Rd.of_own h).at_ i v hv
    injection e with e
    rw [← e, add_plain, Nat.zero_add] at hc
    exact hc, hn⟩
theorem info_ch : (Try.prog.info? 33).map (fun i => (i.zero, i.size, i.bytes)) = some (some (.agg #[.string ⟨#[]⟩, .int .i8 0, .string ⟨#[]⟩, .slice none 0 0, .bool false, .int .i64 0, .bool false, .slice none 0 0]), 8, 112) := by kernel_rfl
theorem info_partsW {P : Program} {t : TypeId} {z : Value} {a b : Nat} (h : (P.info? t).map (fun i => (i.zero, i.size, i.bytes)) = some (some z, a, b)) : ∃ i, P.info? t = some i ∧ i.zero = some z ∧ i.size = a ∧ i.bytes = b := by
  cases hi : P.info? t with
  | none => rw [hi] at h; cases h
  | some i => rw [hi] at h; simp only [Option.map_some, Option.some.injEq, Prod.mk.injEq] at h; exact ⟨i, rfl, h.1, h.2.1, h.2.2⟩
theorem ch_one (ql : Nat) : ∀ u ∈ chA ++ chB ql, u.oneCell' = true := by
  intro u hu
  simp only [chA, chB, List.mem_append, List.mem_cons, List.not_mem_nil, or_false] at hu
  rcases hu with (rfl | rfl | rfl | rfl | rfl | rfl | rfl | rfl) | (rfl | rfl | rfl | rfl | rfl | rfl | rfl | rfl) <;> rfl
set_option maxRecDepth 100000 in
set_option maxHeartbeats 4000000 in
theorem clonec_any (w : World) (qc ql c : Nat) (h : Hc w qc ql) (h2 : 2 ≤ c) (hm : c ≤ maxLen) : Calls Try.prog 10 #[.slice (some ⟨qc, 0, none⟩) 2 c] w fun e w' => ∃ q c', e = .returned (.slice (some ⟨q, 0, none⟩) 2 c') ∧ Hc w' q ql ∧ Below w.heap.size w w' ∧ 2 ≤ c' ∧ c' ≤ maxLen ∧ w.heap.size ≤ q := by
  have hq := fun W => Lib.run_eql_slice_nil (P := Try.prog) W 34 33 (some ⟨qc, 0, none⟩) 2 c 0 0 Try.underlying34
  simp only [Option.isNone_some] at hq
  have hown : (w.alloc (.cells #[] 33)).ownsRow w.heap.size 33 8 (.slice (some ⟨w.heap.size, 0, none⟩) 0 0) 0 [] :=
    World.ownsRow_lit (base := w.heap.size) (e := 33) (size := 8) w #[] 0 (Nat.le_refl _) (by simp [maxLen]) rfl
  have HO := Lib.hid hown
  have H := Lib.hid h
  have H2 := Lib.hid h2
  have HM := Lib.hid hm
  obtain ⟨i0, hi, hz0, hz1, hz2⟩ := info_partsW info_ch
  have HI := Lib.hid hi
  have HZ0 := Lib.hid hz0
  have HZ1 := Lib.hid hz1
  have HZ2 := Lib.hid hz2
  clear hown h h2 hm hi hz0 hz1 hz2
  go_enter Try.func10, Try.ntmps10
  go_wp2_with (at_builtin; refine wpList_app _ rfl (.tmp 5) (.tmp 6) 34 rfl w.heap.size 33 i0 _ 8 112 Try.underlying34 HI.out HZ0.out HZ1.out HZ2.out rfl (by omega) _ 0 0 [] rfl HO.out (some ⟨qc, 0, none⟩) 2 c (chA ++ chB ql) rfl ((H.out.rd H2.out HM.out).alloc _) (ch_one ql) (by omega) (by omega) (by simp) ?_; intro A1 c1 w1 ho1 hg1 hat1 hn1; have HO1 := Lib.hid ho1; have HG1 := Lib.hid hg1; have HA1 := Lib.hid hat1; have HN1 := Lib.hid hn1; clear ho1 hg1 hat1 hn1)
  go_ret
  have hbel : Below w.heap.size w w1 := below_app ((Below.refl _ _).alloc (Nat.le_refl _) _) HO.out HG1.out (by simp)
  have ho := HO1.out
  simp only [Nat.zero_add, List.nil_append] at ho
  have hrd := Rd.of_own ho
  obtain ⟨ad, hA, _⟩ := hrd.at_ 0 _ rfl
  have hq2 : ∃ q, A1 = some ⟨q, 0, none⟩ ∧ w.heap.size ≤ q := by
    rcases HA1.out with e | e
    · exact ⟨_, e, Nat.le_refl _⟩
    · exact ⟨_, e, by simp⟩
  obtain ⟨q, rfl, hq3⟩ := hq2
  exact ⟨q, c1, rfl, Hc.of_own ho ((H.out.below hbel).nm), hbel, hrd.cap, hrd.max, hq3⟩
theorem backw_any (A : Option Addr) (n c : Nat) (w : World) : Calls Try.prog 21 #[.slice A n c] w fun e w' => e = .returned (.func (.func 41) #[] #[.pointer (some ⟨w.heap.size, 0, none⟩)]) ∧ w' = w.alloc (.cells #[.slice A n c] 34) := by
  go_enter Try.func21, Try.ntmps21
  go_wp2_with fail
  go_ret
  exact ⟨rfl, rfl⟩
end Go.Proofs.Ytfjhomegjceilaa
