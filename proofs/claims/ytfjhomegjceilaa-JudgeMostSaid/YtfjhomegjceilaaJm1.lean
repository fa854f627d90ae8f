/- judge.Most: the walk. -/
import Derived.Test.YtfjhomegjceilaaJm0
import Derived.Test.YtfjhomegjceilaaTr
import Derived.Test.YtfjhomegjceilaaProg
import Derived.Maps.OwnSet
import Derived.Maps.OwnOps
import Derived.Maps.Views
import Derived.StringKeys
import Derived.Deep.LoopGhost
namespace Go.Proofs.Ytfjhomegjceilaa
open Go.RowKit
open Go.Maps (Keyed)
set_option linter.unusedVariables false
set_option linter.unusedSimpArgs false

theorem zero_intM (w : World) : (zeroValue 3).run Try.prog w = .ok (.int .i64 0) w := by kernel_rfl
theorem key_intM : Keyed Try.prog 3 := Go.Maps.int_keyed Try.underlying3
theorem key_ofM {k : Int} (h1 : -9223372036854775808 ≤ k) (h2 : k ≤ 9223372036854775807) : keyOf Try.prog 3 (.int .i64 k) = some (.int .i64 k) :=
  Go.Maps.keyOf_int_mk Try.underlying3 (WalkArith.wf_i64 ⟨h1, h2⟩)
theorem isKey_intM (k : Int) : WideAt.IsKeyLit (.int .i64 k) := by unfold WideAt.IsKeyLit; trivial
/-- block b is a map[int]int: f -/
def MI (w : World) (b n : Nat) (f : Int → Nat) : Prop :=
  ∃ D : DataW Unit, w.ownsMap Try.prog 3 (plainElem Try.prog 3) b n D ∧ Go.Maps.IsMap D ∧ ∀ k : Int, D.atKey (.int .i64 k) (.lit (.int .i64 0)) = .lit (.int .i64 (f k : Nat))
theorem ownsMapM_same {H : Type} {P : Program} {k : TypeId} {R : Value → Option (DataW H × List MemPlace)} {w w' : World} {b n : Nat} {D : DataW H} (h : w.ownsMap P k R b n D) (hb : w'.heap[b]? = w.heap[b]?) : w'.ownsMap P k R b n D := by
  obtain ⟨es, clock, h1, h2⟩ := h
  exact ⟨es, clock, hb.trans h1, h2⟩
section
variable {w w' : World} {b n : Nat} {f : Int → Nat}
theorem MI.new (w : World) : MI (w.alloc (.map #[] 0)) w.heap.size 0 (fun _ => 0) := ⟨.map [], World.ownsMap_made _ _ _ _, ⟨[], rfl⟩, fun k => rfl⟩
theorem MI.lt (h : MI w b n f) : b < w.heap.size := by obtain ⟨D, h1, _⟩ := h; exact h1.lt
theorem MI.only {F : Nat → Prop} (h : MI w b n f) (ho : Only F w w') (hF : ¬ F b) : MI w' b n f := by
  obtain ⟨D, h1, h2, h3⟩ := h
  exact ⟨D, ownsMapM_same h1 (ho.block b h1.lt hF), h2, h3⟩
theorem MI.below (h : MI w b n f) (hb : Below w.heap.size w w') : MI w' b n f := h.only (Only.of_below hb (fun _ => False)) (fun h => h)
set_option maxRecDepth 100000 in
theorem MI.look (h : MI w b n f) {k : Int} (h1 : -9223372036854775808 ≤ k) (h2 : k ≤ 9223372036854775807) : (Instr.lookup 51 (.map (some b)) (.int .i64 k) false).run Try.prog w = .ok (.int .i64 (f k : Nat)) w := by
  obtain ⟨D, g1, g2, g3⟩ := h
  obtain ⟨v, ps, hrun, hv⟩ := g1.lookup key_intM Try.underlying51 (zero_intM w) (plainElem_int Try.underlying3 (a := 0) (by decide)) (key_ofM h1 h2)
  rw [g3 k] at hv
  rw [hrun]
  obtain ⟨a, rfl, hz, _⟩ := plainElem_int_inv Try.underlying3 hv
  injection hz with hz _
  injection hz with hz
  injection hz with _ hz
  rw [hz]
end
theorem wp_put_MI {w : World} {ops : Array Oper} {rest : List Oper} {o : Oper} {a : Act} {Q : Exit → Act → World → Prop} (hg : o.guard = none) (m x v : Operand) (hop : o.op = Op.mapUpdate 51 m x v) (b n : Nat) (f : Int → Nat) (hm : a.eval m = .map (some b)) (h : MI w b n f) (hn : n < maxLen)
    (k : Int) (hk1 : -9223372036854775808 ≤ k) (hk2 : k ≤ 9223372036854775807) (hx : a.eval x = .int .i64 k) (y : Nat) (hy : y ≤ 1000000) (hv : a.eval v = .int .i64 (y : Nat))
    (hK : ∀ w', MI w' b (n + 1) (oput f k y) → w.grownBy w' (some b) → wpList Try.prog ops Q rest (a.put o.dst undef) w') : wpList Try.prog ops Q (o :: rest) a w := by
  obtain ⟨D, g1, g2, g3⟩ := h
  refine wpList_mapUpdate_own w hg m x v 51 hop 3 3 key_intM Try.underlying51 _ b n D hm g1 hn _ _ (.int .i64 k) hx hv (key_ofM hk1 hk2) (.lit (.int .i64 (y : Nat))) [] (plainElem_int Try.underlying3 (WalkArith.wf_i64 ⟨by omega, by omega⟩)) (fun w' h1 h2 => hK w' ⟨_, h1, g2.put _ _, fun j => ?_⟩ h2)
  unfold oput
  by_cases hj : j = k
  · subst hj
    rw [if_pos rfl, Go.Maps.atKey_put_same g2 (isKey_intM j)]
  · rw [if_neg hj, Go.Maps.atKey_put_other (fun e => hj (by injection e)), g3 j]
def Tc.tr (x : Tc) : List Tr := [.leaf (.int .i64 x.tok), .leaf (.bool x.fin), .leaf (.bool x.ok)]
theorem Tc.trlen (x : Tc) : x.tr.length = 3 := rfl
theorem tc_at {S : Nat → Prop} {w : World} {A : Option Addr} {c : Nat} {l : List Tc} (h : Ls S w 3 16 Tc.tr A c l) {i : Nat} {x : Tc} (hx : l[i]? = some x) : ∃ ad, A = some ad ∧ Cel w (ad.add (i * 3)) [.int .i64 x.tok, .bool x.fin, .bool x.ok] ∧ -9223372036854775808 ≤ x.tok ∧ x.tok ≤ 9223372036854775807 := by
  obtain ⟨ad, cs, hA, ht, hc⟩ := h.elem Tc.trlen hx
  unfold Tc.tr at ht
  simp only [Trs.at, Tr.at] at ht
  obtain ⟨v, vs, rfl, ⟨rfl, h1⟩, v2, vs2, rfl, ⟨rfl, _⟩, v3, vs3, rfl, ⟨rfl, _⟩, rfl⟩ := ht
  refine ⟨ad, hA, hc, ?_⟩
  unfold okLeaf at h1
  simp [Lit.wf, IntKind.min, IntKind.max, IntKind.bits, IntKind.signed] at h1
  omega
set_option maxRecDepth 100000 in
set_option maxHeartbeats 8000000 in
theorem most_any (S : Nat → Prop) (A : Option Addr) (c : Nat) (l : List Tc) (w : World) (h : Ls S w 3 16 Tc.tr A c l) (hl : l.length ≤ 200) :
    Calls Try.prog 6 #[.slice A l.length c] w fun e w' => e = .returned (.int .i64 (mF l).m) ∧ Below w.heap.size w w' := by
  have hcap := h.cap
  have hmax := h.max
  unfold maxLen at hmax
  have H := Lib.hid h
  have HOK := Lib.hid (mF_ok hl)
  have hmm := @run_makeMap Try.prog
  clear h
  have HM0 := Lib.hid (MI.new w)
  have HB0 : Hid (Below w.heap.size w (w.alloc (.map #[] 0))) := Lib.hid ((Below.refl _ w).alloc (Nat.le_refl _) _)
  go_enter Try.func6, Try.ntmps6
  go_wp2_with fail
  clear hmm
  go_loopg [3, 5, 11] l.length (fun g mv nv i wr => ∃ (j : Nat) (m n : Int) (f : Int → Nat), j + g = l.length ∧ i = .int .i64 (j : Nat) ∧ nv = .int .i64 n ∧ mv = .int .i64 m ∧ Hid (mF (l.take j) = ⟨f, n, m⟩) ∧ Hid (MI wr w.heap.size j f) ∧ Hid (Below w.heap.size w wr))
  case atStart => exact ⟨0, 0, 0, fun _ => 0, by omega, rfl, rfl, rfl, Lib.hid (by simp [mF, ms0]), HM0, HB0⟩
  case round =>
    obtain ⟨j, m, n, f, hj, rfl, rfl, rfl, HF, HM, HB⟩ := hrel
    rename World => wo
    cases gk with
    | zero =>
      have hjj : ¬ ((j : Int) < (l.length : Int)) := by omega
      have HE : Hid ((mF l).m = m) := Lib.hid (by have := HF.out; rw [List.take_of_length_le (by omega)] at this; rw [this])
      go_wp2_with fail
      go_ret
      rw [HE.out]
      exact ⟨rfl, HB.out⟩
    | succ g =>
      have hjj : (j : Int) < (l.length : Int) := by omega
      have hji : (0 : Int) ≤ (j : Int) ∧ (j : Int) < (l.length : Int) := by omega
      obtain ⟨x, hx⟩ : ∃ x, l[j]? = some x := ⟨l[j], List.getElem?_eq_getElem (by omega)⟩
      obtain ⟨ad, hA, hc, ht1, ht2⟩ := tc_at (H.out.below HB.out) hx
      subst hA
      obtain ⟨e0, e1, e2⟩ : wo.cell? (ad.add (j * 3)) = some (.int .i64 x.tok) ∧ wo.cell? ⟨(ad.add (j * 3)).block, (ad.add (j * 3)).off + 1, none⟩ = some (.bool x.fin) ∧ wo.cell? ⟨(ad.add (j * 3)).block, (ad.add (j * 3)).off + 2, none⟩ = some (.bool x.ok) := ⟨hc 0 _ rfl, hc 1 _ rfl, hc 2 _ rfl⟩
      have HN := Lib.hid (mF_take hx)
      have hok := HOK.out j (by omega)
      rw [HF.out] at hok
      have hf1 := hok.op x.tok
      have hlo := hok.lo
      have hhi := hok.hi
      have hsj := hok.sj
      have hm0 := hok.m0
      have hmx := hok.mx
      simp only at hf1 hlo hhi hm0 hmx
      have HM1 := Lib.hid (HM.out.below ((Below.refl _ wo).alloc (Nat.le_refl _) (.cells #[.int .i64 x.tok, .bool x.fin, .bool x.ok] 26)))
      have HB1 := Lib.hid (HB.out.alloc HB.out.size (.cells #[.int .i64 x.tok, .bool x.fin, .bool x.ok] 26))
      have hlk := HM1.out.look ht1 ht2
      have hjm : j < maxLen := by unfold maxLen; omega
      clear hx hc hok
      cases hfin : x.fin with
      | true =>
        have HE : Hid (mF (l.take (j + 1)) = ⟨oput f x.tok 0, n - (f x.tok : Nat), max m (n - (f x.tok : Nat))⟩) := Lib.hid (by rw [HN.out, HF.out]; unfold Ms.step; rw [hfin]; rfl)
        have hw1 : IntKind.i64.wrap (n - ((f x.tok : Nat) : Int)) = n - ((f x.tok : Nat) : Int) := IntWalk.i64_in _ (by omega)
        rw [hfin] at e1 HM1 HB1 hlk
        clear hfin
        go_wp2_with (refine wp_put_MI rfl _ _ _ rfl w.heap.size j f rfl HM1.out hjm x.tok ht1 ht2 rfl 0 (by omega) rfl ?_; intro w8 hm8 hg8; have HM8 := Lib.hid hm8; have HG8 := Lib.hid hg8; clear hm8 hg8)
        all_goals
          go_roundg g
          case measure => omega
          case rel => exact ⟨j + 1, max m (n - (f x.tok : Nat)), n - (f x.tok : Nat), oput f x.tok 0, by omega, by go_num, rfl, by congr 1; omega, HE, HM8, Lib.hid (HB1.out.grown HG8.out HB1.out.size (fun k hk => by injection hk with hk; omega))⟩
      | false =>
        have HE : Hid (mF (l.take (j + 1)) = ⟨oput f x.tok (f x.tok + 1), n + 1, max m (n + 1)⟩) := Lib.hid (by rw [HN.out, HF.out]; unfold Ms.step; rw [hfin]; rfl)
        have hw1 : IntKind.i64.wrap (((f x.tok : Nat) : Int) + 1) = ((f x.tok : Nat) : Int) + 1 := IntWalk.i64_in _ (by omega)
        have hw2 : IntKind.i64.wrap (n + 1) = n + 1 := IntWalk.i64_in _ (by omega)
        rw [hfin] at e1 HM1 HB1 hlk
        clear hfin
        go_wp2_with (refine wp_put_MI rfl _ _ _ rfl w.heap.size j f rfl HM1.out hjm x.tok ht1 ht2 rfl (f x.tok + 1) (by omega) (by first | rfl | simp) ?_; intro w8 hm8 hg8; have HM8 := Lib.hid hm8; have HG8 := Lib.hid hg8; clear hm8 hg8)
        all_goals
          go_roundg g
          case measure => omega
          case rel => exact ⟨j + 1, max m (n + 1), n + 1, oput f x.tok (f x.tok + 1), by omega, by go_num, rfl, by congr 1; omega, HE, HM8, Lib.hid (HB1.out.grown HG8.out HB1.out.size (fun k hk => by injection hk with hk; omega))⟩
end Go.Proofs.Ytfjhomegjceilaa
