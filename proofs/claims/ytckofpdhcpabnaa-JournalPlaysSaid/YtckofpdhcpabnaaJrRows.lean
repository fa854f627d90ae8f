/- journal.Rows. -/
import Derived.Test.YtckofpdhcpabnaaJrRange
namespace Go.Proofs.Ytckofpdhcpabnaa
open Go.RowKit
attribute [local go_sem] Oper.semAt_some
set_option linter.unusedVariables false
set_option linter.unusedSimpArgs false

/-- between two rounds -/
structure JrI (w : World) (B D : Nat) (pre : List Ld) (W : World) : Prop where
  box : ∃ A c, Boxed W w.heap.size 23 (.slice A pre.length c) ∧ W.ownsRow D 22 1 (.slice A pre.length c) pre.length (pre.map Ld.val)
  rows : ∀ x ∈ pre, Rd W 1 x.ad x.b.length x.c (bv x.b) ∧ ∀ ad, x.ad = some ad → B ≤ ad.block ∧ ad.block < D
  bel : Below w.heap.size w W
  le : w.heap.size ≤ D
theorem jrI_own (w : World) (B D B' : Nat) (hB : w.heap.size ≤ B') : OwnFrom B' (JrI w B D) := by
  intro pre W W' row h hg hr
  have hr' : ∀ r, row = some r → ∃ o : Obj, W.heap[r]? = some o ∧ o.isCells = false := fun r e => (hr r e).2
  obtain ⟨A, c, h1, h2⟩ := h.box
  exact ⟨⟨A, c, boxed_kept h1 hg hr', own_kept h2 hg hr'⟩, fun x hx => ⟨(h.rows x hx).1.own hg hr', (h.rows x hx).2⟩,
    h.bel.grown hg h.bel.size (fun k e => by have := (hr k e).1; omega), h.le⟩
theorem jrow_step {w W w1 : World} {l : List UInt8} {B B' D : Nat} {pre : List Ld} {x : Ld} {A' A1 : Option Addr} {c' c1 : Nat} {tmp : Obj} (hi : JrI w B D pre W) (hv : JaV l B D pre x W) (hB : w.heap.size < B) (hBD : B ≤ D) (hD : D ≤ W.heap.size)
    (hbx : Boxed W w.heap.size 23 (.slice A' pre.length c')) (hown : W.ownsRow D 22 1 (.slice A' pre.length c') pre.length (pre.map Ld.val))
    (ho1 : w1.ownsRow D 22 1 (.slice A1 (pre.length + 1) c1) (pre.length + 1) (pre.map Ld.val ++ [x.val])) (hg1 : (W.alloc tmp).grownBy w1 (Value.slice A' pre.length c').ownBlock) :
    KeepsFrom B' W (w1.setCell ⟨w.heap.size, 0, none⟩ (.slice A1 (pre.length + 1) c1)) ∧ Keeps (fun k => False ∨ (B ≤ k ∧ k < D)) W (w1.setCell ⟨w.heap.size, 0, none⟩ (.slice A1 (pre.length + 1) c1)) ∧
      JrI w B D (pre ++ [x]) (w1.setCell ⟨w.heap.size, 0, none⟩ (.slice A1 (pre.length + 1) c1)) := by
  have hrow : ∀ g, (Value.slice A' pre.length c').ownBlock = some g → D ≤ g := fun g hg => (hown.lt g hg).1
  have hsz1 := hg1.size
  simp at hsz1
  have hbel : Below w.heap.size W (w1.setCell ⟨w.heap.size, 0, none⟩ (.slice A1 (pre.length + 1) c1)) :=
    ((((Below.refl w.heap.size W).alloc (by have := hi.bel.size; omega) tmp).grown hg1 (by simp; omega) (fun k hk => by have := hrow k hk; omega)).setCell (p := ⟨w.heap.size, 0, none⟩) (Nat.le_refl _) _)
  have hblk : ∀ k, B ≤ k → k < D → (w1.setCell ⟨w.heap.size, 0, none⟩ (.slice A1 (pre.length + 1) c1)).heap[k]? = W.heap[k]? := fun k h1 h2 =>
    (Below.heap_setCell w1 ⟨w.heap.size, 0, none⟩ _ k (by simp only []; omega)).trans ((hg1.block k (by simp; omega) (fun e => by have := hrow k e.symm; omega)).trans (Below.heap_alloc W tmp k (by omega)))
  have hkeep : Keeps (fun k => False ∨ (B ≤ k ∧ k < D)) W (w1.setCell ⟨w.heap.size, 0, none⟩ (.slice A1 (pre.length + 1) c1)) :=
    ⟨hbel.os, hbel.tape, hbel.output, hbel.size, fun k hk => by
      rcases hk with hk | ⟨h1, h2⟩
      · exact hk.elim
      · exact hblk k h1 h2⟩
  have hx1 := (hbx.alloc tmp).kept hg1 (hbx.not_row (by decide) hown)
  have hrd : ∀ {ad : Option Addr} {n c : Nat} {b : List UInt8}, Rd W 1 ad n c (bv b) → (∀ a, ad = some a → B ≤ a.block ∧ a.block < D) → Rd (w1.setCell ⟨w.heap.size, 0, none⟩ (.slice A1 (pre.length + 1) c1)) 1 ad n c (bv b) := fun h h2 =>
    h.keeps hkeep (fun a e _ => .inr (h2 a e))
  refine ⟨?_, hkeep, ⟨⟨A1, c1, ?_, ?_⟩, ?_, hi.bel.trans hbel, hi.le⟩⟩
  · refine ((KeepsOthers.alloc W tmp).trans ((KeepsOthers.of_grownBy hg1 fun j o ej hj => ?_).trans (KeepsOthers.setCell w1 ⟨w.heap.size, 0, none⟩ _))).from _
    rcases (hown.alloc tmp).2 with ⟨e, _⟩ | ⟨g, cap, cur, e, _, hgb, _⟩
    · rw [e] at ej; simp [Value.ownBlock] at ej
    · rw [e] at ej
      obtain rfl : g = j := by simpa [Value.ownBlock] using ej
      rw [hgb] at hj; cases hj; rfl
  · rw [List.length_append, List.length_singleton]; exact hx1.set _
  · rw [List.length_append, List.length_singleton, List.map_append, List.map_singleton]
    exact ho1.kept (grownBy_setCell' w1 w.heap.size (.slice A1 (pre.length + 1) c1)) (.inr (hx1.not_row (by decide) ho1).symm)
  · intro y hy
    rcases List.mem_append.1 hy with hy | hy
    · exact ⟨hrd (hi.rows y hy).1 (hi.rows y hy).2, (hi.rows y hy).2⟩
    · rw [List.mem_singleton] at hy
      subst hy
      exact ⟨hrd hv.rd hv.lt, hv.lt⟩
/-- what the bytes are -/
def BytX (l : List UInt8) (er : Int) (w : World) (e : Ending) (w' : World) : Prop := Below w.heap.size w w' ∧ ∃ A c, e = .returned (.tuple #[.slice A l.length c, .int .i64 er]) ∧ Rd w' 1 A l.length c (bv l)
def RowX (l : List UInt8) (er : Int) (w : World) (e : Ending) (w' : World) : Prop :=
  Below w.heap.size w w' ∧ ∃ A c vs, e = .returned (.tuple #[.slice A (loads l).length c, .int .i64 er]) ∧ BB w' w.heap.size A (loads l).length c (loads l) vs
set_option maxRecDepth 100000 in
set_option maxHeartbeats 2000000 in
theorem jrows_gen (w : World) (dp : Option Addr) (er : Int) (l : List UInt8) (hl : l.length ≤ 1048576) (hby : Calls Try.prog 11 #[.pointer dp] (w.alloc (.cells #[.slice none 0 0] 23)) (BytX l er (w.alloc (.cells #[.slice none 0 0] 23)))) :
    Calls Try.prog 14 #[.pointer dp] w (RowX l er w) := by
  have HBY := Lib.hid hby
  have HFL := Lib.hid hl
  clear hby hl
  refine (callsIn_wide (n := 3)).1 ?_
  refine callsIn_of_wp_marks Try.func14 rfl trivial ?_
  simp only [Try.ntmps14, List.size_toArray, List.length_cons, List.length_nil, Nat.reduceAdd, Nat.reduceSub, Array.replicate_succ, Array.replicate_zero, List.push_toArray, List.append_toArray, List.nil_append, List.cons_append]
  gi_wp2_with fail
  refine ⟨trivial, (callsIn_wide.2 HBY.out).mono ?_⟩
  rintro e w1 ⟨hb, A, c, rfl, hr⟩
  have hx := boxBel (Boxed.new w 23 (.slice none 0 0)) hb
  have HX := Lib.hid hx
  have HB2 : Hid (Below w.heap.size w w1) := Lib.hid (((Below.refl _ w).alloc (Nat.le_refl _) _).trans (hb.mono (by rw [World.size_alloc]; omega)))
  have HS1 : Hid (w.heap.size + 1 ≤ w1.heap.size) := Lib.hid (by have := hb.size; rwa [World.size_alloc] at this)
  have HR := Lib.hid hr
  clear hb hx hr HBY
  gi_wp2_with fail
  refine ⟨trivial, (callsIn_wide.2 (jall_any _ _ _ _)).mono ?_⟩
  rintro e w2 ⟨rfl, rfl⟩
  gi_wp2_with fail
  have hb5 := Boxed.new w1 22 (.slice A l.length c)
  have hx5 := HX.out.alloc (.cells #[.slice A l.length c] 22)
  have hs5 := World.size_alloc w1 (.cells #[.slice A l.length c] 22)
  have hB5 : Below w.heap.size w (w1.alloc (.cells #[.slice A l.length c] 22)) := HB2.out.alloc HB2.out.size _
  have hr5 := HR.out.alloc (.cells #[.slice A l.length c] 22)
  obtain ⟨W0, hW0⟩ : ∃ W0, w1.alloc (.cells #[.slice A l.length c] 22) = W0 := ⟨_, rfl⟩
  rw [hW0] at hb5 hx5 hs5 hB5 hr5 ⊢
  clear hW0
  have hlt : w.heap.size < W0.heap.size := by have := HS1.out; omega
  have hlq : l.length ≤ 1099511627776 := by have := HFL.out; omega
  refine wpIn_range2 (gf := 53) (lb := #[.pointer (some ⟨w1.heap.size, 0, none⟩)]) rfl (enters_of Try.func53 (by kernel_rfl) rfl)
    (jall_iter w1.heap.size A l.length c l W0 hb5 hr5 hlq) (fun _ h => h.elim) (Below.refl _ _) (fun _ => rfl) (fun D => jaV_own l _ D _)
    (fun D => JrI w W0.heap.size D) (fun _ _ _ => False) (fun D => jrI_own w _ D _ (by omega)) (fun _ _ _ _ _ hs _ _ => hs) (fun D hD => ⟨⟨none, 0, hx5, World.ownsRow_nil _ _ _ _⟩, by simp, hB5, by omega⟩)
    (fun x => { tmps := #[.pointer dp, undef, .pointer (some ⟨w.heap.size, 0, none⟩), .int .i64 (er), .slice A l.length c, .slice x.ad x.b.length x.c, .tuple #[.slice A l.length c, .int .i64 (er)], .pointer dp,
      .tuple #[.slice A l.length c, .int .i64 (er)], .slice A l.length c, .int .i64 (er), .slice A l.length c, .func (.func 53) #[] #[.pointer (some ⟨w1.heap.size, 0, none⟩)], .slice x.ad x.b.length x.c, undef, undef, undef, undef, undef, undef], defers := [] }) ?assign ?body ?done (fun _ _ _ _ _ _ h _ => h.elim)
  case assign =>
    intro lp x W K hK
    dsimp only [Ld.one]
    gi_wp2
    exact hK
  case body =>
    rintro lp D pre x W hi hv hD1 hD2
    obtain ⟨A', c', hbx, hown⟩ := hi.box
    have hc0 := hbx.cell
    have hf0 := hbx.frozen
    have hbnd : pre.length + 1 ≤ 1099511627777 := by
      obtain ⟨r, hr⟩ := hv.pre
      have h1 := length_le_szs (loads l)
      have h2 := loads_le _ l rfl
      have h3 := congrArg List.length hr
      simp [lb] at h3
      omega
    gi_wp2_with (gi_at_builtin; refine app_bsI rfl (.tmp 14) (.tmp 16) rfl D A' c' _ _ rfl (hown.alloc _) _ _ _ [x.val] rfl (Rd.lit W 1 1 #[x.val] _ _ rfl (by simp [maxLen])) (by simp [Ld.val, Value.oneCell']) (by omega) (by simp; omega) ?_; intro A1 c1 w3 ho1 hg1 hat1 hn1; have hx1 := (hbx.alloc _).kept hg1 (hbx.not_row (by decide) hown); have hc1 := hx1.cell; have hf1 := hx1.frozen; have HO1 := Lib.hid ho1; have HG1 := Lib.hid hg1; clear ho1 hg1 hat1 hn1 hx1)
    obtain ⟨k1, k2, k3⟩ := jrow_step (B' := W0.heap.size) hi hv hlt (by omega) hD2 hbx hown HO1.out HG1.out
    exact ⟨k1, k2.mono (fun k h => h.imp id (fun h => ⟨by omega, h.2⟩)), k3⟩
  case done =>
    rintro D Dn xs W hD hS hi hK
    obtain ⟨A', c', hbx, hown⟩ := hi.box
    have hbel := hi.bel
    have hc0 := hbx.cell
    have hf0 := hbx.frozen
    have HI := Lib.hid hi
    have HOWN := Lib.hid hown
    clear hi hown
    gi_wp2
    have hDw : D ≠ w.heap.size := by omega
    have r1 : (W.setCell ⟨w.heap.size, 0, none⟩ (.slice A' xs.length c')).heap[D]? = some (.deferred (some [])) := (Below.heap_setCell W ⟨w.heap.size, 0, none⟩ _ D hDw).trans hK
    have hz := (hbx.set (.slice A' xs.length c')).kept (grownBy_putObj' _ D (.deferred none)) (fun e => hDw (by injection e with e; exact e.symm))
    have hbz : Below w.heap.size w ((W.setCell ⟨w.heap.size, 0, none⟩ (.slice A' xs.length c')).putObj D (.deferred none)) := (hbel.setCell (p := ⟨w.heap.size, 0, none⟩) (Nat.le_refl _) _).grown (grownBy_putObj' _ _ _) (by have := hbel.size; simp; omega) (fun k e => by cases e; omega)
    have hnc : ∀ r, some D = some r → ∃ o : Obj, (W.setCell ⟨w.heap.size, 0, none⟩ (.slice A' xs.length c')).heap[r]? = some o ∧ o.isCells = false := fun r e => by cases e; exact ⟨_, r1, rfl⟩
    have ho3 := (HOWN.out.kept (grownBy_setCell' W w.heap.size (.slice A' xs.length c')) (.inr (hbx.not_row (by decide) HOWN.out).symm))
    have ho4 := own_kept ho3 (grownBy_putObj' _ D (.deferred none)) hnc
    have hlen : (loads l).length = xs.length := by rw [← hS]; simp [lb]
    have hbb : BB ((W.setCell ⟨w.heap.size, 0, none⟩ (.slice A' xs.length c')).putObj D (.deferred none)) w.heap.size A' (loads l).length c' (loads l) (xs.map Ld.val) := by
      rw [hlen]
      refine ⟨Rd.of_own ho4, hlen, fun a ha => ?_, fun i x hx => ?_⟩
      · have h1 := own_new HOWN.out a ha
        have h2 := HI.out.le
        omega
      · rw [← hS] at hx
        simp only [lb, List.getElem?_map, Option.map_eq_some_iff] at hx
        obtain ⟨y, hy, rfl⟩ := hx
        obtain ⟨h1, h2⟩ := HI.out.rows y (List.mem_of_getElem? hy)
        refine ⟨y.ad, y.c, by rw [List.getElem?_map, hy]; rfl, ?_, fun a e => by have := (h2 a e).1; omega⟩
        exact Rd.own (rd_setCell h1 (p := ⟨w.heap.size, 0, none⟩) (fun ad e => by have := (h2 ad e).1; simp only []; omega) _) (grownBy_putObj' _ D (.deferred none)) hnc
    refine ⟨by simp, .inl ⟨_, _, rfl, run_takeDeferred r1, ?_⟩⟩
    have q1 := hz.cell
    generalize ((W.setCell ⟨w.heap.size, 0, none⟩ (.slice A' xs.length c')).putObj D (.deferred none)) = W4 at q1 hbz hbb ⊢
    refine ⟨.tuple #[.slice A' xs.length c', .int .i64 er], ?_, hbz, A', c', _, by rw [hlen], hbb⟩
    clear hbz hz r1 hc0 hf0 hbb ho3 ho4 hnc hS hs5 hlt hlq
    simp [results, Try.results14, go_sem, q1]
end Go.Proofs.Ytckofpdhcpabnaa
