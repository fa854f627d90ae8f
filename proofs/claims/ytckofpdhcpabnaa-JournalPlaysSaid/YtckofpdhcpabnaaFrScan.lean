/- frame.Scan. -/
import Derived.Test.YtckofpdhcpabnaaFrAll
import Derived.Shelf.RegionOpen
namespace Go.Proofs.Ytckofpdhcpabnaa
open Go.RowKit
attribute [local go_sem] Oper.semAt_some

/-- a slice of byte slices reads as ls, whatever it leads to lies from block B on -/
structure BB (w : World) (B : Nat) (A : Option Addr) (n c : Nat) (ls : List (List UInt8)) (vs : List Value) : Prop where
  rd : Rd w 1 A n c vs
  len : ls.length = n
  new : ∀ a, A = some a → B ≤ a.block
  row : ∀ (i : Nat) (x : List UInt8), ls[i]? = some x → ∃ Ai ci, vs[i]? = some (Value.slice Ai x.length ci) ∧ Rd w 1 Ai x.length ci (bv x) ∧ ∀ a, Ai = some a → B ≤ a.block
theorem BB.below {w w' : World} {B n c : Nat} {A : Option Addr} {ls : List (List UInt8)} {vs : List Value} (h : BB w B A n c ls vs) (hb : Below w.heap.size w w') : BB w' B A n c ls vs :=
  ⟨h.rd.below hb, h.len, h.new, fun i x hx => by obtain ⟨Ai, ci, h1, h2, h3⟩ := h.row i x hx; exact ⟨Ai, ci, h1, h2.below hb, h3⟩⟩

def Ld.val (x : Ld) : Value := .slice x.ad x.b.length x.c

def ScanP (l : List UInt8) (w : World) (e : Ending) (w' : World) : Prop :=
  ∃ A c vs, e = .returned (.tuple #[.slice A (loads l).length c, .int .i64 ((l.length : Int) - (szs (loads l) : Int))]) ∧ BB w' w.heap.size A (loads l).length c (loads l) vs ∧ Below w.heap.size w w'

/-- between two rounds -/
structure ScanI (n : Nat) (w : World) (pre : List Ld) (W : World) : Prop where
  box : ∃ A c, Boxed W w.heap.size 23 (.slice A pre.length c) ∧ W.ownsRow (w.heap.size + 3) 22 1 (.slice A pre.length c) pre.length (pre.map Ld.val)
  torn : Boxed W (w.heap.size + 1) 3 (.int .i64 ((n : Int) - (szs (lb pre) : Int)))
  rows : ∀ x ∈ pre, W.ownsRow w.heap.size 5 1 x.val x.b.length (bv x.b)
  bel : Below w.heap.size w W

theorem scanI_own (n : Nat) (w : World) : OwnFrom (w.heap.size + 3) (ScanI n w) := by
  intro pre W W' row h hg hr
  have hr' : ∀ r, row = some r → ∃ o : Obj, W.heap[r]? = some o ∧ o.isCells = false := fun r e => (hr r e).2
  obtain ⟨A, c, h1, h2⟩ := h.box
  exact ⟨⟨A, c, boxed_kept h1 hg hr', own_kept h2 hg hr'⟩, boxed_kept h.torn hg hr', fun x hx => own_kept (h.rows x hx) hg hr',
    h.bel.grown hg (by have := h.bel.size; omega) (fun k e => by have := (hr k e).1; omega)⟩
theorem ldV_own (l : List UInt8) (B : Nat) (B' : Nat) : OwnFrom B' (fun (s : List Ld × Ld) W => LdV l B s.1 s.2 W) := by
  intro s W W' row h hg hr
  exact ⟨h.pos, h.le, h.pre, own_kept h.own hg (fun r e => (hr r e).2), h.lo, h.hi⟩

theorem scan_done {n : Nat} {w W : World} {l : List UInt8} {xs : List Ld} {A' : Option Addr} {c' D : Nat} {z : Int} (hi : ScanI n w xs W) (hS : lb xs = loads l) (hD : w.heap.size + 3 ≤ D)
    (hbx : Boxed W w.heap.size 23 (.slice A' xs.length c')) (hown : W.ownsRow (w.heap.size + 3) 22 1 (.slice A' xs.length c') xs.length (xs.map Ld.val)) (hK : W.heap[D]? = some (.deferred (some []))) :
    let W3 := ((W.setCell ⟨w.heap.size, 0, none⟩ (.slice A' xs.length c')).setCell ⟨w.heap.size + 1, 0, none⟩ (.int .i64 z)).drew
    W3.heap[D]? = some (.deferred (some [])) ∧ Boxed (W3.putObj D (.deferred none)) w.heap.size 23 (.slice A' xs.length c') ∧ Boxed (W3.putObj D (.deferred none)) (w.heap.size + 1) 3 (.int .i64 z) ∧
      BB (W3.putObj D (.deferred none)) w.heap.size A' (loads l).length c' (loads l) (xs.map Ld.val) ∧ Below w.heap.size w (W3.putObj D (.deferred none)) := by
  intro W3
  have k1 := grownBy_setCell' W w.heap.size (.slice A' xs.length c')
  have k2 := grownBy_setCell' (W.setCell ⟨w.heap.size, 0, none⟩ (.slice A' xs.length c')) (w.heap.size + 1) (.int .i64 z)
  have b1 := hi.torn.kept k1 (by simp)
  have b2 := (hbx.set (.slice A' xs.length c')).kept k2 (by simp)
  have b3 := b1.set (.int .i64 z)
  have hK3 : W3.heap[D]? = some (.deferred (some [])) := (k2.block D (by simpa using (Array.getElem?_eq_some_iff.1 hK).1) (by simp; omega)).trans ((k1.block D (Array.getElem?_eq_some_iff.1 hK).1 (by simp; omega)).trans hK)
  have own3 : ∀ {base e n v ys}, e ≠ 23 → e ≠ 3 → W.ownsRow base e 1 v n ys → (W3.putObj D (.deferred none)).ownsRow base e 1 v n ys := by
    intro base e n v ys h1 h2 h
    have h3 := h.kept k1 (.inr (hbx.not_row (Ne.symm h1) h).symm)
    exact ownsRow_putObj (own_drew (h3.kept k2 (.inr (b1.not_row (Ne.symm h2) h3).symm))) _ hK3 rfl
  have hlen : (loads l).length = xs.length := by rw [← hS]; simp [lb]
  have hR := own3 (by decide) (by decide) hown
  have hB3 : Below w.heap.size w W3 := ((hi.bel.setCell (p := ⟨w.heap.size, 0, none⟩) (Nat.le_refl _) _).setCell (p := ⟨w.heap.size + 1, 0, none⟩) (Nat.le_succ _) _).drew
  refine ⟨hK3, ?_, ?_, ⟨by rw [hlen]; exact Rd.of_own hR, rfl, fun a ha => by have := own_new hR a ha; omega, ?_⟩, hB3.grown (grownBy_putObj' _ _ _) hB3.size (fun k e => by cases e; omega)⟩
  · exact Boxed.kept (W := W3) b2 (grownBy_putObj' _ _ _) (by simp; omega)
  · exact Boxed.kept (W := W3) b3 (grownBy_putObj' _ _ _) (by simp; omega)
  · intro i x hx
    rw [← hS] at hx
    simp only [lb, List.getElem?_map, Option.map_eq_some_iff] at hx
    obtain ⟨y, hy, rfl⟩ := hx
    have h1 := own3 (by decide) (by decide) (hi.rows y (List.mem_of_getElem? hy))
    exact ⟨y.ad, y.c, by rw [List.getElem?_map, hy]; rfl, Rd.of_own h1, own_new h1⟩

/-- the world behind a round of Scan -/
def scanW (w1 : World) (B k : Nat) (A1 : Option Addr) (c1 : Nat) (z : Int) : World := ((w1.setCell ⟨B, 0, none⟩ (.slice A1 (k + 1) c1)).setCell ⟨B + 1, 0, none⟩ (.int .i64 z)).drew

theorem scan_step {n : Nat} {w W w1 : World} {l : List UInt8} {pre : List Ld} {x : Ld} {A A' A1 : Option Addr} {c' c1 : Nat} {tmp : Obj} {z : Int} (hi : ScanI n w pre W) (hv : LdV l (w.heap.size + 3) pre x W) (hA : ∀ ad, A = some ad → 0 < n → ad.block < w.heap.size)
    (hown : W.ownsRow (w.heap.size + 3) 22 1 (.slice A' pre.length c') pre.length (pre.map Ld.val)) (hle : w.heap.size + 3 ≤ W.heap.size)
    (ho1 : w1.ownsRow (w.heap.size + 3) 22 1 (.slice A1 (pre.length + 1) c1) (pre.length + 1) (pre.map Ld.val ++ [x.val])) (hg1 : (W.alloc tmp).grownBy w1 (Value.slice A' pre.length c').ownBlock)
    (hx1 : Boxed w1 w.heap.size 23 (.slice A' pre.length c')) (hx2 : Boxed w1 (w.heap.size + 1) 3 (.int .i64 ((n : Int) - (szs (lb pre) : Int)))) (hz : z = (n : Int) - (szs (lb (pre ++ [x])) : Int)) :
    KeepsFrom (w.heap.size + 3) W (scanW w1 w.heap.size pre.length A1 c1 z) ∧ Keeps (AllK (w.heap.size + 2) A n) W (scanW w1 w.heap.size pre.length A1 c1 z) ∧ ScanI n w (pre ++ [x]) (scanW w1 w.heap.size pre.length A1 c1 z) := by
  have hrow : ∀ g, (Value.slice A' pre.length c').ownBlock = some g → w.heap.size + 3 ≤ g := fun g hg => (hown.lt g hg).1
  have hsz1 := hg1.size
  simp at hsz1
  have sep : ∀ y : Ld, W.ownsRow w.heap.size 5 1 y.val y.b.length (bv y.b) → (scanW w1 w.heap.size pre.length A1 c1 z).ownsRow w.heap.size 5 1 y.val y.b.length (bv y.b) := by
    intro y hy
    have h1 : w1.ownsRow w.heap.size 5 1 y.val y.b.length (bv y.b) := (hy.alloc tmp).kept hg1 (own_ne hy hown (by decide))
    have h2 := h1.kept (grownBy_setCell' w1 w.heap.size (.slice A1 (pre.length + 1) c1)) (.inr (hx1.not_row (by decide) h1).symm)
    have hx2' : Boxed (w1.setCell ⟨w.heap.size, 0, none⟩ (.slice A1 (pre.length + 1) c1)) (w.heap.size + 1) 3 _ := hx2.kept (grownBy_setCell' _ _ _) (by simp)
    exact own_drew (h2.kept (grownBy_setCell' _ _ _) (.inr (hx2'.not_row (by decide) h2).symm))
  have hbel : Below w.heap.size W (scanW w1 w.heap.size pre.length A1 c1 z) :=
    (((((Below.refl w.heap.size W).alloc (by omega) tmp).grown hg1 (by simp; omega) (fun k hk => by have := hrow k hk; omega)).setCell (p := ⟨w.heap.size, 0, none⟩) (Nat.le_refl _) _).setCell (p := ⟨w.heap.size + 1, 0, none⟩) (Nat.le_succ _) _).drew
  have hx2' : Boxed (w1.setCell ⟨w.heap.size, 0, none⟩ (.slice A1 (pre.length + 1) c1)) (w.heap.size + 1) 3 (.int .i64 ((n : Int) - (szs (lb pre) : Int))) := hx2.kept (grownBy_setCell' _ _ _) (by simp)
  refine ⟨?_, ⟨hbel.os, hbel.tape, hbel.output, hbel.size, ?_⟩, ⟨⟨A1, c1, ?_, ?_⟩, ?_, ?_, hi.bel.trans hbel⟩⟩
  · refine ((KeepsOthers.alloc W tmp).trans ((KeepsOthers.of_grownBy hg1 fun j o ej hj => ?_).trans ((KeepsOthers.setCell w1 ⟨w.heap.size, 0, none⟩ _).trans ((KeepsOthers.setCell _ ⟨w.heap.size + 1, 0, none⟩ _).trans (KeepsOthers.drew _))))).from _
    rcases (hown.alloc tmp).2 with ⟨e, _⟩ | ⟨g, cap, cur, e, _, hgb, _⟩
    · rw [e] at ej; simp [Value.ownBlock] at ej
    · rw [e] at ej
      obtain rfl : g = j := by simpa [Value.ownBlock] using ej
      rw [hgb] at hj; cases hj; rfl
  · intro k hk
    rcases hk with rfl | ⟨ad, e, h0, rfl⟩
    · have h0 : W.heap.size ≤ w1.heap.size := by omega
      have h1 : w1.heap[w.heap.size + 2]? = W.heap[w.heap.size + 2]? := (hg1.block _ (by simp; omega) (fun e => by have := hrow _ e.symm; omega)).trans (Below.heap_alloc W tmp _ (by omega))
      refine Eq.trans ?_ h1
      exact (Below.heap_setCell _ _ _ _ (by simp)).trans (Below.heap_setCell _ _ _ _ (by simp))
    · exact hbel.block _ (hA ad e h0)
  · have := hx1.set (.slice A1 (pre.length + 1) c1)
    have h2 := this.kept (grownBy_setCell' _ (w.heap.size + 1) (.int .i64 z)) (by simp)
    rw [List.length_append, List.length_singleton]
    exact h2
  · rw [List.length_append, List.length_singleton, List.map_append, List.map_singleton]
    have h2 := ho1.kept (grownBy_setCell' w1 w.heap.size (.slice A1 (pre.length + 1) c1)) (.inr (hx1.not_row (by decide) ho1).symm)
    exact own_drew (h2.kept (grownBy_setCell' _ _ _) (.inr (hx2'.not_row (by decide) h2).symm))
  · rw [← hz]; exact hx2'.set (.int .i64 z)
  · intro y hy
    rcases List.mem_append.1 hy with hy | hy
    · exact sep y (hi.rows y hy)
    · rw [List.mem_singleton] at hy
      subst hy
      exact sep y (own_le hv.own (by omega))

set_option maxRecDepth 100000 in
set_option maxHeartbeats 2000000 in
theorem scan_any (A : Option Addr) (n c : Nat) (l : List UInt8) (w : World) (hr : Rd w 1 A n c (bv l)) (hn : n ≤ 1099511627776) :
    Calls Try.prog 36 #[.slice A n c] w (ScanP l w) := by
  have hl := hr.blen
  have hc := hr.cap
  have hm := hr.max
  unfold maxLen at hm
  have HL := Lib.hid hl
  clear hl
  have hAd : ∀ ad, A = some ad → 0 < n → ad.block < w.heap.size := by
    rintro ad rfl h0
    exact hr.lt (by rw [bv_length, HL.out]; exact h0)
  refine (callsIn_wide (n := 3)).1 ?_
  refine callsIn_of_wp_marks Try.func36 rfl trivial ?_
  simp only [Try.ntmps36, List.size_toArray, List.length_cons, List.length_nil, Nat.reduceAdd, Nat.reduceSub, Array.replicate_succ, Array.replicate_zero, List.push_toArray, List.append_toArray, List.nil_append, List.cons_append]
  gi_wp2_with fail
  refine ⟨trivial, (callsIn_wide.2 (all_any _ _ _ _)).mono ?_⟩
  rintro e w' ⟨rfl, rfl⟩
  gi_wp2_with fail
  obtain ⟨W0, hW0⟩ : ∃ W0, (((w.alloc (.cells #[.slice none 0 0] 23)).alloc (.cells #[.int .i64 (n : Int)] 3)).alloc (.cells #[.slice A n c] 22)) = W0 := ⟨_, rfl⟩
  have b0 : Boxed W0 w.heap.size 23 (.slice none 0 0) := by rw [← hW0]; exact ((Boxed.new w _ _).alloc _).alloc _
  have b1 : Boxed W0 (w.heap.size + 1) 3 (.int .i64 (n : Int)) := by
    rw [← hW0]; have := (Boxed.new (w.alloc (.cells #[.slice none 0 0] 23)) 3 (.int .i64 (n : Int))).alloc (.cells #[.slice A n c] 22); rwa [World.size_alloc] at this
  have b2 : Boxed W0 (w.heap.size + 2) 22 (.slice A n c) := by
    rw [← hW0]; have := (Boxed.new ((w.alloc (.cells #[.slice none 0 0] 23)).alloc (.cells #[.int .i64 (n : Int)] 3)) 22 (.slice A n c)); rwa [World.size_alloc, World.size_alloc] at this
  have hsz : W0.heap.size = w.heap.size + 3 := by rw [← hW0]; simp
  have hB0 : Below w.heap.size w W0 := by rw [← hW0]; exact (((Below.refl _ w).alloc (Nat.le_refl _) _).alloc (by simp) _).alloc (by simp; omega) _
  rw [hW0]
  have HW0 := Lib.hid hW0
  clear hW0
  have hrd := hr.below hB0
  refine wpIn_range (gf := 55) (lb := #[.pointer (some ⟨w.heap.size + 2, 0, none⟩)]) rfl (enters_of Try.func55 (by kernel_rfl) rfl)
    (all_iter (w.heap.size + 2) A n c l W0 b2 hrd (by omega)) ?hK (Below.refl _ _) (fun _ => rfl) (ldV_own l _ _) (ScanI n w) (fun _ _ _ => False) (by rw [hsz]; exact scanI_own n w) (fun _ _ _ _ _ hs _ _ => hs)
    ⟨⟨none, 0, b0, World.ownsRow_nil _ _ _ _⟩, by simpa using b1, by simp, hB0⟩
    (fun x => { tmps := #[.slice A n c, undef, .pointer (some ⟨w.heap.size, 0, none⟩), .pointer (some ⟨w.heap.size + 1, 0, none⟩), undef, .slice x.ad x.b.length x.c, .slice A n c, .int .i64 n, .slice A n c,
      .func (.func 55) #[] #[.pointer (some ⟨w.heap.size + 2, 0, none⟩)], .int .i64 x.pos, .slice x.ad x.b.length x.c, undef, undef, undef, undef, undef, undef, undef, undef, undef, undef, undef], defers := [] }) ?assign ?body ?done ?stop
  case hK =>
    rintro k (rfl | ⟨ad, e, h0, rfl⟩)
    · omega
    · have := hAd ad e h0; omega
  case assign =>
    intro lp x W K hK
    dsimp only [Ld.enc]
    gi_wp2
    exact hK
  case stop =>
    rintro D ch pre W _ _ h _
    exact h.elim
  case body =>
    rintro lp pre x W hi hv hle
    obtain ⟨A', c', hbx, hown⟩ := hi.box
    have htn := hi.torn
    have hbnd : pre.length + 1 ≤ 1099511627777 := by
      have h1 := length_le_szs (lb pre)
      have h2 := hv.le
      have h3 := HL.out
      simp [lb] at h1 h2
      omega
    have hle2 : szs (lb pre) + (x.b.length + 4) ≤ n := by have h2 := hv.le; have h3 := HL.out; omega
    have hb1 := hv.lo
    have hb2 := hv.hi
    have hszW := hi.bel.size
    have hc0 := hbx.cell
    have hf0 := hbx.frozen
    rw [hsz] at hle
    gi_wp2_with (gi_at_builtin; refine app_bsI rfl (.tmp 12) (.tmp 14) rfl (w.heap.size + 3) A' c' _ _ rfl (hown.alloc _) _ _ _ [x.val] rfl (Rd.lit W 1 1 #[x.val] _ _ rfl (by simp [maxLen])) (by simp [Ld.val, Value.oneCell']) (by omega) (by simp; omega) ?_; intro A1 c1 w1 ho1 hg1 hat1 hn1; have hx1 := (hbx.alloc _).kept hg1 (hbx.not_row (by decide) hown); have hx2 := (htn.alloc _).kept hg1 (htn.not_row (by decide) hown); have hc1 := hx1.cell; have hf1 := hx1.frozen; have hc2 := hx2.cell; have hf2 := hx2.frozen; have HO1 := Lib.hid ho1; have HG1 := Lib.hid hg1; clear ho1 hg1 hat1 hn1)
    have hzz : IntKind.i64.wrap ((n : Int) - (szs (lb pre) : Int) - ((x.b.length : Int) + 4)) = (n : Int) - (szs (lb (pre ++ [x])) : Int) := by
      rw [lb_snoc, szs_snoc, IntKind.wrap_i64]; omega
    have HZ := Lib.hid hzz
    clear hzz
    have hmix : Try.prog.follows .mixedOrders = true := by kernel_rfl
    gi_region_with_o (refine ⟨trivial, ?_⟩; gi_at_call 46; refine (CallsIn.inRound lp (callsIn_wide.2 (size_yes _ (by omega) (by omega) _))).mono ?_; rintro e w' ⟨rfl, rfl⟩)
    all_goals (gi_wp2; exact (by rw [hsz]; exact scan_step hi (by rw [hsz] at hv; exact hv) hAd hown hle HO1.out HG1.out hx1 hx2 HZ.out))
  case done =>
    rintro D xs W hD hS hi hK
    obtain ⟨A', c', hbx, hown⟩ := hi.box
    have htn := hi.torn
    have hc0 := hbx.cell
    have hf0 := hbx.frozen
    have hc1 := htn.cell
    have hf1 := htn.frozen
    gi_wp2
    gi_region
    all_goals gi_wp2
    rw [← hS]
    obtain ⟨r1, r2, r3, r4, r5⟩ := scan_done (z := (n : Int) - (szs (lb xs) : Int)) hi hS (by rw [hsz] at hD; exact hD) hbx hown hK
    refine ⟨by simp, .inl ⟨_, _, rfl, run_takeDeferred r1, ?_⟩⟩
    have q1 := r2.cell
    have q2 := r3.cell
    generalize (((W.setCell ⟨w.heap.size, 0, none⟩ (.slice A' xs.length c')).setCell ⟨w.heap.size + 1, 0, none⟩ (.int .i64 ((n : Int) - (szs (lb xs) : Int)))).drew.putObj D (.deferred none)) = W4 at r2 r3 r4 r5 q1 q2 ⊢
    refine ⟨.tuple #[.slice A' xs.length c', .int .i64 ((n : Int) - (szs (lb xs) : Int))], ?_, ⟨A', c', _, ?_, r4, r5⟩⟩
    · clear r2 r3 r4 r5 hS hsz
      simp [results, Try.results36, go_sem, q1, q2]
    · have hlen : (loads l).length = xs.length := by rw [← hS]; simp [lb]
      rw [hlen, HL.out, hS]
end Go.Proofs.Ytckofpdhcpabnaa
