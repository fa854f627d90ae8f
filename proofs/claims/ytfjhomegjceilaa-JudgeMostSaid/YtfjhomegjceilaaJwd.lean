/- hoardinglaw31.wakes: what judge.Order keeps while it goes over a trace. -/
import Derived.Test.YtfjhomegjceilaaJwc
import Derived.Test.YtfjhomegjceilaaStillIn
import Derived.RegionIn
namespace Go.Proofs.Ytfjhomegjceilaa
open Go.RowKit Go.Maps
set_option linter.unusedVariables false
set_option linter.unusedSimpArgs false
theorem one_WK (qc c qt : Nat) : (#[.int .i8 0, .int .i64 2, .slice none 0 0, .slice none 0 0, .slice none 0 0, .slice none 0 0, .string ⟨#[]⟩, .slice none 0 0, .int .i64 0, .int .i8 0, .slice none 0 0, .slice none 0 0, .string ⟨#[]⟩, .slice none 0 0, .slice (some ⟨qc, 0, none⟩) 2 c, .slice (some ⟨qt, 0, none⟩) 2 2, .int .i8 0, .int .i8 0] : Array Value).all (·.oneCell') = true := by simp [Value.oneCell']
section
variable {α : Type} {P : Program} {n : Nat} {g : Operand} {ps : Array Tmp} {assign body : Code} {Q : Exit → Act → World → Prop} {a : Act} {w : World}
/-- THE LAW: the same, the round's frame told by the two slots that turn -/
theorem wpIn_rangeT (p r : Nat) (val : α → Value) (cs : α → Array Value) (tA : TypeId) {gf : Nat} {lb : Array Value} (hg : a.eval g = .func (.func gf) #[] lb) (eg : ∀ args w, (callFunc gf args).run P w = .ok (.enter gf args) w)
    {encs : α → Array Value} {K : Nat → Prop} {V : List α → α → World → Prop} {S Sp : List α → Prop} {w0 : World} (hseq : Iter P gf lb encs K V S Sp w0)
    (hK : ∀ k, K k → k < w.heap.size) (hb0 : Below w0.heap.size w0 w) (hps : ∀ x, (encs x).size = ps.size)
    (hV : OwnFrom w.heap.size (fun (s : List α × α) W => V s.1 s.2 W))
    (I : List α → World → Prop) (Ix : Code → List α → World → Prop) (hI : OwnFrom w.heap.size I) (hIx : ∀ c, OwnFrom w.heap.size (Ix c)) (h0 : I [] w)
    (hassign : ∀ (l : Nat) (x : α) (W : World) (K : Act → World → Prop), K { tmps := (a.tmps.setIfInBounds p (val x)).setIfInBounds r (.pointer (some ⟨W.heap.size, 0, none⟩)), defers := [] } (W.alloc (.cells (cs x) tA)) →
      assign.wpIn (Fence.wide.inRound l) (n - 1 - 1) P (Exit.then K (fun _ _ _ => False)) { tmps := (ps.zip (encs x)).foldl (fun t (p, v) => t.setIfInBounds p v) a.tmps, defers := [] } W)
    (hbody : ∀ (l : Nat) (pre : List α) (x : α) (b : Nat) (W : World), I pre W → V pre x W → w.heap.size ≤ b → Blk W b (cs x) tA → body.wpIn (Fence.wide.inRound l) (n - 1 - 1) P (bodyOut w.heap.size K I Ix (pre ++ [x]) W) { tmps := (a.tmps.setIfInBounds p (val x)).setIfInBounds r (.pointer (some ⟨b, 0, none⟩)), defers := [] } W)
    (hdone : ∀ (D : Nat) (xs : List α) (W : World), w.heap.size ≤ D → S xs → I xs W → W.heap[D]? = some (.deferred (some [])) → Q .normal { a with defers := { target := .collected D, args := #[] } :: a.defers } W)
    (hstop : ∀ (D : Nat) (c : Code) (pre : List α) (W : World), w.heap.size ≤ D → Sp pre → Ix c pre W → W.heap[D]? = some (.deferred (some [])) → c.wpIn Fence.wide n P Q { a with defers := { target := .collected D, args := #[] } :: a.defers } W) :
    (Code.rangeFunc g ps assign body).wpIn Fence.wide n P Q a w :=
  wpIn_rangeA cs tA hg eg hseq hK hb0 hps hV I Ix hI hIx h0 (fun x b => { tmps := (a.tmps.setIfInBounds p (val x)).setIfInBounds r (.pointer (some ⟨b, 0, none⟩)), defers := [] }) hassign hbody hdone hstop
end
theorem one_RU (qk : Nat) : (#[.func (.func 14) #[.pointer (some ⟨qk, 0, none⟩)] #[], .func (.func 15) #[.pointer (some ⟨qk, 0, none⟩)] #[], .func (.func 16) #[.pointer (some ⟨qk, 0, none⟩)] #[]] : Array Value).all (·.oneCell') = true := by simp [Value.oneCell']
theorem sz_RU : (Try.prog.info? 69).map (·.size) = some 3 := by kernel_rfl
def tcCs (x : Tc) : Array Value := #[.int .i64 x.tok, .bool x.fin, .bool x.ok]
theorem ML.map {w : World} {b n : Nat} {f : Int → Value} (h : ML w b n f) : ∃ es k, w.heap[b]? = some (.map es k) := by
  obtain ⟨D, ⟨es, k, h1, _⟩, _⟩ := h
  exact ⟨es, k, h1⟩
theorem ML.ne {w : World} {b n : Nat} {f : Int → Value} (h : ML w b n f) {p : Addr} {v : Value} (hc : w.cell? p = some v) : p.block ≠ b := by
  intro e
  obtain ⟨es, k, hm⟩ := h.map
  obtain ⟨o, ho, hq⟩ := cells_of_cell hc
  rw [e, hm] at ho
  cases ho
  cases hq
theorem cell_grown {w w' : World} {row : Option Nat} (hg : w.grownBy w' row) {p : Addr} {v : Value} (hc : w.cell? p = some v) (hr : row ≠ some p.block) : w'.cell? p = some v :=
  (World.cell?_of_block (hg.block _ (World.block_lt_of_cell? w _ hc) (fun e => hr e.symm))).trans hc
/-- the court under a write of another block (its map may be the one: then its new content is given) -/
theorem Ct.grown {w w' : World} {qk q0 qm qc ql c qt g g' o n n' : Nat} {f f' : Int → Value} (h : Ct w qk q0 qm qc ql c qt g g' o n f) {row : Option Nat} (hg : w.grownBy w' row) (hr : ∀ p v, w.cell? p = some v → p.block = qk ∨ p.block = q0 ∨ p.block = qc ∨ p.block = ql ∨ p.block = qt ∨ p.block = g ∨ p.block = g' → row ≠ some p.block) (hm : ML w' qm n' f') : Ct w' qk q0 qm qc ql c qt g g' o n' f' :=
  ⟨h.ct.grown hg (hr _ _ (h.ct.cell 0 rfl) (by simp)), h.wk.grown hg (hr _ _ (h.wk.cell 0 rfl) (by simp)), hm,
   h.hc.keep (fun k hk e => hg.block k hk (fun e' => by
     rcases e with rfl | rfl
     · exact hr _ _ (h.hc.cell 0 _ rfl) (by simp) e'.symm
     · exact hr _ _ h.hc.nm (by simp) e'.symm)),
   ⟨fun i v hv => cell_grown hg (h.ht.cell i v hv) (hr _ _ (h.ht.cell i v hv) (by simp))⟩,
   cell_grown hg h.g0 (hr _ _ h.g0 (by simp)), cell_grown hg h.g1 (hr _ _ h.g1 (by simp)), cell_grown hg h.gi (hr _ _ h.gi (by simp))⟩
/-- what Order keeps -/
structure OL (w : World) (F : List Tc → Int → Value) (qk q0 qm qc ql c qt g g' o qb qat B : Nat) (xs : List Tc) (W : World) : Prop where
  bel : Below w.heap.size w W
  ct : Ct W qk q0 qm qc ql c qt g g' o xs.length (F xs)
  cb : Boxed W qb 54 (.pointer (some ⟨qk, 0, none⟩))
  at_ : Boxed W qat 3 (.int .i64 (xs.length : Nat))
  le : B ≤ W.heap.size
theorem OL.own {w : World} {F : List Tc → Int → Value} {qk q0 qm qc ql c qt g g' o qb qat B : Nat} (hm : qm < B) (hw : w.heap.size ≤ B) : OwnFrom B (OL w F qk q0 qm qc ql c qt g g' o qb qat B) := by
  intro xs W W' row h hg hr
  have hne : ∀ p v, W.cell? p = some v → row ≠ some p.block := fun p v hc e => by
    obtain ⟨_, o, ho, hq⟩ := hr _ e
    obtain ⟨o2, ho2, hq2⟩ := cells_of_cell hc
    rw [ho] at ho2
    injection ho2 with ho2
    rw [ho2, hq2] at hq
    cases hq
  exact ⟨h.bel.grown hg h.bel.size (fun k e => by have := (hr k e).1; omega), h.ct.grown hg (fun p v hc _ => hne p v hc) (h.ct.ml.grown hg (fun e => by have := (hr _ e).1; omega)), h.cb.kept hg (fun e => hne _ _ h.cb.cell e.symm), h.at_.kept hg (fun e => hne _ _ h.at_.cell e.symm), Nat.le_trans h.le hg.size⟩
theorem grownBy_setCell' (w : World) (p : Addr) (v : Value) : w.grownBy (w.setCell p v) (some p.block) :=
  ⟨rfl, rfl, rfl, by simp [World.setCell], fun k _ hk => Below.heap_setCell w p v k (fun e => hk (by rw [e]))⟩
theorem OL.step {w W Y Y2 : World} {F : List Tc → Int → Value} {qk q0 qm qc ql c qt g g' o qb qat B : Nat} {xs : List Tc} {x : Tc} {K : Nat → Prop} (h : OL w F qk q0 qm qc ql c qt g g' o qb qat B xs W) (hbY : Below W.heap.size W Y) (hg : Y.grownBy Y2 (some qm))
    (hm : ML Y2 qm (xs.length + 1) (F (xs ++ [x]))) (hqm : qm < B) (hqat : qat < B) (hwm : w.heap.size ≤ qm) (hwa : w.heap.size ≤ qat) (hne : ∀ k, k = qk ∨ k = q0 ∨ k = qc ∨ k = ql ∨ k = qt ∨ k = g ∨ k = g' ∨ k = qb → k ≠ qat) (hK : ∀ k, K k → k < B ∧ k ≠ qm ∧ k ≠ qat) :
    KeepsFrom B W (Y2.setCell ⟨qat, 0, none⟩ (.int .i64 (xs.length + 1 : Nat))) ∧ Keeps K W (Y2.setCell ⟨qat, 0, none⟩ (.int .i64 (xs.length + 1 : Nat))) ∧ OL w F qk q0 qm qc ql c qt g g' o qb qat B (xs ++ [x]) (Y2.setCell ⟨qat, 0, none⟩ (.int .i64 (xs.length + 1 : Nat))) := by
  have hB := h.le
  have hqam : qat ≠ qm := h.ct.ml.ne h.at_.cell
  have hg3 := grownBy_setCell' Y2 ⟨qat, 0, none⟩ (.int .i64 (xs.length + 1 : Nat))
  have hs3 : Y2.heap.size ≤ (Y2.setCell ⟨qat, 0, none⟩ (.int .i64 (xs.length + 1 : Nat))).heap.size := hg3.size
  have hall : ∀ k, k < W.heap.size → k ≠ qm → k ≠ qat → (Y2.setCell ⟨qat, 0, none⟩ (.int .i64 (xs.length + 1 : Nat))).heap[k]? = W.heap[k]? := fun k hk h1 h2 =>
    ((hg3.block k (by have := hbY.size; have := hg.size; omega) (fun e => h2 (by injection e))).trans (hg.block k (by have := hbY.size; omega) (fun e => h1 (by injection e)))).trans (hbY.block k hk)
  have hctY := h.ct.below hbY
  have hct2 := hctY.grown (n' := xs.length + 1) (f' := F (xs ++ [x])) hg (fun p v hc _ e => hctY.ml.ne hc (by injection e with e; exact e.symm)) hm
  have hat2 : Boxed Y2 qat 3 (.int .i64 (xs.length : Nat)) := (hg.block _ (by have := hbY.size; omega) (fun e => hqam (by injection e))).trans ((hbY.block _ (by omega)).trans h.at_)
  have hcbm : qb ≠ qm := h.ct.ml.ne h.cb.cell
  refine ⟨⟨by have := hbY.size; have := hg.size; omega, fun k ob hk h1 _ => (hall k (Array.getElem?_eq_some_iff.1 h1).1 (by omega) (by omega)).trans h1⟩, ⟨hg3.os.trans (hg.os.trans hbY.os), hg3.tape.trans (hg.tape.trans hbY.tape), hg3.output.trans (hg.output.trans hbY.output), by have := hbY.size; have := hg.size; omega, fun k hk => hall k (by have := (hK k hk).1; omega) (hK k hk).2.1 (hK k hk).2.2⟩, ?_⟩
  refine ⟨((h.bel.trans (hbY.mono h.bel.size)).grown hg (by have := hbY.size; have := h.bel.size; omega) (fun k e => by injection e with e; omega)).setCell (p := ⟨qat, 0, none⟩) hwa _, ?_, ?_, ?_, by have := hbY.size; have := hg.size; omega⟩
  · rw [List.length_append]
    exact hct2.grown hg3 (fun p v hc hp e => hne p.block (by rcases hp with h | h | h | h | h | h | h <;> simp [h]) (by injection e with e; exact e.symm)) (hm.grown hg3 (fun e => hqam (by injection e)))
  · exact (hall qb (h.cb.lt) hcbm (hne _ (by simp))).trans h.cb
  · rw [List.length_append]
    exact hat2.set _
theorem wp_world {P : Program} {cd : Code} {Q : Exit → Act → World → Prop} {a : Act} {w : World} (S : World → Prop) (hS : S w) (h : ∀ Y, S Y → cd.wp P Q a Y) : cd.wp P Q a w := h w hS
theorem wpIn_world {F : Fence} {n : Nat} {P : Program} {cd : Code} {Q : Exit → Act → World → Prop} {a : Act} {w : World} (S : World → Prop) (hS : S w) (h : ∀ Y, S Y → cd.wpIn F n P Q a Y) : cd.wpIn F n P Q a w := h w hS
end Go.Proofs.Ytfjhomegjceilaa
