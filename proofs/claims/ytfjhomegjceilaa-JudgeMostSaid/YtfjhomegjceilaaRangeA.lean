/- A range over a function whose round lays its variable into a new block (Go's loop variable that is addressed). No program is named here. -/
import Derived.Test.YtfjhomegjceilaaRange
import Derived.Test.YtfjhomegjceilaaMem
namespace Go.Proofs.Ytfjhomegjceilaa
open Go.RowKit

section
variable {α : Type} {P : Program} {n : Nat} {g : Operand} {ps : Array Tmp} {assign body : Code} {Q : Exit → Act → World → Prop} {a : Act} {w : World}

/-- THE LAW: a range over a function whose round lays its variable into a new block first -/
theorem wpIn_rangeA (cs : α → Array Value) (tA : TypeId) {gf : Nat} {lb : Array Value} (hg : a.eval g = .func (.func gf) #[] lb) (eg : ∀ args w, (callFunc gf args).run P w = .ok (.enter gf args) w)
    {encs : α → Array Value} {K : Nat → Prop} {V : List α → α → World → Prop} {S Sp : List α → Prop} {w0 : World} (hseq : Iter P gf lb encs K V S Sp w0)
    (hK : ∀ k, K k → k < w.heap.size) (hb0 : Below w0.heap.size w0 w) (hps : ∀ x, (encs x).size = ps.size)
    (hV : OwnFrom w.heap.size (fun (s : List α × α) W => V s.1 s.2 W))
    (I : List α → World → Prop) (Ix : Code → List α → World → Prop) (hI : OwnFrom w.heap.size I) (hIx : ∀ c, OwnFrom w.heap.size (Ix c)) (h0 : I [] w) (a₁ : α → Nat → Act)
    (hassign : ∀ (l : Nat) (x : α) (W : World) (K : Act → World → Prop), K (a₁ x W.heap.size) (W.alloc (.cells (cs x) tA)) →
      assign.wpIn (Fence.wide.inRound l) (n - 1 - 1) P (Exit.then K (fun _ _ _ => False)) { tmps := (ps.zip (encs x)).foldl (fun t (p, v) => t.setIfInBounds p v) a.tmps, defers := [] } W)
    (hbody : ∀ (l : Nat) (pre : List α) (x : α) (b : Nat) (W : World), I pre W → V pre x W → w.heap.size ≤ b → Blk W b (cs x) tA → body.wpIn (Fence.wide.inRound l) (n - 1 - 1) P (bodyOut w.heap.size K I Ix (pre ++ [x]) W) (a₁ x b) W)
    (hdone : ∀ (D : Nat) (xs : List α) (W : World), w.heap.size ≤ D → S xs → I xs W → W.heap[D]? = some (.deferred (some [])) → Q .normal { a with defers := { target := .collected D, args := #[] } :: a.defers } W)
    (hstop : ∀ (D : Nat) (c : Code) (pre : List α) (W : World), w.heap.size ≤ D → Sp pre → Ix c pre W → W.heap[D]? = some (.deferred (some [])) → c.wpIn Fence.wide n P Q { a with defers := { target := .collected D, args := #[] } :: a.defers } W) :
    (Code.rangeFunc g ps assign body).wpIn Fence.wide n P Q a w := by
  refine wpIn_rangeFunc fun fn _ => ?_
  let rec_ : LoopState → Option Code → Loop := fun st pe => { state := st, pending := pe, fn, tmps := a.tmps, params := ps, assign, body, defers := w.heap.size }
  let W1 := (w.alloc (.deferred (some []))).alloc (.loop (rec_ .ready none))
  have hr1 : RecAt rec_ (w.heap.size + 1) w.heap.size .ready none W1 := by
    refine ⟨?_, (Below.heap_alloc _ _ _ (by simp)).trans (World.alloc_heap_new w _)⟩
    have := World.alloc_heap_new (w.alloc (.deferred (some []))) (.loop (rec_ .ready none))
    rwa [World.size_alloc] at this
  have hK1 : ¬ K (w.heap.size + 1) := fun h => by have := hK _ h; omega
  -- a step that only brings new blocks: the record lies
  have lasts : ∀ {st p} {X Y : World}, RecAt rec_ (w.heap.size + 1) w.heap.size st p X → Below X.heap.size X Y → RecAt rec_ (w.heap.size + 1) w.heap.size st p Y := by
    intro st p X Y h hb
    exact ⟨(hb.block _ (Array.getElem?_eq_some_iff.1 h.1).1).trans h.1, (hb.block _ (Array.getElem?_eq_some_iff.1 h.2).1).trans h.2⟩
  -- the record is turned
  have turned : ∀ {st p} (st' : LoopState) (p' : Option Code) {X : World}, RecAt rec_ (w.heap.size + 1) w.heap.size st p X → RecAt rec_ (w.heap.size + 1) w.heap.size st' p' (X.putObj (w.heap.size + 1) (.loop (rec_ st' p'))) := by
    intro st p st' p' X h
    exact ⟨World.putObj_heap_same (Array.getElem?_eq_some_iff.1 h.1).1, (World.putObj_heap_other (by omega)).trans h.2⟩
  have own_put : ∀ {β : Type} {J : β → World → Prop} {s : β} {st p} {X : World} (o : Obj), OwnFrom w.heap.size J → RecAt rec_ (w.heap.size + 1) w.heap.size st p X → J s X → J s (X.putObj (w.heap.size + 1) o) :=
    fun o hJ hr hs => hJ.putObj o hs (by omega) hr.1 rfl
  have hbW1 : Below w.heap.size w W1 := ((Below.refl _ w).alloc (Nat.le_refl _) _).alloc (by simp) _
  refine ⟨w.heap.size + 1, [{ target := .collected w.heap.size, args := #[] }], W1, { target := .fn (.func gf) lb, args := #[.func (.yield (w.heap.size + 1)) #[] #[]] }, W1, gf,
    #[.func (.yield (w.heap.size + 1)) #[] #[]] ++ lb, W1, run_enterLoop_outer _ _ _ _ _, ?_, fun _ _ => trivial, ?_, (fun h => by cases h), ?_⟩
  · simp only [resolve, hg]; simp [go_sem]
  · simp [invoke, go_sem, eg]
  refine (hseq (n - 1) (w.heap.size + 1)
    (fun pre W => (I pre W ∧ w.heap.size ≤ W.heap.size) ∧ RecAt rec_ (w.heap.size + 1) w.heap.size .ready none W)
    (fun pre W => ∃ c, Ix c pre W ∧ RecAt rec_ (w.heap.size + 1) w.heap.size .done (some c) W)
    W1 (hb0.trans (hbW1.mono hb0.size)) ?_ ?_ ?_ ⟨⟨(hI.alloc _ (hI.alloc _ h0)), hbW1.size⟩, hr1⟩).mono ?_
  · intro s X Y hs hb
    exact ⟨⟨hI s X Y none hs.1.1 (grown_none_of_below hb) (fun r e => by cases e), Nat.le_trans hs.1.2 hb.size⟩, lasts hs.2 hb⟩
  · rintro s X Y ⟨c, hc, hr⟩ hb
    exact ⟨c, hIx c s X Y none hc (grown_none_of_below hb) (fun r e => by cases e), lasts hr hb⟩
  · rintro pre x W ⟨⟨hi, hle⟩, hr⟩ hv
    have hbA : Below W.heap.size W (W.alloc (.cells (cs x) tA)) := (Below.refl _ W).alloc (Nat.le_refl _) _
    have hkA : Keeps K W (W.alloc (.cells (cs x) tA)) := Keeps.of_below hbA (fun k hk => Nat.lt_of_lt_of_le (hK k hk) hle)
    have hnA : (W.alloc (.cells (cs x) tA)).heap[W.heap.size]? = some (.cells (cs x) tA (0, 0)) := World.alloc_heap_new W _
    have hsA : (W.alloc (.cells (cs x) tA)).heap.size = W.heap.size + 1 := World.size_alloc ..
    have hgA : W.grownBy (W.alloc (.cells (cs x) tA)) none := grown_none_of_below hbA
    have hlr : W.heap.size ≠ w.heap.size + 1 := by have := (Array.getElem?_eq_some_iff.1 hr.1).1; omega
    have hiA := hI pre W _ none hi hgA (fun r e => by cases e)
    have hvA := hV (pre, x) W _ none hv hgA (fun r e => by cases e)
    have hrA := lasts hr hbA
    refine ⟨fn, _, assign, body, run_yield (P := P) (args := encs x) hr.1 (hps x), roundIn_of_wpIn trivial (hassign _ x W _ ⟨_, run_beginRound hrA.1 rfl, ?_⟩)⟩
    clear hr hi hv
    have hle0 := hle
    obtain ⟨WA, hWA⟩ : ∃ WA, WA = W.alloc (.cells (cs x) tA) := ⟨_, rfl⟩
    rw [← hWA] at hkA hnA hsA hiA hvA hrA ⊢
    have hr2 := turned .busy none hrA
    have fin : ∀ (jump : Option Code) (W3 : World), KeepsFrom w.heap.size (WA.putObj (w.heap.size + 1) (.loop (rec_ .busy none))) W3 →
        RecAt rec_ (w.heap.size + 1) w.heap.size .busy none W3 := fun jump W3 hk3 => ⟨hk3.same _ _ (by omega) hr2.1 rfl, hk3.same _ _ (Nat.le_refl _) hr2.2 rfl⟩
    refine wpIn_mono (hbody _ pre x W.heap.size _ (own_put _ hI hrA hiA) (own_put (J := fun (s : List α × α) W => V s.1 s.2 W) (s := (pre, x)) _ hV hrA hvA) hle ((World.putObj_heap_other hlr).trans hnA)) ?_
    rintro e a3 W3 hp
    cases e with
    | normal =>
      obtain ⟨hk3, hkp, hi3⟩ := hp
      have hr3 := fin none W3 hk3
      refine ⟨_, _, run_endRound none hr3.1, .inl ⟨rfl, ⟨⟨own_put _ hI hr3 hi3, ?_⟩, turned .ready none hr3⟩, ((hkA.trans (Keeps.putObj hK1 _ _)).trans hkp).trans (Keeps.putObj hK1 _ _)⟩⟩
      have := hk3.size
      simp at this ⊢
      omega
    | ret =>
      have hr3 := fin (some .ret) W3 hp.1
      exact ⟨_, _, run_endRound (some .ret) hr3.1, .inr ⟨rfl, .ret, own_put _ (hIx _) hr3 hp.2, turned .done (some .ret) hr3⟩⟩
    | exit id =>
      have hr3 := fin (some (.exit id)) W3 hp.1
      exact ⟨_, _, run_endRound (some (.exit id)) hr3.1, .inr ⟨rfl, .exit id, own_put _ (hIx _) hr3 hp.2, turned .done (some (.exit id)) hr3⟩⟩
    | goto t =>
      have hr3 := fin (some (.goto t)) W3 hp.1
      exact ⟨_, _, run_endRound (some (.goto t)) hr3.1, .inr ⟨rfl, .goto t, own_put _ (hIx _) hr3 hp.2, turned .done (some (.goto t)) hr3⟩⟩
    | panic ch => exact hp.elim
    | outgrown => exact hp.elim
  · rintro e W2 ⟨⟨v, rfl⟩, (⟨xs, hS, ⟨hi, _⟩, hr⟩ | ⟨pre, hSp, c, hi, hr⟩)⟩
    · exact ⟨none, _, run_endLoop hr.1 (by simp [rec_]), hdone _ xs _ (Nat.le_refl _) hS (own_put _ hI hr hi) ((World.putObj_heap_other (by omega)).trans hr.2)⟩
    · exact ⟨some c, _, run_endLoop hr.1 (by simp [rec_]), hstop _ c pre _ (Nat.le_refl _) hSp (own_put _ (hIx c) hr hi) ((World.putObj_heap_other (by omega)).trans hr.2)⟩
end

end Go.Proofs.Ytfjhomegjceilaa
