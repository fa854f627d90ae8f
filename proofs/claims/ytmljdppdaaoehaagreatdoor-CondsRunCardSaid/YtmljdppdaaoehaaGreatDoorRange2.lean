/- A range over a function that holds memory of its own while it yields. -/
/- A range over a function whose variable is made anew in each round. No program is named here. -/
import Derived.Test.YtmljdppdaaoehaaGreatDoorStillIn
namespace Go.Proofs.YtmljdppdaaoehaaGreatDoor
open Go.RowKit
set_option linter.unusedVariables false
set_option linter.unusedSimpArgs false

theorem boxBel {W W' : World} {b : Nat} {t : TypeId} {v : Value} (h : Boxed W b t v) (hb : Below W.heap.size W W') : Boxed W' b t v := (hb.block b h.lt).trans h

/-- the contract of such an iterator value: D: the heap's size when the first round begins; what lies between the call's begin and D is the iterator's own, and a round leaves it -/
def Iter2 {α : Type} (P : Program) (g : Nat) (lb : Array Value) (encs : α → Array Value) (K : Nat → Prop) (V : Nat → List α → α → World → Prop) (S Sp : List α → Prop) (w : World) : Prop :=
  ∀ (n l : Nat) (J : Nat → List α → World → Prop) (Jx : List α → World → Prop) (W : World), Below w.heap.size w W → (∀ D, Lasts (J D)) → Lasts Jx →
    (∀ D pre x W1, W.heap.size ≤ D → D ≤ W1.heap.size → J D pre W1 → V D pre x W1 → YieldAt Fence.wide (n - 1) P l (encs x) W1 fun e W' =>
      (e = .returned (.bool true) ∧ J D (pre ++ [x]) W' ∧ Keeps (fun k => K k ∨ (W.heap.size ≤ k ∧ k < D)) W1 W') ∨ (e = .returned (.bool false) ∧ Jx (pre ++ [x]) W')) →
    (∀ D, W.heap.size ≤ D → J D [] W) →
    CallsIn Fence.wide n P g (#[.func (.yield l) #[] #[]] ++ lb) W fun e W' => (∃ v, e = .returned v) ∧ ((∃ D xs, S xs ∧ J D xs W') ∨ (∃ pre, Sp pre ∧ Jx pre W'))

section
variable {α : Type} {P : Program} {n : Nat} {g : Operand} {ps : Array Tmp} {assign body : Code} {Q : Exit → Act → World → Prop} {a : Act} {w : World}
/-- THE LAW: a range over a function, outermost, at the wide fence -/
theorem wpIn_range2 {gf : Nat} {lb : Array Value} (hg : a.eval g = .func (.func gf) #[] lb) (eg : ∀ args w, (callFunc gf args).run P w = .ok (.enter gf args) w)
    {encs : α → Array Value} {K : Nat → Prop} {V : Nat → List α → α → World → Prop} {S Sp : List α → Prop} {w0 : World} (hseq : Iter2 P gf lb encs K V S Sp w0)
    (hK : ∀ k, K k → k < w.heap.size) (hb0 : Below w0.heap.size w0 w) (hps : ∀ x, (encs x).size = ps.size)
    (hV : ∀ D, OwnFrom w.heap.size (fun (s : List α × α) W => V D s.1 s.2 W))
    (I : Nat → List α → World → Prop) (Ix : Code → List α → World → Prop) (hI : ∀ D, OwnFrom w.heap.size (I D)) (hIx : ∀ c, OwnFrom w.heap.size (Ix c)) (h0 : ∀ D, w.heap.size ≤ D → I D [] w) (a₁ : α → Act)
    (hassign : ∀ (l : Nat) (x : α) (W : World) (K : Act → World → Prop), K (a₁ x) W →
      assign.wpIn (Fence.wide.inRound l) (n - 1 - 1) P (Exit.then K (fun _ _ _ => False)) { tmps := (ps.zip (encs x)).foldl (fun t (p, v) => t.setIfInBounds p v) a.tmps, defers := [] } W)
    (hbody : ∀ (l Dn : Nat) (pre : List α) (x : α) (W : World), I Dn pre W → V Dn pre x W → w.heap.size + 2 ≤ Dn → Dn ≤ W.heap.size → body.wpIn (Fence.wide.inRound l) (n - 1 - 1) P (bodyOut w.heap.size (fun k => K k ∨ (w.heap.size + 2 ≤ k ∧ k < Dn)) (I Dn) Ix (pre ++ [x]) W) (a₁ x) W)
    (hdone : ∀ (D Dn : Nat) (xs : List α) (W : World), w.heap.size ≤ D → S xs → I Dn xs W → W.heap[D]? = some (.deferred (some [])) → Q .normal { a with defers := { target := .collected D, args := #[] } :: a.defers } W)
    (hstop : ∀ (D : Nat) (c : Code) (pre : List α) (W : World), w.heap.size ≤ D → Sp pre → Ix c pre W → W.heap[D]? = some (.deferred (some [])) → c.wpIn Fence.wide n P Q { a with defers := { target := .collected D, args := #[] } :: a.defers } W) :
    (Code.rangeFunc g ps assign body).wpIn Fence.wide n P Q a w := by
  refine wpIn_rangeFunc fun fn _ => ?_
  let rec_ : LoopState → Option Code → Loop := fun st pe => { state := st, pending := pe, fn, tmps := a.tmps, params := ps, assign, body, defers := w.heap.size }
  let W1 := (w.alloc (.deferred (some []))).alloc (.loop (rec_ .ready none))
  have hr1 : RecAt rec_ (w.heap.size + 1) w.heap.size .ready none W1 := by
    refine ⟨?_, (Below.heap_alloc _ _ _ (by simp)).trans (World.alloc_heap_new w _)⟩
    have := World.alloc_heap_new (w.alloc (.deferred (some []))) (.loop (rec_ .ready none))
    rwa [World.size_alloc] at this
  have hK1 : ∀ Dn : Nat, ¬ (K (w.heap.size + 1) ∨ (w.heap.size + 2 ≤ w.heap.size + 1 ∧ w.heap.size + 1 < Dn)) := fun Dn h => by
    rcases h with h | h
    · have := hK _ h; omega
    · omega
  have hsW1 : W1.heap.size = w.heap.size + 2 := by simp [W1]
  -- a step that only brings new blocks: the record lies
  have lasts : ∀ {st p} {X Y : World}, RecAt rec_ (w.heap.size + 1) w.heap.size st p X → Below X.heap.size X Y → RecAt rec_ (w.heap.size + 1) w.heap.size st p Y := by
    intro st p X Y h hb
    exact ⟨(hb.block _ (Array.getElem?_eq_some_iff.1 h.1).1).trans h.1, (hb.block _ (Array.getElem?_eq_some_iff.1 h.2).1).trans h.2⟩
  -- the record is turned
  have turned : ∀ {st p} (st' : LoopState) (p' : Option Code) {X : World}, RecAt rec_ (w.heap.size + 1) w.heap.size st p X → RecAt rec_ (w.heap.size + 1) w.heap.size st' p' (X.putObj (w.heap.size + 1) (.loop (rec_ st' p'))) := by
    intro st p st' p' X h
    exact ⟨World.putObj_heap_same (Array.getElem?_eq_some_iff.1 h.1).1, (World.putObj_heap_other (by omega)).trans h.2⟩
  have own_put : ∀ {β : Type} {J : β → World → Prop} {s : β} {st p} {X : World} (o : Obj), OwnFrom w.heap.size J → RecAt rec_ (w.heap.size + 1) w.heap.size st p X → J s X → J s (X.putObj (w.heap.size + 1) o) :=
    fun o hJ hr hs => hJ.putObj o hs (by omega) hr.1 rfl
  have hbW1 : Below w.heap.size w W1 := ((Below.refl _ w).alloc (Nat.le_refl _) _).alloc (by simp) _
  refine ⟨w.heap.size + 1, [{ target := .collected w.heap.size, args := #[] }], W1, { target := .fn (.func gf) lb, args := #[.func (.yield (w.heap.size + 1)) #[] #[]] }, W1, gf,
    #[.func (.yield (w.heap.size + 1)) #[] #[]] ++ lb, W1, run_enterLoop_outer _ _ _ _ _, ?_, fun _ _ => trivial, ?_, (fun h => by cases h), ?_⟩
  · simp only [resolve, hg]; simp [go_sem]
  · simp [invoke, go_sem, eg]
  refine (hseq (n - 1) (w.heap.size + 1)
    (fun Dn pre W => (I Dn pre W ∧ w.heap.size ≤ W.heap.size) ∧ RecAt rec_ (w.heap.size + 1) w.heap.size .ready none W)
    (fun pre W => ∃ c, Ix c pre W ∧ RecAt rec_ (w.heap.size + 1) w.heap.size .done (some c) W)
    W1 (hb0.trans (hbW1.mono hb0.size)) ?_ ?_ ?_ (fun Dn hDn => ⟨⟨((hI Dn).alloc _ ((hI Dn).alloc _ (h0 Dn (Nat.le_trans hbW1.size hDn)))), hbW1.size⟩, hr1⟩)).mono ?_
  · intro Dn s X Y hs hb
    exact ⟨⟨hI Dn s X Y none hs.1.1 (grown_none_of_below hb) (fun r e => by cases e), Nat.le_trans hs.1.2 hb.size⟩, lasts hs.2 hb⟩
  · rintro s X Y ⟨c, hc, hr⟩ hb
    exact ⟨c, hIx c s X Y none hc (grown_none_of_below hb) (fun r e => by cases e), lasts hr hb⟩
  · rintro Dn pre x W hD1 hD2 ⟨⟨hi, hle⟩, hr⟩ hv
    rw [hsW1] at hD1
    refine ⟨fn, _, assign, body, run_yield (P := P) (args := encs x) hr.1 (hps x), roundIn_of_wpIn trivial (hassign _ x W _ ⟨_, run_beginRound hr.1 rfl, ?_⟩)⟩
    have hr2 := turned .busy none hr
    have fin : ∀ (jump : Option Code) (W3 : World), KeepsFrom w.heap.size (W.putObj (w.heap.size + 1) (.loop (rec_ .busy none))) W3 →
        RecAt rec_ (w.heap.size + 1) w.heap.size .busy none W3 := fun jump W3 hk3 => ⟨hk3.same _ _ (by omega) hr2.1 rfl, hk3.same _ _ (Nat.le_refl _) hr2.2 rfl⟩
    refine wpIn_mono (hbody _ Dn pre x _ (own_put _ (hI Dn) hr hi) (own_put (J := fun (s : List α × α) W => V Dn s.1 s.2 W) (s := (pre, x)) _ (hV Dn) hr hv) hD1 (by simpa using hD2)) ?_
    rintro e a3 W3 hp
    cases e with
    | normal =>
      obtain ⟨hk3, hkp, hi3⟩ := hp
      have hr3 := fin none W3 hk3
      refine ⟨_, _, run_endRound none hr3.1, .inl ⟨rfl, ⟨⟨own_put _ (hI Dn) hr3 hi3, ?_⟩, turned .ready none hr3⟩, by rw [hsW1]; exact ((Keeps.putObj (hK1 Dn) _ _).trans hkp).trans (Keeps.putObj (hK1 Dn) _ _)⟩⟩
      have := hk3.size
      simp at this ⊢
      omega
    | ret =>
      have hr3 := fin (some .ret) W3 hp.1
      exact ⟨_, _, run_endRound (some .ret) hr3.1, .inr ⟨rfl, .ret, own_put _ (hIx _) hr3 hp.2, turned .done (some .ret) hr3⟩⟩
    | exit id =>
      have hr3 := fin (some (.exit id)) W3 hp.1
      exact ⟨_, _, run_endRound (some (.exit id)) hr3.1, .inr ⟨rfl, .exit id, own_put _ (hIx _) hr3 hp.2, turned .done (some (.exit id)) hr3⟩⟩
    | goto t =>
      have hr3 := fin (some (.goto t)) W3 hp.1
      exact ⟨_, _, run_endRound (some (.goto t)) hr3.1, .inr ⟨rfl, .goto t, own_put _ (hIx _) hr3 hp.2, turned .done (some (.goto t)) hr3⟩⟩
    | panic ch => exact hp.elim
    | outgrown => exact hp.elim
  · rintro e W2 ⟨⟨v, rfl⟩, (⟨Dn, xs, hS, ⟨hi, _⟩, hr⟩ | ⟨pre, hSp, c, hi, hr⟩)⟩
    · exact ⟨none, _, run_endLoop hr.1 (by simp [rec_]), hdone _ Dn xs _ (Nat.le_refl _) hS (own_put _ (hI Dn) hr hi) ((World.putObj_heap_other (by omega)).trans hr.2)⟩
    · exact ⟨some c, _, run_endLoop hr.1 (by simp [rec_]), hstop _ c pre _ (Nat.le_refl _) hSp (own_put _ (hIx c) hr hi) ((World.putObj_heap_other (by omega)).trans hr.2)⟩
end
end Go.Proofs.YtmljdppdaaoehaaGreatDoor
namespace Go.Proofs.YtmljdppdaaoehaaGreatDoor
open Go.RowKit
set_option linter.unusedVariables false
set_option linter.unusedSimpArgs false

section
variable {α : Type} {P : Program} {n : Nat} {g : Operand} {ps : Array Tmp} {assign body : Code} {Q : Exit → Act → World → Prop} {a : Act} {w : World}
/-- THE LAW, where the variable is made anew in each round -/
theorem wpIn_range3 {gf : Nat} {lb : Array Value} (hg : a.eval g = .func (.func gf) #[] lb) (eg : ∀ args w, (callFunc gf args).run P w = .ok (.enter gf args) w)
    {encs : α → Array Value} {K : Nat → Prop} {V : Nat → List α → α → World → Prop} {S Sp : List α → Prop} {w0 : World} (hseq : Iter2 P gf lb encs K V S Sp w0)
    (hK : ∀ k, K k → k < w.heap.size) (hb0 : Below w0.heap.size w0 w) (hps : ∀ x, (encs x).size = ps.size)
    (hV : ∀ D, OwnFrom w.heap.size (fun (s : List α × α) W => V D s.1 s.2 W))
    (I : Nat → List α → World → Prop) (Ix : Code → List α → World → Prop) (hI : ∀ D, OwnFrom w.heap.size (I D)) (hIx : ∀ c, OwnFrom w.heap.size (Ix c)) (h0 : ∀ D, w.heap.size ≤ D → I D [] w) (Ax : α × Act → World → Prop) (hAx : OwnFrom w.heap.size Ax)
    (hassign : ∀ (l : Nat) (x : α) (W : World) (K : Act → World → Prop), w.heap.size + 2 ≤ W.heap.size → (∀ a' W', Below W.heap.size W W' → Ax (x, a') W' → K a' W') →
      assign.wpIn (Fence.wide.inRound l) (n - 1 - 1) P (Exit.then K (fun _ _ _ => False)) { tmps := (ps.zip (encs x)).foldl (fun t (p, v) => t.setIfInBounds p v) a.tmps, defers := [] } W)
    (hbody : ∀ (l Dn : Nat) (pre : List α) (x : α) (a₁ : Act) (W : World), I Dn pre W → V Dn pre x W → Ax (x, a₁) W → w.heap.size + 2 ≤ Dn → Dn ≤ W.heap.size → body.wpIn (Fence.wide.inRound l) (n - 1 - 1) P (bodyOut w.heap.size (fun k => K k ∨ (w.heap.size + 2 ≤ k ∧ k < Dn)) (I Dn) Ix (pre ++ [x]) W) a₁ W)
    (hdone : ∀ (D Dn : Nat) (xs : List α) (W : World), w.heap.size ≤ D → S xs → I Dn xs W → W.heap[D]? = some (.deferred (some [])) → Q .normal { a with defers := { target := .collected D, args := #[] } :: a.defers } W)
    (hstop : ∀ (D : Nat) (c : Code) (pre : List α) (W : World), w.heap.size ≤ D → Sp pre → Ix c pre W → W.heap[D]? = some (.deferred (some [])) → c.wpIn Fence.wide n P Q { a with defers := { target := .collected D, args := #[] } :: a.defers } W) :
    (Code.rangeFunc g ps assign body).wpIn Fence.wide n P Q a w := by
  refine wpIn_rangeFunc fun fn _ => ?_
  let rec_ : LoopState → Option Code → Loop := fun st pe => { state := st, pending := pe, fn, tmps := a.tmps, params := ps, assign, body, defers := w.heap.size }
  let W1 := (w.alloc (.deferred (some []))).alloc (.loop (rec_ .ready none))
  have hr1 : RecAt rec_ (w.heap.size + 1) w.heap.size .ready none W1 := by
    refine ⟨?_, (Below.heap_alloc _ _ _ (by simp)).trans (World.alloc_heap_new w _)⟩
    have := World.alloc_heap_new (w.alloc (.deferred (some []))) (.loop (rec_ .ready none))
    rwa [World.size_alloc] at this
  have hK1 : ∀ Dn : Nat, ¬ (K (w.heap.size + 1) ∨ (w.heap.size + 2 ≤ w.heap.size + 1 ∧ w.heap.size + 1 < Dn)) := fun Dn h => by
    rcases h with h | h
    · have := hK _ h; omega
    · omega
  have hsW1 : W1.heap.size = w.heap.size + 2 := by simp [W1]
  -- a step that only brings new blocks: the record lies
  have lasts : ∀ {st p} {X Y : World}, RecAt rec_ (w.heap.size + 1) w.heap.size st p X → Below X.heap.size X Y → RecAt rec_ (w.heap.size + 1) w.heap.size st p Y := by
    intro st p X Y h hb
    exact ⟨(hb.block _ (Array.getElem?_eq_some_iff.1 h.1).1).trans h.1, (hb.block _ (Array.getElem?_eq_some_iff.1 h.2).1).trans h.2⟩
  -- the record is turned
  have turned : ∀ {st p} (st' : LoopState) (p' : Option Code) {X : World}, RecAt rec_ (w.heap.size + 1) w.heap.size st p X → RecAt rec_ (w.heap.size + 1) w.heap.size st' p' (X.putObj (w.heap.size + 1) (.loop (rec_ st' p'))) := by
    intro st p st' p' X h
    exact ⟨World.putObj_heap_same (Array.getElem?_eq_some_iff.1 h.1).1, (World.putObj_heap_other (by omega)).trans h.2⟩
  have own_put : ∀ {β : Type} {J : β → World → Prop} {s : β} {st p} {X : World} (o : Obj), OwnFrom w.heap.size J → RecAt rec_ (w.heap.size + 1) w.heap.size st p X → J s X → J s (X.putObj (w.heap.size + 1) o) :=
    fun o hJ hr hs => hJ.putObj o hs (by omega) hr.1 rfl
  have hbW1 : Below w.heap.size w W1 := ((Below.refl _ w).alloc (Nat.le_refl _) _).alloc (by simp) _
  refine ⟨w.heap.size + 1, [{ target := .collected w.heap.size, args := #[] }], W1, { target := .fn (.func gf) lb, args := #[.func (.yield (w.heap.size + 1)) #[] #[]] }, W1, gf,
    #[.func (.yield (w.heap.size + 1)) #[] #[]] ++ lb, W1, run_enterLoop_outer _ _ _ _ _, ?_, fun _ _ => trivial, ?_, (fun h => by cases h), ?_⟩
  · simp only [resolve, hg]; simp [go_sem]
  · simp [invoke, go_sem, eg]
  refine (hseq (n - 1) (w.heap.size + 1)
    (fun Dn pre W => (I Dn pre W ∧ w.heap.size ≤ W.heap.size) ∧ RecAt rec_ (w.heap.size + 1) w.heap.size .ready none W)
    (fun pre W => ∃ c, Ix c pre W ∧ RecAt rec_ (w.heap.size + 1) w.heap.size .done (some c) W)
    W1 (hb0.trans (hbW1.mono hb0.size)) ?_ ?_ ?_ (fun Dn hDn => ⟨⟨((hI Dn).alloc _ ((hI Dn).alloc _ (h0 Dn (Nat.le_trans hbW1.size hDn)))), hbW1.size⟩, hr1⟩)).mono ?_
  · intro Dn s X Y hs hb
    exact ⟨⟨hI Dn s X Y none hs.1.1 (grown_none_of_below hb) (fun r e => by cases e), Nat.le_trans hs.1.2 hb.size⟩, lasts hs.2 hb⟩
  · rintro s X Y ⟨c, hc, hr⟩ hb
    exact ⟨c, hIx c s X Y none hc (grown_none_of_below hb) (fun r e => by cases e), lasts hr hb⟩
  · rintro Dn pre x W hD1 hD2 ⟨⟨hi, hle⟩, hr⟩ hv
    rw [hsW1] at hD1
    refine ⟨fn, _, assign, body, run_yield (P := P) (args := encs x) hr.1 (hps x), roundIn_of_wpIn trivial (hassign _ x W _ (by omega) (fun a₁ Wa hba hax => ⟨_, run_beginRound (lasts hr hba).1 rfl, ?_⟩))⟩
    have hra := lasts hr hba
    have hia := hI Dn pre W Wa none hi (grown_none_of_below hba) (fun r e => by cases e)
    have hva : V Dn pre x Wa := hV Dn (pre, x) W Wa none hv (grown_none_of_below hba) (fun r e => by cases e)
    have hsa := hba.size
    have hKa : Keeps (fun k => K k ∨ (w.heap.size + 2 ≤ k ∧ k < Dn)) W Wa := Keeps.of_below hba (fun k hk => by
      rcases hk with hk | hk
      · have := hK k hk; omega
      · omega)
    have hr2 := turned .busy none hra
    have fin : ∀ (jump : Option Code) (W3 : World), KeepsFrom w.heap.size (Wa.putObj (w.heap.size + 1) (.loop (rec_ .busy none))) W3 →
        RecAt rec_ (w.heap.size + 1) w.heap.size .busy none W3 := fun jump W3 hk3 => ⟨hk3.same _ _ (by omega) hr2.1 rfl, hk3.same _ _ (Nat.le_refl _) hr2.2 rfl⟩
    refine wpIn_mono (hbody _ Dn pre x a₁ _ (own_put _ (hI Dn) hra hia) (own_put (J := fun (s : List α × α) W => V Dn s.1 s.2 W) (s := (pre, x)) _ (hV Dn) hra hva) (own_put _ hAx hra hax) hD1 (by simp; omega)) ?_
    rintro e a3 W3 hp
    cases e with
    | normal =>
      obtain ⟨hk3, hkp, hi3⟩ := hp
      have hr3 := fin none W3 hk3
      refine ⟨_, _, run_endRound none hr3.1, .inl ⟨rfl, ⟨⟨own_put _ (hI Dn) hr3 hi3, ?_⟩, turned .ready none hr3⟩, by rw [hsW1]; exact hKa.trans (((Keeps.putObj (hK1 Dn) _ _).trans hkp).trans (Keeps.putObj (hK1 Dn) _ _))⟩⟩
      have := hk3.size
      simp at this ⊢
      omega
    | ret =>
      have hr3 := fin (some .ret) W3 hp.1
      exact ⟨_, _, run_endRound (some .ret) hr3.1, .inr ⟨rfl, .ret, own_put _ (hIx _) hr3 hp.2, turned .done (some .ret) hr3⟩⟩
    | exit id =>
      have hr3 := fin (some (.exit id)) W3 hp.1
      exact ⟨_, _, run_endRound (some (.exit id)) hr3.1, .inr ⟨rfl, .exit id, own_put _ (hIx _) hr3 hp.2, turned .done (some (.exit id)) hr3⟩⟩
    | goto t =>
      have hr3 := fin (some (.goto t)) W3 hp.1
      exact ⟨_, _, run_endRound (some (.goto t)) hr3.1, .inr ⟨rfl, .goto t, own_put _ (hIx _) hr3 hp.2, turned .done (some (.goto t)) hr3⟩⟩
    | panic ch => exact hp.elim
    | outgrown => exact hp.elim
  · rintro e W2 ⟨⟨v, rfl⟩, (⟨Dn, xs, hS, ⟨hi, _⟩, hr⟩ | ⟨pre, hSp, c, hi, hr⟩)⟩
    · exact ⟨none, _, run_endLoop hr.1 (by simp [rec_]), hdone _ Dn xs _ (Nat.le_refl _) hS (own_put _ (hI Dn) hr hi) ((World.putObj_heap_other (by omega)).trans hr.2)⟩
    · exact ⟨some c, _, run_endLoop hr.1 (by simp [rec_]), hstop _ c pre _ (Nat.le_refl _) hSp (own_put _ (hIx c) hr hi) ((World.putObj_heap_other (by omega)).trans hr.2)⟩
end
end Go.Proofs.YtmljdppdaaoehaaGreatDoor
