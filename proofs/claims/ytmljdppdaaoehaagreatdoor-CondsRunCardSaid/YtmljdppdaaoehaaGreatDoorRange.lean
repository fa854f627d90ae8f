/- A range over a function at the wide fence: what is handed to a round may be spoken of in the round's world (V); which blocks the iterator leans on (K). No program is named here. -/
import Derived.Test.YtmljdppdaaoehaaGreatDoorBase
import Derived.RangeFuncNested
import Derived.RangeFuncBox
import Derived.RangeFuncLeaves
import Derived.RangeFuncCalls
import Derived.OwnWalkIn
import Derived.TacticsInMore
import Derived.LoopNIn
import Derived.LoopIn
namespace Go.Proofs.YtmljdppdaaoehaaGreatDoor
open Go.RowKit

/-- the blocks of K lie as they lay; no block has gone -/
structure Keeps (K : Nat → Prop) (W W' : World) : Prop where
  os : W'.os = W.os
  tape : W'.tape = W.tape
  output : W'.output = W.output
  size : W.heap.size ≤ W'.heap.size
  block : ∀ k, K k → W'.heap[k]? = W.heap[k]?
theorem Keeps.refl (K : Nat → Prop) (W : World) : Keeps K W W := ⟨rfl, rfl, rfl, Nat.le_refl _, fun _ _ => rfl⟩
theorem Keeps.trans {K : Nat → Prop} {A B C : World} (h : Keeps K A B) (k : Keeps K B C) : Keeps K A C :=
  ⟨k.os.trans h.os, k.tape.trans h.tape, k.output.trans h.output, Nat.le_trans h.size k.size, fun i hi => (k.block i hi).trans (h.block i hi)⟩
theorem Keeps.of_below {K : Nat → Prop} {B : Nat} {W W' : World} (h : Below B W W') (hK : ∀ k, K k → k < B) : Keeps K W W' :=
  ⟨h.os, h.tape, h.output, h.size, fun k hk => h.block k (hK k hk)⟩
theorem Keeps.below {B : Nat} {W W' : World} (h : Keeps (· < B) W W') : Below B W W' := ⟨h.os, h.tape, h.output, h.size, h.block⟩
theorem Keeps.mono {K K' : Nat → Prop} {W W' : World} (h : Keeps K W W') (hK : ∀ k, K' k → K k) : Keeps K' W W' := ⟨h.os, h.tape, h.output, h.size, fun k hk => h.block k (hK k hk)⟩
theorem Keeps.grown {K : Nat → Prop} {W W' : World} {row : Option Nat} (hg : W.grownBy W' row) (hK : ∀ k, K k → k < W.heap.size) (hr : ∀ k, row = some k → ¬ K k) : Keeps K W W' :=
  ⟨hg.os, hg.tape, hg.output, hg.size, fun k hk => hg.block k (hK k hk) (fun e => hr k e.symm hk)⟩

/-- what a statement says of the world lies on where new blocks come -/
def Lasts {β : Type} (J : β → World → Prop) : Prop := ∀ s W W', J s W → Below W.heap.size W W' → J s W'

theorem grown_none_of_below {W W' : World} (h : Below W.heap.size W W') : W.grownBy W' none := ⟨h.os, h.tape, h.output, h.size, fun k hk _ => h.block k hk⟩

/-- the contract of an iterator value -/
def Iter {α : Type} (P : Program) (g : Nat) (lb : Array Value) (encs : α → Array Value) (K : Nat → Prop) (V : List α → α → World → Prop) (S Sp : List α → Prop) (w : World) : Prop :=
  ∀ (n l : Nat) (J Jx : List α → World → Prop) (W : World), Below w.heap.size w W → Lasts J → Lasts Jx →
    (∀ pre x W1, J pre W1 → V pre x W1 → YieldAt Fence.wide (n - 1) P l (encs x) W1 fun e W' =>
      (e = .returned (.bool true) ∧ J (pre ++ [x]) W' ∧ Keeps K W1 W') ∨ (e = .returned (.bool false) ∧ Jx (pre ++ [x]) W')) →
    J [] W →
    CallsIn Fence.wide n P g (#[.func (.yield l) #[] #[]] ++ lb) W fun e W' => (∃ v, e = .returned v) ∧ ((∃ xs, S xs ∧ J xs W') ∨ (∃ pre, Sp pre ∧ Jx pre W'))

/-- how the body of a round may be left -/
def bodyOut {α : Type} (B : Nat) (K : Nat → Prop) (I : List α → World → Prop) (Ix : Code → List α → World → Prop) (xs : List α) (W : World) : Exit → Act → World → Prop
  | .normal, _, W' => KeepsFrom B W W' ∧ Keeps K W W' ∧ I xs W'
  | .ret, _, W' => KeepsFrom B W W' ∧ Ix .ret xs W'
  | .exit id, _, W' => KeepsFrom B W W' ∧ Ix (.exit id) xs W'
  | .goto t, _, W' => KeepsFrom B W W' ∧ Ix (.goto t) xs W'
  | .panic _, _, _ => False
  | .outgrown, _, _ => False

/-- the loop's record l in state st, the block D for the rounds' deferred calls open -/
def RecAt (rec : LoopState → Option Code → Loop) (l D : Nat) (st : LoopState) (p : Option Code) (W : World) : Prop :=
  W.heap[l]? = some (.loop (rec st p)) ∧ W.heap[D]? = some (.deferred (some []))

theorem Keeps.putObj {K : Nat → Prop} {l : Nat} (hl : ¬ K l) (W : World) (o : Obj) : Keeps K W (W.putObj l o) :=
  ⟨rfl, rfl, rfl, by simp, fun _ hk => World.putObj_heap_other (fun e => hl (e ▸ hk))⟩

section
variable {α : Type} {P : Program} {n : Nat} {g : Operand} {ps : Array Tmp} {assign body : Code} {Q : Exit → Act → World → Prop} {a : Act} {w : World}

/-- THE LAW: a range over a function, outermost, at the wide fence -/
theorem wpIn_range {gf : Nat} {lb : Array Value} (hg : a.eval g = .func (.func gf) #[] lb) (eg : ∀ args w, (callFunc gf args).run P w = .ok (.enter gf args) w)
    {encs : α → Array Value} {K : Nat → Prop} {V : List α → α → World → Prop} {S Sp : List α → Prop} {w0 : World} (hseq : Iter P gf lb encs K V S Sp w0)
    (hK : ∀ k, K k → k < w.heap.size) (hb0 : Below w0.heap.size w0 w) (hps : ∀ x, (encs x).size = ps.size)
    (hV : OwnFrom w.heap.size (fun (s : List α × α) W => V s.1 s.2 W))
    (I : List α → World → Prop) (Ix : Code → List α → World → Prop) (hI : OwnFrom w.heap.size I) (hIx : ∀ c, OwnFrom w.heap.size (Ix c)) (h0 : I [] w) (a₁ : α → Act)
    (hassign : ∀ (l : Nat) (x : α) (W : World) (K : Act → World → Prop), K (a₁ x) W →
      assign.wpIn (Fence.wide.inRound l) (n - 1 - 1) P (Exit.then K (fun _ _ _ => False)) { tmps := (ps.zip (encs x)).foldl (fun t (p, v) => t.setIfInBounds p v) a.tmps, defers := [] } W)
    (hbody : ∀ (l : Nat) (pre : List α) (x : α) (W : World), I pre W → V pre x W → w.heap.size ≤ W.heap.size → body.wpIn (Fence.wide.inRound l) (n - 1 - 1) P (bodyOut w.heap.size K I Ix (pre ++ [x]) W) (a₁ x) W)
    (hdone : ∀ (D : Nat) (xs : List α) (W : World), w.heap.size ≤ D → S xs → I xs W → W.heap[D]? = some (.deferred (some [])) → Q .normal { a with defers := { target := .collected D, args := #[] } :: a.defers } W)
    (hstop : ∀ (D : Nat) (c : Code) (pre : List α) (W : World), w.heap.size ≤ D → Sp pre → Ix c pre W → W.heap[D]? = some (.deferred (some [])) → c.wpIn Fence.wide n P Q { a with defers := { target := .collected D, args := #[] } :: a.defers } W) :
    (Code.rangeFunc g ps assign body).wpIn Fence.wide n P Q a w := by
  refine wpIn_rangeFunc fun fn _ => ?_
  let rec_ : LoopState → Option Code → Loop := fun st pe => { state := st, pending := pe, fn, tmps := a.tmps, params := ps, assign, body, defers := w.heap.size }
  let W1 := (w.alloc (.deferred (some []))).alloc (.loop (rec_ .ready none))
  have hr1 : RecAt rec_ (w.heap.size + 1) w.heap.size .ready none W1 := by
    refine ⟨?_, (Below.heap_alloc _ _ _ (by simp)).trans (World.alloc_heap_new w _)⟩
    have := World.alloc_heap_new (w.alloc (.deferred (some []))) (.loop (rec_ .ready none))
    rwa [World.size_alloc] at this
  have hK1 : ¬ K (w.heap.size + 1) := fun h => by have := hK _ h; omega
  -- a step that only brings new blocks: the record lies
  have lasts : ∀ {st p} {X Y : World}, RecAt rec_ (w.heap.size + 1) w.heap.size st p X → Below X.heap.size X Y → RecAt rec_ (w.heap.size + 1) w.heap.size st p Y := by
    intro st p X Y h hb
    exact ⟨(hb.block _ (Array.getElem?_eq_some_iff.1 h.1).1).trans h.1, (hb.block _ (Array.getElem?_eq_some_iff.1 h.2).1).trans h.2⟩
  -- the record is turned
  have turned : ∀ {st p} (st' : LoopState) (p' : Option Code) {X : World}, RecAt rec_ (w.heap.size + 1) w.heap.size st p X → RecAt rec_ (w.heap.size + 1) w.heap.size st' p' (X.putObj (w.heap.size + 1) (.loop (rec_ st' p'))) := by
    intro st p st' p' X h
    exact ⟨World.putObj_heap_same (Array.getElem?_eq_some_iff.1 h.1).1, (World.putObj_heap_other (by omega)).trans h.2⟩
  have own_put : ∀ {β : Type} {J : β → World → Prop} {s : β} {st p} {X : World} (o : Obj), OwnFrom w.heap.size J → RecAt rec_ (w.heap.size + 1) w.heap.size st p X → J s X → J s (X.putObj (w.heap.size + 1) o) :=
    fun o hJ hr hs => hJ.putObj o hs (by omega) hr.1 rfl
  have hbW1 : Below w.heap.size w W1 := ((Below.refl _ w).alloc (Nat.le_refl _) _).alloc (by simp) _
  refine ⟨w.heap.size + 1, [{ target := .collected w.heap.size, args := #[] }], W1, { target := .fn (.func gf) lb, args := #[.func (.yield (w.heap.size + 1)) #[] #[]] }, W1, gf,
    #[.func (.yield (w.heap.size + 1)) #[] #[]] ++ lb, W1, run_enterLoop_outer _ _ _ _ _, ?_, fun _ _ => trivial, ?_, (fun h => by cases h), ?_⟩
  · simp only [resolve, hg]; simp [go_sem]
  · simp [invoke, go_sem, eg]
  refine (hseq (n - 1) (w.heap.size + 1)
    (fun pre W => (I pre W ∧ w.heap.size ≤ W.heap.size) ∧ RecAt rec_ (w.heap.size + 1) w.heap.size .ready none W)
    (fun pre W => ∃ c, Ix c pre W ∧ RecAt rec_ (w.heap.size + 1) w.heap.size .done (some c) W)
    W1 (hb0.trans (hbW1.mono hb0.size)) ?_ ?_ ?_ ⟨⟨(hI.alloc _ (hI.alloc _ h0)), hbW1.size⟩, hr1⟩).mono ?_
  · intro s X Y hs hb
    exact ⟨⟨hI s X Y none hs.1.1 (grown_none_of_below hb) (fun r e => by cases e), Nat.le_trans hs.1.2 hb.size⟩, lasts hs.2 hb⟩
  · rintro s X Y ⟨c, hc, hr⟩ hb
    exact ⟨c, hIx c s X Y none hc (grown_none_of_below hb) (fun r e => by cases e), lasts hr hb⟩
  · rintro pre x W ⟨⟨hi, hle⟩, hr⟩ hv
    refine ⟨fn, _, assign, body, run_yield (P := P) (args := encs x) hr.1 (hps x), roundIn_of_wpIn trivial (hassign _ x W _ ⟨_, run_beginRound hr.1 rfl, ?_⟩)⟩
    have hr2 := turned .busy none hr
    have fin : ∀ (jump : Option Code) (W3 : World), KeepsFrom w.heap.size (W.putObj (w.heap.size + 1) (.loop (rec_ .busy none))) W3 →
        RecAt rec_ (w.heap.size + 1) w.heap.size .busy none W3 := fun jump W3 hk3 => ⟨hk3.same _ _ (by omega) hr2.1 rfl, hk3.same _ _ (Nat.le_refl _) hr2.2 rfl⟩
    refine wpIn_mono (hbody _ pre x _ (own_put _ hI hr hi) (own_put (J := fun (s : List α × α) W => V s.1 s.2 W) (s := (pre, x)) _ hV hr hv) (by simpa using hle)) ?_
    rintro e a3 W3 hp
    cases e with
    | normal =>
      obtain ⟨hk3, hkp, hi3⟩ := hp
      have hr3 := fin none W3 hk3
      refine ⟨_, _, run_endRound none hr3.1, .inl ⟨rfl, ⟨⟨own_put _ hI hr3 hi3, ?_⟩, turned .ready none hr3⟩, ((Keeps.putObj hK1 _ _).trans hkp).trans (Keeps.putObj hK1 _ _)⟩⟩
      have := hk3.size
      simp at this ⊢
      omega
    | ret =>
      have hr3 := fin (some .ret) W3 hp.1
      exact ⟨_, _, run_endRound (some .ret) hr3.1, .inr ⟨rfl, .ret, own_put _ (hIx _) hr3 hp.2, turned .done (some .ret) hr3⟩⟩
    | exit id =>
      have hr3 := fin (some (.exit id)) W3 hp.1
      exact ⟨_, _, run_endRound (some (.exit id)) hr3.1, .inr ⟨rfl, .exit id, own_put _ (hIx _) hr3 hp.2, turned .done (some (.exit id)) hr3⟩⟩
    | goto t =>
      have hr3 := fin (some (.goto t)) W3 hp.1
      exact ⟨_, _, run_endRound (some (.goto t)) hr3.1, .inr ⟨rfl, .goto t, own_put _ (hIx _) hr3 hp.2, turned .done (some (.goto t)) hr3⟩⟩
    | panic ch => exact hp.elim
    | outgrown => exact hp.elim
  · rintro e W2 ⟨⟨v, rfl⟩, (⟨xs, hS, ⟨hi, _⟩, hr⟩ | ⟨pre, hSp, c, hi, hr⟩)⟩
    · exact ⟨none, _, run_endLoop hr.1 (by simp [rec_]), hdone _ xs _ (Nat.le_refl _) hS (own_put _ hI hr hi) ((World.putObj_heap_other (by omega)).trans hr.2)⟩
    · exact ⟨some c, _, run_endLoop hr.1 (by simp [rec_]), hstop _ c pre _ (Nat.le_refl _) hSp (own_put _ (hIx c) hr hi) ((World.putObj_heap_other (by omega)).trans hr.2)⟩
end

theorem Rd.own {w w' : World} {sz n c : Nat} {A : Option Addr} {xs : List Value} {row : Option Nat} (h : Rd w sz A n c xs) (hg : w.grownBy w' row) (hr : ∀ r, row = some r → ∃ o : Obj, w.heap[r]? = some o ∧ o.isCells = false) : Rd w' sz A n c xs :=
  ⟨h.len, h.cap, h.max, fun j u hu => by obtain ⟨ad, e, hc⟩ := h.at_ j u hu; exact ⟨ad, e, cell_kept hc hg hr⟩⟩
theorem own_kept {w w' : World} {base : Nat} {e : TypeId} {sz n : Nat} {v : Value} {xs : List Value} {row : Option Nat} (h : w.ownsRow base e sz v n xs) (hg : w.grownBy w' row) (hr : ∀ r, row = some r → ∃ o : Obj, w.heap[r]? = some o ∧ o.isCells = false) : w'.ownsRow base e sz v n xs := by
  refine h.kept hg ?_
  rcases h.2 with ⟨rfl, _⟩ | ⟨g, cap, cur, rfl, _, hgb, _⟩
  · exact .inl rfl
  · refine .inr fun e' => ?_
    obtain ⟨o, ho, hc⟩ := hr g (by simpa [Value.ownBlock] using e'.symm)
    rw [hgb] at ho; cases ho; cases hc
theorem boxed_kept {W W' : World} {B : Nat} {t : TypeId} {v : Value} {row : Option Nat} (h : Boxed W B t v) (hg : W.grownBy W' row) (hr : ∀ r, row = some r → ∃ o : Obj, W.heap[r]? = some o ∧ o.isCells = false) : Boxed W' B t v :=
  h.kept hg fun e' => by obtain ⟨o, ho, hc⟩ := hr B e'.symm; rw [show W.heap[B]? = _ from h] at ho; cases ho; cases hc

theorem rd_setCell {w : World} {sz n c : Nat} {A : Option Addr} {xs : List Value} (h : Rd w sz A n c xs) {p : Addr} (hp : ∀ ad, A = some ad → ad.block ≠ p.block) (u : Value) : Rd (w.setCell p u) sz A n c xs :=
  ⟨h.len, h.cap, h.max, fun j v hv => by
    obtain ⟨ad, e, hc⟩ := h.at_ j v hv
    exact ⟨ad, e, (World.cell?_setCell_other w p _ u (fun e' => hp ad e (by rw [e', block_of_add]))).trans hc⟩⟩
theorem rd_grown {w w' : World} {sz n c : Nat} {A : Option Addr} {xs : List Value} {row : Option Nat} (h : Rd w sz A n c xs) (hg : w.grownBy w' row) (hp : ∀ ad, A = some ad → some ad.block ≠ row) : Rd w' sz A n c xs :=
  ⟨h.len, h.cap, h.max, fun j v hv => by
    obtain ⟨ad, e, hc⟩ := h.at_ j v hv
    exact ⟨ad, e, hg.cell hc (by rw [block_of_add]; exact hp ad e)⟩⟩

/-- append(s, xs...) in a fenced walk -/
theorem wpListIn_app {F : Fence} {n : Nat} {P : Program} (w : World) {ops : Array Oper} {rest : List Oper} {o : Oper} {a : Act} {Q : Exit → Act → World → Prop} (hw : Region.wanted o (yielded ops a.tmps) = true) (s x : Operand) (t : TypeId)
    (ho : o.op = .call { callee := .builtin .append, args := #[s, x], argTypes := #[t, t] })
    (base : Nat) (e : TypeId) (i : TypeInfo) (z : Value) (size bytes : Nat) (ht : P.underlying t = some (.slice e)) (hi : P.info? e = some i) (hz : i.zero = some z)
    (hsize : i.size = size) (hby : i.bytes = bytes) (hzs : z.cells.size = size) (hsz : 0 < size)
    (A0 : Option Addr) (c0 k : Nat) (xs : List Value) (hs : a.eval s = .slice A0 k c0) (hown : w.ownsRow base e size (.slice A0 k c0) k xs)
    (A : Option Addr) (m c : Nat) (news : List Value) (hx : a.eval x = .slice A m c) (hr : Rd w size A m c news) (h1 : ∀ u ∈ news, u.oneCell' = true)
    (hbytes : (k + m) * bytes ≤ 140737488355328) (h63 : k + m ≤ 140737488355328) (hbase : base ≤ w.heap.size)
    (h : ∀ A' c' w', w'.ownsRow base e size (.slice A' (k + m) c') (k + m) (xs ++ news) → w.grownBy w' (Value.slice A0 k c0).ownBlock → (A' = A0 ∨ A' = some ⟨w.heap.size, 0, none⟩) → (A' = none ↔ A0 = none ∧ m = 0) →
      wpListIn F n P ops Q rest (a.put o.dst (.slice A' (k + m) c')) w') : wpListIn F n P ops Q (o :: rest) a w := by
  obtain ⟨A', c', w', hrun, h2, h3, h4, h5⟩ := run_app (P := P) w base t o.type e i z size bytes ht hi hz hsize hby hzs hsz A0 c0 k xs hown A m c news hr h1 (by simp only [maxLen]; omega) hbytes hbase
  refine wpListIn_step fun K hK' => ?_
  rw [if_pos hw]
  unfold Oper.wpIn
  refine ⟨?_, ?_⟩
  · simp [Oper.about, ho, resolve, Target.leads, Sem.run_pure]
  · rw [Oper.semAt_plain F _ _ (by rw [ho]; intro c hc'; cases hc')]
    simp [execOp, ho, resolve, invoke, builtin, hs, hx, hrun, Result.andThen]
    exact hK' _ _ (h A' c' w' h2 h3 h4 h5)
end Go.Proofs.YtmljdppdaaoehaaGreatDoor
