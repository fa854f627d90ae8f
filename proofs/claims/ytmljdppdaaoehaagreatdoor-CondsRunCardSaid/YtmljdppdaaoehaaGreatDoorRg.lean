/- A region that draws its order: a condition on the world that holds behind each operation but the last. -/
import Derived.Deep.RegionHeld3
import Derived.StillTail
namespace Go.Proofs.YtmljdppdaaoehaaGreatDoor
open Go
section
variable {P : Program} {l : List Oper} {Q : Exit → Act → World → Prop} {S : World → Prop}
/-- whatever order is picked from here on; S holds behind each operation but number n, the last -/
def Rg (P : Program) (ops : Array Oper) (Q : Exit → Act → World → Prop) (S : World → Prop) (n : Nat) : Nat → Array Bool → Act → World → Prop
  | 0, ls, a, w => Region.ready .any ops ls = [] ∧ Q .normal a w
  | f + 1, ls, a, w => (Region.ready .any ops ls = [] → Q .normal a w) ∧ ∀ i ∈ Region.ready .any ops ls, wpOp P ops Q i (fun a' w' => (i ≠ n → S w') ∧ Rg P ops Q S n f (ls.setIfInBounds i true) a' w') a w
theorem Rg.any {n : Nat} {ops : Array Oper} : ∀ (f : Nat) (ls : Array Bool) (a : Act) (w : World), Rg P ops Q S n f ls a w → wpAny P .any ops Q f ls a w
  | 0, _, _, _, h => h
  | f + 1, _, _, _, h => ⟨h.1, fun i hi => wpOp_mono (fun a' w' h' => Rg.any f _ a' w' h'.2) (h.2 i hi)⟩
/-- all that came up came up behind what it waits for, and number n has not -/
def rgClosed (ops : Array Oper) (n : Nat) (ls : Array Bool) : Bool :=
  ls.size == ops.size && ops.size == n + 1 && ls.getD n true == false && Region.sinkB .any ops n &&
  (List.range ops.size).all fun j => !ls.getD j false || ((ops[j]?).map fun o => o.after.all fun e => !Region.binds .any e || ls.getD e.on false).getD true
theorem rgClosed_inv {ops : Array Oper} {n : Nat} {ls : Array Bool} (h : rgClosed ops n ls = true) : HeadInv .any ops n ls ∧ Region.sinkB .any ops n = true ∧ ops.size = n + 1 := by
  unfold rgClosed at h
  simp only [Bool.and_eq_true, beq_iff_eq, List.all_eq_true, List.mem_range] at h
  obtain ⟨⟨⟨⟨h1, h2⟩, h3⟩, h4⟩, h5⟩ := h
  refine ⟨⟨h1, fun j oj hoj hl e he hb => ?_, fun t ht hts => ?_⟩, h4, h2⟩
  · have h6 := h5 j (Array.getElem?_eq_some_iff.1 hoj).1
    rw [hl, hoj] at h6
    simp only [Bool.not_true, Bool.false_or, Option.map_some, Option.getD_some, Array.all_eq_true_iff_forall_mem] at h6
    have h7 := h6 e he
    rw [hb] at h7
    simpa using h7
  · obtain rfl : t = n := by omega
    exact h3
theorem Rg.first {n : Nat} {ops : Array Oper} {i : Nat} {oi : Oper} {v : Value} (hi : ops[i]? = some oi) (hsel : ∀ (j : Nat) (o : Oper) cs b, ops[j]? = some o → o.op ≠ .select cs b) (hQ : ∀ c a w, Q (.panic c) (a.put oi.dst v) w → Q (.panic c) a w)
    (hsk : Region.sinkB .any ops n = true) (hsz : ops.size = n + 1) (hin : i < n) :
    ∀ (f : Nat) (ls : Array Bool) (a : Act) (w : World), HeadInv .any ops n ls →
      (∀ j oj, ops[j]? = some oj → j ≠ i → ls.getD j true = false → (∀ e ∈ oj.after, Region.binds .any e = true → e.on ≠ i) → oi.apart ops oj = true) →
      i ∈ Region.ready .any ops ls → YieldsIf P ops S oi v a → S w → Rg P ops Q S n f (ls.setIfInBounds i true) (a.put oi.dst v) w → Rg P ops Q S n (f + 1) ls a w := by
  have hch : Region.chainB .any ops n = true := by
    unfold Region.chainB
    simp only [List.all_eq_true, List.mem_range, Bool.or_eq_true, decide_eq_true_eq]
    intro t ht
    exact .inl (by omega)
  intro f
  induction f with
  | zero =>
    intro ls a w _ _ hr hy hS H
    refine ⟨fun h => absurd (h ▸ hr) List.not_mem_nil, fun j hj => ?_⟩
    rcases Decidable.em (j = i) with rfl | hji
    · exact hy.wpOp hi hS ⟨fun _ => hS, H⟩
    · exact absurd (H.1 ▸ ready_mono hj hji) List.not_mem_nil
  | succ f ih =>
    intro ls a w inv hfr hr hy hS H
    refine ⟨fun h => absurd (h ▸ hr) List.not_mem_nil, fun j hj => ?_⟩
    rcases Decidable.em (j = i) with rfl | hji
    · exact hy.wpOp hi hS ⟨fun _ => hS, H⟩
    have h1 := H.2 j (ready_mono hj hji)
    obtain ⟨hju, oj, hoj, hall⟩ := mem_ready.1 hj
    have hjs := (Array.getElem?_eq_some_iff.1 hoj).1
    have hjn : j < n := by
      rcases Nat.lt_or_ge j n with h | h
      · exact h
      · exact absurd hj (tail_waits hsk hch (by omega) inv _ i rfl hin (mem_ready.1 hr).1 j h)
    have hno : ∀ e ∈ oj.after, Region.binds .any e = true → e.on ≠ i := by
      intro e he hb heq
      have h2 := hall e he hb
      rw [heq, getD_both (mem_ready.1 hr).1] at h2
      cases h2
    have h2 := wpOp_putIf hoj (hfr j oj hoj hji hju hno) (fun cs b => hsel i oi cs b hi) (fun cs b => hsel j oj cs b hoj) hQ hy h1
    refine wpOp_mono (fun a' w' h3 => ?_) h2
    have hSw := h3.2.1 (by omega)
    refine ⟨fun _ => hSw, ih (ls.setIfInBounds j true) a' w' (inv.set hj hjn) (fun k ok hk hki hun hn => hfr k ok hk hki ?_ hn) (ready_mono hr (Ne.symm hji)) h3.1 hSw ?_⟩
    · rcases Decidable.em (j = k) with rfl | hjk
      · exact hju
      · rw [getD_set_ne true hjk] at hun; exact hun
    · rw [Array.setIfInBounds_comm _ _ hji]
      exact h3.2.2
theorem drop_at {i : Nat} {o : Oper} {rest : List Oper} (h : l.drop i = o :: rest) : l.toArray[i]? = some o := by
  have h1 := congrArg (fun x => x[0]?) h
  simpa using h1
/-- number i may be taken first: it yields v in every world that meets S -/
theorem Rg.take {n f : Nat} {ls : Array Bool} {a : Act} {w : World} (hS : S w) (i : Nat) {oi : Oper} {rest : List Oper} {v : Value} (hi : l.drop i = oi :: rest)
    (hc : (Region.noSelect l.toArray && rgClosed l.toArray n ls && Region.free .any l.toArray ls i && (Region.ready .any l.toArray ls).contains i && decide (i < n)) = true)
    (hQ : ∀ c a w, Q (.panic c) (a.put oi.dst v) w → Q (.panic c) a w) (hw : Region.wanted oi (yielded l.toArray a.tmps) = true) (hy : ∀ w, S w → (execOp a.eval oi).run P w = .ok (.value v) w)
    (h : Rg P l.toArray Q S n f (ls.setIfInBounds i true) (a.put oi.dst v) w) : Rg P l.toArray Q S n (f + 1) ls a w := by
  simp only [Bool.and_eq_true, decide_eq_true_eq] at hc
  obtain ⟨⟨⟨⟨h1, h2⟩, h3⟩, h4⟩, h5⟩ := hc
  obtain ⟨inv, hsk, hsz⟩ := rgClosed_inv h2
  exact Rg.first (drop_at hi) (Region.noSelect_spec h1) hQ hsk hsz h5 f ls a w inv (Region.free_spec (drop_at hi) h3) (by simpa using h4) (.inl ⟨hw, hy⟩) hS h
/-- the one operation that may come up -/
theorem Rg.step {n f : Nat} {ls : Array Bool} {a : Act} {w : World} (i : Nat) {o : Oper} {rest : List Oper} (hr : Region.ready .any l.toArray ls = [i]) (ho : l.drop i = o :: rest)
    (h : ∀ K' : Act → World → Prop, Shut (∀ a w, S w → (S w → Rg P l.toArray Q S n f (ls.setIfInBounds i true) a w) → K' a w) → if Region.wanted o (yielded l.toArray a.tmps) = true then Oper.wp P o a w K' Q else K' (a.put o.dst undef) w) :
    Rg P l.toArray Q S n (f + 1) ls a w := by
  refine ⟨fun h0 => (by rw [hr] at h0; cases h0), fun j hj => ?_⟩
  rw [hr] at hj
  obtain rfl : j = i := by simpa using hj
  exact wpOp_step (drop_at ho) (fun K' hK => h K' (fun a w hS hW => hK a w ⟨fun _ => hS, hW hS⟩))
/-- the last one -/
theorem Rg.last {n f : Nat} {ls : Array Bool} {a : Act} {w : World} {o : Oper} {rest : List Oper} (hr : Region.ready .any l.toArray ls = [n]) (hd : Region.ready .any l.toArray (ls.setIfInBounds n true) = []) (ho : l.drop n = o :: rest)
    (h : ∀ K' : Act → World → Prop, Shut (∀ a w, Q .normal a w → K' a w) → if Region.wanted o (yielded l.toArray a.tmps) = true then Oper.wp P o a w K' Q else K' (a.put o.dst undef) w) :
    Rg P l.toArray Q S n (f + 1) ls a w := by
  refine ⟨fun h0 => (by rw [hr] at h0; cases h0), fun j hj => ?_⟩
  rw [hr] at hj
  obtain rfl : j = n := by simpa using hj
  refine wpOp_step (drop_at ho) (fun K' hK => h K' (fun a w hq => hK a w ⟨fun h0 => absurd rfl h0, ?_⟩))
  cases f with
  | zero => exact ⟨hd, hq⟩
  | succ f => exact ⟨fun _ => hq, by rw [hd]; simp⟩
theorem Rg.start {id : Nat} {a : Act} {w : World} (n : Nat) (S : World → Prop) (hm : P.follows .mixedOrders = true) (hS : S w.drew) (h : S w.drew → Rg P l.toArray Q S n l.length (List.replicate l.length false).toArray a w.drew) : (Code.region id l.toArray true).wp P Q a w := by
  refine wp_region_any hm (Rg.any (S := S) (n := n) _ _ _ _ ?_)
  have h1 := h hS
  have e : (List.replicate l.length false).toArray = Array.replicate l.toArray.size false := by simp
  rw [e] at h1
  exact h1
end
end Go.Proofs.YtmljdppdaaoehaaGreatDoor
