/- A whole struct stored into a block that is known whole: the world behind it is a new variable. -/
import Derived.Test.YtmljdppdaaoehaaGreatDoorMem
import Derived.Deep.MidRow
namespace Go.Proofs.YtmljdppdaaoehaaGreatDoor
open Go Go.RowKit
set_option linter.unusedVariables false
set_option linter.unusedSimpArgs false

/-- the next operation is a store: a guard for the walk's arms -/
theorem is_store {P : Program} {ops : Array Oper} {rest : List Oper} {a : Act} {w : World} {Q : Exit → Act → World → Prop} {ty : TypeId} {x y : Operand} {d : Option Tmp} {t : TypeId} {p : String} {e : Array Edge} {g : Option (Nat × Bool)}
    (h : wpList P ops Q (⟨d, .store ty x y, t, p, e, g⟩ :: rest) a w) : wpList P ops Q (⟨d, .store ty x y, t, p, e, g⟩ :: rest) a w := h

theorem only_setCells (q : Nat) : ∀ (vs : List Value) (o : Nat) (w : World), Only (fun k => k = q) w (w.setCells q o vs)
  | [], _, w => ⟨rfl, rfl, rfl, Nat.le_refl _, fun _ _ _ => rfl⟩
  | v :: r, o, w => by
    rw [World.setCells]
    exact ((Only.of_below (Below.refl _ w) (fun k => k = q)).setCell ⟨q, o, none⟩ v (fun _ => rfl)).trans (only_setCells q r (o + 1) _) (fun _ _ h => h)
theorem blk_setCells {q : Nat} {t : TypeId} : ∀ (vs : List Value) (o : Nat) (w : World) (cs : Array Value), Blk w q cs t → o + vs.length ≤ cs.size → Blk (w.setCells q o vs) q ((cs.toList.take o ++ vs ++ cs.toList.drop (o + vs.length)).toArray) t
  | [], o, w, cs, h, hl => by
    rw [World.setCells]
    exact h.eq (by simp)
  | v :: r, o, w, cs, h, hl => by
    rw [World.setCells]
    simp only [List.length_cons] at hl
    refine (blk_setCells r (o + 1) _ _ (h.set o v) (by simp; omega)).eq ?_
    apply Array.ext'
    simp only [Array.toList_setIfInBounds, List.append_assoc]
    refine List.ext_getElem? fun i => ?_
    simp only [List.getElem?_append, List.length_take, List.length_set, Array.length_toList, List.getElem?_take, List.getElem?_drop, List.getElem?_set, List.length_cons]
    have h1 : min o cs.size = o := by omega
    have h2 : min (o + 1) cs.size = o + 1 := by omega
    rw [h1, h2]
    by_cases a : i < o
    · rw [if_pos (by omega), if_pos (by omega), if_neg (by omega), if_pos a, if_pos a]
    · by_cases b : i = o
      · subst b
        rw [if_pos (by omega), if_pos (by omega), if_pos rfl, if_pos (by omega), if_neg (by omega), if_pos (by omega)]
        simp
      · rw [if_neg (by omega), if_neg a]
        by_cases c : i - (o + 1) < r.length
        · rw [if_pos c, if_pos (by omega), show i - o = (i - (o + 1)) + 1 by omega, List.getElem?_cons_succ]
        · rw [if_neg c, if_neg (by omega), if_neg (by omega)]
          congr 1; omega
theorem wp_store_blk {P : Program} {op : Oper} {a : Act} {w : World} {K : Act → World → Prop} {Q : Exit → Act → World → Prop} (ty : TypeId) (x y : Operand) (ho : op.op = .store ty x y)
    (b : Nat) (cells cs : Array Value) (t : TypeId) (hx : a.eval x = .pointer (some ⟨b, 0, none⟩)) (hy : a.eval y = .agg cells) (hb : Blk w b cs t) (hs : cells.size = cs.size)
    (hi : (P.info? ty).map (·.size) = some cells.size) (h1 : cells.all (·.oneCell') = true)
    (h : ∀ w', Blk w' b cells t → Only (fun k => k = b) w w' → K (a.put op.dst undef) w') : op.wp P a w K Q :=
  wp_store_mid ty x y ho b 0 cells hx hy (fun j hj => by
    have hj' : j < cs.size := by omega
    rw [Nat.zero_add]
    exact ⟨by rw [hb.cell j (Array.getElem?_eq_getElem hj')]; rfl, hb.frozen j⟩) hi h1
    (h _ ((blk_setCells cells.toList 0 w cs hb (by simp; omega)).eq (by simp [hs, List.drop_of_length_le])) (only_setCells b cells.toList 0 w))
theorem wpList_store_blk {P : Program} {ops : Array Oper} {rest : List Oper} {op : Oper} {a : Act} {w : World} {Q : Exit → Act → World → Prop} (hgd : op.guard = none) (ty : TypeId) (x y : Operand) (ho : op.op = .store ty x y)
    (b : Nat) (cells cs : Array Value) (t : TypeId) (hx : a.eval x = .pointer (some ⟨b, 0, none⟩)) (hy : a.eval y = .agg cells) (hb : Blk w b cs t) (hs : cells.size = cs.size)
    (hi : (P.info? ty).map (·.size) = some cells.size) (h1 : cells.all (·.oneCell') = true)
    (h : ∀ w', Blk w' b cells t → Only (fun k => k = b) w w' → wpList P ops Q rest (a.put op.dst undef) w') : wpList P ops Q (op :: rest) a w :=
  wpList_plain hgd fun _ hK => wp_store_blk ty x y ho b cells cs t hx hy hb hs hi h1 (fun w' h2 h3 => hK _ _ (h w' h2 h3))
/-- in a region that draws its order -/
theorem step_store_blk {P : Program} {w : World} {ops : Array Oper} {o : Oper} {a : Act} {K : Act → World → Prop} {Q : Exit → Act → World → Prop} {E : Prop} (ty : TypeId) (x y : Operand) (hgd : o.guard = none) (ho : o.op = .store ty x y)
    (b : Nat) (cells cs : Array Value) (t : TypeId) (hx : a.eval x = .pointer (some ⟨b, 0, none⟩)) (hy : a.eval y = .agg cells) (hb : Blk w b cs t) (hs : cells.size = cs.size)
    (hi : (P.info? ty).map (·.size) = some cells.size) (h1 : cells.all (·.oneCell') = true)
    (h : ∀ w', Blk w' b cells t → Only (fun k => k = b) w w' → K (a.put o.dst undef) w') : if Region.wanted o (yielded ops a.tmps) = true then Oper.wp P o a w K Q else E := by
  rw [if_pos (by unfold Region.wanted; rw [hgd])]
  exact wp_store_blk ty x y ho b cells cs t hx hy hb hs hi h1 h
theorem Only.belowB {F : Nat → Prop} {w w2 w3 : World} (ho : Only F w2 w3) (hb : Below w.heap.size w w2) (hF : ∀ k, F k → w.heap.size ≤ k) : Below w.heap.size w w3 :=
  hb.trans (ho.below hb.size hF)
end Go.Proofs.YtmljdppdaaoehaaGreatDoor
