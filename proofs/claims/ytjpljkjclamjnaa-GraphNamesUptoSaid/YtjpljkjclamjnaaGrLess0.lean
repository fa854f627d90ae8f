/- Leans less one; rows that are appended one by one. -/
import Derived.Test.YtjpljkjclamjnaaGrOrders
namespace Go.Proofs.Ytjpljkjclamjnaa
open Go.RowKit
set_option linter.unusedVariables false
set_option linter.unusedSimpArgs false

/-! plain -/
def lessRow (L : List (List Nat)) (a b i : Nat) : List Nat := if i = a then (lean' L i).eraseIdx b else lean' L i
def lessL (L : List (List Nat)) (a b : Nat) : List (List Nat) := (List.range L.length).map (lessRow L a b)
def lessPre (L : List (List Nat)) (a b i k : Nat) : List Nat := if i = a then ((lean' L i).take k).eraseIdx b else (lean' L i).take k
theorem lessPre_zero (L : List (List Nat)) (a b i : Nat) : lessPre L a b i 0 = [] := by unfold lessPre; split <;> simp
theorem lessPre_all (L : List (List Nat)) (a b i : Nat) : lessPre L a b i (lean' L i).length = lessRow L a b i := by unfold lessPre lessRow; simp
theorem lessPre_put {L : List (List Nat)} {a b i k x : Nat} (hx : (lean' L i)[k]? = some x) (h : i ≠ a ∨ k ≠ b) : lessPre L a b i (k + 1) = lessPre L a b i k ++ [x] := by
  have hk := (List.getElem?_eq_some_iff.1 hx).1
  have hl : ((lean' L i).take k).length = k := by rw [List.length_take]; omega
  unfold lessPre
  rw [take_one hx]
  by_cases e : i = a
  · rw [if_pos e, if_pos e]
    have hb : k ≠ b := by rcases h with h | h; · exact absurd e h
                          exact h
    rcases Nat.lt_or_ge b k with h1 | h1
    · rw [List.eraseIdx_append_of_lt_length (by omega)]
    · rw [List.eraseIdx_of_length_le (by rw [List.length_append, hl, List.length_singleton]; omega), List.eraseIdx_of_length_le (by omega)]
  · rw [if_neg e, if_neg e]
theorem lessPre_skip {L : List (List Nat)} {a b k x : Nat} (hx : (lean' L a)[k]? = some x) (h : k = b) : lessPre L a b a (k + 1) = lessPre L a b a k := by
  subst h
  have hk := (List.getElem?_eq_some_iff.1 hx).1
  have hl : ((lean' L a).take k).length = k := by rw [List.length_take]; omega
  unfold lessPre
  rw [take_one hx, if_pos rfl, if_pos rfl, List.eraseIdx_append_of_length_le (by omega), hl, Nat.sub_self]
  rw [List.eraseIdx_of_length_le (l := (lean' L a).take k) (by omega)]
  simp
theorem lessPre_len (L : List (List Nat)) (a b i k : Nat) : (lessPre L a b i k).length ≤ k := by
  have hl : ((lean' L i).take k).length ≤ k := by rw [List.length_take]; omega
  unfold lessPre; split
  · have := List.length_eraseIdx_le ((lean' L i).take k) b; omega
  · exact hl
theorem lessL_len (L : List (List Nat)) (a b : Nat) : (lessL L a b).length = L.length := by simp [lessL]
theorem lean_lessL {L : List (List Nat)} {a b i : Nat} (hi : i < L.length) : lean' (lessL L a b) i = lessRow L a b i := by
  simp [lean', lessL, List.getD_eq_getElem?_getD, hi]
theorem lessRow_sub {L : List (List Nat)} {a b i x : Nat} (h : x ∈ lessRow L a b i) : x ∈ lean' L i := by
  unfold lessRow at h
  split at h
  · exact List.mem_of_mem_eraseIdx h
  · exact h
theorem lessL_sub {L : List (List Nat)} {a b i x : Nat} (h : x ∈ lean' (lessL L a b) i) : x ∈ lean' L i := by
  have hi := lean_lt h
  rw [lessL_len] at hi
  rw [lean_lessL hi] at h
  exact lessRow_sub h
theorem lessL_ok {L : List (List Nat)} {a b : Nat} (hok : okG L) : okG (lessL L a b) := by
  intro i x hx
  rw [lessL_len]
  exact hok i x (lessL_sub hx)
theorem walk_sub {L L' : List (List Nat)} (hs : ∀ i x, x ∈ lean' L' i → x ∈ lean' L i) {t k i : Nat} (h : Walk L' t k i) : Walk L t k i := by
  induction h with
  | one h => exact .one (hs _ _ h)
  | more h _ ih => exact .more (hs _ _ h) ih
theorem rows_self (L : List (List Nat)) : (List.range L.length).map (lean' L) = L := by
  apply List.ext_getElem
  · simp
  · intro i h1 h2; simp [lean', List.getD_eq_getElem?_getD, h2]
theorem lessL_sum (L : List (List Nat)) (a b : Nat) : ((lessL L a b).map List.length).sum ≤ (L.map List.length).sum := by
  have h : (L.map List.length).sum = (((List.range L.length).map (lean' L)).map List.length).sum := by rw [rows_self]
  rw [h]
  unfold lessL
  rw [List.map_map, List.map_map]
  refine sum_le _ (fun i _ => ?_)
  simp only [Function.comp_def, lessRow]
  split
  · have := List.length_eraseIdx_le (lean' L i) b; omega
  · exact Nat.le_refl _
/-- an int within a length -/
theorem wrapAt (z : Int) (n : Nat) (hn : 0 < n) : ∃ u : Int, z.tmod (n : Int) = u ∧ -(n : Int) < u ∧ u < (n : Int) ∧ ∃ r : Nat, r < n ∧ (u + (n : Int)).tmod (n : Int) = (r : Int) ∧ (u + (n : Int)) % (n : Int) = (r : Int) := by
  have h1 := Int.tmod_lt_of_pos z (show (0 : Int) < (n : Int) by omega)
  have h2 : -(n : Int) < z.tmod (n : Int) := by
    rcases Int.le_total 0 z with h | h
    · rw [Int.tmod_eq_emod_of_nonneg h]
      have := Int.emod_nonneg z (show (n : Int) ≠ 0 by omega)
      omega
    · have h3 := Int.tmod_lt_of_pos (-z) (show (0 : Int) < (n : Int) by omega)
      rw [Int.neg_tmod] at h3
      omega
  refine ⟨_, rfl, h2, h1, ((z.tmod (n : Int) + (n : Int)) % (n : Int)).toNat, ?_, ?_, ?_⟩
  · have := Int.emod_lt_of_pos (z.tmod (n : Int) + (n : Int)) (show (0 : Int) < (n : Int) by omega)
    have := Int.emod_nonneg (z.tmod (n : Int) + (n : Int)) (show (n : Int) ≠ 0 by omega)
    omega
  · rw [Int.tmod_eq_emod_of_nonneg (by omega)]
    have := Int.emod_nonneg (z.tmod (n : Int) + (n : Int)) (show (n : Int) ≠ 0 by omega)
    omega
  · have := Int.emod_nonneg (z.tmod (n : Int) + (n : Int)) (show (n : Int) ≠ 0 by omega)
    omega

/-! memory -/
theorem Ow.ne {w : World} {base base' n n' c c' sz sz' : Nat} {e e' : TypeId} {A A' : Option Addr} {xs xs' : List Value} (h : Ow w base e sz A n c xs) (h' : Ow w base' e' sz' A' n' c' xs') (hne : e ≠ e') : blk A = none ∨ blk A ≠ blk A' := by
  rcases h.2 with ⟨rfl, _⟩ | ⟨g, cur, rfl, _, hg, _⟩
  · exact .inl rfl
  · rcases h'.2 with ⟨rfl, _⟩ | ⟨g', cur', rfl, _, hg', _⟩
    · right; simp
    · right
      intro he
      simp at he
      subst he
      rw [hg] at hg'
      injection hg' with hg'
      injection hg' with _ ht
      exact hne ht
def hv (h : Option Addr × Nat × List Int) : Value := .slice h.1 h.2.2.length h.2.1
section
variable {w : World} {ops : Array Oper} {rest : List Oper} {o : Oper} {a : Act} {Q : Exit → Act → World → Prop}
theorem app_ints (hw : Region.wanted o (yielded ops a.tmps) = true) (s x : Operand)
    (ho : o.op = .call { callee := .builtin .append, args := #[s, x], argTypes := #[22, 22] })
    (base : Nat) (A0 : Option Addr) (c0 n : Nat) (l : List Value) (hs : a.eval s = .slice A0 n c0) (hown : Ow w base 25 1 A0 n c0 l)
    (A : Option Addr) (m c : Nat) (k : List Value) (hx : a.eval x = .slice A m c) (hr : Rd w 1 A m c k) (h1 : ∀ u ∈ k, u.oneCell' = true)
    (h63 : (n + m) * 24 ≤ 140737488355328) (hbase : base ≤ w.heap.size)
    (h : ∀ A' c' w', Ow w' base 25 1 A' (n + m) c' (l ++ k) → w.grownBy w' (blk A0) → (A' = A0 ∨ A' = some ⟨w.heap.size, 0, none⟩) → wpList Try.prog ops Q rest (a.put o.dst (.slice A' (n + m) c')) w') :
    wpList Try.prog ops Q (o :: rest) a w := by
  obtain ⟨i0, hi, hz0, hz1, hz2⟩ := info_parts info_ints
  exact wpList_ow w hw s x _ ho base _ i0 _ 1 24 Try.underlying22 hi hz0 hz1 hz2 rfl (by omega) A0 c0 n l hs hown A m c k hx hr h1 (by omega) h63 hbase h
end
/-- rows of the call's own, and the slice of them -/
structure LsS (W0 : World) (hs : List (Option Addr × Nat × List Int)) (A : Option Addr) (c : Nat) (W : World) : Prop where
  out : Ow W W0.heap.size 25 1 A hs.length c (hs.map hv)
  row : ∀ h ∈ hs, IOw W W0.heap.size h.1 h.2.2.length h.2.1 h.2.2
  bel : Below W0.heap.size W0 W
theorem LsS.start (W0 : World) : LsS W0 [] none 0 W0 := ⟨Ow.nil _ _ _ _, by simp, Below.refl _ _⟩
theorem LsS.below {W0 W W' : World} {hs : List (Option Addr × Nat × List Int)} {A : Option Addr} {c : Nat} (h : LsS W0 hs A c W) (hb : Below W.heap.size W W') : LsS W0 hs A c W' :=
  ⟨h.out.below hb, fun x hx => (h.row x hx).below hb, h.bel.past hb⟩
theorem LsS.put {W0 W W2 : World} {hs : List (Option Addr × Nat × List Int)} {A A2 Al : Option Addr} {c c2 cl : Nat} {l : List Int} {ob : Obj} (h : LsS W0 hs A c W) (hl : IOw W W0.heap.size Al l.length cl l)
    (ho : Ow W2 W0.heap.size 25 1 A2 (hs.length + 1) c2 (hs.map hv ++ [.slice Al l.length cl])) (hg : (W.alloc ob).grownBy W2 (blk A)) : LsS W0 (hs ++ [(Al, cl, l)]) A2 c2 W2 := by
  have hs0 := h.bel.size
  have key : ∀ {B : Option Addr} {m d : Nat} {r : List Int}, IOw W W0.heap.size B m d r → IOw W2 W0.heap.size B m d r := fun hh =>
    Ow.grown (Ow.alloc hh ob) hg (Ow.ne hh h.out (by decide))
  refine ⟨by rw [List.length_append, List.length_singleton, List.map_append]; exact ho, fun x hx => ?_, (h.bel.alloc hs0 ob).grown hg (by simp; omega) (fun k e => (h.out.lt e).1)⟩
  rcases List.mem_append.1 hx with hx | hx
  · exact key (h.row x hx)
  · rw [List.mem_singleton] at hx
    subst hx
    exact key hl
/-- read as leans -/
theorem LsS.ii {W0 W : World} {hs : List (Option Addr × Nat × List Int)} {A : Option Addr} {c : Nat} {L : List (List Nat)} (h : LsS W0 hs A c W) (e : hs.map (fun h => h.2.2) = cL L) (hok : okG L) (hL : L.length ≤ 1000) : II W A hs.length c (cL L) := by
  refine ⟨by rw [← e]; simp, h.out.cap, h.out.max, fun i x hx => ?_, fun x hx z hz => ?_⟩
  · rw [← e, List.getElem?_map] at hx
    cases hi : hs[i]? with
    | none => rw [hi] at hx; cases hx
    | some y =>
      rw [hi] at hx
      injection hx with hx
      subst hx
      obtain ⟨ad, rfl, hc⟩ := h.out.rd.at_ i (hv y) (by simp [hi])
      exact ⟨ad, y.1, y.2.1, rfl, hc, (h.row y (List.mem_of_getElem? hi)).rd⟩
  · simp only [cL, List.mem_map] at hx
    obtain ⟨r, hr, rfl⟩ := hx
    simp only [cI, List.mem_map] at hz
    obtain ⟨y, hy, rfl⟩ := hz
    obtain ⟨i, hi, rfl⟩ := List.getElem_of_mem hr
    have := hok i y (by simp [lean', List.getD_eq_getElem?_getD, hi, hy])
    omega
theorem hv_one (hs : List Value) (Al : Option Addr) (m c : Nat) : ∀ u ∈ [Value.slice Al m c], u.oneCell' = true := by
  intro u hu; rw [List.mem_singleton] at hu; subst hu; rfl
theorem lessL_map {L : List (List Nat)} {a b i : Nat} {hs : List (Option Addr × Nat × List Int)} {Al : Option Addr} {cl : Nat} (h : hs.map (fun h => h.2.2) = cL ((List.range i).map (lessRow L a b))) : (hs ++ [(Al, cl, cI (lessRow L a b i))]).map (fun h => h.2.2) = cL ((List.range (i + 1)).map (lessRow L a b)) := by
  rw [List.range_succ, List.map_append, List.map_append, h]
  simp [cL]
end Go.Proofs.Ytjpljkjclamjnaa
