/- nest.Flatten, plain: a template that stands in a nested stack. -/
import Derived.Test.YthcnfgpilncooaaGreatDoorNs6
namespace Go.Proofs.YthcnfgpilncooaaGreatDoor
set_option linter.unusedVariables false
set_option linter.unusedSimpArgs false

def wpre : ByteArray := ⟨#[87, 46]⟩
def wW : ByteArray := ⟨#[87]⟩
def wa (d : ByteArray) : ByteArray := wpre ++ d
theorem wa_list (d : ByteArray) : (wa d).data.toList = 87 :: 46 :: d.data.toList := by simp [wa, wpre, ByteArray.data_append]
theorem wa_size (d : ByteArray) : (wa d).size = d.size + 2 := by rw [wa, size_app]; show 2 + d.size = _; omega
theorem wa_app (a b : ByteArray) : wa (a ++ b) = wa a ++ b := by unfold wa; exact (ByteArray.append_assoc).symm
theorem wa_inj {a b : ByteArray} (h : wa a = wa b) : a = b := by
  have := congrArg (fun x : ByteArray => x.data.toList) h
  simp only [wa_list] at this
  injection this with _ this
  injection this with _ this
  exact ba_ext this
theorem bEq_wa (a b : ByteArray) : bEq (wa a) (wa b) = bEq a b := by
  unfold bEq
  rw [wa_list, wa_list]
  simp
theorem sHas_wa (x : ByteArray) (l : List ByteArray) : sHas (wa x) (l.map wa) = sHas x l := by
  unfold sHas
  rw [List.any_map]
  rw [show (bEq (wa x) ∘ wa) = bEq x from funext fun y => bEq_wa x y]
theorem hasPre_wa (x p : ByteArray) : hasPre (wa x) (wa p) = hasPre x p := by
  unfold hasPre
  rw [wa_list, wa_list]
  simp [List.isPrefixOf]
theorem und_wa (d x : ByteArray) : und (wa d) (wa x) = und d x := by
  unfold und
  rw [← wa_app, hasPre_wa]
  cases h : hasPre x (d ++ dot) with
  | false => rfl
  | true =>
    have e : cutP (wa x) (wa (d ++ dot)) = cutP x (d ++ dot) := by
      unfold cutP
      rw [hasPre_wa, h, if_pos rfl, if_pos rfl]
      apply ba_ext
      rw [ext_list, ext_list, wa_list, wa_size, wa_size]
      simp only [List.drop_succ_cons]
      congr 1
      omega
    rw [e]
theorem unds_wa (d : ByteArray) : ∀ (l : List ByteArray) (i : Nat), unds (wa d) i (l.map wa) = unds d i l
  | [], i => rfl
  | x :: l, i => by
    simp only [List.map_cons, unds, und_wa, unds_wa d l]
theorem addOne_wa (a : List ByteArray) (d : ByteArray) : addOne (a.map wa) (wa d) = (addOne a d).map wa := by
  unfold addOne
  rw [sHas_wa]
  split <;> simp
theorem undGo_wa (ids : List ByteArray) : ∀ (ks : List Nat) (a : List ByteArray), (∀ k ∈ ks, k < ids.length) → undGo (ids.map wa) (a.map wa) ks = (undGo ids a ks).map wa
  | [], a, _ => rfl
  | k :: ks, a, h => by
    have hk := h k (by simp)
    have e : (ids.map wa).getD k ByteArray.empty = wa (ids.getD k ByteArray.empty) := by
      rw [List.getD_eq_getElem?_getD, List.getD_eq_getElem?_getD, List.getElem?_map, List.getElem?_eq_getElem hk]; rfl
    simp only [undGo, e, addOne_wa]
    exact undGo_wa ids ks _ (fun k' h' => h k' (by simp [h']))
theorem afOne_wa (ids a : List ByteArray) (d : ByteArray) : afOne (ids.map wa) (a.map wa) (wa d) = (afOne ids a d).map wa := by
  unfold afOne
  rw [sHas_wa, unds_wa, addOne_wa, ← undGo_wa ids _ _ (fun k hk => by
    obtain ⟨j, rfl, x, h1, _⟩ := unds_mem hk
    have := (List.getElem?_eq_some_iff.1 h1).1; omega)]
  split <;> rfl
theorem afGo_wa (ids : List ByteArray) : ∀ (w a : List ByteArray), afGo (ids.map wa) (a.map wa) (w.map wa) = (afGo ids a w).map wa
  | [], a => rfl
  | d :: w, a => by
    simp only [List.map_cons, afGo, afOne_wa]
    exact afGo_wa ids w _

def shG (g : Gd) : Gd := ⟨g.scope + 1, g.name⟩
def shN (n : Nd) : Nd := ⟨wa n.id, n.scope + 1, n.r, n.guards.map shG, n.after.map wa⟩
def shS (s : Sc) : Sc := ⟨s.parent + 1, wa s.pre, s.t, s.args⟩
theorem afAll_wa (ids : List ByteArray) : ∀ (ns : List Nd) (ws : List (List ByteArray)), afAll (ids.map wa) (ns.map shN) (ws.map (List.map wa)) = (afAll ids ns ws).map shN
  | [], _ => by simp [afAll]
  | _ :: _, [] => by simp [afAll]
  | n :: ns, w :: ws => by
    simp only [List.map_cons, afAll, afAll_wa ids ns ws]
    congr 1
    simp only [shN]
    rw [afGo_wa]
/-- the states, the one within the other -/
structure Sim (o : Sc) (s s' : BS) : Prop where
  sc : s'.sc = o :: s.sc.map shS
  nd : s'.nd = s.nd.map shN
  wt : s'.wt = s.wt.map (List.map wa)
structure SimA (x x' : Ar) : Prop where
  scope : x'.scope = x.scope + 1
  guards : x'.guards = x.guards.map shG
  after : x'.after = x.after.map wa
  depth : x'.depth = x.depth + 1
theorem gOf_sim {x x' : Ar} (h : SimA x x') (r : Rs) : gOf x' r = (gOf x r).map shG := by
  unfold gOf
  rw [h.guards, h.scope]
  split
  · rfl
  · simp [shG]
theorem aOf_sim {x x' : Ar} (h : SimA x x') (pre : ByteArray) (r : Rs) : aOf (wa pre) x' r = (aOf pre x r).map wa := by
  unfold aOf
  rw [h.after, List.map_append, List.map_map]
  rw [show (fun d => wa pre ++ d) = (wa ∘ fun d => pre ++ d) from funext fun d => (wa_app pre d).symm]
theorem rsPut_sim {o : Sc} {f : Tm → Ar → BS → Option BS} {pre : ByteArray} {x x' : Ar} (hx : SimA x x') (hd : x'.depth ≤ 2)
    (hf : ∀ (t : Tm) (y y' : Ar) (s s' r' : BS), y'.depth ≤ 2 → SimA y y' → Sim o s s' → y.scope < s.sc.length → f t y' s' = some r' → ∃ r, f t y s = some r ∧ Sim o r r') :
    ∀ (l : List Rs) (s s' r' : BS), Sim o s s' → rsPut f (wa pre) x' l s' = some r' → ∃ r, rsPut f pre x l s = some r ∧ Sim o r r'
  | [], s, s', r', hs, h => by
    simp only [rsPut, Option.some.injEq] at h
    subst h
    exact ⟨s, rfl, hs⟩
  | r :: l, s, s', r', hs, h => by
    simp only [rsPut] at h ⊢
    split at h
    · next ht =>
      rw [if_pos ht]
      split at h
      · next t hi =>
        split at h
        · cases h
        · next hd2 =>
          have hd1 : x.depth ≠ 2 := by have := hx.depth; omega
          rw [if_neg hd1]
          split at h
          · cases h
          · next s1' hs1 =>
            have hy : SimA (yOf pre x r s.sc.length) (yOf (wa pre) x' r s'.sc.length) := by
              refine ⟨by simp [yOf, hs.sc], gOf_sim hx r, aOf_sim hx pre r, by simp [yOf, hx.depth]⟩
            have hss : Sim o (s.scope pre x r t) (s'.scope (wa pre) x' r t) := by
              refine ⟨?_, hs.nd, hs.wt⟩
              simp only [BS.scope, hs.sc, List.map_append, List.map_cons, List.map_nil, List.cons_append, List.cons.injEq, true_and, shS, hx.scope]
              rw [wa_app, wa_app]
              simp
            obtain ⟨s1, h1, h2⟩ := hf t _ _ _ _ s1' (by simp only [yOf]; omega) hy hss (by simp [yOf, BS.scope]) hs1
            rw [h1]
            exact rsPut_sim hx hd hf l s1 s1' r' h2 h
      · cases h
    · next ht =>
      rw [if_neg ht]
      split at h
      · cases h
      · next hl =>
        rw [if_neg hl]
        refine rsPut_sim hx hd hf l (s.node pre x r) (s'.node (wa pre) x' r) r' ⟨hs.sc, ?_, ?_⟩ h
        · simp only [BS.node, hs.nd, List.map_append, List.map_cons, List.map_nil, shN, hx.scope, gOf_sim hx r, wa_app]
          simp
        · simp only [BS.node, hs.wt, List.map_append, List.map_cons, List.map_nil, aOf_sim hx pre r]
theorem putF_sim (o : Sc) : ∀ (k : Nat) (t : Tm) (x x' : Ar) (s s' r' : BS), x'.depth ≤ 2 → SimA x x' → Sim o s s' → x.scope < s.sc.length → putF k t x' s' = some r' → ∃ r, putF k t x s = some r ∧ Sim o r r'
  | 0, t, x, x', s, s', r', _, _, _, _, h => by simp [putF] at h
  | k + 1, t, x, x', s, s', r', hd, hx, hs, hsc, h => by
    simp only [putF] at h ⊢
    have e : ((s'.sc[x'.scope]?.map Sc.pre).getD ByteArray.empty) = wa ((s.sc[x.scope]?.map Sc.pre).getD ByteArray.empty) := by
      rw [hs.sc, hx.scope, List.getElem?_cons_succ, List.getElem?_map, List.getElem?_eq_getElem hsc]; rfl
    rw [e] at h
    exact rsPut_sim hx hd (fun t y y' s s' r' => putF_sim o k t y y' s s' r') t.res s s' r' hs h
/-- the template that holds t -/
def wholeT (t : Tm) : Tm := ⟨[], [], [⟨wW, stackT, ByteArray.empty, [], [], false, [t]⟩], []⟩
theorem flat_deep {k : Nat} {t : Tm} (h : (flatF (k + 1) (wholeT t)).1 = 0) : ∃ o, (flatF k t).1 = 0 ∧ (flatF (k + 1) (wholeT t)).2.1 = o :: (flatF k t).2.1.map shS ∧ (flatF (k + 1) (wholeT t)).2.2 = (flatF k t).2.2.map shN := by
  unfold flatF at h ⊢
  cases hp : putF (k + 1) (wholeT t) ar0 (bs0 (wholeT t)) with
  | none => rw [hp] at h; simp at h
  | some r' =>
    rw [hp] at h
    simp only [] at h ⊢
    have e : ((bs0 (wholeT t)).sc[ar0.scope]?.map Sc.pre).getD ByteArray.empty = ByteArray.empty := rfl
    simp only [putF] at hp
    rw [e] at hp
    simp only [wholeT, rsPut] at hp
    rw [if_pos (by rfl), if_neg (by decide)] at hp
    split at hp
    · cases hp
    · next s1 hs1 =>
      simp only [Option.some.injEq] at hp
      subst hp
      have hy : SimA ar0 (yOf ByteArray.empty ar0 ⟨wW, stackT, ByteArray.empty, [], [], false, [t]⟩ (bs0 (wholeT t)).sc.length) := ⟨rfl, rfl, rfl, rfl⟩
      have hss : Sim ⟨-1, ByteArray.empty, bareT (wholeT t), []⟩ (bs0 t) ((bs0 (wholeT t)).scope ByteArray.empty ar0 ⟨wW, stackT, ByteArray.empty, [], [], false, [t]⟩ t) := ⟨rfl, rfl, rfl⟩
      obtain ⟨r, h1, h2⟩ := putF_sim _ k t _ _ _ _ s1 (by show 0 + 1 ≤ 2; omega) hy hss (by show 0 < 1; omega) hs1
      rw [h1]
      simp only []
      have l1 : s1.nd.length = r.nd.length := by rw [h2.nd]; simp
      have l2 : s1.sc.length = r.sc.length + 1 := by rw [h2.sc]; simp
      by_cases hb : 16 < s1.nd.length ∨ 16 < s1.sc.length
      · rw [if_pos hb] at h; simp at h
      · rw [if_neg hb, if_neg (by omega)]
        refine ⟨_, rfl, h2.sc, ?_⟩
        simp only []
        rw [h2.nd, h2.wt, ← afAll_wa]
        congr 1
        simp [Function.comp_def, shN]
end Go.Proofs.YthcnfgpilncooaaGreatDoor
