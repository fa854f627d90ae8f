/- Nested stacks: what a flat's scopes and nodes have; guards and conditions (plain). -/
import Derived.Test.YthcnfgpilncooaaGreatDoorPnc
import Derived.Test.YthcnfgpilncooaaGreatDoorNs11
namespace Go.Proofs.YthcnfgpilncooaaGreatDoor
open Go.RowKit
set_option linter.unusedVariables false
set_option linter.unusedSimpArgs false

def Tm.fine : Nat → Tm → Prop
  | 0, _ => False
  | k + 1, t => pmsGreat t.params = false ∧ csGreat t.conds = false ∧ ∀ r ∈ t.res, r.props.length ≤ 60 ∧ ∀ t' ∈ r.inner, Tm.fine k t'
theorem tW_fine : ∀ (k : Nat) (t : Tm), tW k t ≤ 3000 → t.fine k
  | 0, t, h => by simp [tW] at h
  | k + 1, t, h => by
    have hok := (ok_rs (tW_ok (k + 1) t h)).2
    simp only [tW] at h
    split at h
    · omega
    · next hg =>
      have hp : pmsGreat t.params = false := by cases hq : pmsGreat t.params with | false => rfl | true => exact absurd (by simp [hq]) hg
      have hc : csGreat t.conds = false := by cases hq : csGreat t.conds with | false => rfl | true => exact absurd (by simp [hq]) hg
      have key : ∀ (l : List Rs) (n : Nat), rsGo (tW k) t.outs n l ≤ 3000 → ∀ r ∈ l, ∀ t' ∈ r.inner, tW k t' ≤ 3000 := by
        intro l
        induction l with
        | nil => intro n _ r hr; cases hr
        | cons r rs ih =>
          intro n h r' hr'
          simp only [rsGo] at h
          split at h
          · omega
          · split at h
            · omega
            · next m hm =>
              split at h
              · omega
              · have h2 := rsGo_ge (tW k) t.outs rs _ h
                rcases List.mem_cons.1 hr' with rfl | hr'
                · have h4 := efold_sum (f := tW k) r'.inner (m + (r'.depends.map fun s => min s.size 10000).sum) (by omega)
                  intro t' ht'
                  have h6 := sum_mem_le (f := tW k) ht'
                  omega
                · exact ih _ h r' hr'
      exact ⟨hp, hc, fun r hr => ⟨(hok r hr).1, fun t' ht' => tW_fine k t' (key _ _ h r hr t' ht')⟩⟩
def scGood (s : Sc) : Prop := pmsGreat s.t.params = false ∧ csGreat s.t.conds = false ∧ s.args.length ≤ 60
structure BS.good (s : BS) : Prop where
  sc : ∀ x ∈ s.sc, scGood x
  nd : ∀ x ∈ s.nd, x.guards.length ≤ 3
theorem put_good : ∀ (k : Nat) (t : Tm) (x : Ar) (s s' : BS), t.fine k → x.guards.length ≤ x.depth → x.depth ≤ 2 → s.good → putF k t x s = some s' → s'.good
  | 0, t, x, s, s', hf, _, _, _, h => by cases hf
  | k + 1, t, x, s, s', hf, hx, hd, hs, h => by
    obtain ⟨-, -, hr⟩ := hf
    unfold putF at h
    generalize ((s.sc[x.scope]?.map Sc.pre).getD ByteArray.empty) = pre at h
    have key : ∀ (l : List Rs) (s s' : BS), (∀ r ∈ l, r.props.length ≤ 60 ∧ ∀ t' ∈ r.inner, Tm.fine k t') → s.good → rsPut (putF k) pre x l s = some s' → s'.good := by
      intro l
      induction l with
      | nil => intro s s' _ hs h; unfold rsPut at h; injection h with h; subst h; exact hs
      | cons r rs ih =>
        intro s s' hl hs h
        have hg := gOf_len x r
        unfold rsPut at h
        split at h
        · split at h
          · next t1 ht1 =>
            split at h
            · cases h
            · next hd2 =>
              split at h
              · cases h
              · next s1 hs1 =>
                have hf1 := (hl r (by simp)).2 t1 (by rw [ht1]; simp)
                have hk : ∃ k', k = k' + 1 := by cases k with | zero => cases hf1 | succ k' => exact ⟨k', rfl⟩
                obtain ⟨k', rfl⟩ := hk
                refine ih s1 s' (fun q hq => hl q (by simp [hq])) (put_good (k' + 1) t1 (yOf pre x r s.sc.length) (s.scope pre x r t1) s1 hf1 ?_ ?_ ?_ hs1) h
                · show (gOf x r).length ≤ x.depth + 1; omega
                · show x.depth + 1 ≤ 2; omega
                · refine ⟨fun y hy => ?_, hs.nd⟩
                  rcases List.mem_append.1 hy with hy | hy
                  · exact hs.sc y hy
                  · rw [List.mem_singleton.1 hy]; exact ⟨hf1.1, hf1.2.1, (hl r (by simp)).1⟩
          · cases h
        · split at h
          · cases h
          · refine ih (s.node pre x r) s' (fun q hq => hl q (by simp [hq])) ⟨hs.sc, fun y hy => ?_⟩ h
            rcases List.mem_append.1 hy with hy | hy
            · exact hs.nd y hy
            · rw [List.mem_singleton.1 hy]; show (gOf x r).length ≤ 3; omega
    exact key t.res s s' hr hs h
theorem afAll_guards {ids : List ByteArray} : ∀ {ns : List Nd} {ws : List (List ByteArray)} {n : Nd}, n ∈ afAll ids ns ws → ∃ m ∈ ns, n.guards = m.guards
  | [], _, n, h => by unfold afAll at h; cases h
  | m :: ns, [], n, h => by unfold afAll at h; cases h
  | m :: ns, w :: ws, n, h => by
    unfold afAll at h
    rcases List.mem_cons.1 h with rfl | h
    · exact ⟨m, by simp, rfl⟩
    · obtain ⟨x, hx, e⟩ := afAll_guards h
      exact ⟨x, by simp [hx], e⟩
theorem afAll_le {ids : List ByteArray} : ∀ {ns : List Nd} {ws : List (List ByteArray)}, (afAll ids ns ws).length ≤ ns.length
  | [], _ => by simp [afAll]
  | m :: ns, [] => by simp [afAll]
  | m :: ns, w :: ws => by have := afAll_le (ids := ids) (ns := ns) (ws := ws); simp [afAll]; omega
theorem flat_good {k : Nat} {t : Tm} {sc : List Sc} {nd : List Nd} (ht : t.fine k) (h : flatF k t = (0, sc, nd)) : sc.length ≤ 16 ∧ nd.length ≤ 16 ∧ (∀ s ∈ sc, scGood s) ∧ ∀ n ∈ nd, n.guards.length ≤ 3 := by
  unfold flatF at h
  split at h
  · injection h with h; omega
  · next s hs =>
    split at h
    · injection h with h; omega
    · next hl =>
      injection h with _ h
      injection h with h1 h2
      subst h1; subst h2
      have hk : ∃ k', k = k' + 1 := by cases k with | zero => cases ht | succ k' => exact ⟨k', rfl⟩
      obtain ⟨k', rfl⟩ := hk
      have hg := put_good (k' + 1) t ar0 (bs0 t) s ht (by simp [ar0]) (by simp [ar0]) ⟨fun x hx => by
        rw [List.mem_singleton.1 (show x ∈ [_] from hx)]
        exact ⟨ht.1, ht.2.1, by simp⟩, fun x hx => by cases hx⟩ hs
      refine ⟨by omega, Nat.le_trans afAll_le (by omega), hg.sc, fun n hn => ?_⟩
      obtain ⟨m, hm, e⟩ := afAll_guards hn
      rw [e]; exact hg.nd m hm
theorem pm_small {l : List Pm} (h : pmsGreat l = false) : l.length ≤ 40 ∧ ∀ p ∈ l, pSmall p := by
  unfold pmsGreat at h
  simp only [Bool.or_eq_false_iff, decide_eq_false_iff_not] at h
  refine ⟨by omega, fun p hp => ?_⟩
  have h2 := (List.any_eq_false.1 h.2) p hp
  unfold pmGreat at h2
  simp only [Bool.or_eq_true, decide_eq_true_eq, not_or, Bool.not_eq_true] at h2
  obtain ⟨⟨⟨h3, h4⟩, h5⟩, h6⟩ := h2
  exact ⟨by omega, small_of h3, fun v hv => small_of (by simpa using (List.any_eq_false.1 h6) v hv)⟩
theorem sc_facts {sc : List Sc} {nd : List Nd} (h : sc.length ≤ 16 ∧ nd.length ≤ 16 ∧ (∀ s ∈ sc, scGood s) ∧ ∀ n ∈ nd, n.guards.length ≤ 3) :
    sc.length ≤ 1000000 ∧ nd.length ≤ 1000000 ∧ (∀ n ∈ nd, n.guards.length ≤ 1000000) ∧ (∀ s ∈ sc, s.t.conds.length ≤ 1000000) ∧ (∀ s ∈ sc, CsOk s.t.conds) ∧ ∀ s ∈ sc, s.t.params.length ≤ 1000000 ∧ (∀ p ∈ s.t.params, pSmall p) ∧ s.args.length ≤ 1000000 := by
  obtain ⟨h1, h2, h3, h4⟩ := h
  refine ⟨by omega, by omega, fun n hn => by have := h4 n hn; omega, fun s hs => by have := (cs_ok (h3 s hs).2.1).1; omega, fun s hs => (cs_ok (h3 s hs).2.1).2, fun s hs => ?_⟩
  obtain ⟨h5, h6⟩ := pm_small (h3 s hs).1
  exact ⟨by omega, h6, by have := (h3 s hs).2.2; omega⟩

/-! ### Guards -/
theorem hRow_ne {i i' : Int} (h : i' ≠ i) (s : ByteArray) : ∀ (r : List (ByteArray × Bool)) (f : Int → ByteArray → Option Bool), hRow i r f i' s = f i' s
  | [], f => rfl
  | x :: r, f => by rw [hRow, hRow_ne h s r, updG, if_neg (fun e => h e.1)]
theorem hRow_eq {i : Int} {s : ByteArray} : ∀ {r : List (ByteArray × Bool)} (f : Int → ByteArray → Option Bool), (r.map Prod.fst).Nodup → hRow i r f i s = match r.find? (fun x => bEq x.1 s) with | some x => some x.2 | none => f i s
  | [], f, _ => rfl
  | x :: r, f, h => by
    rw [List.map_cons, List.nodup_cons] at h
    rw [hRow, hRow_eq _ h.2, List.find?_cons]
    by_cases hx : x.1 = s
    · rw [bEq_iff.2 hx]
      have : r.find? (fun y => bEq y.1 s) = none := List.find?_eq_none.2 (fun y hy e => h.1 (List.mem_map.2 ⟨y, hy, (bEq_iff.1 e).trans hx.symm⟩))
      rw [this]
      simp [updG, hx]
    · rw [bEq_ne hx]
      simp only
      cases r.find? (fun y => bEq y.1 s) with
      | some y => rfl
      | none => simp only; rw [updG, if_neg (fun e => hx e.2.symm)]
theorem hAll_lt {i' : Int} {s : ByteArray} : ∀ (O : List (List (ByteArray × Bool))) (k : Nat) (f : Int → ByteArray → Option Bool), i' < (k : Int) → hAll k O f i' s = f i' s
  | [], k, f, _ => rfl
  | r :: O, k, f, h => by rw [hAll, hAll_lt O (k + 1) _ (by omega), hRow_ne (by omega)]
theorem hAll_at {s : ByteArray} : ∀ {O : List (List (ByteArray × Bool))} {k j : Nat} {f : Int → ByteArray → Option Bool} {r : List (ByteArray × Bool)}, O[j]? = some r → (r.map Prod.fst).Nodup → (∀ i, f i s = none) →
    hAll k O f ((k + j : Nat) : Int) s = (r.find? (fun x => bEq x.1 s)).map Prod.snd
  | [], k, j, f, r, h, _, _ => by simp at h
  | q :: O, k, j, f, r, h, hn, hf => by
    cases j with
    | zero =>
      simp at h; subst h
      simp only [Nat.add_zero]
      rw [hAll, hAll_lt O (k + 1) _ (by omega), hRow_eq _ hn, hf]
      cases q.find? (fun x => bEq x.1 s) <;> rfl
    | succ j =>
      rw [hAll]
      by_cases hq : True
      · have h2 : O[j]? = some r := by simpa using h
        have e : ((k + (j + 1) : Nat) : Int) = ((k + 1 + j : Nat) : Int) := by omega
        -- the row in between touches other keys alone
        have key : ∀ (O : List (List (ByteArray × Bool))) (m j : Nat) (f g : Int → ByteArray → Option Bool), f ((m + j : Nat) : Int) s = g ((m + j : Nat) : Int) s → hAll m O f ((m + j : Nat) : Int) s = hAll m O g ((m + j : Nat) : Int) s := by
          intro O
          induction O with
          | nil => intro m j f g h; exact h
          | cons p O ih =>
            intro m j f g h
            rw [hAll, hAll]
            have hr : ∀ (p : List (ByteArray × Bool)) (f g : Int → ByteArray → Option Bool), f ((m + j : Nat) : Int) s = g ((m + j : Nat) : Int) s → hRow (m : Int) p f ((m + j : Nat) : Int) s = hRow (m : Int) p g ((m + j : Nat) : Int) s := by
              intro p
              induction p with
              | nil => intro f g h; exact h
              | cons x p ih2 =>
                intro f g h
                rw [hRow, hRow]
                refine ih2 _ _ ?_
                unfold updG
                split
                · rfl
                · exact h
            cases j with
            | zero => rw [Nat.add_zero, hAll_lt O (m + 1) _ (by omega), hAll_lt O (m + 1) _ (by omega)]; exact hr p f g h
            | succ j =>
              have e2 : ((m + (j + 1) : Nat) : Int) = ((m + 1 + j : Nat) : Int) := by omega
              have := ih (m + 1) j (hRow (m : Int) p f) (hRow (m : Int) p g) (by rw [← e2]; exact hr p f g h)
              rw [← e2] at this
              exact this
        rw [e]
        refine (key O (k + 1) j _ f ?_).trans (hAll_at h2 hn hf)
        rw [hRow_ne (by omega)]
      · exact absurd trivial hq
def gYes (O : List (List (ByteArray × Bool))) (g : Gd) : Bool := (O.getD g.scope.toNat []).any fun x => bEq x.1 g.name && x.2
theorem find_any {s : ByteArray} : ∀ {r : List (ByteArray × Bool)}, (r.map Prod.fst).Nodup → ((r.find? (fun x => bEq x.1 s)).map Prod.snd).getD false = r.any fun x => bEq x.1 s && x.2
  | [], _ => rfl
  | x :: r, h => by
    rw [List.map_cons, List.nodup_cons] at h
    rw [List.find?_cons, List.any_cons]
    by_cases hx : x.1 = s
    · rw [bEq_iff.2 hx]
      have : r.any (fun y => bEq y.1 s && y.2) = false := by
        rw [List.any_eq_false]
        intro y hy e
        simp only [Bool.and_eq_true] at e
        exact h.1 (List.mem_map.2 ⟨y, hy, (bEq_iff.1 e.1).trans hx.symm⟩)
      rw [this]; simp
    · rw [bEq_ne hx]
      simp only [Bool.false_and, Bool.false_or]
      exact find_any h.2
theorem enF_yes {O : List (List (ByteArray × Bool))} (hu : ∀ (j : Nat) (r : List (ByteArray × Bool)), O[j]? = some r → (r.map Prod.fst).Nodup) {g : Gd} (h0 : 0 ≤ g.scope) (h1 : g.scope < (O.length : Int)) : (enF O g.scope g.name).getD false = gYes O g := by
  obtain ⟨i, hi⟩ : ∃ i : Nat, g.scope = (i : Int) := ⟨g.scope.toNat, by omega⟩
  obtain ⟨r, hr⟩ := get_lt (l := O) (i := i) (by omega)
  have h2 := hAll_at (s := g.name) (k := 0) (f := fun _ _ => none) hr (hu i r hr) (fun _ => rfl)
  rw [Nat.zero_add] at h2
  unfold enF gYes
  rw [hi, h2, find_any (hu i r hr), show ((i : Int)).toNat = i from rfl, List.getD_eq_getElem?_getD, hr]; rfl
theorem uq_nodup {l : List Cd} (h : UqN l) : (l.map Cd.name).Nodup := by
  unfold UqN at h
  rw [List.Nodup, List.pairwise_map]
  exact h
theorem enOn_yes {K : List Cd → List Gv → Nat} {sc : List Sc} {nd : List Nd} {args : List Gv} {O : List (List (ByteArray × Bool))} (ha : ∀ g ∈ args, vSmall g.v) (hs : ∀ s ∈ sc, s.t.params.length ≤ 1000000 ∧ ∀ p ∈ s.t.params, pSmall p) (h : nConds K sc nd args = .inr O) :
    O.length = sc.length ∧ ∀ n ∈ nd, (∀ g ∈ n.guards, 0 ≤ g.scope ∧ g.scope < (O.length : Int)) ∧ enOn O n = n.guards.all (gYes O) := by
  obtain ⟨hM, hl, hr⟩ := nConds_ok ha hs h
  refine ⟨hl, fun n hn => ?_⟩
  have hg : ∀ g ∈ n.guards, 0 ≤ g.scope ∧ g.scope < (O.length : Int) := by
    intro g hg
    unfold nMay at hM
    cases sc with
    | nil => cases hM
    | cons s0 r =>
      simp only at hM
      split at hM
      · cases hM
      · simp only [Bool.and_eq_true] at hM
        have h1 := (List.all_eq_true.1 hM.2) n hn
        unfold ndOk at h1
        split at h1
        · cases h1
        · have h2 := (List.all_eq_true.1 h1) g hg
          unfold gdOk at h2
          split at h2
          · cases h2
          · next h3 => rw [hl]; omega
  refine ⟨hg, ?_⟩
  have hu : ∀ (j : Nat) (r : List (ByteArray × Bool)), O[j]? = some r → (r.map Prod.fst).Nodup := fun j r hj => by
    obtain ⟨s, g, _, h2⟩ := hr j r hj
    obtain ⟨h3, h4⟩ := runOf_ok h2
    rw [runEv_names h4]
    exact uq_nodup (chk_iff.1 h3).2.1
  unfold enOn
  rw [Bool.eq_iff_iff, List.all_eq_true, List.all_eq_true]
  exact ⟨fun h g hgm => by rw [← enF_yes hu (hg g hgm).1 (hg g hgm).2]; exact h g hgm, fun h g hgm => by rw [enF_yes hu (hg g hgm).1 (hg g hgm).2]; exact h g hgm⟩
end Go.Proofs.YthcnfgpilncooaaGreatDoor
