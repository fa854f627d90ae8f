/- What nest.Flatten makes: plain. -/
import Derived.Test.YtmljdppdaaoehaaGreatDoorNs2
namespace Go.Proofs.YtmljdppdaaoehaaGreatDoor
set_option linter.unusedVariables false
set_option linter.unusedSimpArgs false

structure Ar where
  scope : Nat
  guards : List Gd
  after : List ByteArray
  depth : Nat
structure BS where
  sc : List Sc
  nd : List Nd
  wt : List (List ByteArray)
def stackT : ByteArray := ⟨#[83, 116, 97, 99, 107]⟩
def gOf (x : Ar) (r : Rs) : List Gd := if bEq r.cond ByteArray.empty then x.guards else x.guards ++ [⟨x.scope, r.cond⟩]
def aOf (pre : ByteArray) (x : Ar) (r : Rs) : List ByteArray := x.after ++ r.depends.map fun d => pre ++ d
def bareT (t : Tm) : Tm := ⟨t.params, t.conds, [], t.outs⟩
def yOf (pre : ByteArray) (x : Ar) (r : Rs) (n : Nat) : Ar := ⟨n, gOf x r, aOf pre x r, x.depth + 1⟩
def BS.node (s : BS) (pre : ByteArray) (x : Ar) (r : Rs) : BS := ⟨s.sc, s.nd ++ [⟨pre ++ r.id, x.scope, r, gOf x r, []⟩], s.wt ++ [aOf pre x r]⟩
def BS.scope (s : BS) (pre : ByteArray) (x : Ar) (r : Rs) (t : Tm) : BS := ⟨s.sc ++ [⟨x.scope, pre ++ r.id ++ dot, bareT t, r.props⟩], s.nd, s.wt⟩
def rsPut (f : Tm → Ar → BS → Option BS) (pre : ByteArray) (x : Ar) : List Rs → BS → Option BS
  | [], s => some s
  | r :: rs, s =>
    if bEq r.type stackT then
      match r.inner with
      | [t] => if x.depth = 2 then none else
        match f t (yOf pre x r s.sc.length) (s.scope pre x r t) with
        | none => none
        | some s' => rsPut f pre x rs s'
      | _ => none
    else if 0 < r.inner.length then none else rsPut f pre x rs (s.node pre x r)
def putF : Nat → Tm → Ar → BS → Option BS
  | 0, _, _, _ => none
  | k + 1, t, x, s => rsPut (putF k) ((s.sc[x.scope]?.map Sc.pre).getD ByteArray.empty) x t.res s

/-- how much is put at a depth -/
def cp : Nat → Nat
  | 0 => 250000
  | 1 => 4000
  | 2 => 60
  | _ => 0
def BS.big (s : BS) (n : Nat) : Prop := s.sc.length ≤ n ∧ s.nd.length ≤ n ∧ s.wt.length ≤ n
structure Ar.ok (x : Ar) (s : BS) : Prop where
  depth : x.depth ≤ 2
  guards : x.guards.length ≤ x.depth
  after : x.after.length ≤ 60 * x.depth
  sizes : ∀ d ∈ x.after, d.size ≤ 20000
  names : ∀ g ∈ x.guards, g.name.size ≤ 20000 ∧ 0 ≤ g.scope ∧ g.scope ≤ 1000000
  scope : ∃ c, s.sc[x.scope]? = some c ∧ c.pre.size ≤ 3002 * x.depth
structure BS.ok (s : BS) : Prop where
  ids : ∀ n ∈ s.nd, n.id.size ≤ 20000
  wts : ∀ l ∈ s.wt, l.length ≤ 180 ∧ ∀ d ∈ l, d.size ≤ 20000
  len : s.wt.length = s.nd.length
  afs : ∀ n ∈ s.nd, n.after = []
def rOk (k : Nat) (r : Rs) : Prop := r.props.length ≤ 60 ∧ r.depends.length ≤ 60 ∧ r.inner.length ≤ 3 ∧ r.id.size + r.type.size + r.cond.size ≤ 3000 ∧ (∀ d ∈ r.depends, d.size ≤ 3000) ∧ ∀ t' ∈ r.inner, Tm.ok k t'
theorem size_app (a b : ByteArray) : (a ++ b).size = a.size + b.size := ByteArray.size_append
theorem gOf_len (x : Ar) (r : Rs) : (gOf x r).length ≤ x.guards.length + 1 := by unfold gOf; split <;> simp
theorem aOf_len (pre : ByteArray) (x : Ar) (r : Rs) : (aOf pre x r).length = x.after.length + r.depends.length := by unfold aOf; simp
theorem aOf_sizes {pre : ByteArray} {x : Ar} {r : Rs} {s : BS} {k : Nat} (hx : x.ok s) (hp : pre.size ≤ 3002 * x.depth) (hr : rOk k r) : ∀ d ∈ aOf pre x r, d.size ≤ 20000 := by
  intro d hd
  unfold aOf at hd
  rcases List.mem_append.1 hd with hd | hd
  · exact hx.sizes d hd
  · obtain ⟨d', h1, rfl⟩ := List.mem_map.1 hd
    have := hr.2.2.2.2.1 d' h1
    have := hx.depth
    rw [size_app]; omega
theorem gOf_names {x : Ar} {r : Rs} {s : BS} {k : Nat} (hx : x.ok s) (hr : rOk k r) (hs : x.scope ≤ 1000000) : ∀ g ∈ gOf x r, g.name.size ≤ 20000 ∧ 0 ≤ g.scope ∧ g.scope ≤ 1000000 := by
  intro g hg
  unfold gOf at hg
  split at hg
  · exact hx.names g hg
  · rcases List.mem_append.1 hg with hg | hg
    · exact hx.names g hg
    · rw [List.mem_singleton] at hg; subst hg
      have := hr.2.2.2.1
      exact ⟨by show r.cond.size ≤ 20000; omega, by show (0 : Int) ≤ (x.scope : Int); omega, by show (x.scope : Int) ≤ 1000000; omega⟩
theorem BS.node_ok {s : BS} {pre : ByteArray} {x : Ar} {r : Rs} {k : Nat} (h : s.ok) (hx : x.ok s) (hp : pre.size ≤ 3002 * x.depth) (hr : rOk k r) : (s.node pre x r).ok := by
  have hd := hx.depth
  refine ⟨fun n hn => ?_, fun l hl => ?_, by simp [BS.node, h.len], fun n hn => ?_⟩
  · rcases List.mem_append.1 hn with hn | hn
    · exact h.ids n hn
    · rw [List.mem_singleton] at hn; subst hn
      have := hr.2.2.2.1
      show (pre ++ r.id).size ≤ 20000
      rw [size_app]; omega
  · rcases List.mem_append.1 hl with hl | hl
    · exact h.wts l hl
    · rw [List.mem_singleton] at hl; subst hl
      refine ⟨?_, aOf_sizes hx hp hr⟩
      have := hx.after
      have := hr.2.1
      rw [aOf_len]; omega
  · rcases List.mem_append.1 hn with hn | hn
    · exact h.afs n hn
    · rw [List.mem_singleton] at hn; subst hn; rfl
theorem BS.scope_ok {s : BS} {pre : ByteArray} {x : Ar} {r : Rs} {t : Tm} (h : s.ok) : (s.scope pre x r t).ok := ⟨h.ids, h.wts, h.len, h.afs⟩
theorem yOf_ok {s : BS} {pre : ByteArray} {x : Ar} {r : Rs} {t : Tm} {k : Nat} (hx : x.ok s) (hp : pre.size ≤ 3002 * x.depth) (hr : rOk k r) (hd : x.depth ≠ 2) (hs : x.scope ≤ 1000000) : (yOf pre x r s.sc.length).ok (s.scope pre x r t) := by
  have h1 := hx.depth
  have h2 := hx.guards
  have h3 := hx.after
  have h4 := gOf_len x r
  have h5 := hr.2.1
  have h6 := hr.2.2.2.1
  refine ⟨by show x.depth + 1 ≤ 2; omega, by show (gOf x r).length ≤ x.depth + 1; omega, ?_, aOf_sizes hx hp hr, gOf_names hx hr hs, ?_⟩
  · show (aOf pre x r).length ≤ 60 * (x.depth + 1)
    rw [aOf_len]; omega
  · refine ⟨⟨x.scope, pre ++ r.id ++ dot, bareT t, r.props⟩, by simp [BS.scope, yOf], ?_⟩
    show (pre ++ r.id ++ dot).size ≤ 3002 * (x.depth + 1)
    rw [size_app, size_app]
    have : dot.size = 1 := rfl
    omega
theorem Ar.ok.more {x : Ar} {s s' : BS} (h : x.ok s) (hp : ∃ l, s'.sc = s.sc ++ l) : x.ok s' := by
  obtain ⟨l, hl⟩ := hp
  obtain ⟨c, h1, h2⟩ := h.scope
  exact ⟨h.depth, h.guards, h.after, h.sizes, h.names, c, by rw [hl, List.getElem?_append_left (List.getElem?_eq_some_iff.1 h1).1]; exact h1, h2⟩
/-- what putting keeps -/
structure Put (s s' : BS) (n : Nat) : Prop where
  ok : s'.ok
  sc : ∃ l, s'.sc = s.sc ++ l
  big : s'.sc.length ≤ s.sc.length + n ∧ s'.nd.length ≤ s.nd.length + n ∧ s'.wt.length ≤ s.wt.length + n
theorem put_rs {f : Tm → Ar → BS → Option BS} {pre : ByteArray} {x : Ar} {k : Nat} (hpre : pre.size ≤ 3002 * x.depth) (hxs : x.scope ≤ 1000000)
    (hf : x.depth < 2 → ∀ (t : Tm) (y : Ar) (s s' : BS), Tm.ok k t → y.depth = x.depth + 1 → y.ok s → s.ok → s.sc.length + cp (x.depth + 1) ≤ 1000000 → f t y s = some s' → Put s s' (cp (x.depth + 1))) :
    ∀ (l : List Rs) (s s' : BS), (∀ r ∈ l, rOk k r) → x.ok s → s.ok → s.sc.length + l.length * (1 + cp (x.depth + 1)) ≤ 1000000 → rsPut f pre x l s = some s' → Put s s' (l.length * (1 + cp (x.depth + 1)))
  | [], s, s', _, _, hs, _, h => by
    simp only [rsPut, Option.some.injEq] at h
    subst h
    exact ⟨hs, ⟨[], by simp⟩, by simp⟩
  | r :: l, s, s', hl, hx, hs, hb, h => by
    have hr := hl r (by simp)
    simp only [List.length_cons, Nat.succ_mul] at hb
    have hd := hx.depth
    simp only [rsPut] at h
    split at h
    · split at h
      · next t ht =>
        split at h
        · cases h
        · next hd2 =>
          split at h
          · cases h
          · next s1 hs1 =>
            have h1 := hf (by omega) t _ _ _ (hr.2.2.2.2.2 t (by rw [ht]; simp)) rfl (yOf_ok hx hpre hr hd2 hxs) (BS.scope_ok hs) (by simp only [BS.scope, List.length_append, List.length_cons, List.length_nil]; omega) hs1
            have hx1 : x.ok s1 := hx.more (by obtain ⟨l1, hl1⟩ := h1.sc; exact ⟨_, by rw [hl1, BS.scope, List.append_assoc]⟩)
            have h2 := put_rs hpre hxs hf l s1 s' (fun r' hr' => hl r' (by simp [hr'])) hx1 h1.ok (by have := h1.big.1; simp only [BS.scope, List.length_append, List.length_cons, List.length_nil] at this; omega) h
            obtain ⟨l1, hl1⟩ := h1.sc
            obtain ⟨l2, hl2⟩ := h2.sc
            obtain ⟨a1, a2, a3⟩ := h1.big
            obtain ⟨b1, b2, b3⟩ := h2.big
            refine ⟨h2.ok, ⟨_, by rw [hl2, hl1, BS.scope, List.append_assoc, List.append_assoc]⟩, ?_⟩
            simp only [BS.scope, List.length_append, List.length_cons, List.length_nil] at a1 a2 a3
            simp only [List.length_cons, Nat.succ_mul]
            omega
      · cases h
    · split at h
      · cases h
      · have h2 := put_rs hpre hxs hf l _ s' (fun r' hr' => hl r' (by simp [hr'])) (hx.more ⟨[], by simp [BS.node]⟩) (BS.node_ok hs hx hpre hr) (by show s.sc.length + _ ≤ _; omega) h
        obtain ⟨l2, hl2⟩ := h2.sc
        obtain ⟨b1, b2, b3⟩ := h2.big
        refine ⟨h2.ok, ⟨l2, by rw [hl2, BS.node]⟩, ?_⟩
        simp only [BS.node, List.length_append, List.length_cons, List.length_nil] at b1 b2 b3
        simp only [List.length_cons, Nat.succ_mul]
        omega
theorem pre_of {s : BS} {x : Ar} (hx : x.ok s) : ((s.sc[x.scope]?.map Sc.pre).getD ByteArray.empty).size ≤ 3002 * x.depth := by
  obtain ⟨c, h1, h2⟩ := hx.scope
  rw [h1]; exact h2
theorem ok_rs {k : Nat} {t : Tm} (h : t.ok (k + 1)) : t.res.length ≤ 60 ∧ ∀ r ∈ t.res, rOk k r := h
/-- the scope's number is small -/
def BS.fits (s : BS) (x : Ar) : Prop := x.scope ≤ 1000000
theorem put_put : ∀ (k : Nat) (t : Tm) (x : Ar) (s s' : BS), t.ok k → x.ok s → s.ok → s.sc.length + cp x.depth ≤ 1000000 → putF k t x s = some s' → Put s s' (cp x.depth)
  | 0, t, x, s, s', ht, _, _, _, _ => by simp [Tm.ok] at ht
  | k + 1, t, x, s, s', ht, hx, hs, hb, h => by
    obtain ⟨h1, h2⟩ := ok_rs ht
    have hd := hx.depth
    have hsc : x.scope ≤ 1000000 := by
      obtain ⟨c, hc, _⟩ := hx.scope
      have := (List.getElem?_eq_some_iff.1 hc).1
      omega
    have hlen : t.res.length * (1 + cp (x.depth + 1)) ≤ cp x.depth := by
      match hx' : x.depth, hd with
      | 0, _ => have : cp (0 + 1) = 4000 := rfl
                have : cp 0 = 250000 := rfl
                rw [‹cp (0 + 1) = 4000›, ‹cp 0 = 250000›]; omega
      | 1, _ => have h3 : cp (1 + 1) = 60 := rfl
                have h4 : cp 1 = 4000 := rfl
                rw [h3, h4]; omega
      | 2, _ => have h3 : cp (2 + 1) = 0 := rfl
                have h4 : cp 2 = 60 := rfl
                rw [h3, h4]; omega
    have := put_rs (f := putF k) (pre_of hx) hsc (fun _ t' y s1 s2 ht' hy hyo hs1 hb1 h' => by
      have := put_put k t' y s1 s2 ht' hyo hs1 (by rw [hy]; exact hb1) h'
      rwa [hy] at this) t.res s s' h2 hx hs (by omega) h
    obtain ⟨p1, p2, p3⟩ := this
    exact ⟨p1, p2, by omega⟩
end Go.Proofs.YtmljdppdaaoehaaGreatDoor
