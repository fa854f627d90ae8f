/- nest.Flatten, plain: what comes after what; a template without nested ones. -/
import Derived.Test.YtmljdppdaaoehaaGreatDoorNs3
namespace Go.Proofs.YtmljdppdaaoehaaGreatDoor
set_option linter.unusedVariables false
set_option linter.unusedSimpArgs false

def addOne (a : List ByteArray) (d : ByteArray) : List ByteArray := if sHas d a then a else a ++ [d]
def undGo (ids : List ByteArray) : List ByteArray → List Nat → List ByteArray
  | a, [] => a
  | a, k :: r => undGo ids (addOne a (ids.getD k ByteArray.empty)) r
def afOne (ids a : List ByteArray) (d : ByteArray) : List ByteArray := undGo ids (if sHas d ids then addOne a d else a) (unds d 0 ids)
def afGo (ids : List ByteArray) : List ByteArray → List ByteArray → List ByteArray
  | a, [] => a
  | a, d :: r => afGo ids (afOne ids a d) r
def afAll (ids : List ByteArray) : List Nd → List (List ByteArray) → List Nd
  | n :: ns, w :: ws => ⟨n.id, n.scope, n.r, n.guards, afGo ids n.after w⟩ :: afAll ids ns ws
  | _, _ => []
def bs0 (t : Tm) : BS := ⟨[⟨-1, ByteArray.empty, bareT t, []⟩], [], []⟩
def ar0 : Ar := ⟨0, [], [], 0⟩
/-- nest.Flatten: the error, the scopes, the nodes -/
def flatF (k : Nat) (t : Tm) : Int × List Sc × List Nd :=
  match putF k t ar0 (bs0 t) with
  | none => (170, [], [])
  | some s => if 16 < s.nd.length ∨ 16 < s.sc.length then (3, [], []) else (0, s.sc, afAll (s.nd.map Nd.id) s.nd s.wt)

/-! ### What comes after -/
def reach (w : List ByteArray) (z : ByteArray) : Prop := ∃ d ∈ w, z = d ∨ und d z = true
theorem addOne_mem {a : List ByteArray} {d z : ByteArray} (h : z ∈ addOne a d) : z ∈ a ∨ z = d := by
  unfold addOne at h
  split at h
  · exact .inl h
  · rcases List.mem_append.1 h with h | h
    · exact .inl h
    · rw [List.mem_singleton] at h; exact .inr h
theorem unds_mem {d : ByteArray} : ∀ {l : List ByteArray} {i k : Nat}, k ∈ unds d i l → ∃ j, k = i + j ∧ ∃ x, l[j]? = some x ∧ und d x = true
  | [], i, k, h => by simp [unds] at h
  | x :: l, i, k, h => by
    simp only [unds] at h
    split at h
    · next hx =>
      rcases List.mem_cons.1 h with rfl | h
      · exact ⟨0, rfl, x, rfl, hx⟩
      · obtain ⟨j, rfl, y, h1, h2⟩ := unds_mem h
        exact ⟨j + 1, by omega, y, by simpa using h1, h2⟩
    · obtain ⟨j, rfl, y, h1, h2⟩ := unds_mem h
      exact ⟨j + 1, by omega, y, by simpa using h1, h2⟩
theorem undGo_mem {ids : List ByteArray} {d z : ByteArray} : ∀ {ks : List Nat} {a : List ByteArray}, (∀ k ∈ ks, ∃ x, ids[k]? = some x ∧ und d x = true) → z ∈ undGo ids a ks → z ∈ a ∨ und d z = true
  | [], a, _, h => .inl h
  | k :: ks, a, hk, h => by
    simp only [undGo] at h
    rcases undGo_mem (fun k' h' => hk k' (by simp [h'])) h with h | h
    · rcases addOne_mem h with h | h
      · exact .inl h
      · obtain ⟨x, h1, h2⟩ := hk k (by simp)
        rw [List.getD_eq_getElem?_getD, h1] at h
        simp at h
        subst h; exact .inr h2
    · exact .inr h
theorem afOne_mem {ids a : List ByteArray} {d z : ByteArray} (h : z ∈ afOne ids a d) : z ∈ a ∨ z = d ∨ und d z = true := by
  unfold afOne at h
  rcases undGo_mem (d := d) (fun k hk => by
    obtain ⟨j, rfl, x, h1, h2⟩ := unds_mem hk
    exact ⟨x, by simpa using h1, h2⟩) h with h | h
  · split at h
    · rcases addOne_mem h with h | h
      · exact .inl h
      · exact .inr (.inl h)
    · exact .inl h
  · exact .inr (.inr h)
theorem afGo_mem {ids : List ByteArray} {z : ByteArray} : ∀ {w a : List ByteArray}, z ∈ afGo ids a w → z ∈ a ∨ reach w z
  | [], a, h => .inl h
  | d :: w, a, h => by
    simp only [afGo] at h
    rcases afGo_mem h with h | ⟨d', h1, h2⟩
    · rcases afOne_mem h with h | h
      · exact .inl h
      · exact .inr ⟨d, by simp, h⟩
    · exact .inr ⟨d', by simp [h1], h2⟩
theorem afAll_len {ids : List ByteArray} : ∀ {ns : List Nd} {ws : List (List ByteArray)}, ws.length = ns.length → (afAll ids ns ws).length = ns.length
  | [], [], _ => rfl
  | n :: ns, w :: ws, h => by simp only [afAll, List.length_cons]; rw [afAll_len (by simpa using h)]
  | [], _ :: _, h => by simp at h
  | _ :: _, [], h => by simp at h
theorem afAll_get {ids : List ByteArray} : ∀ {ns : List Nd} {ws : List (List ByteArray)} {i : Nat} {n : Nd} {w : List ByteArray}, ns[i]? = some n → ws[i]? = some w → (afAll ids ns ws)[i]? = some ⟨n.id, n.scope, n.r, n.guards, afGo ids n.after w⟩
  | [], _, i, n, w, h, _ => by simp at h
  | _ :: _, [], i, n, w, _, h => by simp at h
  | n' :: ns, w' :: ws, 0, n, w, h1, h2 => by
    simp at h1 h2; subst h1 h2; rfl
  | n' :: ns, w' :: ws, i + 1, n, w, h1, h2 => by
    simp only [afAll, List.getElem?_cons_succ]
    exact afAll_get (by simpa using h1) (by simpa using h2)

/-! ### Without nested stacks -/
theorem rsPut_plain {f : Tm → Ar → BS → Option BS} {pre : ByteArray} {x : Ar} : ∀ (l : List Rs) (s : BS), (∀ r ∈ l, bEq r.type stackT = false ∧ r.inner = []) →
    rsPut f pre x l s = some ⟨s.sc, s.nd ++ l.map (fun r => ⟨pre ++ r.id, x.scope, r, gOf x r, []⟩), s.wt ++ l.map (aOf pre x)⟩
  | [], s, _ => by simp [rsPut]
  | r :: l, s, h => by
    obtain ⟨h1, h2⟩ := h r (by simp)
    simp only [rsPut]
    rw [h1, if_neg (by simp), h2, if_neg (by simp), rsPut_plain l _ (fun r' hr' => h r' (by simp [hr']))]
    simp [BS.node]
theorem empty_app (a : ByteArray) : ByteArray.empty ++ a = a := ba_ext (by simp [ByteArray.data_append])
theorem flat_plain {k : Nat} {t : Tm} (h : ∀ r ∈ t.res, bEq r.type stackT = false ∧ r.inner = []) :
    flatF (k + 1) t = if 16 < t.res.length then (3, [], []) else (0, [⟨-1, ByteArray.empty, bareT t, []⟩], afAll (t.res.map Rs.id) (t.res.map fun r => ⟨r.id, 0, r, gOf ar0 r, []⟩) (t.res.map Rs.depends)) := by
  have e : ((bs0 t).sc[ar0.scope]?.map Sc.pre).getD ByteArray.empty = ByteArray.empty := rfl
  have ea : (fun r => aOf ByteArray.empty ar0 r) = Rs.depends := by
    funext r
    simp only [aOf, ar0, List.nil_append]
    rw [show (fun d => ByteArray.empty ++ d) = id from funext empty_app, List.map_id]
  unfold flatF
  simp only [putF]
  rw [e, rsPut_plain _ _ h]
  simp only [bs0, List.nil_append, List.length_map, List.length_cons, List.length_nil, List.map_map]
  by_cases hl : 16 < t.res.length
  · rw [if_pos (.inl hl), if_pos hl]
  · rw [if_neg (by omega), if_neg hl]
    have e1 : (t.res.map fun r => (⟨ByteArray.empty ++ r.id, ((ar0.scope : Nat) : Int), r, gOf ar0 r, []⟩ : Nd)) = t.res.map fun r => ⟨r.id, 0, r, gOf ar0 r, []⟩ := List.map_congr_left fun r _ => by rw [empty_app]; rfl
    rw [e1]
    congr 2
    have e2 : (Nd.id ∘ fun r : Rs => (⟨ByteArray.empty ++ r.id, ((ar0.scope : Nat) : Int), r, gOf ar0 r, []⟩ : Nd)) = Rs.id := by
      funext r
      exact empty_app r.id
    have e3 : aOf ByteArray.empty ar0 = Rs.depends := ea
    rw [e2, e3]
end Go.Proofs.YtmljdppdaaoehaaGreatDoor
