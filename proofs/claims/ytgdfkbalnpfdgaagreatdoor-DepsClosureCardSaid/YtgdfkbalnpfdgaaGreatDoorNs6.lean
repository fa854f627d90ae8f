/- nest.Flatten, plain: what comes after what; a template without nested ones. -/
import Derived.Test.YtgdfkbalnpfdgaaGreatDoorNs3
namespace Go.Proofs.YtgdfkbalnpfdgaaGreatDoor
set_option linter.unusedVariables false
set_option linter.unusedSimpArgs false
def addOne (a : List ByteArray) (d : ByteArray) : List ByteArray := if sHas d a then a else a ++ [d]
def undGo (ids : List ByteArray) : List ByteArray → List Nat → List ByteArray
 | a, [] => a
 | a, k :: r => undGo ids (addOne a (ids.getD k ByteArray.empty)) r
def afOne (ids a : List ByteArray) (d : ByteArray) : List ByteArray := undGo ids (if sHas d ids then addOne a d else a) (unds d 0 ids)
def afGo (ids : List ByteArray) : List ByteArray → List ByteArray → List ByteArray
 | a, [] => a
 | a, d :: r => afGo ids (afOne ids a d) r
def afAll (ids : List ByteArray) : List Nd → List (List ByteArray) → List Nd
 | n :: ns, w :: ws => ⟨n.id, n.scope, n.r, n.guards, afGo ids n.after w⟩ :: afAll ids ns ws
 | _, _ => []
def bs0 (t : Tm) : BS := ⟨[⟨-1, ByteArray.empty, bareT t, []⟩], [], []⟩
def ar0 : Ar := ⟨0, [], [], 0⟩
def flatF (k : Nat) (t : Tm) : Int × List Sc × List Nd :=
 match putF k t ar0 (bs0 t) with
 | none => (170, [], [])
 | some s => if 16 < s.nd.length ∨ 16 < s.sc.length then (3, [], []) else (0, s.sc, afAll (s.nd.map Nd.id) s.nd s.wt)
theorem addOne_mem {a : List ByteArray} {d z : ByteArray} (h : z ∈ addOne a d) : z ∈ a ∨ z = d := by
 unfold addOne at h
 split at h
 ·exact .inl h
 ·rcases List.mem_append.1 h with h | h
  ·exact .inl h
  ·rw [List.mem_singleton] at h; exact .inr h
theorem unds_mem {d : ByteArray} : ∀ {l : List ByteArray} {i k : Nat}, k ∈ unds d i l → ∃ j, k = i + j ∧ ∃ x, l[j]? = some x ∧ und d x = true
 | [], i, k, h => by simp [unds] at h
 | x :: l, i, k, h => by
   simp only [unds] at h
   split at h
   ·next hx =>
    rcases List.mem_cons.1 h with rfl | h
    ·exact ⟨0, rfl, x, rfl, hx⟩
    ·obtain ⟨j, rfl, y, h1, h2⟩ := unds_mem h
     exact ⟨j + 1, by omega, y, by simpa using h1, h2⟩
   ·obtain ⟨j, rfl, y, h1, h2⟩ := unds_mem h
    exact ⟨j + 1, by omega, y, by simpa using h1, h2⟩
theorem afAll_len {ids : List ByteArray} : ∀ {ns : List Nd} {ws : List (List ByteArray)}, ws.length = ns.length → (afAll ids ns ws).length = ns.length
 | [], [], _ => rfl
 | n :: ns, w :: ws, h => by simp only [afAll, List.length_cons]; rw [afAll_len (by simpa using h)]
 | [], _ :: _, h => by simp at h
 | _ :: _, [], h => by simp at h
theorem afAll_get {ids : List ByteArray} : ∀ {ns : List Nd} {ws : List (List ByteArray)} {i : Nat} {n : Nd} {w : List ByteArray}, ns[i]? = some n → ws[i]? = some w → (afAll ids ns ws)[i]? = some ⟨n.id, n.scope, n.r, n.guards, afGo ids n.after w⟩
 | [], _, i, n, w, h, _ => by simp at h
 | _ :: _, [], i, n, w, _, h => by simp at h
 | n' :: ns, w' :: ws, 0, n, w, h1, h2 => by
   simp at h1 h2; subst h1 h2; rfl
 | n' :: ns, w' :: ws, i + 1, n, w, h1, h2 => by
   simp only [afAll, List.getElem?_cons_succ]
   exact afAll_get (by simpa using h1) (by simpa using h2)
end Go.Proofs.YtgdfkbalnpfdgaaGreatDoor
