/- Rows of conditions of one's own: appends onto a row that is empty; what lies in cells. -/
import Derived.Test.YtmljdppdaaoehaaDoorCw1
import Derived.Test.YtmljdppdaaoehaaDoorRow
namespace Go.Proofs.YtmljdppdaaoehaaDoor
open Go.RowKit
set_option linter.unusedVariables false
set_option linter.unusedSimpArgs false

theorem info_cond : (Tryd.prog.info? 32).map (fun i => (i.zero, i.size, i.bytes)) = some (some (.agg #[.string ByteArray.empty, .int .i8 0, .int .i8 0, .string ByteArray.empty, .int .i64 0, .string ByteArray.empty, .string ByteArray.empty, .slice none 0 0, .int .i8 0, .string ByteArray.empty, .int .i64 0, .string ByteArray.empty, .string ByteArray.empty, .slice none 0 0, .slice none 0 0]), 15, 224) := by kernel_rfl
/-- conditions in a row of one's own -/
theorem own_conds {w : World} {base c : Nat} {A : Option Addr} {xs : List Value} {l : List Cd} {n : Nat} {S : Nat → Prop} (hn : n = l.length) (hl : l.length ≤ 1000) (ho : Ow w base 32 15 A n c xs) (ht : Trs.at S w (l.flatMap Cd.tr) xs) :
    Ls (fun k => k < w.heap.size) w 15 224 Cd.tr A c l := by
  subst hn
  refine ⟨by omega, by omega, ho.rd.cap, ho.rd.max, fun ad e _ => ?_, xs, ho.rd, ht.bound.mono (fun k hk => hk.2)⟩
  subst e
  exact (ho.lt rfl).2
theorem cds_one {S : Nat → Prop} {w : World} : ∀ {l : List Cd} {vs : List Value}, Trs.at S w (l.flatMap Cd.tr) vs → ∀ u ∈ vs, u.oneCell' = true
  | [], vs, h, u, hu => by
    simp only [List.flatMap_nil, Trs.at] at h
    subst h
    cases hu
  | c :: l, vs, h, u, hu => by
    rw [List.flatMap_cons] at h
    obtain ⟨cs, vs', rfl, h1, h2⟩ := Trs.at.app.1 h
    rcases List.mem_append.1 hu with hu | hu
    · obtain ⟨xs, ys, L, lc, rfl, _, _, hxa, hxb, _⟩ := Cd.at_iff.1 h1
      obtain ⟨A1, n1, rfl, _⟩ := ex_cells hxa
      obtain ⟨B1, n2, rfl, _⟩ := ex_cells hxb
      simp only [List.cons_append, List.nil_append, List.mem_cons, List.not_mem_nil, or_false] at hu
      rcases hu with rfl | rfl | rfl | rfl | rfl | rfl | rfl | rfl | rfl | rfl | rfl | rfl | rfl | rfl | rfl <;> rfl
    · exact cds_one h2 u hu
/-- an append onto an empty row of the call's own, at a step of a region that draws its order -/
theorem step_row0 {w : World} {ops : Array Oper} {o : Oper} {a : Act} {K : Act → World → Prop} {Q : Exit → Act → World → Prop} {E : Prop} {t e : TypeId} {z : Value} {sz b : Nat}
    (hinfo : (Tryd.prog.info? e).map (fun i => (i.zero, i.size, i.bytes)) = some (some z, sz, b)) (ht : Tryd.prog.underlying t = some (.slice e)) (hzs : z.cells.size = sz) (hsz : 0 < sz)
    (hgd : o.guard = none) (s x : Operand) (ho : o.op = .call { callee := .builtin .append, args := #[s, x], argTypes := #[t, t] })
    (base : Nat) (A0 : Option Addr) (c0 : Nat) (hs : a.eval s = .slice A0 0 c0) (hown : Ow w base e sz A0 0 c0 [])
    (A : Option Addr) (m c : Nat) (news : List Value) (hx : a.eval x = .slice A m c) (hr : Rd w sz A m c news) (h1 : ∀ u ∈ news, u.oneCell' = true) (hb : m ≤ 140737488355328) (hb2 : m * b ≤ 140737488355328) (hbase : base ≤ w.heap.size)
    (h : ∀ A' c' w', Ow w' base e sz A' m c' news → w.grownBy w' (blk A0) → (A' = A0 ∨ A' = some ⟨w.heap.size, 0, none⟩) → K (a.put o.dst (.slice A' m c')) w') :
    if Region.wanted o (yielded ops a.tmps) = true then Oper.wp Tryd.prog o a w K Q else E :=
  step_row hinfo ht hzs hsz hgd s x ho base A0 c0 0 [] hs hown A m c news hx hr h1 (by omega) (by rwa [Nat.zero_add]) hbase (fun A' c' w' h1 h2 h3 => by
    rw [Nat.zero_add] at h1 ⊢
    exact h A' c' w' h1 h2 h3)
/-- a literal of no elements -/
theorem Ow.none_ {w : World} {q base : Nat} {e : TypeId} {sz : Nat} (h : Blk w q #[] e) (hb : base ≤ q) : Ow w base e sz (some ⟨q, 0, none⟩) 0 0 [] :=
  ⟨by simp, .inr ⟨q, #[], rfl, hb, h, by simp, by simp [maxLen], by simp, by simp⟩⟩
/-- what conds.Run gives, readable later -/
def RunL (r : Nat ⊕ List (ByteArray × Bool)) (w : World) (e : Ending) (w' : World) : Prop := Below w.heap.size w w' ∧ match r with
  | .inl n => e = .returned (.tuple #[.slice none 0 0, .int .i64 (n : Nat)])
  | .inr r => ∃ A c, e = .returned (.tuple #[.slice A r.length c, .int .i64 0]) ∧ r.length ≤ c ∧ ∀ w'', Below w'.heap.size w' w'' → ∀ i x, r[i]? = some x → ∃ ad, A = some ad ∧ Cel w'' (ad.add (i * 8)) (yes x.1 x.2)
theorem RunOut.l {r : Nat ⊕ List (ByteArray × Bool)} {w : World} {e : Ending} {w' : World} (h : RunOut r w e w') : RunL r w e w' := by
  cases r with
  | inl n => exact ⟨h.2, h.1⟩
  | inr r =>
    obtain ⟨A, c, h1, h2, h3⟩ := h
    refine ⟨h3, A, c, h1, h2.rd.cap, fun w'' hb i x hx => ?_⟩
    obtain ⟨ad, h4, h5⟩ := yes_cel h2.rd hx
    exact ⟨ad, h4, h5.below hb⟩
end Go.Proofs.YtmljdppdaaoehaaDoor
