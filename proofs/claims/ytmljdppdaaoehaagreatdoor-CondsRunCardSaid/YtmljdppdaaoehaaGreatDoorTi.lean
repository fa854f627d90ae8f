/- The data's cells: what the cells of a value, an expression, a condition, a template are, and the other way about; opening what comes in. -/
import Derived.Test.YtmljdppdaaoehaaGreatDoorTd
namespace Go.Proofs.YtmljdppdaaoehaaGreatDoor
open Go.RowKit Go.ChangeShapes Go.WideShapes Go.ChangeAt
set_option linter.unusedVariables false
set_option linter.unusedSimpArgs false

section
variable {S : Nat → Prop} {w : World}
theorem cel2 {a : Addr} {c0 c1 : Value} (h : Cel w a [c0, c1]) : w.cell? a = some c0 ∧ w.cell? ⟨a.block, a.off + 1, none⟩ = some c1 :=
  ⟨h 0 _ rfl, h 1 _ rfl⟩
theorem cel3 {a : Addr} {c0 c1 c2 : Value} (h : Cel w a [c0, c1, c2]) : w.cell? a = some c0 ∧ w.cell? ⟨a.block, a.off + 1, none⟩ = some c1 ∧ w.cell? ⟨a.block, a.off + 2, none⟩ = some c2 :=
  ⟨h 0 _ rfl, h 1 _ rfl, h 2 _ rfl⟩
theorem cel4 {a : Addr} {c0 c1 c2 c3 : Value} (h : Cel w a [c0, c1, c2, c3]) : w.cell? a = some c0 ∧ w.cell? ⟨a.block, a.off + 1, none⟩ = some c1 ∧ w.cell? ⟨a.block, a.off + 2, none⟩ = some c2 ∧ w.cell? ⟨a.block, a.off + 3, none⟩ = some c3 :=
  ⟨h 0 _ rfl, h 1 _ rfl, h 2 _ rfl, h 3 _ rfl⟩
theorem cel6 {a : Addr} {c0 c1 c2 c3 c4 c5 : Value} (h : Cel w a [c0, c1, c2, c3, c4, c5]) : w.cell? a = some c0 ∧ w.cell? ⟨a.block, a.off + 1, none⟩ = some c1 ∧ w.cell? ⟨a.block, a.off + 2, none⟩ = some c2 ∧ w.cell? ⟨a.block, a.off + 3, none⟩ = some c3 ∧ w.cell? ⟨a.block, a.off + 4, none⟩ = some c4 ∧ w.cell? ⟨a.block, a.off + 5, none⟩ = some c5 :=
  ⟨h 0 _ rfl, h 1 _ rfl, h 2 _ rfl, h 3 _ rfl, h 4 _ rfl, h 5 _ rfl⟩
theorem cel7 {a : Addr} {c0 c1 c2 c3 c4 c5 c6 : Value} (h : Cel w a [c0, c1, c2, c3, c4, c5, c6]) : w.cell? a = some c0 ∧ w.cell? ⟨a.block, a.off + 1, none⟩ = some c1 ∧ w.cell? ⟨a.block, a.off + 2, none⟩ = some c2 ∧ w.cell? ⟨a.block, a.off + 3, none⟩ = some c3 ∧ w.cell? ⟨a.block, a.off + 4, none⟩ = some c4 ∧ w.cell? ⟨a.block, a.off + 5, none⟩ = some c5 ∧ w.cell? ⟨a.block, a.off + 6, none⟩ = some c6 :=
  ⟨h 0 _ rfl, h 1 _ rfl, h 2 _ rfl, h 3 _ rfl, h 4 _ rfl, h 5 _ rfl, h 6 _ rfl⟩
theorem cel8 {a : Addr} {c0 c1 c2 c3 c4 c5 c6 c7 : Value} (h : Cel w a [c0, c1, c2, c3, c4, c5, c6, c7]) : w.cell? a = some c0 ∧ w.cell? ⟨a.block, a.off + 1, none⟩ = some c1 ∧ w.cell? ⟨a.block, a.off + 2, none⟩ = some c2 ∧ w.cell? ⟨a.block, a.off + 3, none⟩ = some c3 ∧ w.cell? ⟨a.block, a.off + 4, none⟩ = some c4 ∧ w.cell? ⟨a.block, a.off + 5, none⟩ = some c5 ∧ w.cell? ⟨a.block, a.off + 6, none⟩ = some c6 ∧ w.cell? ⟨a.block, a.off + 7, none⟩ = some c7 :=
  ⟨h 0 _ rfl, h 1 _ rfl, h 2 _ rfl, h 3 _ rfl, h 4 _ rfl, h 5 _ rfl, h 6 _ rfl, h 7 _ rfl⟩
theorem cel10 {a : Addr} {c0 c1 c2 c3 c4 c5 c6 c7 c8 c9 : Value} (h : Cel w a [c0, c1, c2, c3, c4, c5, c6, c7, c8, c9]) : w.cell? a = some c0 ∧ w.cell? ⟨a.block, a.off + 1, none⟩ = some c1 ∧ w.cell? ⟨a.block, a.off + 2, none⟩ = some c2 ∧ w.cell? ⟨a.block, a.off + 3, none⟩ = some c3 ∧ w.cell? ⟨a.block, a.off + 4, none⟩ = some c4 ∧ w.cell? ⟨a.block, a.off + 5, none⟩ = some c5 ∧ w.cell? ⟨a.block, a.off + 6, none⟩ = some c6 ∧ w.cell? ⟨a.block, a.off + 7, none⟩ = some c7 ∧ w.cell? ⟨a.block, a.off + 8, none⟩ = some c8 ∧ w.cell? ⟨a.block, a.off + 9, none⟩ = some c9 :=
  ⟨h 0 _ rfl, h 1 _ rfl, h 2 _ rfl, h 3 _ rfl, h 4 _ rfl, h 5 _ rfl, h 6 _ rfl, h 7 _ rfl, h 8 _ rfl, h 9 _ rfl⟩
theorem cel11 {a : Addr} {c0 c1 c2 c3 c4 c5 c6 c7 c8 c9 c10 : Value} (h : Cel w a [c0, c1, c2, c3, c4, c5, c6, c7, c8, c9, c10]) : w.cell? a = some c0 ∧ w.cell? ⟨a.block, a.off + 1, none⟩ = some c1 ∧ w.cell? ⟨a.block, a.off + 2, none⟩ = some c2 ∧ w.cell? ⟨a.block, a.off + 3, none⟩ = some c3 ∧ w.cell? ⟨a.block, a.off + 4, none⟩ = some c4 ∧ w.cell? ⟨a.block, a.off + 5, none⟩ = some c5 ∧ w.cell? ⟨a.block, a.off + 6, none⟩ = some c6 ∧ w.cell? ⟨a.block, a.off + 7, none⟩ = some c7 ∧ w.cell? ⟨a.block, a.off + 8, none⟩ = some c8 ∧ w.cell? ⟨a.block, a.off + 9, none⟩ = some c9 ∧ w.cell? ⟨a.block, a.off + 10, none⟩ = some c10 :=
  ⟨h 0 _ rfl, h 1 _ rfl, h 2 _ rfl, h 3 _ rfl, h 4 _ rfl, h 5 _ rfl, h 6 _ rfl, h 7 _ rfl, h 8 _ rfl, h 9 _ rfl, h 10 _ rfl⟩
theorem cel15 {a : Addr} {c0 c1 c2 c3 c4 c5 c6 c7 c8 c9 c10 c11 c12 c13 c14 : Value} (h : Cel w a [c0, c1, c2, c3, c4, c5, c6, c7, c8, c9, c10, c11, c12, c13, c14]) : w.cell? a = some c0 ∧ w.cell? ⟨a.block, a.off + 1, none⟩ = some c1 ∧ w.cell? ⟨a.block, a.off + 2, none⟩ = some c2 ∧ w.cell? ⟨a.block, a.off + 3, none⟩ = some c3 ∧ w.cell? ⟨a.block, a.off + 4, none⟩ = some c4 ∧ w.cell? ⟨a.block, a.off + 5, none⟩ = some c5 ∧ w.cell? ⟨a.block, a.off + 6, none⟩ = some c6 ∧ w.cell? ⟨a.block, a.off + 7, none⟩ = some c7 ∧ w.cell? ⟨a.block, a.off + 8, none⟩ = some c8 ∧ w.cell? ⟨a.block, a.off + 9, none⟩ = some c9 ∧ w.cell? ⟨a.block, a.off + 10, none⟩ = some c10 ∧ w.cell? ⟨a.block, a.off + 11, none⟩ = some c11 ∧ w.cell? ⟨a.block, a.off + 12, none⟩ = some c12 ∧ w.cell? ⟨a.block, a.off + 13, none⟩ = some c13 ∧ w.cell? ⟨a.block, a.off + 14, none⟩ = some c14 :=
  ⟨h 0 _ rfl, h 1 _ rfl, h 2 _ rfl, h 3 _ rfl, h 4 _ rfl, h 5 _ rfl, h 6 _ rfl, h 7 _ rfl, h 8 _ rfl, h 9 _ rfl, h 10 _ rfl, h 11 _ rfl, h 12 _ rfl, h 13 _ rfl, h 14 _ rfl⟩
theorem blk1 {q : Nat} {t : TypeId} {c0 : Value} (h : Blk w q #[c0] t) : w.cell? ⟨q, 0, none⟩ = some c0 :=
  h.cell 0 rfl
theorem blk2 {q : Nat} {t : TypeId} {c0 c1 : Value} (h : Blk w q #[c0, c1] t) : w.cell? ⟨q, 0, none⟩ = some c0 ∧ w.cell? ⟨q, 1, none⟩ = some c1 :=
  ⟨h.cell 0 rfl, h.cell 1 rfl⟩
theorem blk3 {q : Nat} {t : TypeId} {c0 c1 c2 : Value} (h : Blk w q #[c0, c1, c2] t) : w.cell? ⟨q, 0, none⟩ = some c0 ∧ w.cell? ⟨q, 1, none⟩ = some c1 ∧ w.cell? ⟨q, 2, none⟩ = some c2 :=
  ⟨h.cell 0 rfl, h.cell 1 rfl, h.cell 2 rfl⟩
theorem blk4 {q : Nat} {t : TypeId} {c0 c1 c2 c3 : Value} (h : Blk w q #[c0, c1, c2, c3] t) : w.cell? ⟨q, 0, none⟩ = some c0 ∧ w.cell? ⟨q, 1, none⟩ = some c1 ∧ w.cell? ⟨q, 2, none⟩ = some c2 ∧ w.cell? ⟨q, 3, none⟩ = some c3 :=
  ⟨h.cell 0 rfl, h.cell 1 rfl, h.cell 2 rfl, h.cell 3 rfl⟩
theorem blk5 {q : Nat} {t : TypeId} {c0 c1 c2 c3 c4 : Value} (h : Blk w q #[c0, c1, c2, c3, c4] t) : w.cell? ⟨q, 0, none⟩ = some c0 ∧ w.cell? ⟨q, 1, none⟩ = some c1 ∧ w.cell? ⟨q, 2, none⟩ = some c2 ∧ w.cell? ⟨q, 3, none⟩ = some c3 ∧ w.cell? ⟨q, 4, none⟩ = some c4 :=
  ⟨h.cell 0 rfl, h.cell 1 rfl, h.cell 2 rfl, h.cell 3 rfl, h.cell 4 rfl⟩
theorem blk6 {q : Nat} {t : TypeId} {c0 c1 c2 c3 c4 c5 : Value} (h : Blk w q #[c0, c1, c2, c3, c4, c5] t) : w.cell? ⟨q, 0, none⟩ = some c0 ∧ w.cell? ⟨q, 1, none⟩ = some c1 ∧ w.cell? ⟨q, 2, none⟩ = some c2 ∧ w.cell? ⟨q, 3, none⟩ = some c3 ∧ w.cell? ⟨q, 4, none⟩ = some c4 ∧ w.cell? ⟨q, 5, none⟩ = some c5 :=
  ⟨h.cell 0 rfl, h.cell 1 rfl, h.cell 2 rfl, h.cell 3 rfl, h.cell 4 rfl, h.cell 5 rfl⟩
theorem blk7 {q : Nat} {t : TypeId} {c0 c1 c2 c3 c4 c5 c6 : Value} (h : Blk w q #[c0, c1, c2, c3, c4, c5, c6] t) : w.cell? ⟨q, 0, none⟩ = some c0 ∧ w.cell? ⟨q, 1, none⟩ = some c1 ∧ w.cell? ⟨q, 2, none⟩ = some c2 ∧ w.cell? ⟨q, 3, none⟩ = some c3 ∧ w.cell? ⟨q, 4, none⟩ = some c4 ∧ w.cell? ⟨q, 5, none⟩ = some c5 ∧ w.cell? ⟨q, 6, none⟩ = some c6 :=
  ⟨h.cell 0 rfl, h.cell 1 rfl, h.cell 2 rfl, h.cell 3 rfl, h.cell 4 rfl, h.cell 5 rfl, h.cell 6 rfl⟩
theorem blk8 {q : Nat} {t : TypeId} {c0 c1 c2 c3 c4 c5 c6 c7 : Value} (h : Blk w q #[c0, c1, c2, c3, c4, c5, c6, c7] t) : w.cell? ⟨q, 0, none⟩ = some c0 ∧ w.cell? ⟨q, 1, none⟩ = some c1 ∧ w.cell? ⟨q, 2, none⟩ = some c2 ∧ w.cell? ⟨q, 3, none⟩ = some c3 ∧ w.cell? ⟨q, 4, none⟩ = some c4 ∧ w.cell? ⟨q, 5, none⟩ = some c5 ∧ w.cell? ⟨q, 6, none⟩ = some c6 ∧ w.cell? ⟨q, 7, none⟩ = some c7 :=
  ⟨h.cell 0 rfl, h.cell 1 rfl, h.cell 2 rfl, h.cell 3 rfl, h.cell 4 rfl, h.cell 5 rfl, h.cell 6 rfl, h.cell 7 rfl⟩
theorem blk10 {q : Nat} {t : TypeId} {c0 c1 c2 c3 c4 c5 c6 c7 c8 c9 : Value} (h : Blk w q #[c0, c1, c2, c3, c4, c5, c6, c7, c8, c9] t) : w.cell? ⟨q, 0, none⟩ = some c0 ∧ w.cell? ⟨q, 1, none⟩ = some c1 ∧ w.cell? ⟨q, 2, none⟩ = some c2 ∧ w.cell? ⟨q, 3, none⟩ = some c3 ∧ w.cell? ⟨q, 4, none⟩ = some c4 ∧ w.cell? ⟨q, 5, none⟩ = some c5 ∧ w.cell? ⟨q, 6, none⟩ = some c6 ∧ w.cell? ⟨q, 7, none⟩ = some c7 ∧ w.cell? ⟨q, 8, none⟩ = some c8 ∧ w.cell? ⟨q, 9, none⟩ = some c9 :=
  ⟨h.cell 0 rfl, h.cell 1 rfl, h.cell 2 rfl, h.cell 3 rfl, h.cell 4 rfl, h.cell 5 rfl, h.cell 6 rfl, h.cell 7 rfl, h.cell 8 rfl, h.cell 9 rfl⟩
theorem blk11 {q : Nat} {t : TypeId} {c0 c1 c2 c3 c4 c5 c6 c7 c8 c9 c10 : Value} (h : Blk w q #[c0, c1, c2, c3, c4, c5, c6, c7, c8, c9, c10] t) : w.cell? ⟨q, 0, none⟩ = some c0 ∧ w.cell? ⟨q, 1, none⟩ = some c1 ∧ w.cell? ⟨q, 2, none⟩ = some c2 ∧ w.cell? ⟨q, 3, none⟩ = some c3 ∧ w.cell? ⟨q, 4, none⟩ = some c4 ∧ w.cell? ⟨q, 5, none⟩ = some c5 ∧ w.cell? ⟨q, 6, none⟩ = some c6 ∧ w.cell? ⟨q, 7, none⟩ = some c7 ∧ w.cell? ⟨q, 8, none⟩ = some c8 ∧ w.cell? ⟨q, 9, none⟩ = some c9 ∧ w.cell? ⟨q, 10, none⟩ = some c10 :=
  ⟨h.cell 0 rfl, h.cell 1 rfl, h.cell 2 rfl, h.cell 3 rfl, h.cell 4 rfl, h.cell 5 rfl, h.cell 6 rfl, h.cell 7 rfl, h.cell 8 rfl, h.cell 9 rfl, h.cell 10 rfl⟩
theorem blk15 {q : Nat} {t : TypeId} {c0 c1 c2 c3 c4 c5 c6 c7 c8 c9 c10 c11 c12 c13 c14 : Value} (h : Blk w q #[c0, c1, c2, c3, c4, c5, c6, c7, c8, c9, c10, c11, c12, c13, c14] t) : w.cell? ⟨q, 0, none⟩ = some c0 ∧ w.cell? ⟨q, 1, none⟩ = some c1 ∧ w.cell? ⟨q, 2, none⟩ = some c2 ∧ w.cell? ⟨q, 3, none⟩ = some c3 ∧ w.cell? ⟨q, 4, none⟩ = some c4 ∧ w.cell? ⟨q, 5, none⟩ = some c5 ∧ w.cell? ⟨q, 6, none⟩ = some c6 ∧ w.cell? ⟨q, 7, none⟩ = some c7 ∧ w.cell? ⟨q, 8, none⟩ = some c8 ∧ w.cell? ⟨q, 9, none⟩ = some c9 ∧ w.cell? ⟨q, 10, none⟩ = some c10 ∧ w.cell? ⟨q, 11, none⟩ = some c11 ∧ w.cell? ⟨q, 12, none⟩ = some c12 ∧ w.cell? ⟨q, 13, none⟩ = some c13 ∧ w.cell? ⟨q, 14, none⟩ = some c14 :=
  ⟨h.cell 0 rfl, h.cell 1 rfl, h.cell 2 rfl, h.cell 3 rfl, h.cell 4 rfl, h.cell 5 rfl, h.cell 6 rfl, h.cell 7 rfl, h.cell 8 rfl, h.cell 9 rfl, h.cell 10 rfl, h.cell 11 rfl, h.cell 12 rfl, h.cell 13 rfl, h.cell 14 rfl⟩
theorem at_nil {cs : List Value} : Trs.at S w [] cs ↔ cs = [] := by simp only [Trs.at]
theorem at_leaf {u : Value} {ts : List Tr} {cs : List Value} : Trs.at S w (.leaf u :: ts) cs ↔ ∃ cs', cs = u :: cs' ∧ okLeaf u ∧ Trs.at S w ts cs' := by
  simp only [Trs.at, Tr.at]
  constructor
  · rintro ⟨v, vs, rfl, ⟨rfl, h1⟩, h2⟩; exact ⟨vs, rfl, h1, h2⟩
  · rintro ⟨vs, rfl, h1, h2⟩; exact ⟨u, vs, rfl, ⟨rfl, h1⟩, h2⟩
theorem at_row {α : Type} {tr : α → List Tr} {sz b : Nat} {l : List α} {ts : List Tr} {cs : List Value} : Trs.at S w (.sl sz b l.length (l.flatMap tr) :: ts) cs ↔ ∃ A c cs', cs = .slice A l.length c :: cs' ∧ Ls S w sz b tr A c l ∧ Trs.at S w ts cs' := by
  simp only [Trs.at]
  constructor
  · rintro ⟨v, vs, rfl, h1, h2⟩
    obtain ⟨A, c, rfl, h3⟩ := at_sl.1 h1
    exact ⟨A, c, vs, rfl, h3, h2⟩
  · rintro ⟨A, c, vs, rfl, h1, h2⟩; exact ⟨_, vs, rfl, at_sl.2 ⟨A, c, rfl, h1⟩, h2⟩
theorem at_str {l : List ByteArray} {ts : List Tr} {cs : List Value} : Trs.at S w (sTr l :: ts) cs ↔ ∃ A c cs', cs = .slice A l.length c :: cs' ∧ Ss S w A c l ∧ Trs.at S w ts cs' := at_row
theorem wf_i8 {x : Int} (h : (Lit.int .i8 x).wf = true) : -128 ≤ x ∧ x ≤ 127 := by
  simp [Lit.wf, IntKind.min, IntKind.max, IntKind.bits, IntKind.signed] at h; omega
theorem wf_i64' {x : Int} (h : (Lit.int .i64 x).wf = true) : -9223372036854775808 ≤ x ∧ x ≤ 9223372036854775807 := by
  simp [Lit.wf, IntKind.min, IntKind.max, IntKind.bits, IntKind.signed] at h; omega

theorem Vl.at_iff {v : Vl} {cs : List Value} : Trs.at S w v.tr cs ↔ ∃ A c B d, cs = [.int .i8 v.kind, .bool v.bool, .int .i64 v.num, .string v.text, .slice A v.list.length c, .slice B v.keys.length d] ∧
    (Lit.int .i8 v.kind).wf = true ∧ (Lit.int .i64 v.num).wf = true ∧ v.text.size ≤ 140737488351232 ∧ Ls S w 6 80 Vl.tr A c v.list ∧ Ss S w B d v.keys := by
  obtain ⟨k, b, n, t, l, ks⟩ := v
  simp only [Vl.tr, Vl.trs_eq]
  constructor
  · intro h
    obtain ⟨_, rfl, h0, h⟩ := at_leaf.1 h
    obtain ⟨_, rfl, _, h⟩ := at_leaf.1 h
    obtain ⟨_, rfl, h2, h⟩ := at_leaf.1 h
    obtain ⟨_, rfl, h3, h⟩ := at_leaf.1 h
    obtain ⟨A, c, _, rfl, h4, h⟩ := at_row.1 h
    obtain ⟨B, d, _, rfl, h5, h⟩ := at_str.1 h
    obtain rfl := at_nil.1 h
    exact ⟨A, c, B, d, rfl, h0, h2, h3, h4, h5⟩
  · rintro ⟨A, c, B, d, rfl, h0, h2, h3, h4, h5⟩
    exact at_leaf.2 ⟨_, rfl, h0, at_leaf.2 ⟨_, rfl, trivial, at_leaf.2 ⟨_, rfl, h2, at_leaf.2 ⟨_, rfl, h3, at_row.2 ⟨_, _, _, rfl, h4, at_str.2 ⟨_, _, _, rfl, h5, at_nil.2 rfl⟩⟩⟩⟩⟩⟩
theorem Ex.at_iff {v : Ex} {cs : List Value} : Trs.at S w v.tr cs ↔ ∃ A c, cs = [.int .i8 v.kind, .string v.text, .int .i64 v.num, .string v.name, .string v.attr, .slice A v.l.length c] ∧
    (Lit.int .i8 v.kind).wf = true ∧ (Lit.int .i64 v.num).wf = true ∧ v.text.size ≤ 140737488351232 ∧ v.name.size ≤ 140737488351232 ∧ v.attr.size ≤ 140737488351232 ∧ Ls S w 6 88 Ex.tr A c v.l := by
  obtain ⟨k, t, n, nm, a, l⟩ := v
  simp only [Ex.tr, Ex.trs_eq]
  constructor
  · intro h
    obtain ⟨_, rfl, h0, h⟩ := at_leaf.1 h
    obtain ⟨_, rfl, h1, h⟩ := at_leaf.1 h
    obtain ⟨_, rfl, h2, h⟩ := at_leaf.1 h
    obtain ⟨_, rfl, h3, h⟩ := at_leaf.1 h
    obtain ⟨_, rfl, h4, h⟩ := at_leaf.1 h
    obtain ⟨A, c, _, rfl, h5, h⟩ := at_row.1 h
    obtain rfl := at_nil.1 h
    exact ⟨A, c, rfl, h0, h2, h1, h3, h4, h5⟩
  · rintro ⟨A, c, rfl, h0, h2, h1, h3, h4, h5⟩
    exact at_leaf.2 ⟨_, rfl, h0, at_leaf.2 ⟨_, rfl, h1, at_leaf.2 ⟨_, rfl, h2, at_leaf.2 ⟨_, rfl, h3, at_leaf.2 ⟨_, rfl, h4, at_row.2 ⟨_, _, _, rfl, h5, at_nil.2 rfl⟩⟩⟩⟩⟩⟩
theorem Cd.at_iff {v : Cd} {cs : List Value} : Trs.at S w v.tr cs ↔ ∃ xs ys A c, cs = .string v.name :: .int .i8 v.kind :: (xs ++ (ys ++ [.slice A v.l.length c])) ∧
    v.name.size ≤ 140737488351232 ∧ (Lit.int .i8 v.kind).wf = true ∧ Trs.at S w v.a.tr xs ∧ Trs.at S w v.b.tr ys ∧ Ls S w 15 224 Cd.tr A c v.l := by
  obtain ⟨n, k, a, b, l⟩ := v
  simp only [Cd.tr, Cd.trs_eq]
  constructor
  · intro h
    obtain ⟨_, rfl, h0, h⟩ := at_leaf.1 h
    obtain ⟨_, rfl, h1, h⟩ := at_leaf.1 h
    obtain ⟨xs, _, rfl, h2, h⟩ := Trs.at.app.1 h
    obtain ⟨ys, _, rfl, h3, h⟩ := Trs.at.app.1 h
    obtain ⟨A, c, _, rfl, h4, h⟩ := at_row.1 h
    obtain rfl := at_nil.1 h
    exact ⟨xs, ys, A, c, rfl, h0, h1, h2, h3, h4⟩
  · rintro ⟨xs, ys, A, c, rfl, h0, h1, h2, h3, h4⟩
    exact at_leaf.2 ⟨_, rfl, h0, at_leaf.2 ⟨_, rfl, h1, Trs.at.app.2 ⟨_, _, rfl, h2, Trs.at.app.2 ⟨_, _, rfl, h3, at_row.2 ⟨_, _, _, rfl, h4, at_nil.2 rfl⟩⟩⟩⟩⟩
theorem Gv.at_iff {v : Gv} {cs : List Value} : Trs.at S w v.tr cs ↔ ∃ vs, cs = .string v.name :: .bool v.unknown :: vs ∧ v.name.size ≤ 140737488351232 ∧ Trs.at S w v.v.tr vs := by
  unfold Gv.tr
  constructor
  · intro h
    obtain ⟨_, rfl, h0, h⟩ := at_leaf.1 h
    obtain ⟨_, rfl, _, h⟩ := at_leaf.1 h
    exact ⟨_, rfl, h0, h⟩
  · rintro ⟨vs, rfl, h0, h⟩
    exact at_leaf.2 ⟨_, rfl, h0, at_leaf.2 ⟨_, rfl, trivial, h⟩⟩
theorem Pm.at_iff {v : Pm} {cs : List Value} : Trs.at S w v.tr cs ↔ ∃ vs A c, cs = .string v.name :: .bool v.number :: .bool v.has :: (vs ++ [.slice A v.allowed.length c]) ∧ v.name.size ≤ 140737488351232 ∧ Trs.at S w v.dflt.tr vs ∧ Ls S w 6 80 Vl.tr A c v.allowed := by
  unfold Pm.tr
  constructor
  · intro h
    obtain ⟨_, rfl, h0, h⟩ := at_leaf.1 h
    obtain ⟨_, rfl, _, h⟩ := at_leaf.1 h
    obtain ⟨_, rfl, _, h⟩ := at_leaf.1 h
    obtain ⟨vs, _, rfl, h1, h⟩ := Trs.at.app.1 h
    obtain ⟨A, c, _, rfl, h2, h⟩ := at_row.1 h
    obtain rfl := at_nil.1 h
    exact ⟨_, _, _, rfl, h0, h1, h2⟩
  · rintro ⟨vs, A, c, rfl, h0, h1, h2⟩
    exact at_leaf.2 ⟨_, rfl, h0, at_leaf.2 ⟨_, rfl, trivial, at_leaf.2 ⟨_, rfl, trivial, Trs.at.app.2 ⟨_, _, rfl, h1, at_row.2 ⟨_, _, _, rfl, h2, at_nil.2 rfl⟩⟩⟩⟩⟩
theorem Pr.at_iff {v : Pr} {cs : List Value} : Trs.at S w v.tr cs ↔ ∃ vs, cs = .string v.name :: vs ∧ v.name.size ≤ 140737488351232 ∧ Trs.at S w v.e.tr vs := by
  unfold Pr.tr
  constructor
  · intro h
    obtain ⟨_, rfl, h0, h⟩ := at_leaf.1 h
    exact ⟨_, rfl, h0, h⟩
  · rintro ⟨vs, rfl, h0, h⟩
    exact at_leaf.2 ⟨_, rfl, h0, h⟩
theorem Ou.at_iff {v : Ou} {cs : List Value} : Trs.at S w v.tr cs ↔ ∃ vs, cs = .string v.name :: .string v.cond :: vs ∧ v.name.size ≤ 140737488351232 ∧ v.cond.size ≤ 140737488351232 ∧ Trs.at S w v.e.tr vs := by
  unfold Ou.tr
  constructor
  · intro h
    obtain ⟨_, rfl, h0, h⟩ := at_leaf.1 h
    obtain ⟨_, rfl, h1, h⟩ := at_leaf.1 h
    exact ⟨_, rfl, h0, h1, h⟩
  · rintro ⟨vs, rfl, h0, h1, h⟩
    exact at_leaf.2 ⟨_, rfl, h0, at_leaf.2 ⟨_, rfl, h1, h⟩⟩
theorem Rs.at_iff {v : Rs} {cs : List Value} : Trs.at S w v.tr cs ↔ ∃ A a B b C c, cs = [.string v.id, .string v.type, .string v.cond, .slice A v.props.length a, .slice B v.depends.length b, .bool v.retain, .slice C v.inner.length c] ∧
    v.id.size ≤ 140737488351232 ∧ v.type.size ≤ 140737488351232 ∧ v.cond.size ≤ 140737488351232 ∧ Ls S w 7 104 Pr.tr A a v.props ∧ Ss S w B b v.depends ∧ Ls S w 4 96 Tm.tr C c v.inner := by
  obtain ⟨i, t, c, ps, ds, r, l⟩ := v
  simp only [Rs.tr, Tm.trs_eq]
  constructor
  · intro h
    obtain ⟨_, rfl, h0, h⟩ := at_leaf.1 h
    obtain ⟨_, rfl, h1, h⟩ := at_leaf.1 h
    obtain ⟨_, rfl, h2, h⟩ := at_leaf.1 h
    obtain ⟨A, a, _, rfl, h3, h⟩ := at_row.1 h
    obtain ⟨B, b, _, rfl, h4, h⟩ := at_str.1 h
    obtain ⟨_, rfl, _, h⟩ := at_leaf.1 h
    obtain ⟨C, c', _, rfl, h5, h⟩ := at_row.1 h
    obtain rfl := at_nil.1 h
    exact ⟨A, a, B, b, C, c', rfl, h0, h1, h2, h3, h4, h5⟩
  · rintro ⟨A, a, B, b, C, c', rfl, h0, h1, h2, h3, h4, h5⟩
    exact at_leaf.2 ⟨_, rfl, h0, at_leaf.2 ⟨_, rfl, h1, at_leaf.2 ⟨_, rfl, h2, at_row.2 ⟨_, _, _, rfl, h3, at_str.2 ⟨_, _, _, rfl, h4, at_leaf.2 ⟨_, rfl, trivial, at_row.2 ⟨_, _, _, rfl, h5, at_nil.2 rfl⟩⟩⟩⟩⟩⟩⟩
theorem Tm.at_iff {v : Tm} {cs : List Value} : Trs.at S w v.tr cs ↔ ∃ A a B b C c D d, cs = [.slice A v.params.length a, .slice B v.conds.length b, .slice C v.res.length c, .slice D v.outs.length d] ∧
    Ls S w 10 128 Pm.tr A a v.params ∧ Ls S w 15 224 Cd.tr B b v.conds ∧ Ls S w 7 128 Rs.tr C c v.res ∧ Ls S w 8 120 Ou.tr D d v.outs := by
  obtain ⟨ps, cs', rs, os⟩ := v
  simp only [Tm.tr, Rs.trs_eq]
  constructor
  · intro h
    obtain ⟨A, a, _, rfl, h0, h⟩ := at_row.1 h
    obtain ⟨B, b, _, rfl, h1, h⟩ := at_row.1 h
    obtain ⟨C, c, _, rfl, h2, h⟩ := at_row.1 h
    obtain ⟨D, d, _, rfl, h3, h⟩ := at_row.1 h
    obtain rfl := at_nil.1 h
    exact ⟨A, a, B, b, C, c, D, d, rfl, h0, h1, h2, h3⟩
  · rintro ⟨A, a, B, b, C, c, D, d, rfl, h0, h1, h2, h3⟩
    exact at_row.2 ⟨_, _, _, rfl, h0, at_row.2 ⟨_, _, _, rfl, h1, at_row.2 ⟨_, _, _, rfl, h2, at_row.2 ⟨_, _, _, rfl, h3, at_nil.2 rfl⟩⟩⟩⟩
end

section
variable {H : Type} {enc : TypeId × Value → H} {w : World} {base : Nat} {held : Bool}
end
end Go.Proofs.YtmljdppdaaoehaaGreatDoor
