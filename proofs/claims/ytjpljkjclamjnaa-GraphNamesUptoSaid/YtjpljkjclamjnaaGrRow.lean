/- Rows of ints and of bools that a call has made. -/
import Derived.Test.YtjpljkjclamjnaaGrOrd
import Derived.Deep.OwnRows
namespace Go.Proofs.Ytjpljkjclamjnaa
open Go.RowKit
set_option linter.unusedVariables false
set_option linter.unusedSimpArgs false

def RowI (w : World) (b : Nat) (l : List Int) : Prop := Blk w b (ivI l).toArray 3
def bvB (l : List Bool) : List Value := l.map fun b => .bool b
def RowB (w : World) (b : Nat) (l : List Bool) : Prop := Blk w b (bvB l).toArray 4
theorem made_int (n : Nat) : madeCells #[.int .i64 0] n = (ivI (List.replicate n 0)).toArray := by
  apply Array.ext
  · simp [madeCells]
  · intro i h1 h2
    simp [madeCells, ivI, Nat.mod_one]
theorem made_bool (n : Nat) : madeCells #[.bool false] n = (bvB (List.replicate n false)).toArray := by
  apply Array.ext
  · simp [madeCells, bvB]
  · intro i h1 h2
    simp [madeCells, bvB, Nat.mod_one]
theorem info_bool : (Try.prog.info? 4).map (fun i => (i.zero, i.size, i.bytes)) = some (some (.bool false), 1, 1) := by kernel_rfl
theorem make_ints (n : Nat) (h : n ≤ 1000000) (w : World) : (Instr.makeSlice 25 (.int .i64 (n : Int)) (.int .i64 (n : Int))).run Try.prog w = .ok (.slice (some ⟨w.heap.size, 0, none⟩) n n) (w.alloc (.cells (ivI (List.replicate n 0)).toArray 3)) := by
  have := run_make_row' (P := Try.prog) 25 3 (.int .i64 0) 8 Try.underlying25 info_int rfl .i64 .i64 n (by omega) (by omega) w
  rw [made_int] at this
  exact this
theorem make_bools (n : Nat) (h : n ≤ 1000000) (w : World) : (Instr.makeSlice 34 (.int .i64 (n : Int)) (.int .i64 (n : Int))).run Try.prog w = .ok (.slice (some ⟨w.heap.size, 0, none⟩) n n) (w.alloc (.cells (bvB (List.replicate n false)).toArray 4)) := by
  have := run_make_row' (P := Try.prog) 34 4 (.bool false) 1 Try.underlying34 info_bool rfl .i64 .i64 n (by omega) (by omega) w
  rw [made_bool] at this
  exact this

section
variable {w w' : World} {b : Nat}
theorem RowI.cell {l : List Int} (h : RowI w b l) {i : Nat} {z : Int} (hi : l[i]? = some z) : w.cell? ⟨b, i, none⟩ = some (.int .i64 z) := Blk.cell h i (by simp [ivI, hi])
theorem RowI.frozen {l : List Int} (h : RowI w b l) (i : Nat) : w.frozen? ⟨b, i, none⟩ = false := Blk.frozen h i
theorem RowI.set {l : List Int} (h : RowI w b l) (i : Nat) (z : Int) : RowI (w.setCell ⟨b, i, none⟩ (.int .i64 z)) b (l.set i z) :=
  Blk.eq (Blk.set h i (.int .i64 z)) (by simp [ivI, List.map_set])
theorem RowI.only {l : List Int} {F : Nat → Prop} (h : RowI w b l) (ho : Only F w w') (hF : ¬ F b) : RowI w' b l := Blk.only h ho hF
theorem RowI.below {l : List Int} (h : RowI w b l) (hb : Below w.heap.size w w') : RowI w' b l := Blk.below h hb
theorem RowI.lt {l : List Int} (h : RowI w b l) : b < w.heap.size := Blk.lt h
theorem RowI.ow {l : List Int} (h : RowI w b l) {base : Nat} (hb : base ≤ b) (hl : l.length ≤ 1000000) : IOw w base (some ⟨b, 0, none⟩) l.length l.length l := by
  refine ⟨by simp, .inr ⟨b, _, rfl, hb, h, Nat.le_refl _, by unfold maxLen; omega, by simp, ?_⟩⟩
  simp only [Nat.mul_one]
  rw [List.take_of_length_le (by simp)]
theorem RowB.cell {l : List Bool} (h : RowB w b l) {i : Nat} {z : Bool} (hi : l[i]? = some z) : w.cell? ⟨b, i, none⟩ = some (.bool z) := Blk.cell h i (by simp [bvB, hi])
theorem RowB.frozen {l : List Bool} (h : RowB w b l) (i : Nat) : w.frozen? ⟨b, i, none⟩ = false := Blk.frozen h i
theorem RowB.set {l : List Bool} (h : RowB w b l) (i : Nat) (z : Bool) : RowB (w.setCell ⟨b, i, none⟩ (.bool z)) b (l.set i z) :=
  Blk.eq (Blk.set h i (.bool z)) (by simp [bvB, List.map_set])
theorem RowB.only {l : List Bool} {F : Nat → Prop} (h : RowB w b l) (ho : Only F w w') (hF : ¬ F b) : RowB w' b l := Blk.only h ho hF
theorem RowB.below {l : List Bool} (h : RowB w b l) (hb : Below w.heap.size w w') : RowB w' b l := Blk.below h hb
theorem RowB.lt {l : List Bool} (h : RowB w b l) : b < w.heap.size := Blk.lt h
end
end Go.Proofs.Ytjpljkjclamjnaa
