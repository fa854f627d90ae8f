/- journal.first at two deeds; Append. -/
import Derived.Test.YtckofpdhcpabnaaJrBase
import Derived.Test.YtckofpdhcpabnaaDskSimple
import Derived.WalkMore
import Derived.Deep.LoopGhost
namespace Go.Proofs.Ytckofpdhcpabnaa
open Go.RowKit
set_option linter.unusedVariables false
set_option linter.unusedSimpArgs false

theorem boxOnly {F : Nat → Prop} {W W' : World} {b : Nat} {t : TypeId} {v : Value} (h : Boxed W b t v) (ho : Only F W W') (hF : ¬ F b) : Boxed W' b t v := (ho.block b h.lt hF).trans h
def fnV (f : Nat) (c : Array Value) : Value := .func (.func f) #[] c
/-- the first deed's answer: it ends all, or the second is done in the world behind it -/
def FirstQ (b f1 f2 : Nat) (c1 c2 : Array Value) (Post : Ending → World → Prop) (e : Ending) (w1 : World) : Prop :=
  ∃ x : Int, e = .returned (.int .i64 x) ∧ ((x ≠ 0 ∧ Post (.returned (.int .i64 x)) w1) ∨ (x = 0 ∧ Blk w1 b #[fnV f1 c1, fnV f2 c2] 44 ∧
    Calls Try.prog f2 c2 w1 (fun e2 w2 => ∃ y : Int, e2 = .returned (.int .i64 y) ∧ Post (.returned (.int .i64 y)) w2)))
def FirstI (w : World) (b f1 f2 : Nat) (c1 c2 : Array Value) (Post : Ending → World → Prop) (k : Nat) (W : World) : Prop :=
  (k = 0 ∧ W = w) ∨ (k = 1 ∧ Blk W b #[fnV f1 c1, fnV f2 c2] 44 ∧ Calls Try.prog f2 c2 W (fun e2 w2 => ∃ y : Int, e2 = .returned (.int .i64 y) ∧ Post (.returned (.int .i64 y)) w2)) ∨
  (k = 2 ∧ Post (.returned (.int .i64 0)) W)

set_option maxHeartbeats 1000000 in
theorem first2 (w : World) (b f1 f2 : Nat) (c1 c2 : Array Value) (Post : Ending → World → Prop) (hb : Blk w b #[fnV f1 c1, fnV f2 c2] 44)
    (e1 : ∀ args w, (callFunc f1 args).run Try.prog w = .ok (.enter f1 args) w) (e2 : ∀ args w, (callFunc f2 args).run Try.prog w = .ok (.enter f2 args) w)
    (h1 : Calls Try.prog f1 c1 w (FirstQ b f1 f2 c1 c2 Post)) :
    Calls Try.prog 24 #[.slice (some ⟨b, 0, none⟩) 2 2] w Post := by
  have HB := Lib.hid hb
  have H1 := Lib.hid h1
  clear hb h1
  go_enter Try.func24, Try.ntmps24
  go_wp2_with fail
  go_loopg [8] 2 (fun g q8 wr => ∃ k : Nat, k + g = 2 ∧ q8 = .int .i64 (k : Nat) ∧ Hid (FirstI w b f1 f2 c1 c2 Post k wr))
  case atStart => exact ⟨0, rfl, rfl, Lib.hid (.inl ⟨rfl, rfl⟩)⟩
  case round =>
    obtain ⟨k, hk, rfl, HI⟩ := hrel
    have hI := HI.out
    rcases hI with ⟨rfl, rfl⟩ | ⟨rfl, hbk, hcall⟩ | ⟨rfl, hp⟩
    · cases gk with
      | zero => omega
      | succ g =>
      obtain rfl : g = 1 := by omega
      have hc0 := HB.out.cell 0 rfl
      simp only [fnV] at hc0
      clear hk HI
      go_wp2_with fail
      refine H1.out.mono ?_
      rintro e w1 ⟨x, rfl, ⟨hx, hP⟩ | ⟨rfl, hbk, hcall⟩⟩
      · have hne : (x != 0) = true := by simp [hx]
        have HP := Lib.hid hP
        clear hP hx
        go_wp2_with fail
        exact HP.out
      · have HI := Lib.hid (show FirstI w1 b f1 f2 c1 c2 Post 1 w1 from .inr (.inl ⟨rfl, hbk, hcall⟩))
        clear hbk hcall hc0
        go_wp2_with fail
        go_roundg 1
        case measure => omega
        case rel => exact ⟨1, rfl, rfl, Lib.hid (HI.out.elim (fun h => absurd h.1 (by decide)) (fun h => .inr h))⟩
    · cases gk with
      | zero => omega
      | succ g =>
      obtain rfl : g = 0 := by omega
      have hc0 := hbk.cell 1 rfl
      simp only [fnV] at hc0
      have HC := Lib.hid hcall
      clear hk HI hbk hcall
      go_wp2_with fail
      refine HC.out.mono ?_
      rintro e w1 ⟨y, rfl, hP⟩
      have HP := Lib.hid hP
      clear hP hc0
      by_cases hy : y = 0
      · subst hy
        go_wp2_with fail
        go_roundg 0
        case measure => omega
        case rel => exact ⟨2, rfl, rfl, Lib.hid (.inr (.inr ⟨rfl, HP.out⟩))⟩
      · have hne : (y != 0) = true := by simp [hy]
        clear hy
        go_wp2_with fail
        exact HP.out
    · have HP := Lib.hid hp
      clear hp HI hk
      go_wp2_with fail
      exact HP.out
end Go.Proofs.Ytckofpdhcpabnaa
