/- on: does one lean on another. -/
import Derived.Test.YtjpljkjclamjnaaGrPlain6
namespace Go.Proofs.Ytjpljkjclamjnaa
open Go.RowKit
set_option linter.unusedVariables false
set_option linter.unusedSimpArgs false

set_option maxHeartbeats 1000000 in
theorem on_any (A : Option Addr) (n c a b : Nat) (L : List (List Nat)) (w : World) (h : II w A n c (cL L)) (ha : a < n) (hn : n ≤ 1000) (hb : b ∈ lean' L a) (hbn : b < n) :
    Calls Try.prog 22 #[.slice A n c, .int .i64 (a : Int), .int .i64 (b : Int)] w (fun e w' => e = .returned (.bool true) ∧ w = w') := by
  have hlen : L.length = n := by have := h.len; simpa using this
  obtain ⟨ad0, Ai, ci, rfl, hro⟩ := h.row2 (i := a) (by omega)
  obtain ⟨hcl, hr⟩ := hro w (Below.refl _ _)
  have hrc := hr.cap
  have hrm := hr.max
  unfold maxLen at hrm
  have HM := Lib.hid hb
  have HR := Lib.hid hr
  have H0 := Lib.hid h
  clear hro hr h hb
  obtain ⟨l, hl⟩ : ∃ l, lean' L a = l := ⟨_, rfl⟩
  rw [hl] at HM HR hrc hcl
  clear hl hlen
  go_enter Try.func22, Try.ntmps22
  go_wp2_with fail
  go_loop [7] (fun q => ∃ k : Nat, k ≤ l.length ∧ q = .int .i64 (k : Nat) ∧ Hid (b ∉ l.take k)) (fun q => l.length - (intOf q).toNat)
  case atStart => exact ⟨0, Nat.zero_le _, rfl, Lib.hid (by simp)⟩
  case round =>
    obtain ⟨k, hk, rfl, HN⟩ := hrel
    by_cases hkl : k < l.length
    · obtain ⟨x, hx⟩ : ∃ x, l[k]? = some x := ⟨_, List.getElem?_eq_getElem hkl⟩
      obtain ⟨adl, rfl, -⟩ := HR.out.addr (by omega) (by omega)
      have hxc := HR.out.icell (cI_get hx)
      have HX := Lib.hid hx
      clear hx
      by_cases hxb : x = b
      · have hb1 : ((x : Int) == (b : Int)) = true := by simp [hxb]
        clear hxb
        go_wp2_with fail
        go_ret
        exact ⟨rfl, rfl⟩
      · have hb1 : ((x : Int) == (b : Int)) = false := by simp; omega
        have HXB := Lib.hid hxb
        clear hxb
        go_wp2_with fail
        go_round
        case rel => exact ⟨k + 1, by omega, by go_num, Lib.hid (by
          rw [take_one HX.out, List.mem_append, List.mem_singleton]
          rintro (h1 | h1)
          · exact HN.out h1
          · exact HXB.out h1.symm)⟩
        case measure => simp [intOf]; omega
    · exact absurd HM.out (by have := HN.out; rwa [List.take_of_length_le (by omega)] at this)
end Go.Proofs.Ytjpljkjclamjnaa
