/- graph.Order. -/
import Derived.Test.YtjpljkjclamjnaaGrMay
import Derived.Test.YtjpljkjclamjnaaGrMap
namespace Go.Proofs.Ytjpljkjclamjnaa
open Go.RowKit
set_option linter.unusedVariables false
set_option linter.unusedSimpArgs false

/-- what is taken, as a function -/
def tk (T : List Nat) : Int → Bool := fun z => (cI T).contains z
theorem tk_nat (T : List Nat) (i : Nat) : tk T (i : Int) = T.contains i := by
  unfold tk cI
  rw [Bool.eq_iff_iff]
  simp [List.contains_iff_mem, Int.natCast_inj]
theorem tk_put (T : List Nat) (i : Nat) : fput (tk T) (i : Int) true = tk (T ++ [i]) := by
  funext z
  by_cases hz : z = (i : Int)
  · subst hz; rw [fput_same, tk_nat]; simp
  · rw [fput_other _ _ hz]
    unfold tk
    rw [cI_app]
    simp [cI, hz]
theorem tk_nil : tk [] = fun _ => false := by funext z; rfl

/-- a slice of numbers of the call's own -/
def IOw (w : World) (base : Nat) (A : Option Addr) (n c : Nat) (l : List Int) : Prop := Ow w base 3 1 A n c (ivI l)

section
variable {w : World} {ops : Array Oper} {rest : List Oper} {o : Oper} {a : Act} {Q : Exit → Act → World → Prop}
theorem app_int (hw : Region.wanted o (yielded ops a.tmps) = true) (s x : Operand)
    (ho : o.op = .call { callee := .builtin .append, args := #[s, x], argTypes := #[25, 25] })
    (base : Nat) (A0 : Option Addr) (c0 n : Nat) (l : List Int) (hs : a.eval s = .slice A0 n c0) (hown : IOw w base A0 n c0 l)
    (A : Option Addr) (m c : Nat) (k : List Int) (hx : a.eval x = .slice A m c) (hr : Rd w 1 A m c (ivI k))
    (h63 : (n + m) * 8 ≤ 140737488355328) (hbase : base ≤ w.heap.size)
    (h : ∀ A' c' w', IOw w' base A' (n + m) c' (l ++ k) → w.grownBy w' (blk A0) → (A' = A0 ∨ A' = some ⟨w.heap.size, 0, none⟩) → wpList Try.prog ops Q rest (a.put o.dst (.slice A' (n + m) c')) w') :
    wpList Try.prog ops Q (o :: rest) a w := by
  obtain ⟨i0, hi, hz0, hz1, hz2⟩ := info_parts info_int
  exact wpList_ow w hw s x _ ho base _ i0 _ 1 8 Try.underlying25 hi hz0 hz1 hz2 rfl (by omega) A0 c0 n (ivI l) hs hown A m c (ivI k) hx hr (ivI_one k) (by omega) h63 hbase (by unfold IOw at h; rw [← ivI_app]; exact h)
end
theorem Rd.oneI (w : World) (t : TypeId) (z : Int) : Rd (w.alloc (.cells #[.int .i64 z] t)) 1 (some ⟨w.heap.size, 0, none⟩) 1 1 (ivI [z]) := Rd.lit w 1 1 #[.int .i64 z] t (0, 0) rfl (by simp [maxLen])

/-- where the closure finds what is taken, the leans -/
structure OrdI (w : World) (pm pl b m : Nat) (A : Option Addr) (n c : Nat) (L : List (List Nat)) (T : List Nat) : Prop where
  pm : Boxed w pm 35 (.map (some b))
  mb : MB w b m (tk T)
  pl : Boxed w pl 22 (.slice A n c)
  ii : II w A n c (cL L)

theorem rdyB_eq {L : List (List Nat)} {T : List Nat} {i : Nat} : rdyB L T i = (!T.contains i && (lean' L i).all fun x => T.contains x) := rfl
set_option maxHeartbeats 1000000 in
theorem ready_any (w : World) (pm pl b m : Nat) (A : Option Addr) (n c : Nat) (L : List (List Nat)) (T : List Nat) (h : OrdI w pm pl b m A n c L T) (hok : okG L) (i : Nat) (hi : i < n) (hn : n ≤ 1000000) :
    Calls Try.prog 23 #[.int .i64 (i : Int), .pointer (some ⟨pm, 0, none⟩), .pointer (some ⟨pl, 0, none⟩)] w fun e w' => e = .returned (.bool (rdyB L T i)) ∧ w = w' := by
  have hlen : L.length = n := by have := h.ii.len; simpa using this
  have c0 := h.pm.cell
  have c1 := h.pl.cell
  have hx : (cL L)[i]? = some (cI (lean' L i)) := cL_get (by omega)
  obtain ⟨ad, Ai, ci, rfl, hcl, hr⟩ := h.ii.row i _ hx
  rw [cI_len] at hcl hr
  have hrc := hr.cap
  have hrm := hr.max
  unfold maxLen at hrm
  have hl0 := h.mb.look (k := (i : Int)) (by omega) (by omega)
  rw [tk_nat] at hl0
  have HM := Lib.hid h.mb
  have HR := Lib.hid hr
  have HLEN := Lib.hid hlen
  clear h hx hr hlen
  by_cases hT : T.contains i = true
  · rw [hT] at hl0
    have HE : Hid (rdyB L T i = false) := Lib.hid (by rw [rdyB_eq, hT]; rfl)
    clear hT
    go_enter Try.func23, Try.ntmps23
    go_wp2_with fail
    go_ret
    exact ⟨by rw [HE.out]; rfl, rfl⟩
  · have hT' : T.contains i = false := by simpa using hT
    rw [hT'] at hl0
    have HE : Hid (rdyB L T i = (lean' L i).all fun x => T.contains x) := Lib.hid (by rw [rdyB_eq, hT']; rfl)
    clear hT hT'
    have hlt : ∀ x ∈ lean' L i, x < n := fun x hx => by have := hok i x hx; rw [HLEN.out] at this; exact this
    have HLT := Lib.hid hlt
    obtain ⟨l, hl⟩ : ∃ l, lean' L i = l := ⟨_, rfl⟩
    rw [hl] at HLT HE HR hcl hrc
    clear hlt hl
    go_enter Try.func23, Try.ntmps23
    go_wp2_with fail
    go_loop [15] (fun q => ∃ j : Nat, j ≤ l.length ∧ q = .int .i64 j ∧ ((l.take j).all fun x => T.contains x) = true) (fun q => l.length - (intOf q).toNat)
    case atStart => exact ⟨0, Nat.zero_le _, rfl, rfl⟩
    case round =>
      obtain ⟨j, hj, rfl, hall⟩ := hrel
      have HA := Lib.hid hall
      clear hall
      by_cases hjl : j < l.length
      · obtain ⟨x, hx⟩ : ∃ x, l[j]? = some x := ⟨_, List.getElem?_eq_getElem hjl⟩
        obtain ⟨ad2, rfl, -⟩ := HR.out.addr (by omega) (by omega)
        have hxc := HR.out.icell (cI_get hx)
        have hxn := HLT.out x (List.mem_of_getElem? hx)
        have hlx := HM.out.look (k := (x : Int)) (by omega) (by omega)
        rw [tk_nat] at hlx
        have HX := Lib.hid hx
        clear hx
        by_cases hT : T.contains x = true
        · rw [hT] at hlx
          have HN : Hid (((l.take (j + 1)).all fun x => T.contains x) = true) := Lib.hid (by rw [List.take_add_one, HX.out, List.all_append, HA.out]; simpa using hT)
          clear hT
          go_wp2_with fail
          go_round
          case rel => exact ⟨j + 1, by omega, by go_num, HN.out⟩
          case measure => simp [intOf]; omega
        · have hT' : T.contains x = false := by simpa using hT
          rw [hT'] at hlx
          have HN : Hid ((l.all fun x => T.contains x) = false) := Lib.hid (by
            rw [List.all_eq_false]; exact ⟨x, List.mem_of_getElem? HX.out, by simpa using hT⟩)
          clear hT hT'
          go_wp2_with fail
          go_ret
          exact ⟨by rw [HE.out, HN.out]; rfl, rfl⟩
      · obtain rfl : j = l.length := by omega
        have HN := HA.out
        rw [List.take_length] at HN
        have HN := Lib.hid HN
        go_wp2_with fail
        go_ret
        exact ⟨by rw [HE.out, HN.out]; rfl, rfl⟩
end Go.Proofs.Ytjpljkjclamjnaa
