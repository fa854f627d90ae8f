/- Is, the reference's. -/
import Derived.Test.YtjpljkjclamjnaaGrIs
namespace Go.Proofs.Ytjpljkjclamjnaa
open Go.RowKit
set_option linter.unusedVariables false
set_option linter.unusedSimpArgs false

def rowF (f : Int → Bool) (n : Nat) : List Bool := (List.range n).map fun (i : Nat) => f (i : Int)
theorem rowF_get {f : Int → Bool} {n i : Nat} (h : i < n) : (rowF f n)[i]? = some (f (i : Int)) := by simp [rowF, h]
theorem rowF_nil (n : Nat) : rowF (fun _ => false) n = List.replicate n false := by
  apply List.ext_getElem
  · simp [rowF]
  · intro i h1 h2; simp [rowF]
theorem rowF_put {f : Int → Bool} {n i : Nat} : (rowF f n).set i true = rowF (fput f (i : Int) true) n := by
  apply List.ext_getElem
  · simp [rowF]
  · intro j h1 h2
    simp only [rowF, List.getElem_set, List.getElem_map, List.getElem_range]
    split
    · subst_vars; rw [fput_same]
    · rw [fput_other]; omega

set_option maxHeartbeats 2000000 in
theorem ris_any (A A2 : Option Addr) (n c m c2 : Nat) (ls : List (List Int)) (o : List Int) (w : World) (h : II w A n c ls) (hn : n ≤ 1000) (ho : Rd w 1 A2 m c2 (ivI o)) (hm : m ≤ 1000) :
    Calls Try.prog 21 #[.slice A n c, .slice A2 m c2] w (IsP ls o w) := by
  have hc := h.cap
  have hmx := h.max
  have hoc := ho.cap
  have homx := ho.max
  unfold maxLen at hmx homx
  have HLEN := Lib.hid h.len
  have hol : o.length = m := ho.ilen
  have HOL := Lib.hid hol
  have H0 := Lib.hid h
  have HO := Lib.hid ho
  have cM := rmay_any A n c ls w h
  clear h ho hol
  go_enter Try.func21, Try.ntmps21
  cases hmay : mayI ls with
  | false =>
    rw [hmay] at cM
    have HE : Hid (isI ls o = false) := Lib.hid (by unfold isI; rw [hmay]; rfl)
    clear hmay
    go_wp2_with fail
    refine cM.mono ?_
    rintro e w' ⟨rfl, rfl⟩
    go_wp2_with fail
    go_ret
    exact ⟨Below.refl _ _, by rw [HE.out]; rfl⟩
  | true =>
    rw [hmay] at cM
    by_cases hmn : m = n
    case neg =>
      have hb : ((m : Int) != (n : Int)) = true := by simp; omega
      have HE : Hid (isI ls o = false) := Lib.hid (by unfold isI; rw [HOL.out, HLEN.out]; simp [hmn])
      clear hmay hmn
      go_wp2_with fail
      refine cM.mono ?_
      rintro e w' ⟨rfl, rfl⟩
      go_wp2_with fail
      go_ret
      exact ⟨Below.refl _ _, by rw [HE.out]; rfl⟩
    case pos =>
      subst hmn
      have hb : ((m : Int) != (m : Int)) = false := by simp
      obtain ⟨L, rfl, hok⟩ := mayI_cast hmay
      have HE : Hid (isI (cL L) o = isGoI (cL L) (fun _ => false) o) := Lib.hid (by unfold isI; rw [hmay, HOL.out, HLEN.out]; simp)
      have hLl : L.length = m := by simpa using HLEN.out
      have HL := Lib.hid (And.intro hLl hok)
      clear hmay hLl hok
      have hmk := make_bools m (by omega)
      go_wp2_with fail
      refine cM.mono ?_
      rintro e w' ⟨rfl, rfl⟩
      go_wp2_with fail
      clear hmk
      go_loopg [6] m (fun g q6 wr => ∃ (j : Nat) (f : Int → Bool), j + g = m ∧ q6 = .int .i64 (j : Nat) ∧ Hid (RowB wr w.heap.size (rowF f m) ∧ Below w.heap.size w wr) ∧ Hid (isGoI (cL L) (fun _ => false) o = isGoI (cL L) f (o.drop j)))
      case atStart => exact ⟨0, fun _ => false, by omega, rfl, Lib.hid ⟨by rw [rowF_nil]; exact Blk.new _ _ _, (Below.refl _ w).alloc (Nat.le_refl _) _⟩, Lib.hid rfl⟩
      case round =>
        obtain ⟨j, f, hj, rfl, HS, HG⟩ := hrel
        cases gk with
        | zero =>
          have hk : ¬ ((j : Int) < (m : Int)) := by omega
          have HT : Hid (isI (cL L) o = true) := Lib.hid (by rw [HE.out, HG.out, List.drop_of_length_le (by rw [HOL.out]; omega)]; rfl)
          clear hj
          go_wp2_with fail
          go_ret
          exact ⟨HS.out.2, by rw [HT.out]; rfl⟩
        | succ g =>
          have hk : (j : Int) < (m : Int) := by omega
          obtain ⟨z, hz⟩ : ∃ z, o[j]? = some z := ⟨_, List.getElem?_eq_getElem (by rw [HOL.out]; omega)⟩
          have hor := HO.out.below HS.out.2
          obtain ⟨ad2, rfl, -⟩ := hor.addr (by omega) (by omega)
          have hoz := hor.icell hz
          have HD : Hid (o.drop j = z :: o.drop (j + 1)) := Lib.hid (by
            have := List.drop_eq_getElem_cons (i := j) (l := o) (by rw [HOL.out]; omega)
            rwa [(List.getElem?_eq_some_iff.1 hz).2] at this)
          have HFAIL : isGoI (cL L) f (z :: o.drop (j + 1)) = false → isI (cL L) o = false := fun e => by rw [HE.out, HG.out, HD.out, e]
          have HFAIL := Lib.hid HFAIL
          clear hz hor
          by_cases hneg : z < 0
          · have HE := Lib.hid (HFAIL.out (isGoI_lt hneg))
            go_wp2_with fail
            go_ret
            exact ⟨HS.out.2, by rw [HE.out]; rfl⟩
          by_cases hge : (m : Int) ≤ z
          · have HE := Lib.hid (HFAIL.out (isGoI_ge (by rw [HLEN.out]; exact hge)))
            go_wp2_with fail
            go_ret
            exact ⟨HS.out.2, by rw [HE.out]; rfl⟩
          obtain ⟨i, rfl⟩ : ∃ i : Nat, z = (i : Int) := ⟨z.toNat, by omega⟩
          have hin : i < m := by omega
          have hgei : ¬ ((m : Int) ≤ (i : Int)) := hge
          have hci := HS.out.1.cell (rowF_get hin)
          have hfi := HS.out.1.frozen i
          cases hf : f (i : Int) with
          | true =>
            rw [hf] at hci
            have HE := Lib.hid (HFAIL.out (isGoI_had hf))
            clear hf
            go_wp2_with fail
            go_ret
            exact ⟨HS.out.2, by rw [HE.out]; rfl⟩
          | false =>
            rw [hf] at hci
            have hl := cL_get (L := L) (i := i) (by rw [HL.out.1]; exact hin)
            obtain ⟨ad0, Ai, ci, rfl, hro⟩ := H0.out.row2 (i := i) (by rw [HL.out.1]; exact hin)
            obtain ⟨hcl, hr⟩ := hro wr HS.out.2
            have hrc := hr.cap
            have hrm := hr.max
            unfold maxLen at hrm
            have HFL : Hid ((cI (lean' L i)).all f = false → isI (cL L) o = false) := Lib.hid (fun e => HFAIL.out (isGoI_lean hl e))
            have HGO : Hid ((cI (lean' L i)).all f = true → isGoI (cL L) (fun _ => false) o = isGoI (cL L) (fput f (i : Int) true) (o.drop (j + 1))) := Lib.hid (fun e => by rw [HG.out, HD.out, isGoI_go hl hf e])
            have HLT : Hid (∀ x, x ∈ lean' L i → x < m) := Lib.hid (fun x hx => by have := HL.out.2 i x hx; rw [HL.out.1] at this; exact this)
            obtain ⟨l, hll⟩ : ∃ l, lean' L i = l := ⟨_, rfl⟩
            rw [hll] at hcl hr hrc HFL HGO HLT
            have HR := Lib.hid hr
            clear hf hl hr hro hll
            go_wp2_with fail
            go_loopg [8] l.length (fun g2 q8 wi => ∃ k : Nat, k + g2 = l.length ∧ q8 = .int .i64 (k : Nat) ∧ wi = wr ∧ Hid (((cI l).take k).all f = true))
            case atStart => exact ⟨0, by omega, rfl, rfl, Lib.hid (by simp)⟩
            case round =>
              obtain ⟨k, hkl, rfl, rfl, HA⟩ := hrel
              cases gk with
              | zero =>
                have hkk : ¬ ((k : Int) < (l.length : Int)) := by omega
                have HGG := Lib.hid (HGO.out (by have := HA.out; rwa [List.take_of_length_le (by rw [cI_len]; omega)] at this))
                clear hkl
                go_wp2_with fail
                go_roundg g
                case measure => omega
                case rel =>
                  refine ⟨j + 1, _, by omega, by go_num, Lib.hid ⟨?_, HS.out.2.setCell (Nat.le_refl _) _⟩, HGG⟩
                  rw [← rowF_put]; exact HS.out.1.set i true
              | succ g2 =>
                have hkk : (k : Int) < (l.length : Int) := by omega
                obtain ⟨y, hy⟩ : ∃ y, l[k]? = some y := ⟨_, List.getElem?_eq_getElem (by omega)⟩
                obtain ⟨adl, rfl, -⟩ := HR.out.addr (by omega) (by omega)
                have hyc := HR.out.icell (cI_get hy)
                have hyn := HLT.out y (List.mem_of_getElem? hy)
                have hly := HS.out.1.cell (rowF_get (f := f) hyn)
                cases hfy : f (y : Int) with
                | true =>
                  rw [hfy] at hly
                  have HA2 := Lib.hid (all_step (cI_get hy) HA.out hfy)
                  clear hy hfy
                  go_wp2_with fail
                  go_roundg g2
                  case measure => omega
                  case rel => exact ⟨k + 1, by omega, by go_num, rfl, HA2⟩
                | false =>
                  rw [hfy] at hly
                  have HE := Lib.hid (HFL.out (by rw [List.all_eq_false]; exact ⟨(y : Int), List.mem_of_getElem? (cI_get hy), by simp [hfy]⟩))
                  clear hy hfy
                  go_wp2_with fail
                  go_ret
                  exact ⟨HS.out.2, by rw [HE.out]; rfl⟩
end Go.Proofs.Ytjpljkjclamjnaa
