/- Is, the program's. -/
import Derived.Test.YtjpljkjclamjnaaGrWid
namespace Go.Proofs.Ytjpljkjclamjnaa
open Go.RowKit
set_option linter.unusedVariables false
set_option linter.unusedSimpArgs false

def isGoI (ls : List (List Int)) : (Int → Bool) → List Int → Bool
  | f, [] => true
  | f, z :: zs => decide (0 ≤ z) && decide (z < (ls.length : Int)) && !f z && (ls.getD z.toNat []).all f && isGoI ls (fput f z true) zs
def isI (ls : List (List Int)) (o : List Int) : Bool := mayI ls && decide (o.length = ls.length) && isGoI ls (fun _ => false) o
theorem isGoI_lt {ls : List (List Int)} {f : Int → Bool} {z : Int} {zs : List Int} (h : z < 0) : isGoI ls f (z :: zs) = false := by
  have : ¬ (0 ≤ z) := by omega
  simp [isGoI, this]
theorem isGoI_ge {ls : List (List Int)} {f : Int → Bool} {z : Int} {zs : List Int} (h : (ls.length : Int) ≤ z) : isGoI ls f (z :: zs) = false := by
  have : ¬ (z < (ls.length : Int)) := by omega
  simp [isGoI, this]
theorem isGoI_had {ls : List (List Int)} {f : Int → Bool} {z : Int} {zs : List Int} (h : f z = true) : isGoI ls f (z :: zs) = false := by simp [isGoI, h]
theorem isGoI_lean {ls : List (List Int)} {f : Int → Bool} {i : Nat} {zs : List Int} {x : List Int} (hx : ls[i]? = some x) (h : x.all f = false) : isGoI ls f ((i : Int) :: zs) = false := by
  have : ls.getD (i : Int).toNat [] = x := by simp [List.getD_eq_getElem?_getD, hx]
  simp only [isGoI, this, h]; simp
theorem isGoI_go {ls : List (List Int)} {f : Int → Bool} {i : Nat} {zs : List Int} {x : List Int} (hx : ls[i]? = some x) (hf : f (i : Int) = false) (h : x.all f = true) : isGoI ls f ((i : Int) :: zs) = isGoI ls (fput f (i : Int) true) zs := by
  have : ls.getD (i : Int).toNat [] = x := by simp [List.getD_eq_getElem?_getD, hx]
  have hi : i < ls.length := (List.getElem?_eq_some_iff.1 hx).1
  simp only [isGoI, this, h, hf]; simp [hi]
theorem II.row3 {w : World} {A : Option Addr} {n c i : Nat} {ls : List (List Int)} (h : II w A n c ls) {x : List Int} (hx : ls[i]? = some x) :
    ∃ ad Ai ci, A = some ad ∧ ∀ w', Below w.heap.size w w' → w'.cell? (ad.add i) = some (.slice Ai x.length ci) ∧ Rd w' 1 Ai x.length ci (ivI x) := by
  obtain ⟨ad, Ai, ci, rfl, hcl, hr⟩ := h.row i _ hx
  refine ⟨ad, Ai, ci, rfl, fun w' hb => ⟨?_, hr.below hb⟩⟩
  rw [hb.cell (World.block_lt_of_cell? w _ hcl)]
  exact hcl
theorem all_step {l : List Int} {f : Int → Bool} {k : Nat} {y : Int} (hy : l[k]? = some y) (h : (l.take k).all f = true) (hf : f y = true) : (l.take (k + 1)).all f = true := by
  rw [List.take_add_one, hy, List.all_append, h]; simpa using hf

def IsP (ls : List (List Int)) (o : List Int) (w : World) (e : Ending) (w' : World) : Prop := Below w.heap.size w w' ∧ e = .returned (.bool (isI ls o))
set_option maxHeartbeats 2000000 in
theorem is_any (A A2 : Option Addr) (n c m c2 : Nat) (ls : List (List Int)) (o : List Int) (w : World) (h : II w A n c ls) (hn : n ≤ 1000) (ho : Rd w 1 A2 m c2 (ivI o)) (hwf : ∀ z ∈ o, -9223372036854775808 ≤ z ∧ z ≤ 9223372036854775807) (hm : m ≤ 1000) :
    Calls Try.prog 15 #[.slice A n c, .slice A2 m c2] w (IsP ls o w) := by
  have hc := h.cap
  have hmx := h.max
  have hoc := ho.cap
  have homx := ho.max
  unfold maxLen at hmx homx
  have HLEN := Lib.hid h.len
  have hol : o.length = m := ho.ilen
  have HOL := Lib.hid hol
  have H0 := Lib.hid h
  have HO := Lib.hid ho
  have HWF := Lib.hid hwf
  clear h ho hwf hol
  have hmm := @run_makeMap Try.prog
  go_enter Try.func15, Try.ntmps15
  go_wp2_with fail
  clear hmm
  go_loopg [13] m (fun g q13 wr => ∃ (j : Nat) (f : Int → Bool), j + g = m ∧ q13 = .int .i64 (j : Nat) ∧ Hid (MB wr w.heap.size j f ∧ Below w.heap.size w wr) ∧ Hid (isGoI ls (fun _ => false) o = isGoI ls f (o.drop j)))
  case atStart => exact ⟨0, _, by omega, rfl, Lib.hid ⟨MB.new w, (Below.refl _ w).alloc (Nat.le_refl _) _⟩, Lib.hid rfl⟩
  case round =>
    obtain ⟨j, f, hj, rfl, HS, HG⟩ := hrel
    cases gk with
    | zero =>
      have hk : ¬ ((j : Int) < (m : Int)) := by omega
      have HT : Hid (isGoI ls (fun _ => false) o = true) := Lib.hid (by rw [HG.out, List.drop_of_length_le (by rw [HOL.out]; omega)]; rfl)
      clear hj
      have cM := may_any A n c ls wr (H0.out.below HS.out.2)
      cases hmay : mayI ls with
      | false =>
        rw [hmay] at cM
        have HE : Hid (isI ls o = false) := Lib.hid (by unfold isI; rw [hmay]; rfl)
        clear hmay
        go_wp2_with fail
        refine cM.mono ?_
        rintro e w' ⟨rfl, rfl⟩
        go_wp2_with fail
        go_ret
        exact ⟨HS.out.2, by rw [HE.out]; rfl⟩
      | true =>
        rw [hmay] at cM
        have HE : Hid (isI ls o = decide (m = n)) := Lib.hid (by unfold isI; rw [hmay, HT.out, HOL.out, HLEN.out]; simp)
        clear hmay
        by_cases hmn : m = n
        · have hb : ((m : Int) == (n : Int)) = true := by simp [hmn]
          have HE2 : Hid (isI ls o = true) := Lib.hid (by rw [HE.out]; simpa using hmn)
          clear hmn
          go_wp2_with fail
          refine cM.mono ?_
          rintro e w' ⟨rfl, rfl⟩
          go_wp2_with fail
          go_ret
          exact ⟨HS.out.2, by rw [HE2.out]; rfl⟩
        · have hb : ((m : Int) == (n : Int)) = false := by simp; omega
          have HE2 : Hid (isI ls o = false) := Lib.hid (by rw [HE.out]; simpa using hmn)
          clear hmn
          go_wp2_with fail
          refine cM.mono ?_
          rintro e w' ⟨rfl, rfl⟩
          go_wp2_with fail
          go_ret
          exact ⟨HS.out.2, by rw [HE2.out]; rfl⟩
    | succ g =>
      have hk : (j : Int) < (m : Int) := by omega
      obtain ⟨z, hz⟩ : ∃ z, o[j]? = some z := ⟨_, List.getElem?_eq_getElem (by rw [HOL.out]; omega)⟩
      have hzw := HWF.out z (List.mem_of_getElem? hz)
      have hor := HO.out.below HS.out.2
      obtain ⟨ad2, rfl, -⟩ := hor.addr (by omega) (by omega)
      have hoz := hor.icell hz
      have HD : Hid (o.drop j = z :: o.drop (j + 1)) := Lib.hid (by
        have := List.drop_eq_getElem_cons (i := j) (l := o) (by rw [HOL.out]; omega)
        rwa [(List.getElem?_eq_some_iff.1 hz).2] at this)
      have hl0 := HS.out.1.look (k := z) (by omega) (by omega)
      have HFAIL : isGoI ls f (z :: o.drop (j + 1)) = false → isI ls o = false := fun e => by
        unfold isI; rw [HG.out, HD.out, e]; simp
      have HFAIL := Lib.hid HFAIL
      obtain ⟨hzl, hzr⟩ := hzw
      clear hz hor
      by_cases hneg : z < 0
      · have HE := Lib.hid (HFAIL.out (isGoI_lt hneg))
        go_wp2_with fail
        go_ret
        exact ⟨HS.out.2, by rw [HE.out]; rfl⟩
      by_cases hge : (n : Int) ≤ z
      · have HE := Lib.hid (HFAIL.out (isGoI_ge (by rw [HLEN.out]; exact hge)))
        go_wp2_with fail
        go_ret
        exact ⟨HS.out.2, by rw [HE.out]; rfl⟩
      obtain ⟨i, rfl⟩ : ∃ i : Nat, z = (i : Int) := ⟨z.toNat, by omega⟩
      have hin : i < n := by omega
      have hgei : ¬ ((n : Int) ≤ (i : Int)) := hge
      cases hf : f (i : Int) with
      | true =>
        rw [hf] at hl0
        have HE := Lib.hid (HFAIL.out (isGoI_had hf))
        clear hf
        go_wp2_with fail
        go_ret
        exact ⟨HS.out.2, by rw [HE.out]; rfl⟩
      | false =>
        rw [hf] at hl0
        obtain ⟨l, hl⟩ : ∃ l, ls[i]? = some l := ⟨_, List.getElem?_eq_getElem (by rw [HLEN.out]; exact hin)⟩
        obtain ⟨ad0, Ai, ci, rfl, hro⟩ := H0.out.row3 hl
        obtain ⟨hcl, hr⟩ := hro wr HS.out.2
        have hrc := hr.cap
        have hrm := hr.max
        unfold maxLen at hrm
        have HR := Lib.hid hr
        have HFL : Hid (l.all f = false → isI ls o = false) := Lib.hid (fun e => HFAIL.out (isGoI_lean hl e))
        have HGO : Hid (l.all f = true → isGoI ls (fun _ => false) o = isGoI ls (fput f (i : Int) true) (o.drop (j + 1))) := Lib.hid (fun e => by rw [HG.out, HD.out, isGoI_go hl hf e])
        have HLW := Lib.hid (H0.out.wf l (List.mem_of_getElem? hl))
        clear hf hl hr hro
        go_wp2_with fail
        go_loopg [35] l.length (fun g2 q35 wi => ∃ k : Nat, k + g2 = l.length ∧ q35 = .int .i64 (k : Nat) ∧ wi = wr ∧ Hid ((l.take k).all f = true))
        case atStart => exact ⟨0, by omega, rfl, rfl, Lib.hid (by simp)⟩
        case round =>
          obtain ⟨k, hkl, rfl, rfl, HA⟩ := hrel
          cases gk with
          | zero =>
            have hkk : ¬ ((k : Int) < (l.length : Int)) := by omega
            have HGG := Lib.hid (HGO.out (by have := HA.out; rwa [List.take_of_length_le (by omega)] at this))
            clear hkl
            go_wp2_with (at_mapUpdate; refine put_MB rfl _ _ _ rfl w.heap.size j f rfl HS.out.1 (by unfold maxLen; omega) (i : Int) (by omega) (by omega) rfl true rfl ?_; intro w1 hm1 hg1; have HM1 := Lib.hid hm1; have HG1 := Lib.hid hg1; clear hm1 hg1)
            go_roundg g
            case measure => omega
            case rel => exact ⟨j + 1, _, by omega, by go_num, Lib.hid ⟨HM1.out, HS.out.2.grown HG1.out HS.out.2.size (fun k e => by injection e with e; omega)⟩, HGG⟩
          | succ g2 =>
            have hkk : (k : Int) < (l.length : Int) := by omega
            obtain ⟨y, hy⟩ : ∃ y, l[k]? = some y := ⟨_, List.getElem?_eq_getElem (by omega)⟩
            obtain ⟨adl, rfl, -⟩ := HR.out.addr (by omega) (by omega)
            have hyc := HR.out.icell hy
            obtain ⟨hy1, hy2⟩ := HLW.out y (List.mem_of_getElem? hy)
            have hly := HS.out.1.look (k := y) (by omega) (by omega)
            cases hfy : f y with
            | true =>
              rw [hfy] at hly
              have HA2 := Lib.hid (all_step hy HA.out hfy)
              clear hy hfy
              go_wp2_with fail
              go_roundg g2
              case measure => omega
              case rel => exact ⟨k + 1, by omega, by go_num, rfl, HA2⟩
            | false =>
              rw [hfy] at hly
              have HE := Lib.hid (HFL.out (by rw [List.all_eq_false]; exact ⟨y, List.mem_of_getElem? hy, by simp [hfy]⟩))
              clear hy hfy
              go_wp2_with fail
              go_ret
              exact ⟨HS.out.2, by rw [HE.out]; rfl⟩
end Go.Proofs.Ytjpljkjclamjnaa
