/- The reference's Circle. -/
import Derived.Test.YtjpljkjclamjnaaGrCirc
namespace Go.Proofs.Ytjpljkjclamjnaa
open Go.RowKit
set_option linter.unusedVariables false
set_option linter.unusedSimpArgs false

structure CrS (W1 : World) (b n : Nat) (D : Nat → Nat) (A : Option Addr) (c : Nat) (out : List Nat) (W : World) : Prop where
  row : RowI W b (outL n D)
  out : IOw W W1.heap.size A out.length c (cI out)
  bel : Below W1.heap.size W1 W
theorem CrS.start {W1 : World} {b n : Nat} {D : Nat → Nat} (h : RowI W1 b (outL n D)) (s : Nat) : CrS W1 b n D (some ⟨W1.heap.size, 0, none⟩) 1 [s] (W1.alloc (.cells #[.int .i64 (s : Int)] 3)) :=
  ⟨h.below ((Below.refl _ _).alloc (Nat.le_refl _) _), RowI.ow (l := cI [s]) (Blk.new W1 #[.int .i64 (s : Int)] 3) (Nat.le_refl _) (by rw [cI_len]; simp), (Below.refl _ _).alloc (Nat.le_refl _) _⟩
theorem CrS.step {W1 W w2 : World} {b n c c2 x : Nat} {D : Nat → Nat} {A A2 : Option Addr} {out : List Nat} {ob : Obj} (h : CrS W1 b n D A c out W) (hb : b < W1.heap.size)
    (ho : IOw w2 W1.heap.size A2 (out.length + 1) c2 (cI out ++ [(x : Int)])) (hg2 : (W.alloc ob).grownBy w2 (blk A)) : CrS W1 b n D A2 c2 (out ++ [x]) w2 := by
  have hs := h.bel.size
  have hne : ∀ k, some k = blk A → W1.heap.size ≤ k := fun k e => (h.out.lt e.symm).1
  exact ⟨(Blk.alloc h.row ob).grown hg2 (fun e => by have := hne b e.symm; omega), by rw [show (out ++ [x]).length = out.length + 1 by simp, cI_app]; exact ho, (h.bel.alloc hs ob).grown hg2 (by simp; omega) (fun k e => hne k e.symm)⟩
def nrv (n v : Nat) : Int := if v < n then (v : Int) else -1
theorem nrv_lt {n v : Nat} (h : v < n) : nrv n v = (v : Int) := if_pos h
theorem nrv_ge {n : Nat} : nrv n n = -1 := if_neg (Nat.lt_irrefl _)

set_option maxHeartbeats 2000000 in
set_option maxRecDepth 100000 in
theorem rcircle_any (A : Option Addr) (n c : Nat) (ls : List (List Int)) (w : World) (h : II w A n c ls) (hn : n ≤ 1000) :
    Calls Try.prog 19 #[.slice A n c] w (CircP ls w) := by
  have hc := h.cap
  have hmx := h.max
  unfold maxLen at hmx
  have cM := rmay_any A n c ls w h
  by_cases hmay : mayI ls = true
  · obtain ⟨L, rfl, hok⟩ := mayI_cast hmay
    obtain ⟨Ds, hD⟩ : ∃ Ds : Nat → Nat → Nat, ∀ s, IsD L s (Ds s) := ⟨fun s => (isD_exists L s).choose, fun s => (isD_exists L s).choose_spec⟩
    have hlen : L.length = n := by have := h.len; simpa using this
    have HLEN := Lib.hid hlen
    have H0 := Lib.hid h
    have HOK := Lib.hid hok
    have HD := Lib.hid hD
    rw [hmay] at cM
    clear h hok hlen hD hmay
    go_enter Try.func19, Try.ntmps19
    go_wp2_with (go_at_call 8; refine cM.mono ?_; rintro e w' ⟨rfl, rfl⟩)
    clear cM
    go_loopg [3] n (fun g q3 W1 => ∃ s : Nat, s + g = n ∧ q3 = .int .i64 (s : Nat) ∧ Hid (Below w.heap.size w W1) ∧ Hid (∀ k, k < s → Ds k k = 0))
    case atStart => exact ⟨0, by omega, rfl, Lib.hid (Below.refl _ _), Lib.hid (fun k hk => by omega)⟩
    case round =>
      obtain ⟨s, hs, rfl, HW, HZ⟩ := hrel
      obtain ⟨W0, rfl⟩ : ∃ W0 : World, W0 = wr := ⟨_, rfl⟩
      cases gk with
      | zero =>
        have hk : ¬ ((s : Int) < (n : Int)) := by omega
        have HN : Hid (∀ k, k < L.length → Ds k k = 0) := Lib.hid (fun k hk => HZ.out k (by rw [HLEN.out] at hk; omega))
        clear hs
        go_wp2_with fail
        go_ret
        exact CircP.ok HW.out HOK.out (fun s _ => HD.out s) (circF_no HN.out) rfl (by simp) (Ow.nil _ _ _ _)
      | succ g =>
        have hk : (s : Int) < (n : Int) := by omega
        have hsn : s < n := by omega
        have hst := rsteps_any A n c s L W0 (H0.out.below HW.out) hn HOK.out hsn
        go_wp2_with fail
        refine hst.mono ?_
        rintro e w1 ⟨hb1, f, rfl, hrow, hif, hfn⟩
        obtain rfl : Ds s = f := funext fun i => IsD.unique (HD.out s) hif i
        have hfs := hfn s
        have hl0 := hrow.cell (outL_get (Ds s) hsn)
        have hbw := hrow.lt
        have HB1 := Lib.hid (HW.out.past hb1)
        have HROW := Lib.hid hrow
        have HFN := Lib.hid hfn
        clear hb1 hrow hfn hif hst
        obtain ⟨b, hb⟩ : ∃ b, W0.heap.size = b := ⟨_, rfl⟩
        have HBB : Hid (w.heap.size ≤ w1.heap.size) := Lib.hid HB1.out.size
        rw [hb] at hl0 hbw HROW ⊢
        clear hb
        by_cases hz : Ds s s = 0
        · rw [hz, rv_zero] at hl0
          have HZ2 := Lib.hid hz
          clear hz
          go_wp2_with fail
          go_roundg g
          case measure => omega
          case rel => exact ⟨s + 1, by omega, by go_num, HB1, Lib.hid (fun k hk => by
            rcases Nat.lt_or_ge k s with h1 | h1
            · exact HZ.out k h1
            · obtain rfl : k = s := by omega
              exact HZ2.out)⟩
        · rw [rv_pos hz] at hl0
          have hzt : ¬ (((Ds s s : Nat) : Int) < 0) := by omega
          have HZ2 := Lib.hid hz
          obtain ⟨m, hm⟩ : ∃ m, Ds s s = m + 1 := ⟨Ds s s - 1, by omega⟩
          have HM := Lib.hid hm
          have hmn : m + 1 ≤ n := by omega
          clear hz hm
          go_wp2_with fail
          go_loopg [5, 6, 7] m (fun g q5 q6 q7 W2 => ∃ (at_ : Nat) (done : List Nat) (Ao : Option Addr) (co : Nat), q5 = .slice Ao (done.length + 1) co ∧ q6 = .int .i64 (at_ : Nat) ∧ q7 = .int .i64 (g + 1 : Nat) ∧ Hid (CrS w1 b n (Ds s) Ao co (done ++ [at_]) W2) ∧ Hid (PthI L (Ds s) s (Ds s s) done (g + 1) at_))
          case atStart => exact ⟨s, [], _, _, rfl, rfl, by rw [HM.out], Lib.hid (CrS.start HROW.out s), Lib.hid (by have := PthI.start (L := L) (D := Ds s) (s := s) (by rw [HLEN.out]; exact hsn); rwa [HM.out] at this ⊢)⟩
          case round =>
            obtain ⟨at_, done, Ao, co, rfl, rfl, rfl, HC, HP⟩ := hrel
            obtain ⟨W2, rfl⟩ : ∃ W2 : World, W2 = wr := ⟨_, rfl⟩
            cases gk with
            | zero =>
              go_wp2_with fail
              go_ret
              exact CircP.ok (HB1.out.past HC.out.bel) HOK.out (fun s _ => HD.out s) ((circF_at (by rw [HLEN.out]; exact hsn) HZ.out HZ2.out).trans (HP.out.next HOK.out (HD.out s)).done) (by simp) (by have := HP.out.len; rw [HLEN.out]; omega) (by have := HC.out.out.le HB1.out.size; rwa [List.length_append, List.length_singleton] at this)
            | succ left =>
              have hat : at_ < n := by have := (HP.out.d (by omega)).2; rw [HLEN.out] at this; exact this
              have hdl2 : done.length + left + 2 ≤ m + 1 := by have := HP.out.len; have := HM.out; omega
              obtain ⟨ad0, Ai, ci, rfl, hro⟩ := H0.out.row2 (i := at_) (by rw [HLEN.out]; omega)
              have hrc := (hro w (Below.refl _ _)).2.cap
              have hrm := (hro w (Below.refl _ _)).2.max
              unfold maxLen at hrm
              have HRO := Lib.hid hro
              clear hro
              have e2 : ((left + 1 + 1 : Nat) : Int) = (left : Int) + 2 := by omega
              rw [e2]
              clear e2
              go_wp2_with fail
              go_loopg [8, 9] (lean' L at_).length (fun g3 q8 q9 W3 => ∃ (k : Nat) (z : Int), k + g3 = (lean' L at_).length ∧ q9 = .int .i64 (k : Nat) ∧ q8 = .int .i64 z ∧ Hid (z = nrv n (nxK (Ds s) s (left + 1) ((lean' L at_).take k) n)) ∧ Hid (CrS w1 b n (Ds s) Ao co (done ++ [at_]) W3))
              case atStart => exact ⟨0, -1, by omega, rfl, rfl, Lib.hid (by simp [nxK, nrv_ge]), HC⟩
              case round =>
                obtain ⟨k, z, hk3, rfl, rfl, HZ3, HC3⟩ := hrel
                obtain ⟨hcl, hr⟩ := HRO.out wr (HB1.out.past HC3.out.bel)
                cases gk with
                | zero =>
                  have hkk : ¬ ((k : Int) < ((lean' L at_).length : Int)) := by omega
                  have HJ : Hid ((lean' L at_).take k = lean' L at_) := Lib.hid (List.take_of_length_le (by omega))
                  have HPN := Lib.hid (HP.out.next HOK.out (HD.out s))
                  obtain ⟨v, hv⟩ : ∃ v, nxK (Ds s) s (left + 1) (lean' L at_) n = v := ⟨_, rfl⟩
                  have hvn : v < n := by
                    have := (HPN.out.d (by omega)).2
                    rw [HLEN.out, hv] at this; exact this
                  obtain rfl : z = (v : Int) := by have := HZ3.out; rw [HJ.out, hv, nrv_lt hvn] at this; exact this
                  have HPV : Hid (PthI L (Ds s) s (Ds s s) (done ++ [at_]) (left + 1) v) := Lib.hid (by have := HPN.out; rwa [HLEN.out, hv] at this)
                  clear hk3 hv HPN HZ3 hr
                  have ho0 := HC3.out.out
                  rw [List.length_append, List.length_singleton] at ho0
                  have HO0 := Lib.hid ho0
                  clear ho0
                  go_wp2_with (at_builtin; refine app_int rfl (.tmp 77) (.tmp 79) rfl w1.heap.size Ao co (done.length + 1) (cI (done ++ [at_])) rfl (HO0.out.alloc _) _ 1 1 [(v : Int)] rfl (Rd.oneI _ _ _) (by omega) (by have := HC3.out.bel.size; rw [World.size_alloc]; omega) ?_; intro A3 c3 w3 ho3 hg3 hat3; have HS3 := Lib.hid (HC3.out.step hbw (by rw [List.length_append, List.length_singleton]; exact ho3) hg3); clear ho3 hg3 hat3)
                  go_roundg left
                  case measure => omega
                  case rel => exact ⟨v, done ++ [at_], A3, c3, by simp, rfl, by go_num, HS3, HPV⟩
                | succ g3 =>
                  have hkk : (k : Int) < ((lean' L at_).length : Int) := by omega
                  obtain ⟨x, hx⟩ : ∃ x, (lean' L at_)[k]? = some x := ⟨_, List.getElem?_eq_getElem (by omega)⟩
                  have hxn : x < n := by have := HOK.out at_ x (List.mem_of_getElem? hx); rw [HLEN.out] at this; exact this
                  obtain ⟨adl, rfl, -⟩ := hr.addr (by omega) (by omega)
                  have hxc := hr.icell (cI_get hx)
                  have hcx := HC3.out.row.cell (outL_get (Ds s) hxn)
                  have HT : Hid (nxK (Ds s) s (left + 1) ((lean' L at_).take (k + 1)) n = if Ds s x = left + 1 ∧ x ≠ s then min (nxK (Ds s) s (left + 1) ((lean' L at_).take k) n) x else nxK (Ds s) s (left + 1) ((lean' L at_).take k) n) := Lib.hid (by rw [take_one hx]; exact nxK_snoc _ _ _ _ _ _)
                  have hvle := nxK_le (Ds s) s (left + 1) ((lean' L at_).take k) n
                  obtain ⟨v, hv⟩ : ∃ v, nxK (Ds s) s (left + 1) ((lean' L at_).take k) n = v := ⟨_, rfl⟩
                  rw [hv] at HT HZ3 hvle
                  have hls : (left : Int) + 2 - 1 = (left : Int) + 1 := by omega
                  clear hx hr hv
                  by_cases hxs : x = s
                  · have hne : ((x : Int) != (s : Int)) = false := by simp [hxs]
                    have HX : Hid (nxK (Ds s) s (left + 1) ((lean' L at_).take (k + 1)) n = v) := Lib.hid (by rw [HT.out, if_neg (fun h => h.2 hxs)])
                    clear hxs
                    go_wp2_with fail
                    go_roundg g3
                    case measure => omega
                    case rel => exact ⟨k + 1, z, by omega, by go_num, rfl, Lib.hid (by rw [HX.out]; exact HZ3.out), HC3⟩
                  · have hne : ((x : Int) != (s : Int)) = true := by simp; omega
                    by_cases he : Ds s x = left + 1
                    · have hrv : rv (Ds s x) = (left : Int) + 1 := by rw [he, rv_pos (by omega)]; omega
                      rw [hrv] at hcx
                      have HX : Hid (nxK (Ds s) s (left + 1) ((lean' L at_).take (k + 1)) n = min v x) := Lib.hid (by rw [HT.out, if_pos ⟨he, hxs⟩])
                      clear hxs he hrv
                      by_cases hvn : v < n
                      · obtain rfl : z = (v : Int) := by have := HZ3.out; rwa [nrv_lt hvn] at this
                        have hz0 : decide ((v : Int) < 0) = false := by simp; try omega
                        by_cases hlt : x < v
                        · have hltI : (x : Int) < (v : Int) := by omega
                          go_wp2_with fail
                          go_roundg g3
                          case measure => omega
                          case rel => exact ⟨k + 1, (x : Int), by omega, by go_num, rfl, Lib.hid (by rw [HX.out, Nat.min_eq_right (by omega), nrv_lt hxn]), HC3⟩
                        · have hltI : decide ((x : Int) < (v : Int)) = false := by simp; omega
                          go_wp2_with fail
                          go_roundg g3
                          case measure => omega
                          case rel => exact ⟨k + 1, (v : Int), by omega, by go_num, rfl, Lib.hid (by rw [HX.out, Nat.min_eq_left (by omega), nrv_lt hvn]), HC3⟩
                      · obtain rfl : z = -1 := by have := HZ3.out; rwa [show v = n by omega, nrv_ge] at this
                        go_wp2_with fail
                        go_roundg g3
                        case measure => omega
                        case rel => exact ⟨k + 1, (x : Int), by omega, by go_num, rfl, Lib.hid (by rw [HX.out, Nat.min_eq_right (by omega), nrv_lt hxn]), HC3⟩
                    · have heI : (rv (Ds s x) == (left : Int) + 1) = false := by
                        have : rv (Ds s x) ≠ (left : Int) + 1 := by unfold rv; split <;> omega
                        simpa using this
                      have HX : Hid (nxK (Ds s) s (left + 1) ((lean' L at_).take (k + 1)) n = v) := Lib.hid (by rw [HT.out, if_neg (fun h => he h.1)])
                      clear hxs he
                      go_wp2_with fail
                      go_roundg g3
                      case measure => omega
                      case rel => exact ⟨k + 1, z, by omega, by go_num, rfl, Lib.hid (by rw [HX.out]; exact HZ3.out), HC3⟩
  · have hmay' : mayI ls = false := by simpa using hmay
    rw [hmay'] at cM
    have HM := Lib.hid hmay'
    clear h hmay hmay'
    go_enter Try.func19, Try.ntmps19
    go_wp2_with (go_at_call 8; refine cM.mono ?_; rintro e w' ⟨rfl, rfl⟩)
    go_ret
    exact CircP.no (Below.refl _ _) HM.out
end Go.Proofs.Ytjpljkjclamjnaa
