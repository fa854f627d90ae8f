/- graph.Circle. -/
import Derived.Test.YtjpljkjclamjnaaGrSteps
import Derived.Test.YtjpljkjclamjnaaGrRSteps
namespace Go.Proofs.Ytjpljkjclamjnaa
open Go.RowKit
set_option linter.unusedVariables false
set_option linter.unusedSimpArgs false

theorem isD_exists (L : List (List Nat)) (t : Nat) : ∃ D, IsD L t D := by
  have h : ∀ i, ∃ d, (d = 0 ∧ ∀ k, ¬ Walk L t k i) ∨ (1 ≤ d ∧ Walk L t d i ∧ ∀ k, Walk L t k i → d ≤ k) := by
    intro i
    by_cases h : ∃ k, Walk L t k i
    · obtain ⟨k, hk⟩ := h
      have : ∀ m k, k ≤ m → Walk L t k i → ∃ d, 1 ≤ d ∧ Walk L t d i ∧ ∀ k, Walk L t k i → d ≤ k := by
        intro m
        induction m with
        | zero => intro k hk hw; have := hw.pos; omega
        | succ m ih =>
          intro k hk hw
          by_cases hl : ∃ j, j ≤ m ∧ Walk L t j i
          · obtain ⟨j, h1, h2⟩ := hl; exact ih j h1 h2
          · refine ⟨k, hw.pos, hw, fun j hj => ?_⟩
            rcases Nat.lt_or_ge j k with h1 | h1
            · exact absurd ⟨j, by omega, hj⟩ hl
            · exact h1
      obtain ⟨d, h1⟩ := this k k (Nat.le_refl _) hk
      exact ⟨d, .inr h1⟩
    · exact ⟨0, .inl ⟨rfl, fun k hk => h ⟨k, hk⟩⟩⟩
  exact ⟨fun i => (h i).choose, fun i => (h i).choose_spec⟩
theorem circF_at {L : List (List Nat)} {Ds : Nat → Nat → Nat} {s : Nat} (hs : s < L.length) (h0 : ∀ k, k < s → Ds k k = 0) (h1 : Ds s s ≠ 0) : circF L Ds = pathGo L (Ds s) s (Ds s s) s := by
  unfold circF
  have : (List.range L.length).find? (fun s => Ds s s != 0) = some s := by
    rw [List.find?_range_eq_some]
    exact ⟨by simpa using h1, List.mem_range.2 hs, fun j hj => by simp [h0 j hj]⟩
  rw [this]
theorem circF_no {L : List (List Nat)} {Ds : Nat → Nat → Nat} (h0 : ∀ k, k < L.length → Ds k k = 0) : circF L Ds = [] := by
  unfold circF
  have : (List.range L.length).find? (fun s => Ds s s != 0) = none := by
    rw [List.find?_range_eq_none]
    intro j hj; simp [h0 j hj]
  rw [this]
def nxK (D : Nat → Nat) (s left : Nat) (l : List Nat) (a : Nat) : Nat := l.foldl (fun least x => if D x = left ∧ x ≠ s then min least x else least) a
theorem nxK_snoc (D : Nat → Nat) (s left : Nat) (l : List Nat) (x a : Nat) : nxK D s left (l ++ [x]) a = if D x = left ∧ x ≠ s then min (nxK D s left l a) x else nxK D s left l a := by
  unfold nxK; rw [List.foldl_append]; rfl
theorem nxK_le (D : Nat → Nat) (s left : Nat) (l : List Nat) (a : Nat) : nxK D s left l a ≤ a := (minf_spec (p := fun x => D x = left ∧ x ≠ s) l a).2.1

/-- what both Circles answer -/
def CircP (ls : List (List Int)) (w : World) (e : Ending) (w' : World) : Prop :=
  Below w.heap.size w w' ∧ (mayI ls = false → e = .returned (.slice none 0 0)) ∧
  (∀ L, ls = cL L → okG L → ∀ Ds : Nat → Nat → Nat, (∀ s, s < L.length → IsD L s (Ds s)) → ∃ A c, e = .returned (.slice A (circF L Ds).length c) ∧ IOw w' w.heap.size A (circF L Ds).length c (cI (circF L Ds)) ∧ (circF L Ds).length ≤ L.length + 2)
theorem CircP.no {ls : List (List Int)} {w W : World} (hb : Below w.heap.size w W) (h : mayI ls = false) : CircP ls w (.returned (.slice none 0 0)) W :=
  ⟨hb, (fun _ => rfl), (fun L e hok => by subst e; rw [mayI_cL hok] at h; cases h)⟩
theorem CircP.ok {L : List (List Nat)} {w W : World} {Ds : Nat → Nat → Nat} (hb : Below w.heap.size w W) (hok : okG L) (hD : ∀ s, s < L.length → IsD L s (Ds s)) {A : Option Addr} {c m : Nat} {C : List Nat} (hC : circF L Ds = C) (hm : C.length = m) (hl : m ≤ L.length + 2) (ho : IOw W w.heap.size A m c (cI C)) : CircP (cL L) w (.returned (.slice A m c)) W := by
  subst hC hm
  refine ⟨hb, (fun h => by rw [mayI_cL hok] at h; cases h), fun L' e _ Ds' hD' => ?_⟩
  obtain rfl := cL_inj e
  have := circF_congr rfl (fun _ _ => Iff.rfl) hD hD'
  rw [this]
  exact ⟨A, c, rfl, ho, hl⟩
/-- the way along the circle -/
structure PthI (L : List (List Nat)) (D : Nat → Nat) (s m : Nat) (done : List Nat) (left at_ : Nat) : Prop where
  eq : done ++ pathGo L D s left at_ = pathGo L D s m s
  len : done.length + left = m
  d : 1 ≤ left → D at_ = left ∧ at_ < L.length
  le : at_ ≤ L.length
theorem PthI.start {L : List (List Nat)} {D : Nat → Nat} {s : Nat} (hs : s < L.length) : PthI L D s (D s) [] (D s) s := ⟨rfl, by simp, fun _ => ⟨rfl, hs⟩, by omega⟩
theorem PthI.next {L : List (List Nat)} {D : Nat → Nat} {s m left at_ : Nat} {done : List Nat} (hok : okG L) (hD : IsD L s D) (h : PthI L D s m done (left + 1) at_) : PthI L D s m (done ++ [at_]) left (nxK D s left (lean' L at_) L.length) := by
  refine ⟨by have := h.eq; rw [List.append_assoc]; exact this, by have := h.len; simp; omega, fun hl => ?_, nxK_le _ _ _ _ _⟩
  obtain ⟨h1, h2⟩ := h.d (by omega)
  obtain ⟨g1, g2, g3, g4⟩ := nxt_spec hok hD hl h1
  exact ⟨g2, g4⟩
theorem PthI.done {L : List (List Nat)} {D : Nat → Nat} {s m at_ : Nat} {done : List Nat} (h : PthI L D s m done 0 at_) : pathGo L D s m s = done := by
  have := h.eq
  rw [show pathGo L D s 0 at_ = [] from rfl, List.append_nil] at this
  exact this.symm
structure CiS (W1 : World) (b m : Nat) (f : Nat → Nat) (A : Option Addr) (c : Nat) (done : List Nat) (W : World) : Prop where
  map : MI W b m (ofN f)
  out : IOw W W1.heap.size A done.length c (cI done)
  bel : Below W1.heap.size W1 W
theorem CiS.step {W1 W w2 : World} {b m c c2 x : Nat} {f : Nat → Nat} {A A2 : Option Addr} {done : List Nat} {ob : Obj} (h : CiS W1 b m f A c done W) (hb : b < W1.heap.size)
    (ho : IOw w2 W1.heap.size A2 (done.length + 1) c2 (cI done ++ [(x : Int)])) (hg2 : (W.alloc ob).grownBy w2 (blk A)) : CiS W1 b m f A2 c2 (done ++ [x]) w2 := by
  have hs := h.bel.size
  have hne : ∀ k, some k = blk A → W1.heap.size ≤ k := fun k e => (h.out.lt e.symm).1
  refine ⟨?_, by rw [show (done ++ [x]).length = done.length + 1 by simp, cI_app]; exact ho, (h.bel.alloc hs ob).grown hg2 (by simp; omega) (fun k e => hne k e.symm)⟩
  obtain ⟨D, g1, g2, g3⟩ := h.map
  exact ⟨D, ownsMap_same g1 ((hg2.block b (by simp; omega) (fun e => by have := hne _ e; omega)).trans (Below.heap_alloc _ _ _ (by omega))), g2, g3⟩

set_option maxHeartbeats 2000000 in
theorem circle_any (A : Option Addr) (n c : Nat) (ls : List (List Int)) (w : World) (h : II w A n c ls) (hn : n ≤ 1000) (hB : (ls.map List.length).sum * 8 ≤ 140737488355328) :
    Calls Try.prog 13 #[.slice A n c] w (CircP ls w) := by
  have hc := h.cap
  have hmx := h.max
  unfold maxLen at hmx
  have cM := may_any A n c ls w h
  by_cases hmay : mayI ls = true
  · obtain ⟨L, rfl, hok⟩ := mayI_cast hmay
    obtain ⟨Ds, hD⟩ : ∃ Ds : Nat → Nat → Nat, ∀ s, IsD L s (Ds s) := ⟨fun s => (isD_exists L s).choose, fun s => (isD_exists L s).choose_spec⟩
    have hlen : L.length = n := by have := h.len; simpa using this
    have HB : Hid ((L.map List.length).sum * 8 ≤ 140737488355328) := Lib.hid (by
      have e : (cL L).map List.length = L.map List.length := by simp [cL, Function.comp_def]
      rwa [e] at hB)
    have HLEN := Lib.hid hlen
    have H0 := Lib.hid h
    have HOK := Lib.hid hok
    have HD := Lib.hid hD
    rw [hmay] at cM
    clear h hok hlen hD hB hmay
    go_enter Try.func13, Try.ntmps13
    go_wp2_with (go_at_call 18; refine cM.mono ?_; rintro e w' ⟨rfl, rfl⟩)
    clear cM
    go_loopg [2, 15] n (fun g q2 q15 W1 => ∃ s : Nat, s + g = n ∧ q2 = .slice none 0 0 ∧ q15 = .int .i64 (s : Nat) ∧ Hid (Below w.heap.size w W1) ∧ Hid (∀ k, k < s → Ds k k = 0))
    case atStart => exact ⟨0, by omega, rfl, rfl, Lib.hid (Below.refl _ _), Lib.hid (fun k hk => by omega)⟩
    case round =>
      obtain ⟨s, hs, rfl, rfl, HW, HZ⟩ := hrel
      obtain ⟨W0, rfl⟩ : ∃ W0 : World, W0 = wr := ⟨_, rfl⟩
      cases gk with
      | zero =>
        have hk : ¬ ((s : Int) < (n : Int)) := by omega
        have HN : Hid (∀ k, k < L.length → Ds k k = 0) := Lib.hid (fun k hk => HZ.out k (by rw [HLEN.out] at hk; omega))
        clear hs
        go_wp2_with fail
        go_ret
        exact CircP.ok HW.out HOK.out (fun s _ => HD.out s) (circF_no HN.out) rfl (by simp) (Ow.nil _ _ _ _)
      | succ g =>
        have hk : (s : Int) < (n : Int) := by omega
        have hsn : s < n := by omega
        have hst := steps_any A n c s L W0 (H0.out.below HW.out) hn HOK.out HB.out hsn
        go_wp2_with fail
        refine hst.mono ?_
        rintro e w1 ⟨hb1, b, m, f, rfl, hbb, hmi, hif, hfn⟩
        obtain rfl : Ds s = f := funext fun i => IsD.unique (HD.out s) hif i
        have hl0 := hmi.look (k := (s : Int)) (by omega) (by omega)
        rw [ofN_nat] at hl0
        have hfs := hfn s
        have HB1 := Lib.hid (HW.out.past hb1)
        have HMI := Lib.hid hmi
        have HFN := Lib.hid hfn
        clear hb1 hmi hfn hif hst hbb
        by_cases hz : Ds s s = 0
        · have hzt : (((Ds s s : Nat) : Int) == 0) = true := by simp [hz]
          have HZ2 := Lib.hid hz
          clear hz
          go_wp2_with fail
          go_roundg g
          case measure => omega
          case rel => exact ⟨s + 1, by omega, rfl, by go_num, HB1, Lib.hid (fun k hk => by
            rcases Nat.lt_or_ge k s with h1 | h1
            · exact HZ.out k h1
            · obtain rfl : k = s := by omega
              exact HZ2.out)⟩
        · have hzt : (((Ds s s : Nat) : Int) == 0) = false := by simp [hz]
          have HZ2 := Lib.hid hz
          clear hz
          go_wp2_with fail
          go_loopg [2, 5, 6] (Ds s s) (fun g q2 q5 q6 W2 => ∃ (at_ : Nat) (done : List Nat) (Ao : Option Addr) (co : Nat), q2 = .slice Ao done.length co ∧ q5 = .int .i64 (at_ : Nat) ∧ q6 = .int .i64 (g : Nat) ∧ Hid (CiS w1 b m (Ds s) Ao co done W2) ∧ Hid (PthI L (Ds s) s (Ds s s) done g at_))
          case atStart => exact ⟨s, [], none, 0, rfl, rfl, rfl, Lib.hid ⟨HMI.out, Ow.nil _ _ _ _, Below.refl _ _⟩, Lib.hid (PthI.start (by rw [HLEN.out]; exact hsn))⟩
          case round =>
            obtain ⟨at_, done, Ao, co, rfl, rfl, rfl, HC, HP⟩ := hrel
            obtain ⟨W2, rfl⟩ : ∃ W2 : World, W2 = wr := ⟨_, rfl⟩
            cases gk with
            | zero =>
              go_wp2_with fail
              go_ret
              exact CircP.ok (HB1.out.past HC.out.bel) HOK.out (fun s _ => HD.out s) ((circF_at (by rw [HLEN.out]; exact hsn) HZ.out HZ2.out).trans HP.out.done) rfl (by have := HP.out.len; rw [HLEN.out]; omega) (HC.out.out.le HB1.out.size)
            | succ left =>
              have hat : at_ < n := by have := (HP.out.d (by omega)).2; rw [HLEN.out] at this; exact this
              have hdl : done.length + left + 1 = Ds s s := by have := HP.out.len; omega
              have hdl2 : done.length + left ≤ n + 2 := by omega
              clear hdl
              obtain ⟨ad0, Ai, ci, rfl, hro⟩ := H0.out.row2 (i := at_) (by rw [HLEN.out]; omega)
              have hrc := (hro w (Below.refl _ _)).2.cap
              have hrm := (hro w (Below.refl _ _)).2.max
              unfold maxLen at hrm
              have HRO := Lib.hid hro
              clear hro
              have hbw := HMI.out.lt
              go_wp2_with (at_builtin; refine app_int rfl (.tmp 33) (.tmp 35) rfl w1.heap.size Ao co done.length (cI done) rfl (HC.out.out.alloc _) _ 1 1 [(at_ : Int)] rfl (Rd.oneI _ _ _) (by omega) (by have := HC.out.bel.size; rw [World.size_alloc]; omega) ?_; intro A3 c3 w3 ho3 hg3 hat3; have HS3 := Lib.hid (HC.out.step hbw ho3 hg3); obtain ⟨hcl, -⟩ := HRO.out w3 (HB1.out.past HS3.out.bel); clear ho3 hg3 hat3)
              go_loopg [7, 44] (lean' L at_).length (fun g3 q7 q44 W3 => ∃ k : Nat, k + g3 = (lean' L at_).length ∧ q44 = .int .i64 (k : Nat) ∧ q7 = .int .i64 (nxK (Ds s) s left ((lean' L at_).take k) n : Nat) ∧ Hid (CiS w1 b m (Ds s) A3 c3 (done ++ [at_]) W3))
              case atStart => exact ⟨0, by omega, rfl, rfl, HS3⟩
              case round =>
                obtain ⟨k, hk3, rfl, rfl, HC3⟩ := hrel
                have hnl := nxK_le (Ds s) s left ((lean' L at_).take k) n
                cases gk with
                | zero =>
                  have hkk : ¬ ((k : Int) < ((lean' L at_).length : Int)) := by omega
                  have HJ : Hid ((lean' L at_).take k = lean' L at_) := Lib.hid (List.take_of_length_le (by omega))
                  clear hk3
                  go_wp2_with fail
                  go_roundg left
                  case measure => omega
                  case rel => exact ⟨_, done ++ [at_], A3, c3, by simp, rfl, rfl, HC3, Lib.hid (by rw [HJ.out, ← HLEN.out]; exact HP.out.next HOK.out (HD.out s))⟩
                | succ g3 =>
                  have hkk : (k : Int) < ((lean' L at_).length : Int) := by omega
                  obtain ⟨x, hx⟩ : ∃ x, (lean' L at_)[k]? = some x := ⟨_, List.getElem?_eq_getElem (by omega)⟩
                  have hxn : x < n := by have := HOK.out at_ x (List.mem_of_getElem? hx); rw [HLEN.out] at this; exact this
                  obtain ⟨-, hr⟩ := HRO.out wr (HB1.out.past HC3.out.bel)
                  obtain ⟨adl, rfl, -⟩ := hr.addr (by omega) (by omega)
                  have hxc := hr.icell (cI_get hx)
                  have hl1 := HC3.out.map.look (k := (x : Int)) (by omega) (by omega)
                  rw [ofN_nat] at hl1
                  have HT : Hid (∀ a, nxK (Ds s) s left ((lean' L at_).take (k + 1)) a = if Ds s x = left ∧ x ≠ s then min (nxK (Ds s) s left ((lean' L at_).take k) a) x else nxK (Ds s) s left ((lean' L at_).take k) a) := Lib.hid (fun a => by rw [take_one hx]; exact nxK_snoc _ _ _ _ _ _)
                  clear hx hr
                  obtain ⟨v, hv⟩ : ∃ v, nxK (Ds s) s left ((lean' L at_).take k) n = v := ⟨_, rfl⟩
                  rw [hv] at hnl ⊢
                  have HV := Lib.hid hv
                  clear hv
                  by_cases he : Ds s x = left
                  · have heI : (((Ds s x : Nat) : Int) == (left : Int)) = true := by simp [he]
                    have HE := Lib.hid he
                    clear he
                    by_cases hxs : x = s
                    · have hne : ((x : Int) != (s : Int)) = false := by simp [hxs]
                      have HX := Lib.hid hxs
                      clear hxs
                      go_wp2_with fail
                      go_roundg g3
                      case measure => omega
                      case rel => exact ⟨k + 1, by omega, by go_num, by rw [HT.out, if_neg (fun h => h.2 HX.out), HV.out], HC3⟩
                    · have hne : ((x : Int) != (s : Int)) = true := by simp; omega
                      have HX := Lib.hid hxs
                      clear hxs
                      go_wp2_with fail
                      all_goals
                        go_roundg g3
                        case measure => omega
                        case rel =>
                          refine ⟨k + 1, by omega, by go_num, ?_, HC3⟩
                          rw [HT.out, if_pos ⟨HE.out, HX.out⟩, HV.out]
                          first
                            | (rw [show min v x = x by omega]; done)
                            | (rw [show min v x = v by omega]; done)
                  · have heI : (((Ds s x : Nat) : Int) == (left : Int)) = false := by simp; omega
                    have HE := Lib.hid he
                    clear he
                    go_wp2_with fail
                    go_roundg g3
                    case measure => omega
                    case rel => exact ⟨k + 1, by omega, by go_num, by rw [HT.out, if_neg (fun h => HE.out h.1), HV.out], HC3⟩
  · have hmay' : mayI ls = false := by simpa using hmay
    rw [hmay'] at cM
    have HM := Lib.hid hmay'
    clear h hmay hmay' hB
    go_enter Try.func13, Try.ntmps13
    go_wp2_with (go_at_call 18; refine cM.mono ?_; rintro e w' ⟨rfl, rfl⟩)
    go_ret
    exact CircP.no (Below.refl _ _) HM.out
end Go.Proofs.Ytjpljkjclamjnaa
