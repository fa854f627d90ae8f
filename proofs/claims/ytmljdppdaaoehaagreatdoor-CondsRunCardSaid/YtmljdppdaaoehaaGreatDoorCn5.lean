/- Conditions: whether some number of a row answers a closure; how many steps lead back. -/
/- Conditions: how many steps lead back. -/
/- Conditions: a circle. -/
import Derived.Test.YtmljdppdaaoehaaGreatDoorCn2
import Derived.Deep.QuietTactic
import Derived.BigQuiet
import Derived.Deep.OwnRows
namespace Go.Proofs.YtmljdppdaaoehaaGreatDoor
open Go.RowKit
set_option linter.unusedVariables false
set_option linter.unusedSimpArgs false

theorem below_drewN' (w : World) (n : Nat) : Below w.heap.size w (w.drewN n) := ⟨rfl, rfl, rfl, Nat.le_refl _, fun _ _ => rfl⟩
/-- the closure answers p at each number, from any later world, and leaves what was there -/
def AskI (rb tb nb : Nat) (p : Nat → Bool) (O : List Nat) (w : World) : Prop :=
  ∀ k ∈ O, ∀ w', Below w.heap.size w w' → Calls Tryz.prog 82 #[.int .i64 (k : Int), .pointer (some ⟨rb, 0, none⟩), .pointer (some ⟨tb, 0, none⟩), .pointer (some ⟨nb, 0, none⟩)] w' fun e w'' => e = .returned (.bool (p k)) ∧ Below w'.heap.size w' w''
def idxOf (p : Nat → Bool) (O : List Nat) : Int := match O.findIdx? p with | some i => (i : Int) | none => -1
set_option maxRecDepth 100000 in
set_option maxHeartbeats 4000000 in
theorem iidxf_any (rb tb nb : Nat) (p : Nat → Bool) (A : Option Addr) (c : Nat) (O : List Nat) (w : World) (hr : Rd w 1 A O.length c (cN O)) (hO : O.length ≤ 1000000) (hf : AskI rb tb nb p O w) :
    Calls Tryz.prog 88 #[.slice A O.length c, .func (.func 82) #[] #[.pointer (some ⟨rb, 0, none⟩), .pointer (some ⟨tb, 0, none⟩), .pointer (some ⟨nb, 0, none⟩)]] w fun e w' => e = .returned (.int .i64 (idxOf p O)) ∧ Below w.heap.size w w' := by
  have HR := Lib.hid hr
  have hcap := hr.cap
  have HF := Lib.hid hf
  clear hr hf
  go_enter Tryz.func88, Tryz.ntmps88
  go_wp2_with fail
  go_loopg [8] O.length (fun g i wr => ∃ j : Nat, j + g = O.length ∧ i = .int .i64 (j : Nat) ∧ Hid ((O.take j).findIdx? p = none) ∧ Hid (Below w.heap.size w wr))
  case atStart => exact ⟨0, by omega, rfl, Lib.hid (by simp), Lib.hid (Below.refl _ _)⟩
  case round =>
    obtain ⟨j, hj, rfl, HN, HB⟩ := hrel
    rename World => wo
    cases gk with
    | zero =>
      have hjj : ¬ ((j : Int) < (O.length : Int)) := by omega
      have HE : Hid (idxOf p O = -1) := Lib.hid (by
        have := HN.out
        rw [List.take_of_length_le (by omega)] at this
        unfold idxOf; rw [this])
      go_wp2_with fail
      go_ret
      rw [HE.out]
      exact ⟨rfl, HB.out⟩
    | succ g =>
      have hjj : (j : Int) < (O.length : Int) := by omega
      obtain ⟨k, hk⟩ := get_lt (l := O) (i := j) (by omega)
      obtain ⟨ad, rfl, hc⟩ := (HR.out.below HB.out).at_ j (.int .i64 (k : Int)) (by simp [cN, hk])
      have HCL := Lib.hid (HF.out k (List.mem_of_getElem? hk) wo HB.out)
      have HTK : Hid ((O.take (j + 1)).findIdx? p = ((O.take j).findIdx? p).or (if p k then some j else none)) := Lib.hid (by
        rw [List.take_add_one, hk, List.findIdx?_append]
        congr 1
        simp only [Option.toList_some, List.findIdx?_singleton, List.length_take]
        split <;> simp <;> omega)
      have HFI : Hid (p k = true → O.findIdx? p = some j) := Lib.hid (fun hp => by
        have h1 := HTK.out
        rw [HN.out, hp] at h1
        rw [← List.take_append_drop (j + 1) O, List.findIdx?_append, h1]; rfl)
      clear hk
      cases hp : p k with
      | true =>
        rw [hp] at HCL
        have HE : Hid (idxOf p O = (j : Int)) := Lib.hid (by unfold idxOf; rw [HFI.out hp])
        clear hp
        go_wp2_with fail
        refine HCL.out.mono ?_
        rintro e w2 ⟨rfl, hb2⟩
        have HB2 := Lib.hid (HB.out.trans (hb2.mono HB.out.size))
        clear hb2
        go_wp2_with fail
        go_ret
        rw [HE.out]
        exact ⟨rfl, HB2.out⟩
      | false =>
        rw [hp] at HCL HTK
        clear hp HFI
        go_wp2_with fail
        refine HCL.out.mono ?_
        rintro e w2 ⟨rfl, hb2⟩
        have HB2 := Lib.hid (HB.out.trans (hb2.mono HB.out.size))
        clear hb2
        go_wp2_with fail
        go_roundg g
        case measure => omega
        case rel => exact ⟨j + 1, by omega, by go_num, Lib.hid (by rw [HTK.out, HN.out]; rfl), HB2⟩
theorem idxOf_ge (p : Nat → Bool) (O : List Nat) : decide (0 ≤ idxOf p O) = O.any p := by
  unfold idxOf
  cases h : O.findIdx? p with
  | none =>
    rw [List.findIdx?_eq_none_iff] at h
    have : O.any p = false := by
      rw [List.any_eq_false]
      intro x hx
      have := h x hx
      simp [this]
    rw [this]; rfl
  | some i =>
    obtain ⟨hi, h1, _⟩ := List.findIdx?_eq_some_iff_getElem.1 h
    have : O.any p = true := List.any_eq_true.2 ⟨_, List.getElem_mem hi, h1⟩
    rw [this]; simp
set_option maxRecDepth 100000 in
theorem icontf_any (rb tb nb : Nat) (p : Nat → Bool) (A : Option Addr) (c : Nat) (O : List Nat) (w : World) (hr : Rd w 1 A O.length c (cN O)) (hO : O.length ≤ 1000000) (hf : AskI rb tb nb p O w) :
    Calls Tryz.prog 81 #[.slice A O.length c, .func (.func 82) #[] #[.pointer (some ⟨rb, 0, none⟩), .pointer (some ⟨tb, 0, none⟩), .pointer (some ⟨nb, 0, none⟩)]] w fun e w' => e = .returned (.bool (O.any p)) ∧ Below w.heap.size w w' := by
  have HI := Lib.hid (iidxf_any rb tb nb p A c O w hr hO hf)
  have HG := Lib.hid (idxOf_ge p O)
  obtain ⟨z, hz⟩ : ∃ z, z = idxOf p O := ⟨_, rfl⟩
  rw [← hz] at HI HG
  clear hr hf hz
  go_enter Tryz.func81, Tryz.ntmps81
  go_wp2_with fail
  refine HI.out.mono ?_
  rintro e w2 ⟨rfl, hb2⟩
  have HB2 := Lib.hid hb2
  clear hb2
  go_wp2_with fail
  go_ret
  exact ⟨by rw [← HG.out]; rfl, HB2.out⟩
theorem bk1_any (rb tb nb r tg : Nat) (n : List Nat) (NA : Option Addr) (nc k : Nat) (w : World) (hR : Blk w rb #[.int .i64 (r : Int)] 3) (hT : Blk w tb #[.int .i64 (tg : Int)] 3) (hN : Blk w nb #[.slice NA n.length nc] 98) (hn : Rd w 1 NA n.length nc (cN n)) (hk : k < n.length) (hr : 1 ≤ r)
    (hnl : n.length ≤ 1000000) (hrl : r ≤ 1000000) :
    Calls Tryz.prog 82 #[.int .i64 (k : Int), .pointer (some ⟨rb, 0, none⟩), .pointer (some ⟨tb, 0, none⟩), .pointer (some ⟨nb, 0, none⟩)] w fun e w' =>
      e = .returned (.bool ((decide (r = 1) && decide (k = tg)) || (decide (1 < r) && decide (n.getD k 0 = r - 1)))) ∧ Below w.heap.size w w' := by
  obtain ⟨z, hz⟩ := get_lt (l := n) (i := k) hk
  obtain ⟨ad, rfl, hc⟩ := hn.at_ k (.int .i64 (z : Int)) (by simp [cN, hz])
  have c0 := hR.cell 0 (v := .int .i64 (r : Int)) rfl
  have c1 := hT.cell 0 (v := .int .i64 (tg : Int)) rfl
  have c2 := hN.cell 0 (v := .slice (some ad) n.length nc) rfl
  have hzg : n.getD k 0 = z := by rw [List.getD_eq_getElem?_getD, hz]; rfl
  have hcap := hn.cap
  have hkk : (k : Int) < (n.length : Int) := by omega
  have HZ := Lib.hid hzg
  clear hR hT hN hn hz hzg hk
  by_cases h1 : r = 1
  · subst h1
    by_cases h2 : k = tg
    · subst h2
      go_enter Tryz.func82, Tryz.ntmps82
      go_wp2_with fail
      go_quiet (fail)
      go_wp2_with fail
      go_ret
      exact ⟨by simp, below_drewN' _ _⟩
    · have e2 : ((k : Int) == (tg : Int)) = false := by simp; omega
      go_enter Tryz.func82, Tryz.ntmps82
      go_wp2_with fail
      go_quiet (fail)
      go_wp2_with fail
      go_ret
      exact ⟨by simp [h2], below_drewN' _ _⟩
  · have e1 : ((r : Int) == 1) = false := by simp; omega
    have e2 : (1 : Int) < (r : Int) := by omega
    have ew : IntKind.i64.wrap ((r : Int) - 1) = (r : Int) - 1 := by rw [IntKind.wrap_i64]; omega
    by_cases h3 : z = r - 1
    · have e3 : ((z : Int) == (r : Int) - 1) = true := by rw [beq_iff_eq]; omega
      go_enter Tryz.func82, Tryz.ntmps82
      go_wp2_with fail
      go_quiet (fail)
      go_wp2_with fail
      go_ret
      exact ⟨by rw [HZ.out, decide_eq_true h3, decide_eq_true (show 1 < r by omega)]; simp; omega, below_drewN' _ _⟩
    · have e3 : ((z : Int) == (r : Int) - 1) = false := by simp; omega
      go_enter Tryz.func82, Tryz.ntmps82
      go_wp2_with fail
      go_quiet (fail)
      go_wp2_with fail
      go_ret
      exact ⟨by rw [HZ.out]; simp [h1, h3], below_drewN' _ _⟩
end Go.Proofs.YtmljdppdaaoehaaGreatDoor
namespace Go.Proofs.YtmljdppdaaoehaaGreatDoor
open Go.RowKit
set_option linter.unusedVariables false
set_option linter.unusedSimpArgs false

theorem made_cN (n : Nat) : madeCells #[.int .i64 0] n = (cN (List.replicate n 0)).toArray := by
  apply Array.ext
  · simp [madeCells, cN]
  · intro i h1 h2
    simp [madeCells, cN, Nat.mod_one]
theorem make_cN (n : Nat) (h : n ≤ 1000000) (w : World) : (Instr.makeSlice 98 (.int .i64 (n : Int)) (.int .i64 (n : Int))).run Tryz.prog w = .ok (.slice (some ⟨w.heap.size, 0, none⟩) n n) (w.alloc (.cells (cN (List.replicate n 0)).toArray 3)) := by
  have := run_make_row' (P := Tryz.prog) 98 3 (.int .i64 0) 8 Tryz.underlying98 info_int rfl .i64 .i64 n (by omega) (by omega) w
  rw [made_cN] at this
  exact this
theorem Rd.ofblk {w : World} {g : Nat} {n : List Nat} (h : Blk w g (cN n).toArray 3) (hn : n.length ≤ 1000000) : Rd w 1 (some ⟨g, 0, none⟩) n.length n.length (cN n) :=
  ⟨by simp [cN], Nat.le_refl _, by unfold maxLen; omega, fun j u hu => ⟨_, rfl, by
    rw [add_plain, Nat.zero_add]
    exact Blk.cell h j (by simpa using hu)⟩⟩
/-- the numbers of steps, under way -/
structure Bst (w0 : World) (tb nb g tg len : Nat) (n : List Nat) (w : World) : Prop where
  tbx : Blk w tb #[.int .i64 (tg : Int)] 3
  nbx : Blk w nb #[.slice (some ⟨g, 0, none⟩) len len] 98
  row : Blk w g (cN n).toArray 3
  len : n.length = len
  be : Below w0.heap.size w0 w
  hg : w0.heap.size ≤ g
  ne : g ≠ tb
theorem Bst.below {w0 w w' : World} {tb nb g tg len : Nat} {n : List Nat} (h : Bst w0 tb nb g tg len n w) (hb : Below w.heap.size w w') : Bst w0 tb nb g tg len n w' :=
  ⟨h.tbx.below hb, h.nbx.below hb, h.row.below hb, h.len, h.be.trans (hb.mono h.be.size), h.hg, h.ne⟩
theorem Blk.type_ne {w : World} {a b : Nat} {cs ds : Array Value} {t u : TypeId} (h : Blk w a cs t) (k : Blk w b ds u) (hne : t ≠ u) : a ≠ b := fun e => by
  subst e
  unfold Blk at h k
  rw [h] at k
  injection k with k
  injection k with _ k
  exact hne k
theorem Bst.set {w0 w : World} {tb nb g tg len : Nat} {n : List Nat} (h : Bst w0 tb nb g tg len n w) (i r : Nat) : Bst w0 tb nb g tg len (n.set i r) (w.setCell ⟨g, i, none⟩ (.int .i64 (r : Int))) := by
  refine ⟨h.tbx.setOther _ _ h.ne.symm, h.nbx.setOther _ _ (h.nbx.type_ne h.row (by decide)), (h.row.set i (.int .i64 (r : Int))).eq ?_, by rw [List.length_set]; exact h.len, h.be.setCell h.hg _, h.hg, h.ne⟩
  simp [cN, List.map_set]
theorem bst_start (w : World) (tg n : Nat) : Bst w w.heap.size (w.heap.size + 1 + 1) (w.heap.size + 1) tg n (List.replicate n 0)
    ((((w.alloc (.cells #[.int .i64 (tg : Int)] 3)).alloc (.cells (cN (List.replicate n 0)).toArray 3)).alloc (.cells #[.slice (some ⟨w.heap.size + 1, 0, none⟩) n n] 98)).alloc (.cells #[.int .i64 1] 3)) := by
  have e1 : (w.alloc (.cells #[.int .i64 (tg : Int)] 3)).heap.size = w.heap.size + 1 := by simp
  have e2 : ((w.alloc (.cells #[.int .i64 (tg : Int)] 3)).alloc (.cells (cN (List.replicate n 0)).toArray 3)).heap.size = w.heap.size + 1 + 1 := by simp
  have b1 := Blk.new (w.alloc (.cells #[.int .i64 (tg : Int)] 3)) (cN (List.replicate n 0)).toArray 3
  have b2 := Blk.new ((w.alloc (.cells #[.int .i64 (tg : Int)] 3)).alloc (.cells (cN (List.replicate n 0)).toArray 3)) #[.slice (some ⟨w.heap.size + 1, 0, none⟩) n n] 98
  rw [e1] at b1
  rw [e2] at b2
  exact ⟨(((Blk.new w _ _).alloc _).alloc _).alloc _, b2.alloc _, (b1.alloc _).alloc _, by simp, ((((Below.refl _ w).alloc (Nat.le_refl _) _).alloc (by simp) _).alloc (by simp; omega) _).alloc (by simp; omega) _, by omega, by omega⟩
theorem next_len {l : List Cd} (h : CsOk l) (i : Nat) : (nextOf l i).length ≤ 1000000 := by
  unfold nextOf
  split
  · next c hc =>
    split
    · simp
    · have h1 := (h c (List.mem_of_getElem? hc)).2.1
      have h2 := List.length_filterMap_le (plAt l) (names c)
      have h3 : (names c).length ≤ 0 + (cNm 20 c).length := foldT_len (cNm 20 c) []
      omega
  · simp
set_option maxRecDepth 100000 in
set_option maxHeartbeats 8000000 in
theorem back_any (S : Nat → Prop) (A : Option Addr) (ac : Nat) (l : List Cd) (mb mn tg : Nat) (w : World) (hls : Ls S w 15 224 Cd.tr A ac l) (hm : MP w mb mn (plAt l)) (hl : l.length ≤ 1000) (hok : CsOk l) :
    Calls Tryz.prog 68 #[.slice A l.length ac, .map (some mb), .int .i64 (tg : Int)] w fun e w' => Below w.heap.size w w' ∧ ∃ g, w.heap.size ≤ g ∧ e = .returned (.slice (some ⟨g, 0, none⟩) l.length l.length) ∧ (bk l tg).length = l.length ∧ Blk w' g (cN (bk l tg)).toArray 3 := by
  have hmk : ∀ w', (Instr.makeSlice 98 (.int .i64 (l.length : Int)) (.int .i64 (l.length : Int))).run Tryz.prog w' = .ok (.slice (some ⟨w'.heap.size, 0, none⟩) l.length l.length) (w'.alloc (.cells (cN (List.replicate l.length 0)).toArray 3)) := fun w' => make_cN _ (by omega) w'
  have HLS := Lib.hid hls
  have HM := Lib.hid hm
  have HOK := Lib.hid hok
  have HB0 : Hid (Bst w w.heap.size (w.heap.size + 1 + 1) (w.heap.size + 1) tg l.length (List.replicate l.length 0) ((((w.alloc (.cells #[.int .i64 (tg : Int)] 3)).alloc (.cells (cN (List.replicate l.length 0)).toArray 3)).alloc (.cells #[.slice (some ⟨w.heap.size + 1, 0, none⟩) l.length l.length] 98)).alloc (.cells #[.int .i64 1] 3))) := Lib.hid (bst_start w tg l.length)
  have HR0 : Hid (Blk ((((w.alloc (.cells #[.int .i64 (tg : Int)] 3)).alloc (.cells (cN (List.replicate l.length 0)).toArray 3)).alloc (.cells #[.slice (some ⟨w.heap.size + 1, 0, none⟩) l.length l.length] 98)).alloc (.cells #[.int .i64 1] 3)) (w.heap.size + 1 + 1 + 1) #[.int .i64 ((1 : Nat) : Int)] 3) := Lib.hid (by
    have := Blk.new (((w.alloc (.cells #[.int .i64 (tg : Int)] 3)).alloc (.cells (cN (List.replicate l.length 0)).toArray 3)).alloc (.cells #[.slice (some ⟨w.heap.size + 1, 0, none⟩) l.length l.length] 98)) #[.int .i64 1] 3
    rw [show (((w.alloc (.cells #[.int .i64 (tg : Int)] 3)).alloc (.cells (cN (List.replicate l.length 0)).toArray 3)).alloc (.cells #[.slice (some ⟨w.heap.size + 1, 0, none⟩) l.length l.length] 98)).heap.size = w.heap.size + 1 + 1 + 1 by simp] at this
    exact this)
  clear hls hm hok
  go_enter Tryz.func68, Tryz.ntmps68
  go_wp2_with fail
  go_loopg [8] l.length (fun g p wr => ∃ (r rb : Nat) (n : List Nat), r + g = l.length + 1 ∧ 1 ≤ r ∧ w.heap.size + 1 < rb ∧ p = .pointer (some ⟨rb, 0, none⟩) ∧ Hid (bk l tg = (((List.range l.length).map (· + 1)).drop (r - 1)).foldl (fun n r => bkRound l tg r n) n) ∧
    Hid (Bst w w.heap.size (w.heap.size + 1 + 1) (w.heap.size + 1) tg l.length n wr) ∧ Hid (Blk wr rb #[.int .i64 (r : Int)] 3))
  case atStart => exact ⟨1, _, _, by omega, by omega, by omega, rfl, Lib.hid rfl, HB0, HR0⟩
  case round =>
    obtain ⟨r, rb, n, hr, hr1, hrbg, rfl, HE, HB, HRB⟩ := hrel
    rename World => wo
    clear HB0 HR0
    have hrb := HRB.out.cell 0 (v := .int .i64 (r : Int)) rfl
    cases gk with
    | zero =>
      have hrr : ¬ ((r : Int) ≤ (l.length : Int)) := by omega
      have HEE : Hid (bk l tg = n) := Lib.hid (by rw [HE.out, List.drop_of_length_le (by simp; omega)]; rfl)
      have hnb := HB.out.nbx.cell 0 (v := .slice (some ⟨w.heap.size + 1, 0, none⟩) l.length l.length) rfl
      go_wp2_with fail
      go_ret
      rw [HEE.out]
      exact ⟨HB.out.be, w.heap.size + 1, by omega, rfl, HB.out.len, HB.out.row⟩
    | succ g =>
      have hrr : (r : Int) ≤ (l.length : Int) := by omega
      have HDR : Hid ((((List.range l.length).map (· + 1)).drop (r - 1)) = r :: (((List.range l.length).map (· + 1)).drop (r + 1 - 1))) := Lib.hid (by
        rw [show r + 1 - 1 = r - 1 + 1 by omega]
        refine drop_cons ?_
        rw [List.getElem?_map, List.getElem?_range (by omega)]
        simp; omega)
      go_wp2_with fail
      clear hrb
      go_loopg [22] l.length (fun g i wr => ∃ (j : Nat) (n2 : List Nat), j + g = l.length ∧ i = .int .i64 (j : Nat) ∧ Hid (bkRound l tg r n = ((List.range l.length).drop j).foldl (bkStep l tg r) n2) ∧ Hid (Bst w w.heap.size (w.heap.size + 1 + 1) (w.heap.size + 1) tg l.length n2 wr) ∧ Hid (Blk wr rb #[.int .i64 (r : Int)] 3))
      case atStart => exact ⟨0, n, by omega, rfl, Lib.hid rfl, HB, HRB⟩
      case round =>
        obtain ⟨j, n2, hj, rfl, HE2, HB2, HRB2⟩ := hrel
        rename World => wp
        clear HB HRB
        cases gk with
        | zero =>
          have hjj : ¬ ((j : Int) < (l.length : Int)) := by omega
          have hrb := HRB2.out.cell 0 (v := .int .i64 (r : Int)) rfl
          have hw1 : IntKind.i64.wrap ((r : Int) + 1) = (r : Int) + 1 := by rw [IntKind.wrap_i64]; omega
          have HE3 : Hid (bkRound l tg r n = n2) := Lib.hid (by rw [HE2.out, List.drop_of_length_le (by simp; omega)]; rfl)
          go_wp2_with fail
          go_roundg g
          case measure => omega
          case rel => exact ⟨r + 1, _, n2, by omega, by omega, by have := HB2.out.row.lt; omega, rfl, Lib.hid (by rw [HE.out, HDR.out, List.foldl_cons, HE3.out]), Lib.hid (HB2.out.below ((Below.refl _ wp).alloc (Nat.le_refl _) _)), Lib.hid ((Blk.new wp _ _).eq (by simp))⟩
        | succ g2 =>
          have hjj : (j : Int) < (l.length : Int) := by omega
          have HNX := Lib.hid (next_any S A ac l mb mn j wp (HLS.out.below HB2.out.be) (HM.out.below HB2.out.be) (by omega) HOK.out)
          have HNL := Lib.hid (fun k (hk : k ∈ nextOf l j) => next_lt hk)
          have HRNG : Hid ((List.range l.length).drop j = j :: (List.range l.length).drop (j + 1)) := Lib.hid (drop_cons (by rw [List.getElem?_range (by omega)]))
          have HLD : Hid (bkLeads l tg r n2 j = (nextOf l j).any fun k => (decide (r = 1) && decide (k = tg)) || (decide (1 < r) && decide (n2.getD k 0 = r - 1))) := Lib.hid rfl
          have HOL : Hid ((nextOf l j).length ≤ 1000000) := Lib.hid (next_len HOK.out j)
          obtain ⟨O, hO⟩ : ∃ O, O = nextOf l j := ⟨_, rfl⟩
          rw [← hO] at HNX HNL HLD HOL
          clear hO
          go_wp2_with fail
          refine HNX.out.mono ?_
          rintro e w3 ⟨OA, oc, rfl, hoo, hob⟩
          have hask : AskI rb w.heap.size (w.heap.size + 1 + 1) (fun k => (decide (r = 1) && decide (k = tg)) || (decide (1 < r) && decide (n2.getD k 0 = r - 1))) O w3 := fun k hk w' hb' => by
            have hb := hob.trans (hb'.mono hob.size)
            have hlen := HB2.out.len
            have hnb := (HB2.out.nbx.below hb)
            rw [← hlen] at hnb
            have hrd := Rd.ofblk (HB2.out.row.below hb) (by omega)
            exact bk1_any rb w.heap.size (w.heap.size + 1 + 1) r tg n2 _ _ k w' (HRB2.out.below hb) (HB2.out.tbx.below hb) hnb hrd (by rw [hlen]; exact HNL.out k hk) hr1 (by omega) (by omega)
          have HCF := Lib.hid (icontf_any rb w.heap.size (w.heap.size + 1 + 1) _ OA oc O w3 hoo.rd HOL.out hask)
          rw [← HLD.out] at HCF
          have HB3 := Lib.hid (HB2.out.below hob)
          have HRB3 := Lib.hid (HRB2.out.below hob)
          clear hoo hob hask HNX
          go_wp2_with fail
          refine HCF.out.mono ?_
          rintro e w4 ⟨rfl, hb4⟩
          have hb44 := HB3.out.below hb4
          have HB4 := Lib.hid hb44
          have HRB4 := Lib.hid (HRB3.out.below hb4)
          have hnb := hb44.nbx.cell 0 (v := .slice (some ⟨w.heap.size + 1, 0, none⟩) l.length l.length) rfl
          obtain ⟨z, hz⟩ := get_lt (l := n2) (i := j) (by rw [hb44.len]; omega)
          have hzc := hb44.row.cell j (v := .int .i64 (z : Int)) (by simp [cN, hz])
          have hzf := hb44.row.frozen j
          have hrb := HRB4.out.cell 0 (v := .int .i64 (r : Int)) rfl
          have hzg : n2.getD j 0 = z := by rw [List.getD_eq_getElem?_getD, hz]; rfl
          have HZ := Lib.hid hzg
          clear hb4 hb44 hz hzg HCF HB3 HRB3
          by_cases hc : z = 0 ∧ bkLeads l tg r n2 j = true
          · obtain ⟨h0, hld⟩ := hc
            subst h0
            have HST : Hid (bkStep l tg r n2 j = n2.set j r) := Lib.hid (by unfold bkStep; rw [if_pos ⟨HZ.out, hld⟩])
            rw [hld]
            go_wp2_with fail
            go_roundg g2
            case measure => omega
            case rel => exact ⟨j + 1, n2.set j r, by omega, by go_num, Lib.hid (by rw [HE2.out, HRNG.out, List.foldl_cons, HST.out]), Lib.hid (HB4.out.set j r), Lib.hid (HRB4.out.setOther _ _ (by show rb ≠ w.heap.size + 1; omega))⟩
          · have HST : Hid (bkStep l tg r n2 j = n2) := Lib.hid (by unfold bkStep; rw [if_neg (by rw [HZ.out]; exact hc)])
            by_cases h0 : z = 0
            · subst h0
              have hld : bkLeads l tg r n2 j = false := by
                cases hb : bkLeads l tg r n2 j with
                | false => rfl
                | true => exact absurd ⟨rfl, hb⟩ hc
              rw [hld]
              clear hc hld
              go_wp2_with fail
              go_roundg g2
              case measure => omega
              case rel => exact ⟨j + 1, n2, by omega, by go_num, Lib.hid (by rw [HE2.out, HRNG.out, List.foldl_cons, HST.out]), HB4, HRB4⟩
            · have ez : ((z : Int) == 0) = false := by simp; omega
              clear hc h0
              go_wp2_with fail
              go_roundg g2
              case measure => omega
              case rel => exact ⟨j + 1, n2, by omega, by go_num, Lib.hid (by rw [HE2.out, HRNG.out, List.foldl_cons, HST.out]), HB4, HRB4⟩
end Go.Proofs.YtmljdppdaaoehaaGreatDoor
namespace Go.Proofs.YtmljdppdaaoehaaGreatDoor
open Go.RowKit
set_option linter.unusedVariables false
set_option linter.unusedSimpArgs false

theorem nmAt_get {l : List Cd} {i : Nat} {c : Cd} (h : l[i]? = some c) : nmAt l i = c.name := by unfold nmAt; rw [h]; rfl
theorem plAt_isSome {l : List Cd} {i : Nat} {c : Cd} (h : l[i]? = some c) : ∃ q, plAt l c.name = some q := by
  cases hp : plAt l c.name with
  | some q => exact ⟨q, rfl⟩
  | none => exact absurd rfl (plAt_none hp c (List.mem_of_getElem? h))
def bInt (b : Option Nat) : Int := match b with | some k => (k : Int) | none => -1
theorem circAt_iff {l : List Cd} {i : Nat} {c : Cd} {q z : Nat} (hc : l[i]? = some c) (hq : plAt l c.name = some q) (hz : (bk l i).getD i 0 = z) : circAt l i = (decide (q = i) && decide (z ≠ 0)) := by
  unfold circAt
  rw [show (Option.map Cd.name l[i]?).getD ByteArray.empty = c.name by rw [hc]; rfl, hq, hz]
  simp
theorem getD_of {n : List Nat} {i z : Nat} (h : n[i]? = some z) : n.getD i 0 = z := by rw [List.getD_eq_getElem?_getD, h]; rfl
set_option maxRecDepth 100000 in
set_option maxHeartbeats 8000000 in
theorem circ_any (S : Nat → Prop) (A : Option Addr) (ac : Nat) (l : List Cd) (w : World) (hls : Ls S w 15 224 Cd.tr A ac l) (hl : l.length ≤ 1000) (hok : CsOk l) :
    Calls Tryz.prog 46 #[.slice A l.length ac] w (TextsOut (circ l) w) := by
  have HPL := Lib.hid (places_any S A ac l w hls)
  have HLS := Lib.hid hls
  have HOK := Lib.hid hok
  have hcap := hls.cap
  have HFI : Hid (∀ i, (List.range l.length).find? (circAt l) = some i → circ l = (i :: circGo l (bk l i) (l.length + 1) i).map (nmAt l)) := Lib.hid (fun i hi => by unfold circ circI; rw [hi])
  have HFN : Hid ((List.range l.length).find? (circAt l) = none → circ l = []) := Lib.hid (fun h => by unfold circ circI; rw [h]; rfl)
  clear hls hok
  go_enter Tryz.func46, Tryz.ntmps46
  go_wp2_with fail
  refine HPL.out.mono ?_
  rintro e w1 ⟨rfl, hmp, hb1⟩
  have HMP := Lib.hid hmp
  have HB1 := Lib.hid hb1
  have HLS1 := Lib.hid (HLS.out.below hb1)
  have hw1 := hb1.size
  clear hmp hb1 HPL
  go_wp2_with fail
  go_loopg [15, 2] l.length (fun g i v wr => ∃ (j : Nat), j + g = l.length ∧ i = .int .i64 (j : Nat) ∧ v = .slice none 0 0 ∧ Hid ((List.range l.length).find? (circAt l) = ((List.range l.length).drop j).find? (circAt l)) ∧ Hid (Below w1.heap.size w1 wr))
  case atStart => exact ⟨0, by omega, rfl, rfl, Lib.hid rfl, Lib.hid (Below.refl _ _)⟩
  case round =>
    obtain ⟨j, hj, rfl, rfl, HFD, HB⟩ := hrel
    rename World => wo
    cases gk with
    | zero =>
      have hjj : ¬ ((j : Int) < (l.length : Int)) := by omega
      have HE : Hid (circ l = []) := Lib.hid (HFN.out (by rw [HFD.out, List.drop_of_length_le (by simp; omega)]; rfl))
      go_wp2_with fail
      go_ret
      rw [HE.out]
      exact ⟨none, 0, rfl, Ow.nil _ _ _ _, HB1.out.trans (HB.out.mono hw1), by simp⟩
    | succ g =>
      have hjj : (j : Int) < (l.length : Int) := by omega
      obtain ⟨c, hc⟩ := get_lt (l := l) (i := j) (by omega)
      obtain ⟨ad, cs, rfl, hct, hcc⟩ := (HLS1.out.below HB.out).elem Cd.trlen hc
      obtain ⟨xs, ys, L, lc, rfl, hns, _, hxa, hxb, _⟩ := Cd.at_iff.1 hct
      obtain ⟨A1, n1, rfl, _⟩ := ex_cells hxa
      obtain ⟨B1, n2, rfl, _⟩ := ex_cells hxb
      obtain ⟨c0, c1, c2, c3, c4, c5, c6, c7, c8, c9, c10, c11, c12, c13, c14⟩ := cel15 hcc
      obtain ⟨q, hq⟩ := plAt_isSome hc
      have hbw : Below wo.heap.size wo (wo.alloc (.cells #[.string c.name, .int .i8 c.kind, .int .i8 c.a.kind, .string c.a.text, .int .i64 c.a.num, .string c.a.name, .string c.a.attr, .slice A1 c.a.l.length n1, .int .i8 c.b.kind, .string c.b.text, .int .i64 c.b.num, .string c.b.name, .string c.b.attr, .slice B1 c.b.l.length n2, .slice L c.l.length lc] 46)) := (Below.refl _ wo).alloc (Nat.le_refl _) _
      have hbc := HB.out.trans (hbw.mono HB.out.size)
      have HBK := Lib.hid (back_any S _ ac l w.heap.size l.length j _ (HLS1.out.below hbc) (HMP.out.below hbc) hl HOK.out)
      have HCB : Hid (Blk (wo.alloc (.cells #[.string c.name, .int .i8 c.kind, .int .i8 c.a.kind, .string c.a.text, .int .i64 c.a.num, .string c.a.name, .string c.a.attr, .slice A1 c.a.l.length n1, .int .i8 c.b.kind, .string c.b.text, .int .i64 c.b.num, .string c.b.name, .string c.b.attr, .slice B1 c.b.l.length n2, .slice L c.l.length lc] 46)) wo.heap.size #[.string c.name, .int .i8 c.kind, .int .i8 c.a.kind, .string c.a.text, .int .i64 c.a.num, .string c.a.name, .string c.a.attr, .slice A1 c.a.l.length n1, .int .i8 c.b.kind, .string c.b.text, .int .i64 c.b.num, .string c.b.name, .string c.b.attr, .slice B1 c.b.l.length n2, .slice L c.l.length lc] 46) := Lib.hid (Blk.new wo _ _)
      have HBC := Lib.hid hbc
      have HQ := Lib.hid hq
      have HC := Lib.hid hc
      have HRNG : Hid ((List.range l.length).drop j = j :: (List.range l.length).drop (j + 1)) := Lib.hid (drop_cons (by rw [List.getElem?_range (by omega)]))
      have hqi : q < l.length := plAt_lt hq
      clear hc hct hcc hxa hxb hq hbw hbc
      go_wp2_with fail
      refine HBK.out.mono ?_
      rintro e w3 ⟨hb3, gb, hgb, rfl, hnl, hrow⟩
      have hb13 := HBC.out.trans (hb3.mono HBC.out.size)
      have HB3 := Lib.hid hb13
      obtain ⟨z, hz⟩ := get_lt (l := bk l j) (i := j) (by omega)
      have hzc := hrow.cell j (v := .int .i64 (z : Int)) (by simp [cN, hz])
      have HZ := Lib.hid (getD_of hz)
      have hlk := (HMP.out.below hb13).look (d := c.name) (by unfold maxLen; omega)
      rw [HQ.out] at hlk
      have hnm := (HCB.out.below hb3).cell 0 (v := .string c.name) rfl
      have HCA := Lib.hid (circAt_iff HC.out HQ.out HZ.out)
      have HROW := Lib.hid hrow
      have HNL := Lib.hid hnl
      have hgb1 : w1.heap.size ≤ gb := Nat.le_trans HBC.out.size hgb
      clear hb3 hb13 hz hrow c0 c1 c2 c3 c4 c5 c6 c7 c8 c9 c10 c11 c12 c13 c14 hgb HBK HBC
      by_cases hcir : q = j ∧ z ≠ 0
      · obtain ⟨rfl, hz0⟩ := hcir
        have HFS : Hid (circ l = (q :: circGo l (bk l q) (l.length + 1) q).map (nmAt l)) := Lib.hid (HFI.out q (by
          have : circAt l q = true := by rw [HCA.out]; simp [hz0]
          rw [HFD.out, HRNG.out, List.find?_cons, this]))
        have HBKO := Lib.hid (bk_ok l q)
        have HBLE := Lib.hid (fun i => bk_le l q i)
        have hez : ((z : Int) == 0) = false := by simp; omega
        have HNMA : Hid (nmAt l q = c.name) := Lib.hid (nmAt_get HC.out)
        obtain ⟨nv, hnv⟩ : ∃ nv, nv = bk l q := ⟨_, rfl⟩
        rw [← hnv] at HFS HBKO HBLE HROW HNL
        have HRN := Lib.hid (Rd.lit w3 1 1 #[.string c.name] 9 (0, 0) rfl (by simp [maxLen]))
        have hw3 := HB3.out.size
        clear hnv HCA HFI HFN HFD HRNG hz0
        go_wp2_with (at_builtin; refine wpList_row info_str Tryz.underlying35 rfl (by omega) rfl (.tmp 37) (.tmp 40) rfl w1.heap.size none 0 0 [] rfl (Ow.nil _ _ _ _) (some ⟨w3.heap.size, 0, none⟩) 1 1 [.string c.name] rfl HRN.out (by simp [Value.oneCell']) (by omega) (by omega) (by simp; omega) ?_; intro A' c' w6 ho hg hat; have HO6 := Lib.hid ho; have HG6 := Lib.hid hg; clear ho hg hat)
        have hb6 : Below w1.heap.size w1 w6 := (HB3.out.alloc hw3 _).grown HG6.out (by simp; omega) (fun k hk => by cases hk)
        have hr6 := (HROW.out.alloc (.cells #[.string c.name] 9)).grown HG6.out (by simp)
        have HB6 := Lib.hid hb6
        have HR6 := Lib.hid hr6
        clear hb6 hr6 hzc hlk hnm
        go_loopg [7, 2] (l.length + 1) (fun f i v wr => ∃ (h : Nat) (OA : Option Addr) (oc : Nat) (O : List ByteArray), i = .int .i64 (h : Nat) ∧ v = .slice OA O.length oc ∧ h < l.length ∧ O.length + f ≤ l.length + 2 ∧ Hid (circ l = O ++ (circGo l nv f h).map (nmAt l)) ∧ Hid (nv.getD h 0 ≤ f) ∧
          Hid (Ow wr w1.heap.size 9 1 OA O.length oc (O.map .string)) ∧ Hid (Blk wr gb (cN nv).toArray 3) ∧ Hid (Below w1.heap.size w1 wr) ∧ Hid (∀ x ∈ O, x.size ≤ 140737488351232))
        case atStart => exact ⟨q, A', c', [c.name], rfl, by simp, hqi, by simp; omega, Lib.hid (by rw [HFS.out, List.map_cons, HNMA.out]; rfl), Lib.hid (Nat.le_trans (HBLE.out q) (by omega)), Lib.hid (by simpa using HO6.out), HR6, HB6, Lib.hid (by simpa using hns)⟩
        case round =>
          obtain ⟨h, OA, oc, O, rfl, rfl, hhl, hOf, HE, HF, HOW, HRW, HBW, HOS⟩ := hrel
          rename World => wp
          clear HFS HO6 HG6 HR6 HB6 HRN HROW HB3
          obtain ⟨zh, hzh⟩ := get_lt (l := nv) (i := h) (by have := HNL.out; omega)
          have hzc := HRW.out.cell h (v := .int .i64 (zh : Int)) (by simp [cN, hzh])
          have hzg := getD_of hzh
          have HZG := Lib.hid hzg
          clear hzh
          by_cases hgt : 1 < zh
          · have hgi : (1 : Int) < (zh : Int) := by omega
            cases gk with
            | zero => exact absurd HF.out (by rw [hzg]; omega)
            | succ f =>
              obtain ⟨kk, hbest, hkn, hk0, hklt⟩ := best_next HBKO.out (i := h) (by rw [hzg]; exact hgt)
              have hkl : kk < l.length := next_lt hkn
              have HGO : Hid (circGo l nv (f + 1) h = kk :: circGo l nv f kk) := Lib.hid (by simp only [circGo]; rw [if_pos (by rw [hzg]; exact hgt), hbest])
              have HKF : Hid (nv.getD kk 0 ≤ f) := Lib.hid (by have := HF.out; omega)
              have HBEST := Lib.hid hbest
              have HNX := Lib.hid (next_any S _ ac l w.heap.size l.length h wp (HLS1.out.below HBW.out) (HMP.out.below HBW.out) hhl HOK.out)
              have HNL2 := Lib.hid (fun k (hk : k ∈ nextOf l h) => next_lt hk)
              have HOL := next_len HOK.out h
              obtain ⟨ks, hks⟩ : ∃ ks, ks = nextOf l h := ⟨_, rfl⟩
              rw [← hks] at HNX HNL2 HOL HBEST
              clear hzg hbest hkn hk0 hklt hks
              go_wp2_with fail
              refine HNX.out.mono ?_
              rintro e w7 ⟨KA, kc, rfl, hko, hkb⟩
              have HKO := Lib.hid hko
              have HKB := Lib.hid hkb
              have hkcap := hko.cap
              have HR7 := Lib.hid (HRW.out.below hkb)
              have HO7 := Lib.hid (HOW.out.below hkb)
              have HB7 := Lib.hid (HBW.out.trans (hkb.mono HBW.out.size))
              clear hko hkb hzc HNX
              go_wp2_with fail
              go_loopg [53, 8] ks.length (fun g i v wr => ∃ (j3 : Nat) (b : Option Nat), j3 + g = ks.length ∧ i = .int .i64 (j3 : Nat) ∧ v = .int .i64 (bInt b) ∧ Hid (bestOf nv ks = (ks.drop j3).foldl (better nv) b) ∧ Hid (∀ x, b = some x → x < l.length) ∧ Hid (Below w7.heap.size w7 wr))
              case atStart => exact ⟨0, none, by omega, rfl, rfl, Lib.hid rfl, Lib.hid (by simp), Lib.hid (Below.refl _ _)⟩
              case round =>
                obtain ⟨j3, b, hj3, rfl, rfl, HBE, HBL, HBa⟩ := hrel
                rename World => wq
                cases gk with
                | zero =>
                  have hjj3 : ¬ ((j3 : Int) < (ks.length : Int)) := by omega
                  have HBB : Hid (b = some kk) := Lib.hid (by
                    have := HBE.out
                    rw [List.drop_of_length_le (by omega), HBEST.out] at this
                    exact this.symm)
                  have hbk2 : bInt b = (kk : Int) := by rw [HBB.out]; rfl
                  rw [hbk2]
                  have hkki : (kk : Int) < (l.length : Int) := by omega
                  obtain ⟨c2, hc2⟩ := get_lt (l := l) (i := kk) hkl
                  have hbq := HB7.out.trans (HBa.out.mono HB7.out.size)
                  obtain ⟨ad2, cs2, hA2, hct2, hcc2⟩ := (HLS1.out.below hbq).elem Cd.trlen hc2
                  injection hA2 with hA2
                  subst hA2
                  obtain ⟨_, _, d0, _, _, _, hnm2⟩ := cd_cel hct2 hcc2
                  have HNM2 : Hid (nmAt l kk = c2.name) := Lib.hid (nmAt_get hc2)
                  have HRN2 := Lib.hid (Rd.lit wq 1 1 #[.string c2.name] 9 (0, 0) rfl (by simp [maxLen]))
                  have HOQ := Lib.hid (HO7.out.below HBa.out)
                  have HRQ := Lib.hid (HR7.out.below HBa.out)
                  have hwq := hbq.size
                  have HBQ := Lib.hid hbq
                  clear hc2 hct2 hcc2 hbq hbk2
                  go_wp2_with (at_builtin; refine wpList_row info_str Tryz.underlying35 rfl (by omega) rfl (.tmp 80) (.tmp 86) rfl w1.heap.size OA oc O.length (O.map .string) rfl (HOQ.out.alloc _) (some ⟨wq.heap.size, 0, none⟩) 1 1 [.string c2.name] rfl HRN2.out (by simp [Value.oneCell']) (by omega) (by omega) (by simp; omega) ?_; intro A'' c'' w8 ho hg hat; have HO8 := Lib.hid ho; have HG8 := Lib.hid hg; clear ho hg hat)
                  go_roundg f
                  case measure => omega
                  case rel =>
                    refine ⟨kk, A'', c'', O ++ [c2.name], rfl, by simp, hkl, by simp; omega, Lib.hid (by rw [HE.out, HGO.out, List.map_cons, HNM2.out]; simp), HKF, Lib.hid (by simpa using HO8.out), Lib.hid ((HRQ.out.alloc _).grown HG8.out (HOQ.out.ne_blk HRQ.out (by decide))), Lib.hid ((HBQ.out.alloc hwq _).grown HG8.out (by simp; omega) (fun k hk => (HOQ.out.lt hk).1)), Lib.hid (fun x hx => ?_)⟩
                    rcases List.mem_append.1 hx with hx | hx
                    · exact HOS.out x hx
                    · rw [List.mem_singleton] at hx; subst hx; exact hnm2
                | succ g3 =>
                  have hjj3 : (j3 : Int) < (ks.length : Int) := by omega
                  obtain ⟨k, hk⟩ := get_lt (l := ks) (i := j3) (by omega)
                  obtain ⟨ka, rfl, hkc⟩ := (HKO.out.below HBa.out).rd.at_ j3 (.int .i64 (k : Int)) (by simp [cN, hk])
                  have hkl2 := HNL2.out k (List.mem_of_getElem? hk)
                  have hkki : (k : Int) < (l.length : Int) := by omega
                  obtain ⟨zk, hzk⟩ := get_lt (l := nv) (i := k) (by have := HNL.out; omega)
                  have hrq := HR7.out.below HBa.out
                  have hzkc := hrq.cell k (v := .int .i64 (zk : Int)) (by simp [cN, hzk])
                  have hzkg := getD_of hzk
                  have HDR : Hid (ks.drop j3 = k :: ks.drop (j3 + 1)) := Lib.hid (drop_cons hk)
                  have HBR : Hid (Below w7.heap.size w7 (wq.drewN 1)) := Lib.hid (HBa.out.trans ((below_drewN' _ _).mono HBa.out.size))
                  clear hk hzk
                  by_cases h0 : zk = 0
                  · have HBT : Hid (better nv b k = b) := Lib.hid (by unfold better; rw [if_neg (by rw [hzkg]; omega)])
                    subst h0
                    clear hzkg hrq
                    go_wp2_with fail
                    go_quiet (fail)
                    go_wp2_with fail
                    go_roundg g3
                    case measure => omega
                    case rel => exact ⟨j3 + 1, b, by omega, by go_num, rfl, Lib.hid (by rw [HBE.out, HDR.out, List.foldl_cons, HBT.out]), HBL, Lib.hid (HBa.out.trans ((below_drewN' _ _).mono HBa.out.size))⟩
                  · have h0i : (0 : Int) < (zk : Int) := by omega
                    have h0n : 0 < zk := by omega
                    have h0d : decide ((0 : Int) < (zk : Int)) = true := by simpa using h0n
                    cases b with
                    | none =>
                      have HBT : Hid (better nv none k = some k) := Lib.hid (by unfold better; rw [if_pos (by rw [hzkg]; omega)])
                      have hbi : bInt none = -1 := rfl
                      rw [hbi]
                      clear hzkg hrq h0
                      go_wp2_with fail
                      go_quiet (fail)
                      go_wp2_with fail
                      go_roundg g3
                      case measure => omega
                      case rel => exact ⟨j3 + 1, some k, by omega, by go_num, rfl, Lib.hid (by rw [HBE.out, HDR.out, List.foldl_cons, HBT.out]), Lib.hid (fun x hx => by injection hx with hx; omega), Lib.hid (HBa.out.trans ((below_drewN' _ _).mono HBa.out.size))⟩
                    | some x =>
                      have hxl := HBL.out x rfl
                      have hxi : (x : Int) < (l.length : Int) := by omega
                      have hxn : ¬ ((x : Int) < 0) := by omega
                      obtain ⟨zx, hzx⟩ := get_lt (l := nv) (i := x) (by have := HNL.out; omega)
                      have hzxc := hrq.cell x (v := .int .i64 (zx : Int)) (by simp [cN, hzx])
                      have hzxg := getD_of hzx
                      have hbi : bInt (some x) = (x : Int) := rfl
                      rw [hbi]
                      by_cases hlt : zk < zx
                      · have hlti : (zk : Int) < (zx : Int) := by omega
                        have HBT : Hid (better nv (some x) k = some k) := Lib.hid (by unfold better; rw [if_pos (by rw [hzkg]; omega)]; exact if_pos (by rw [hzkg, hzxg]; exact hlt))
                        clear hzkg hrq h0 hzx hzxg hlt hbi
                        go_wp2_with fail
                        go_quiet (fail)
                        go_wp2_with fail
                        go_roundg g3
                        case measure => omega
                        case rel => exact ⟨j3 + 1, some k, by omega, by go_num, rfl, Lib.hid (by rw [HBE.out, HDR.out, List.foldl_cons, HBT.out]), Lib.hid (fun x hx => by injection hx with hx; omega), Lib.hid (HBa.out.trans ((below_drewN' _ _).mono HBa.out.size))⟩
                      · have hlti : ¬ ((zk : Int) < (zx : Int)) := by omega
                        have HBT : Hid (better nv (some x) k = some x) := Lib.hid (by unfold better; rw [if_pos (by rw [hzkg]; omega)]; exact if_neg (by rw [hzkg, hzxg]; exact hlt))
                        clear hzkg hrq h0 hzx hzxg hlt hbi
                        go_wp2_with fail
                        go_quiet (fail)
                        go_wp2_with fail
                        go_roundg g3
                        case measure => omega
                        case rel => exact ⟨j3 + 1, some x, by omega, by go_num, rfl, Lib.hid (by rw [HBE.out, HDR.out, List.foldl_cons, HBT.out]), HBL, Lib.hid (HBa.out.trans ((below_drewN' _ _).mono HBa.out.size))⟩
          · have hgi : ¬ ((1 : Int) < (zh : Int)) := by omega
            have HEE : Hid (circ l = O) := Lib.hid (by
              rw [HE.out]
              cases gk with
              | zero => simp [circGo]
              | succ f => simp only [circGo]; rw [if_neg (by rw [hzg]; exact hgt)]; simp)
            clear hzg hgt
            go_wp2_with fail
            go_ret
            rw [HEE.out]
            exact ⟨OA, oc, rfl, HOW.out.le hw1, HB1.out.trans (HBW.out.mono hw1), HOS.out⟩
      · have HCF : Hid ((List.range l.length).find? (circAt l) = ((List.range l.length).drop (j + 1)).find? (circAt l)) := Lib.hid (by
          have : circAt l j = false := by
            rw [HCA.out]
            by_cases h1 : q = j
            · have h2 : z = 0 := by
                rcases Nat.eq_zero_or_pos z with h | h
                · exact h
                · exact absurd ⟨h1, by omega⟩ hcir
              simp [h2]
            · simp [h1]
          rw [HFD.out, HRNG.out, List.find?_cons, this])
        by_cases h1 : q = j
        · have h2 : z = 0 := by
            rcases Nat.eq_zero_or_pos z with h | h
            · exact h
            · exact absurd ⟨h1, by omega⟩ hcir
          subst h1 h2
          clear hcir
          go_wp2_with fail
          go_roundg g
          case measure => omega
          case rel => exact ⟨_, by omega, by go_num, rfl, HCF, HB3⟩
        · have e1 : ((q : Int) == (j : Int)) = false := by simp; omega
          clear hcir h1
          go_wp2_with fail
          go_roundg g
          case measure => omega
          case rel => exact ⟨j + 1, by omega, by go_num, rfl, HCF, HB3⟩
end Go.Proofs.YtmljdppdaaoehaaGreatDoor
