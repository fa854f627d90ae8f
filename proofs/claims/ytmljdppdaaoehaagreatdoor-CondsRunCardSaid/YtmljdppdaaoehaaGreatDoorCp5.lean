/- Conditions, plain laws: definitions more, of names that nobody has or uses. -/
import Derived.Test.YtmljdppdaaoehaaGreatDoorCp4
import Derived.Test.YtmljdppdaaoehaaGreatDoorCw1
namespace Go.Proofs.YtmljdppdaaoehaaGreatDoor
set_option linter.unusedVariables false
set_option linter.unusedSimpArgs false

/-- X: definitions of names that l neither has nor names -/
def Far (l X : List Cd) : Prop := ∀ x ∈ X, ∀ c ∈ l, x.name ≠ c.name ∧ x.name ∉ names c
theorem any_congr' {α : Type} {f g : α → Bool} : ∀ {l : List α}, (∀ x ∈ l, f x = g x) → l.any f = l.any g
  | [], _ => rfl
  | a :: l, h => by
    rw [List.any_cons, List.any_cons, h a (by simp), any_congr' (l := l) (fun x hx => h x (by simp [hx]))]
theorem pl_app_l {l X : List Cd} {s : ByteArray} (h : ∀ x ∈ X, x.name ≠ s) : plAt (l ++ X) s = plAt l s := by
  unfold plAt
  rw [List.findIdx?_append]
  have : X.findIdx? (fun c => bEq c.name s) = none := List.findIdx?_eq_none_iff.2 (fun x hx => bEq_ne (h x hx))
  rw [this]
  cases l.findIdx? (fun c => bEq c.name s) <;> rfl
theorem lk_app_l {l X : List Cd} {s : ByteArray} (h : ∀ x ∈ X, x.name ≠ s) : lk (l ++ X) s = lk l s := by
  unfold lk
  rw [List.find?_append]
  have : X.find? (fun c => bEq c.name s) = none := List.find?_eq_none.2 (fun x hx => by rw [bEq_ne (h x hx)]; simp)
  rw [this]
  cases l.find? (fun c => bEq c.name s) <;> rfl
theorem Far.name {l X : List Cd} (h : Far l X) {c : Cd} (hc : c ∈ l) : ∀ x ∈ X, x.name ≠ c.name := fun x hx => (h x hx c hc).1
theorem Far.nm {l X : List Cd} (h : Far l X) {c : Cd} (hc : c ∈ l) {s : ByteArray} (hs : s ∈ names c) : ∀ x ∈ X, x.name ≠ s := fun x hx e => (h x hx c hc).2 (e ▸ hs)
theorem lost_app {l X : List Cd} (hf : Far l X) {ns : List ByteArray} {c : Cd} (hc : c ∈ l) : isLost (l ++ X) ns c = isLost l ns c := by
  unfold isLost
  rw [any_congr' (l := names c) (fun s hs => by rw [pl_app_l (hf.nm hc hs)])]
theorem ckAt_app {l X : List Cd} (hf : Far l X) {ns : List ByteArray} {c : Cd} (hc : c ∈ l) (i : Nat) : ckAt (l ++ X) ns i c = ckAt l ns i c := by
  unfold ckAt
  rw [pl_app_l (hf.name hc), lost_app hf hc]
theorem ckGo_far {l X : List Cd} (hf : Far l X) {ns : List ByteArray} : ∀ (r : List Cd) (i : Nat), (∀ c ∈ r, c ∈ l) → ckGo (l ++ X) ns i r = ckGo l ns i r
  | [], _, _ => rfl
  | c :: r, i, h => by
    rw [ckGo, ckGo, ckAt_app hf (h c (by simp)), ckGo_far hf r (i + 1) (fun d hd => h d (by simp [hd]))]
theorem ckGo_append {l : List Cd} {ns : List ByteArray} : ∀ (r t : List Cd) (i : Nat), ckGo l ns i (r ++ t) = (ckGo l ns i r).or (ckGo l ns (i + r.length) t)
  | [], t, i => by simp [ckGo]
  | c :: r, t, i => by
    rw [List.cons_append, ckGo, ckGo, ckGo_append r t (i + 1), Option.or_assoc, List.length_cons, show i + 1 + r.length = i + (r.length + 1) by omega]
theorem fd_app {l X : List Cd} (hf : Far l X) : ∀ (m : Nat) (c : Cd), c ∈ l → (Fd (l ++ X) m c ↔ Fd l m c)
  | 0, _, _ => Iff.rfl
  | m + 1, c, hc => by
    have key : ∀ s ∈ names c, ∀ d, lk l s = some d → (Fd (l ++ X) m d ↔ Fd l m d) := fun s hs d hd => fd_app hf m d (List.mem_of_find?_eq_some hd)
    constructor
    · intro h s hs d hd
      exact (key s hs d hd).1 (h s hs d (by rw [lk_app_l (hf.nm hc hs)]; exact hd))
    · intro h s hs d hd
      rw [lk_app_l (hf.nm hc hs)] at hd
      exact (key s hs d hd).2 (h s hs d hd)
/-- the names that X uses are l's -/
def Onto (l X : List Cd) : Prop := ∀ x ∈ X, ∀ s ∈ names x, ∃ c ∈ l, c.name = s
theorem circ_app {l X : List Cd} (hf : Far l X) (ho : Onto l X) (hu : UqN (l ++ X)) (hk : ∀ c ∈ l ++ X, c.kind ≠ 4) : circ (l ++ X) = [] ↔ circ l = [] := by
  rw [circ_fd hu hk, circ_fd (List.pairwise_append.1 hu).1 (fun c hc => hk c (by simp [hc]))]
  constructor
  · rintro ⟨m, hm⟩
    exact ⟨m, fun c hc => (fd_app hf m c hc).1 (hm c (by simp [hc]))⟩
  · rintro ⟨m, hm⟩
    refine ⟨m + 1, fun c hc => ?_⟩
    rcases List.mem_append.1 hc with hc | hc
    · exact ((fd_app hf m c hc).2 (hm c hc)).succ
    · intro s hs d hd
      obtain ⟨c', hc', rfl⟩ := ho c hc s hs
      rw [lk_app_l (hf.name hc')] at hd
      have hdl := List.mem_of_find?_eq_some hd
      exact (fd_app hf m d hdl).2 (hm d hdl)
theorem ckGo_uq {l : List Cd} {ns : List ByteArray} (h : ckGo l ns 0 l = none) : UqN l ∧ ∀ c ∈ l, CdOk l ns c := by
  have h1 := (ckGo_iff l 0).1 h
  refine ⟨uq_iff.1 (fun i c hic => by have := (ckAt_iff.1 (h1 i c hic)).1; simpa using this), fun c hm => ?_⟩
  obtain ⟨i, hi, rfl⟩ := List.getElem_of_mem hm
  exact (ckAt_iff.1 (h1 i _ (List.getElem?_eq_getElem hi))).2
/-- conds.Check, with definitions more -/
theorem chk_app {l X : List Cd} {ns : List ByteArray} (hf : Far l X) (ho : Onto l X) (hl : (l ++ X).length ≤ 6) :
    csCheck (l ++ X) ns = match ckGo l ns 0 l with
      | some e => e
      | none => match ckGo (l ++ X) ns l.length X with
        | some e => e
        | none => if circ l = [] then 0 else 150 := by
  unfold csCheck
  rw [if_neg (by omega), ckGo_append, ckGo_far hf l 0 (fun c h => h), Nat.zero_add]
  cases h1 : ckGo l ns 0 l with
  | some e => rfl
  | none =>
    rw [Option.none_or]
    cases h2 : ckGo (l ++ X) ns l.length X with
    | some e => rfl
    | none =>
      have h3 : ckGo (l ++ X) ns 0 (l ++ X) = none := by
        rw [ckGo_append, ckGo_far hf l 0 (fun c h => h), h1, Nat.zero_add, h2]; rfl
      obtain ⟨hu, hok⟩ := ckGo_uq h3
      have := circ_app hf ho hu (fun c hc => (hok c hc).2.1)
      simp only
      by_cases hc : circ l = []
      · rw [if_pos hc, if_pos (this.2 hc)]
      · rw [if_neg hc, if_neg (fun e => hc (this.1 e))]
theorem chk_short {l X : List Cd} {ns : List ByteArray} (hl : (l ++ X).length ≤ 6) : csCheck l ns = match ckGo l ns 0 l with
      | some e => e
      | none => if circ l = [] then 0 else 150 := by
  unfold csCheck
  rw [if_neg (by rw [List.length_append] at hl; omega)]
  rfl
theorem evC_app {l X : List Cd} (hf : Far l X) (hs : ∀ c ∈ l, cShape 6 c = true) {ps : List Gv} {eq : Vl → Vl → Bool} : ∀ (K k j : Nat) (c : Cd), k ≤ j → cShape k c = true → (∀ x ∈ X, x.name ∉ cNm j c) → evC (l ++ X) ps eq K c = evC l ps eq K c
  | 0, _, _, _, _, _, _ => rfl
  | K + 1, 0, _, _, _, h, _ => by cases h
  | K + 1, k + 1, 0, _, hj, _, _ => by omega
  | K + 1, k + 1, j + 1, c, hj, h, hn => by
    rw [evC, evC]
    by_cases h0 : c.kind = 0
    · rw [if_pos h0, if_pos h0]
    · rw [if_neg h0, if_neg h0]
      by_cases h4 : c.kind = 4
      · rw [if_pos h4, if_pos h4]
        have hp : plAt (l ++ X) c.name = plAt l c.name := pl_app_l (fun x hx e => hn x hx (by unfold cNm; rw [if_pos h4, e]; simp))
        rw [hp]
        cases h1 : plAt l c.name with
        | none => rfl
        | some i =>
          obtain ⟨⟨d, h3, _⟩, _⟩ := plAt_some h1
          have h3' : (l ++ X)[i]? = some d := by rw [List.getElem?_append_left (plAt_lt h1)]; exact h3
          simp only [h3, h3']
          have hd := List.mem_of_getElem? h3
          exact evC_app hf hs K 6 20 d (by omega) (hs d hd) (fun x hx e => (hf x hx d hd).2 (mem_names.2 e))
      · rw [if_neg h4, if_neg h4]
        unfold cShape at h
        rw [if_neg h0, if_neg h4] at h
        simp only [Bool.and_eq_true] at h
        rw [allEv_congr (fun p hp => evC_app hf hs K k j p (by omega) (by
          have h3 := List.all_eq_true.1 h.2 p hp
          simp only [Bool.and_eq_true] at h3
          exact h3.2) (fun x hx e => hn x hx (by unfold cNm; rw [if_neg h4]; exact List.mem_flatMap.2 ⟨p, hp, e⟩)))]
theorem evC_in {l X : List Cd} (hf : Far l X) (hs : ∀ c ∈ l, cShape 6 c = true) {ps : List Gv} {eq : Vl → Vl → Bool} {K : Nat} {c : Cd} (hc : c ∈ l) : evC (l ++ X) ps eq K c = evC l ps eq K c :=
  evC_app hf hs K 6 20 c (by omega) (hs c hc) (fun x hx e => (hf x hx c hc).2 (mem_names.2 e))
theorem runEv_cong {l l' : List Cd} {ps : List Gv} {eq : Vl → Vl → Bool} {K : Nat} : ∀ {r : List Cd}, (∀ c ∈ r, evC l ps eq K c = evC l' ps eq K c) → runEv l ps eq K r = runEv l' ps eq K r
  | [], _ => rfl
  | c :: r, h => by rw [runEv, runEv, h c (by simp), runEv_cong (r := r) (fun d hd => h d (by simp [hd]))]
theorem runEv_app {l : List Cd} {ps : List Gv} {eq : Vl → Vl → Bool} {K : Nat} {t : List Cd} : ∀ {r : List Cd}, runEv l ps eq K (r ++ t) = (runEv l ps eq K r).bind fun o => (runEv l ps eq K t).map (o ++ ·)
  | [] => by simp [runEv]
  | c :: r => by
    simp only [List.cons_append, runEv]
    cases evC l ps eq K c with
    | none => rfl
    | some b =>
      simp only [runEv_app (r := r)]
      cases runEv l ps eq K r with
      | none => rfl
      | some m => cases runEv l ps eq K t <;> simp
/-- conds.Run, with definitions more that may be -/
theorem run_more {l X : List Cd} {ps : List Gv} {eq : Vl → Vl → Bool} {K : Nat} (hf : Far l X) (hc : csCheck l (gNames ps) = 0) :
    runEv (l ++ X) ps eq K (l ++ X) = (runEv l ps eq K l).bind fun o => (runEv (l ++ X) ps eq K X).map (o ++ ·) := by
  have hok := (chk_iff.1 hc).2.2.1
  rw [runEv_app, runEv_cong (l := l ++ X) (l' := l) (fun c h => evC_in hf (fun c hc => (hok c hc).2.2.1) h)]

/-! ### Not all, not some -/
def nmP (s : ByteArray) : Cd := ⟨s, 4, zE, zE, []⟩
def pt (nm : ByteArray) (k : Int) (l : List Cd) : Cd := ⟨nm, k, zE, zE, l⟩
def noN : ByteArray := ⟨#[]⟩
def x1N : ByteArray := ⟨#[88, 49]⟩
def x2N : ByteArray := ⟨#[88, 50]⟩
def x3N : ByteArray := ⟨#[88, 51]⟩
def x4N : ByteArray := ⟨#[88, 52]⟩
def notP (s : ByteArray) : Cd := pt noN 3 [nmP s]
def mX1 (s t : ByteArray) : Cd := pt x1N 3 [pt noN 1 [nmP s, nmP t]]
def mX2 (s t : ByteArray) : Cd := pt x2N 2 [notP s, notP t]
def mX3 (s t : ByteArray) : Cd := pt x3N 3 [pt noN 2 [nmP s, nmP t]]
def mX4 (s t : ByteArray) : Cd := pt x4N 1 [notP s, notP t]
def mX (s t : ByteArray) : List Cd := [mX1 s t, mX2 s t, mX3 s t, mX4 s t]
def addedN (s : ByteArray) : Bool := bEq s x1N || bEq s x2N || bEq s x3N || bEq s x4N
theorem zE_nothing : xNothing zE = true := by kernel_rfl
theorem noN_empty : bEq noN ByteArray.empty = true := by kernel_rfl
theorem mX_nm {s t : ByteArray} {x : Cd} (hx : x ∈ mX s t) : cNm 20 x = [s, t] := by
  simp only [mX, List.mem_cons, List.not_mem_nil, or_false] at hx
  rcases hx with rfl | rfl | rfl | rfl <;> rfl
theorem mX_ps {s t : ByteArray} {x : Cd} (hx : x ∈ mX s t) : cPs 20 x = [] := by
  simp only [mX, List.mem_cons, List.not_mem_nil, or_false] at hx
  rcases hx with rfl | rfl | rfl | rfl <;> rfl
theorem mX_shape {s t : ByteArray} (hs : bEq s ByteArray.empty = false) (ht : bEq t ByteArray.empty = false) {x : Cd} (hx : x ∈ mX s t) : cShape 6 x = true := by
  simp only [mX, List.mem_cons, List.not_mem_nil, or_false] at hx
  rcases hx with rfl | rfl | rfl | rfl <;>
    simp [cShape, mX1, mX2, mX3, mX4, pt, notP, nmP, zE_nothing, noN_empty, hs, ht]
theorem mX_name {s t : ByteArray} {x : Cd} (hx : x ∈ mX s t) : addedN x.name = true ∧ isName x.name = true ∧ x.kind ≠ 4 := by
  simp only [mX, List.mem_cons, List.not_mem_nil, or_false] at hx
  rcases hx with rfl | rfl | rfl | rfl <;> exact ⟨by kernel_rfl, by kernel_rfl, by simp [mX1, mX2, mX3, mX4, pt]⟩
theorem mX_uq (s t : ByteArray) : UqN (mX s t) := by
  unfold UqN mX
  simp only [List.pairwise_cons, List.mem_cons, List.not_mem_nil, or_false, forall_eq_or_imp, forall_eq, List.Pairwise.nil, and_true, false_imp_iff, implies_true]
  exact ⟨⟨show ¬ x1N = x2N by decide, show ¬ x1N = x3N by decide, show ¬ x1N = x4N by decide⟩, ⟨show ¬ x2N = x3N by decide, show ¬ x2N = x4N by decide⟩, show ¬ x3N = x4N by decide⟩
theorem isName_ne {s : ByteArray} (h : isName s = true) : bEq s ByteArray.empty = false := by
  refine bEq_ne (fun e => ?_)
  subst e
  revert h
  decide
theorem far_of {l X : List Cd} (h : ∀ c ∈ l, addedN c.name = false ∧ ∀ s ∈ names c, addedN s = false) (hX : ∀ x ∈ X, addedN x.name = true) : Far l X := fun x hx c hc =>
  ⟨fun e => (by have := (h c hc).1; rw [← e, hX x hx] at this; cases this), fun e => (by have := (h c hc).2 _ e; rw [hX x hx] at this; cases this)⟩
theorem uq_append {l X : List Cd} (hl : UqN l) (hX : UqN X) (hf : Far l X) : UqN (l ++ X) :=
  List.pairwise_append.2 ⟨hl, hX, fun c hc x hx e => (hf x hx c hc).1 e.symm⟩
theorem mX_ck {l : List Cd} {ns : List ByteArray} {s t : ByteArray} (hf : Far l (mX s t)) (hs : ∃ c ∈ l, c.name = s) (ht : ∃ c ∈ l, c.name = t) (h : ckGo l ns 0 l = none) : ckGo (l ++ mX s t) ns l.length (mX s t) = none := by
  obtain ⟨hu, hok⟩ := ckGo_uq h
  have hu2 := uq_append hu (mX_uq s t) hf
  obtain ⟨c, hc, rfl⟩ := hs
  obtain ⟨d, hd, rfl⟩ := ht
  refine (ckGo_iff _ _).2 (fun j x hj => ckAt_iff.2 ⟨uq_iff.2 hu2 _ x (by rw [List.getElem?_append_right (by omega), Nat.add_sub_cancel_left]; exact hj), ?_⟩)
  have hx := List.mem_of_getElem? hj
  obtain ⟨_, h1, h2⟩ := mX_name hx
  refine ⟨h1, h2, mX_shape (isName_ne (hok c hc).1) (isName_ne (hok d hd).1) hx, lost_iff.2 ⟨fun z hz => (by rw [mX_ps hx] at hz; cases hz), fun z hz => ?_⟩⟩
  rw [mX_nm hx] at hz
  have key : ∀ e ∈ l, ∃ b, lk (l ++ mX c.name d.name) e.name = some b := fun e he => ⟨e, (lk_some hu2).2 ⟨by simp [he], rfl⟩⟩
  rcases List.mem_cons.1 hz with rfl | hz
  · exact key c hc
  · rw [List.mem_singleton.1 hz]; exact key d hd
theorem mX_onto {l : List Cd} {s t : ByteArray} (hs : ∃ c ∈ l, c.name = s) (ht : ∃ c ∈ l, c.name = t) : Onto l (mX s t) := fun x hx z hz => by
  have hz := mem_names.1 hz
  rw [mX_nm hx] at hz
  rcases List.mem_cons.1 hz with rfl | hz
  · exact hs
  · rw [List.mem_singleton.1 hz]; exact ht
theorem morgan_chk {l : List Cd} {ns : List ByteArray} {s t : ByteArray} (hf : Far l (mX s t)) (hs : ∃ c ∈ l, c.name = s) (ht : ∃ c ∈ l, c.name = t) (hl : l.length ≤ 2) : csCheck (l ++ mX s t) ns = csCheck l ns := by
  have hl6 : (l ++ mX s t).length ≤ 6 := by rw [List.length_append]; show l.length + 4 ≤ 6; omega
  rw [chk_app hf (mX_onto hs ht) hl6, chk_short hl6]
  cases h : ckGo l ns 0 l with
  | some e => rfl
  | none => simp only [mX_ck hf hs ht h]
theorem nmP_ev {l : List Cd} {ps : List Gv} {eq : Vl → Vl → Bool} {K i : Nat} {c : Cd} (h1 : plAt l c.name = some i) (h2 : l[i]? = some c) : evC l ps eq (K + 1) (nmP c.name) = evC l ps eq K c := by
  rw [evC, if_neg (by show ¬ (4 : Int) = 0; decide), if_pos (show (nmP c.name).kind = 4 from rfl)]
  show (match plAt l c.name with | some i => _ | none => _) = _
  rw [h1]; simp only [h2]
theorem pt_ev {l : List Cd} {ps : List Gv} {eq : Vl → Vl → Bool} {K : Nat} {nm : ByteArray} {k : Int} {r : List Cd} (h0 : k ≠ 0) (h4 : k ≠ 4) : evC l ps eq (K + 1) (pt nm k r) = (allEv (evC l ps eq K) r).map (cntEv (pt nm k r)) := by
  rw [evC, if_neg (show ¬ (pt nm k r).kind = 0 from h0), if_neg (show ¬ (pt nm k r).kind = 4 from h4)]; rfl
theorem morgan_ev {l : List Cd} {ps : List Gv} {eq : Vl → Vl → Bool} {K : Nat} {s t : ByteArray} {x y : Bool} (h1 : evC l ps eq (K + 1) (nmP s) = some x) (h2 : evC l ps eq (K + 1) (nmP t) = some y) :
    runEv l ps eq (K + 3) (mX s t) = some [(x1N, !(x && y)), (x2N, !(x && y)), (x3N, !(x || y)), (x4N, !(x || y))] := by
  have hn : ∀ {s x}, evC l ps eq (K + 1) (nmP s) = some x → evC l ps eq (K + 2) (notP s) = some (!x) := fun {s x} h => by
    rw [notP, pt_ev (by decide) (by decide)]
    simp only [allEv, h]
    cases x <;> rfl
  have e1 : evC l ps eq (K + 3) (mX1 s t) = some (!(x && y)) := by
    rw [mX1, pt_ev (by decide) (by decide)]
    simp only [allEv]
    rw [pt_ev (by decide) (by decide)]
    simp only [allEv, h1, h2]
    cases x <;> cases y <;> rfl
  have e2 : evC l ps eq (K + 3) (mX2 s t) = some (!(x && y)) := by
    rw [mX2, pt_ev (by decide) (by decide)]
    simp only [allEv, hn h1, hn h2]
    cases x <;> cases y <;> rfl
  have e3 : evC l ps eq (K + 3) (mX3 s t) = some (!(x || y)) := by
    rw [mX3, pt_ev (by decide) (by decide)]
    simp only [allEv]
    rw [pt_ev (by decide) (by decide)]
    simp only [allEv, h1, h2]
    cases x <;> cases y <;> rfl
  have e4 : evC l ps eq (K + 3) (mX4 s t) = some (!(x || y)) := by
    rw [mX4, pt_ev (by decide) (by decide)]
    simp only [allEv, hn h1, hn h2]
    cases x <;> cases y <;> rfl
  simp only [mX, runEv, e1, e2, e3, e4]
  rfl
/-- what the two runs tell -/
theorem morgan_law {l : List Cd} {ps : List Gv} {i k : Nat} {c d : Cd} (hi : l[i]? = some c) (hk : l[k]? = some d) (hl : l.length ≤ 2) (hg : ∀ p ∈ ps, vSmall p.v)
    (hf : Far l (mX c.name d.name)) :
    ∃ K, (csCheck l (gNames ps) = 0 → ∀ e ∈ l, Dp l ps vSmall K e) ∧ (csCheck (l ++ mX c.name d.name) (gNames ps) = 0 → ∀ e ∈ l ++ mX c.name d.name, Dp (l ++ mX c.name d.name) ps vSmall K e) ∧
      (∀ n, runOf l ps vEq K = .inl n → n ≠ 0 ∧ runOf (l ++ mX c.name d.name) ps vEq K = .inl n) ∧
      (∀ w, runOf l ps vEq K = .inr w → w.length = l.length ∧ ∃ x y v, w[i]? = some (c.name, x) ∧ w[k]? = some (d.name, y) ∧ runOf (l ++ mX c.name d.name) ps vEq K = .inr v ∧ v.length = l.length + 4 ∧
        v[l.length]? = some (x1N, !(x && y)) ∧ v[l.length + 1]? = some (x2N, !(x && y)) ∧ v[l.length + 2]? = some (x3N, !(x || y)) ∧ v[l.length + 3]? = some (x4N, !(x || y))) := by
  have hck := morgan_chk (ns := gNames ps) hf ⟨c, List.mem_of_getElem? hi, rfl⟩ ⟨d, List.mem_of_getElem? hk, rfl⟩ hl
  by_cases h0 : csCheck l (gNames ps) = 0
  · obtain ⟨K1, hK1, hp1⟩ := chk_dp hg h0
    obtain ⟨K2, hK2, hp2⟩ := chk_dp hg (hck.trans h0)
    have hok := (chk_iff.1 h0).2.2.1
    have hsh : ∀ c ∈ l, cShape 6 c = true := fun c hc => (hok c hc).2.2.1
    have d1 : ∀ e ∈ l, Dp l ps vSmall (K1 + (K2 + 3)) e ∧ evC l ps vEq (K1 + (K2 + 3)) e = evC l ps vEq K1 e := fun e he => (hK1 e he).more _
    refine ⟨K1 + (K2 + 3), fun _ e he => (d1 e he).1, fun _ e he => by
      have := ((hK2 e he).more (eq := vEq) (K1 + 3)).1
      rwa [show K2 + (K1 + 3) = K1 + (K2 + 3) by omega] at this, fun n hn => ⟨runOf_inl hn, ?_⟩, fun w hw => ?_⟩
    · unfold runOf at hn ⊢
      rw [hck]
      rw [if_neg (by omega)] at hn ⊢
      rw [run_more hf h0]
      cases h1 : runEv l ps vEq (K1 + (K2 + 3)) l with
      | none => rw [h1] at hn; exact hn
      | some x => rw [h1] at hn; cases hn
    · obtain ⟨_, hr⟩ := runOf_inr.1 hw
      obtain ⟨hwl, hwg⟩ := runEv_get hr
      obtain ⟨x, hx, hwx⟩ := hwg i c hi
      obtain ⟨y, hy, hwy⟩ := hwg k d hk
      rw [(d1 c (List.mem_of_getElem? hi)).2, ← ((hK1 c (List.mem_of_getElem? hi)).more (K2)).2] at hx
      rw [(d1 d (List.mem_of_getElem? hk)).2, ← ((hK1 d (List.mem_of_getElem? hk)).more (K2)).2] at hy
      rw [← evC_in hf hsh (List.mem_of_getElem? hi)] at hx
      rw [← evC_in hf hsh (List.mem_of_getElem? hk)] at hy
      have app : ∀ {i : Nat} {c' : Cd}, l[i]? = some c' → plAt (l ++ mX c.name d.name) c'.name = some i ∧ (l ++ mX c.name d.name)[i]? = some c' := fun {i c'} h => by
        have h2 : (l ++ mX c.name d.name)[i]? = some c' := by rw [List.getElem?_append_left (List.getElem?_eq_some_iff.1 h).1]; exact h
        exact ⟨hp2 i c' h2, h2⟩
      have g1 := nmP_ev (ps := ps) (eq := vEq) (K := K1 + K2) (app hi).1 (app hi).2
      have g2 := nmP_ev (ps := ps) (eq := vEq) (K := K1 + K2) (app hk).1 (app hk).2
      rw [hx] at g1
      rw [hy] at g2
      have hm := morgan_ev g1 g2
      have hall := run_more (eq := vEq) (K := K1 + (K2 + 3)) hf h0
      rw [hr] at hall
      rw [show K1 + (K2 + 3) = K1 + K2 + 3 by omega] at hall ⊢
      rw [hm] at hall
      refine ⟨hwl, x, y, _, hwx, hwy, runOf_inr.2 ⟨hck.trans h0, hall⟩, by simp [hwl], ?_, ?_, ?_, ?_⟩ <;>
        (rw [List.getElem?_append_right (by omega), hwl]; simp)
  · refine ⟨0, fun h => absurd h h0, fun h => absurd (hck.symm.trans h) h0, fun n hn => ⟨runOf_inl hn, ?_⟩, fun w hw => absurd (runOf_inr.1 hw).1 h0⟩
    unfold runOf at hn ⊢
    rw [hck]
    rw [if_pos h0] at hn ⊢
    exact hn
/-! ### A condition more -/
def eqX (s t : ByteArray) : Cd := ⟨x1N, 0, ⟨0, s, 0, ⟨#[]⟩, ⟨#[]⟩, []⟩, ⟨0, t, 0, ⟨#[]⟩, ⟨#[]⟩, []⟩, []⟩
theorem xPlain_txt (s : ByteArray) : xPlain ⟨0, s, 0, ⟨#[]⟩, ⟨#[]⟩, []⟩ = Lib.validD s.data.toList := by
  have : xOnly ⟨0, ByteArray.empty, 0, ⟨#[]⟩, ⟨#[]⟩, []⟩ = true := by kernel_rfl
  unfold xPlain
  rw [if_pos rfl]
  show (xOnly ⟨0, ByteArray.empty, 0, ⟨#[]⟩, ⟨#[]⟩, []⟩ && _) = _
  rw [this]; rfl
theorem bEq_comm' (s t : ByteArray) : bEq s t = bEq t s := by
  by_cases h : s = t
  · rw [h]
  · rw [bEq_ne h, bEq_ne (fun e => h e.symm)]
theorem cmpB_zero : ∀ (a b : List UInt8), Lib.compareBytes a b = 0 ↔ a = b
  | [], [] => by simp [Lib.compareBytes]
  | [], _ :: _ => by simp [Lib.compareBytes]
  | _ :: _, [] => by simp [Lib.compareBytes]
  | a :: x, b :: y => by
    unfold Lib.compareBytes
    split
    · next h => constructor
                · intro e; cases e
                · intro e; injection e with e1 e2; subst e1; exact absurd h (by simp)
    · split
      · next h1 h => constructor
                     · intro e; cases e
                     · intro e; injection e with e1 e2; subst e1; exact absurd h (by simp)
      · next h1 h2 =>
        rw [cmpB_zero x y]
        have hab : a = b := by
          rcases Nat.lt_trichotomy a.toNat b.toNat with h | h | h
          · exact absurd (UInt8.lt_iff_toNat_lt.2 h) h1
          · exact UInt8.toNat_inj.1 h
          · exact absurd (UInt8.lt_iff_toNat_lt.2 h) h2
        rw [hab]; simp
theorem vEq_txt {s t : ByteArray} (hs : Lib.validD s.data.toList = true) (ht : Lib.validD t.data.toList = true) : vEq (txtV s) (txtV t) = decide (s = t) := by
  have hc : ∀ {s : ByteArray}, Lib.validD s.data.toList = true → vChk (txtV s) = 0 := fun {s} h => by
    have h1 : vDepth 24 (txtV s) = 1 := rfl
    have h2 : vWalk 24 (txtV s) = [txtV s] := rfl
    have h3 : vAlone (txtV s) = 0 := by
      have e : rBad (txtV s) = false := rfl
      unfold vAlone
      rw [if_neg (by show ¬ ¬ (0 ≤ (3 : Int) ∧ (3 : Int) ≤ 5); decide), if_neg (by show ¬ ((3 : Int) = 5 ∧ (0 : Nat) ≠ 0); decide), e, if_neg (by decide)]
      unfold vWrong
      rw [if_neg (by show ¬ ((0 : Int) < -9007199254740992 ∨ 9007199254740992 < (0 : Int)); decide)]
      rw [show (txtV s).text = s from rfl, h]
      rfl
    unfold vChk
    rw [h1, h2, if_neg (by omega), List.find?_cons, h3]
    rfl
  unfold vEq vBoth
  rw [if_neg (by rw [hc hs, hc ht]; simp)]
  have h1 : vSort 24 (txtV s) = txtV s := rfl
  have h2 : vSort 24 (txtV t) = txtV t := rfl
  rw [h1, h2]
  have h4 : vHead (txtV s) (txtV t) = Lib.compareBytes s.data.toList t.data.toList := by
    unfold vHead firstNZ
    show (([0, 0, 0, Lib.compareBytes s.data.toList t.data.toList] : List Int).find? (fun x => decide (x ≠ 0))).getD 0 = _
    by_cases hz : Lib.compareBytes s.data.toList t.data.toList = 0
    · rw [hz]; rfl
    · simp [hz]
  have h5 : vCmp 24 (txtV s) (txtV t) = Lib.compareBytes s.data.toList t.data.toList := by
    show (if vHead (txtV s) (txtV t) ≠ 0 then vHead (txtV s) (txtV t) else vTail (vCmp 23) (txtV s) (txtV t)) = _
    rw [h4]
    split
    · rfl
    · next h => rw [show Lib.compareBytes s.data.toList t.data.toList = 0 by simpa using h]; rfl
  simp only [h5, Bool.true_and]
  rw [Bool.eq_iff_iff, decide_eq_true_iff, decide_eq_true_iff, cmpB_zero]
  exact ⟨fun h => ba_ext h, fun h => by rw [h]⟩
theorem more_ck {l : List Cd} {ns : List ByteArray} {s t : ByteArray} (hf : Far l [eqX s t]) (h : ckGo l ns 0 l = none) : ckGo (l ++ [eqX s t]) ns l.length [eqX s t] = if (Lib.validD s.data.toList && Lib.validD t.data.toList) = true then none else some 150 := by
  obtain ⟨hu, hok⟩ := ckGo_uq h
  have hu2 : UqN (l ++ [eqX s t]) := uq_append hu (List.pairwise_singleton _ _) hf
  have hp : plAt (l ++ [eqX s t]) (eqX s t).name = some l.length := uq_iff.2 hu2 _ (eqX s t) (by rw [List.getElem?_append_right (by omega)]; simp)
  have hsh : cShape 6 (eqX s t) = (Lib.validD s.data.toList && Lib.validD t.data.toList) := by
    show (if (0 : Int) = 0 then _ else _) = _
    rw [if_pos rfl]
    show (decide (0 = 0) && (xPlain ⟨0, s, 0, ⟨#[]⟩, ⟨#[]⟩, []⟩ && xPlain ⟨0, t, 0, ⟨#[]⟩, ⟨#[]⟩, []⟩)) = _
    rw [xPlain_txt, xPlain_txt]
    simp
  have hlost : isLost (l ++ [eqX s t]) ns (eqX s t) = false := lost_iff.2 ⟨fun z hz => (by cases (show z ∈ ([] : List ByteArray) from hz)), fun z hz => (by cases (show z ∈ ([] : List ByteArray) from hz))⟩
  have hnm : isName (eqX s t).name = true := by
    show isName x1N = true
    kernel_rfl
  unfold ckGo
  unfold ckAt
  rw [if_neg (by simpa using hp), if_neg (by rw [hnm]; simp), if_neg (by show ¬ (0 : Int) = 4; decide), hsh, hlost]
  cases Lib.validD s.data.toList && Lib.validD t.data.toList with
  | true => rfl
  | false => rfl
theorem more_law {l : List Cd} {ps : List Gv} {s t : ByteArray} (hl : l.length ≤ 5) (hg : ∀ p ∈ ps, vSmall p.v) (hf : Far l [eqX s t]) :
    ∃ K, (csCheck l (gNames ps) = 0 → ∀ e ∈ l, Dp l ps vSmall K e) ∧ (csCheck (l ++ [eqX s t]) (gNames ps) = 0 → ∀ e ∈ l ++ [eqX s t], Dp (l ++ [eqX s t]) ps vSmall K e) ∧
      (∀ n, runOf l ps vEq K = .inl n → n ≠ 0 ∧ runOf (l ++ [eqX s t]) ps vEq K = .inl n) ∧
      (∀ a, runOf l ps vEq K = .inr a → a.length = l.length ∧ ((∃ n, n ≠ 0 ∧ runOf (l ++ [eqX s t]) ps vEq K = .inl n) ∨ runOf (l ++ [eqX s t]) ps vEq K = .inr (a ++ [(x1N, decide (s = t))]))) := by
  have hl6 : (l ++ [eqX s t]).length ≤ 6 := by simp; omega
  have ho : Onto l [eqX s t] := fun x hx z hz => by
    rw [List.mem_singleton.1 hx] at hz
    cases (show z ∈ ([] : List ByteArray) from hz)
  have hck := chk_app (ns := gNames ps) hf ho hl6
  have hcs := chk_short (X := [eqX s t]) (ns := gNames ps) hl6
  have hck2 : csCheck l (gNames ps) ≠ 0 → csCheck (l ++ [eqX s t]) (gNames ps) = csCheck l (gNames ps) := fun hne => by
    cases h1 : ckGo l (gNames ps) 0 l with
    | some e => rw [h1] at hck hcs; rw [hck, hcs]
    | none =>
      rw [h1] at hck hcs
      simp only [more_ck hf h1] at hck hcs
      rw [hcs] at hne
      rw [hck, hcs]
      by_cases hc : circ l = []
      · rw [if_pos hc] at hne; exact absurd rfl hne
      · rw [if_neg hc]; cases (Lib.validD s.data.toList && Lib.validD t.data.toList) <;> rfl
  by_cases h0 : csCheck l (gNames ps) = 0
  · have h1 : ckGo l (gNames ps) 0 l = none := by
      cases h1 : ckGo l (gNames ps) 0 l with
      | none => rfl
      | some e =>
        have := (chk_iff.1 h0)
        have h2 : ckGo l (gNames ps) 0 l = none := (ckGo_iff l 0).2 (fun j c hj => ckAt_iff.2 ⟨by
          rw [Nat.zero_add]; exact uq_iff.2 this.2.1 j c hj, this.2.2.1 c (List.mem_of_getElem? hj)⟩)
        rw [h1] at h2; cases h2
    rw [h1] at hck hcs
    simp only [more_ck hf h1] at hck hcs
    have hcirc : circ l = [] := by
      by_cases hc : circ l = []
      · exact hc
      · rw [if_neg hc] at hcs; omega
    rw [if_pos hcirc] at hck
    obtain ⟨K1, hK1, hp1⟩ := chk_dp hg h0
    have d1 : ∀ (j : Nat), ∀ e ∈ l, Dp l ps vSmall (K1 + j) e := fun j e he => ((hK1 e he).more (eq := vEq) _).1
    cases hv : Lib.validD s.data.toList && Lib.validD t.data.toList with
    | false =>
      rw [hv] at hck
      have hck : csCheck (l ++ [eqX s t]) (gNames ps) = 150 := hck
      have hbad : ∀ K, runOf (l ++ [eqX s t]) ps vEq K = .inl 150 := fun K => by
        unfold runOf
        rw [hck]; rfl
      refine ⟨K1, fun _ => hK1, fun h => (by omega), fun n hn => ⟨runOf_inl hn, ?_⟩, fun a ha => ⟨(runEv_get (runOf_inr.1 ha).2).1, .inl ⟨150, by omega, hbad _⟩⟩⟩
      rw [hbad]
      unfold runOf at hn
      rw [if_neg (by omega)] at hn
      split at hn
      · exact hn
      · cases hn
    | true =>
      rw [hv] at hck
      have hck : csCheck (l ++ [eqX s t]) (gNames ps) = 0 := hck
      rw [Bool.and_eq_true] at hv
      obtain ⟨K2, hK2, hp2⟩ := chk_dp hg hck
      have hev : ∀ K, evC (l ++ [eqX s t]) ps vEq (K + 1) (eqX s t) = some (decide (s = t)) := fun K => by
        rw [evC, if_pos (show (eqX s t).kind = 0 from rfl)]
        unfold eqEv
        have hp : ∀ {s : ByteArray}, Lib.validD s.data.toList = true → plainG ⟨0, s, 0, ⟨#[]⟩, ⟨#[]⟩, []⟩ ps = some ⟨ByteArray.empty, false, txtV s⟩ := fun {s} h => by
          unfold plainG
          rw [xPlain_txt, h, if_neg (by simp), if_pos rfl]
        show (match plainG ⟨0, s, 0, ⟨#[]⟩, ⟨#[]⟩, []⟩ ps, plainG ⟨0, t, 0, ⟨#[]⟩, ⟨#[]⟩, []⟩ ps with | some x, some y => _ | _, _ => _) = _
        rw [hp hv.1, hp hv.2]
        show some (vEq (txtV s) (txtV t)) = _
        rw [vEq_txt hv.1 hv.2]
      refine ⟨K1 + (K2 + 1), fun _ => d1 _, fun _ e he => by
        have := ((hK2 e he).more (eq := vEq) (K1 + 1)).1
        rwa [show K2 + (K1 + 1) = K1 + (K2 + 1) by omega] at this, fun n hn => ⟨runOf_inl hn, ?_⟩, fun a ha => ⟨(runEv_get (runOf_inr.1 ha).2).1, .inr ?_⟩⟩
      · unfold runOf at hn ⊢
        rw [if_neg (by omega)] at hn ⊢
        rw [run_more hf h0]
        cases h1 : runEv l ps vEq (K1 + (K2 + 1)) l with
        | none => rw [h1] at hn; exact hn
        | some x => rw [h1] at hn; cases hn
      · refine runOf_inr.2 ⟨hck, ?_⟩
        rw [run_more hf h0, (runOf_inr.1 ha).2]
        show (runEv (l ++ [eqX s t]) ps vEq (K1 + (K2 + 1)) [eqX s t]).map (a ++ ·) = _
        unfold runEv
        rw [show K1 + (K2 + 1) = (K1 + K2) + 1 by omega, hev]
        rfl
  · refine ⟨0, fun h => absurd h h0, fun h => absurd ((hck2 h0).symm.trans h) h0, fun n hn => ⟨runOf_inl hn, ?_⟩, fun w hw => absurd (runOf_inr.1 hw).1 h0⟩
    unfold runOf at hn ⊢
    rw [hck2 h0]
    rw [if_pos h0] at hn ⊢
    exact hn
end Go.Proofs.YtmljdppdaaoehaaGreatDoor
