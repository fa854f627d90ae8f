/- The statements' own functions: ref, great, wakes. -/
/- CondsCircle: the walk. -/
import Derived.Test.YtmljdppdaaoehaaGreatDoorCp1
import Derived.Test.YtmljdppdaaoehaaGreatDoorCn10
import Derived.Test.YtmljdppdaaoehaaGreatDoorGtCond
namespace Go.Proofs.YtmljdppdaaoehaaGreatDoor
open Go.RowKit
set_option linter.unusedVariables false
set_option linter.unusedSimpArgs false

theorem Rd.blk {w : World} {sz n q : Nat} {cs : Array Value} {t : TypeId} (h : Blk w q cs t) (hn : cs.size = n * sz) (hm : n ≤ maxLen) : Rd w sz (some ⟨q, 0, none⟩) n n cs.toList :=
  ⟨by simpa using hn, Nat.le_refl _, hm, fun j u hu => ⟨_, rfl, by
    rw [add_plain, Nat.zero_add]
    exact Blk.cell h j (by simpa using hu)⟩⟩
theorem Ls.blk_ {α : Type} {tr : α → List Tr} {S : Nat → Prop} {w : World} {sz b q : Nat} {cs : Array Value} {t : TypeId} {l : List α} (h : Blk w q cs t) (h0 : 0 < sz) (hn : cs.size = l.length * sz) (hm : l.length ≤ maxLen) (hb : l.length * b ≤ 140737488351232) (hS : S q) (ht : Trs.at S w (l.flatMap tr) cs.toList) : Ls S w sz b tr (some ⟨q, 0, none⟩) l.length l :=
  ⟨h0, hb, Nat.le_refl _, hm, fun ad e _ => by injection e with e; subst e; exact hS, _, Rd.blk h hn hm, ht⟩
theorem yesL_get : ∀ (r : List (ByteArray × Bool)) (i j : Nat) (x : ByteArray × Bool), r[i]? = some x → j < 8 → (yesL r)[i * 8 + j]? = (yes x.1 x.2)[j]?
  | [], i, j, x, h, _ => by cases h
  | y :: r, 0, j, x, h, hj => by
    simp only [List.getElem?_cons_zero, Option.some.injEq] at h
    subst h
    unfold yesL
    rw [List.flatMap_cons, Nat.zero_mul, Nat.zero_add, List.getElem?_append_left (by simpa [yes] using hj)]
  | y :: r, i + 1, j, x, h, hj => by
    have ih := yesL_get r i j x (by simpa using h) hj
    unfold yesL at ih ⊢
    rw [List.flatMap_cons, List.getElem?_append_right (by simp [yes]; omega), ← ih]
    congr 1
    simp [yes]; omega
theorem yes_cel {w : World} {A : Option Addr} {n c : Nat} {r : List (ByteArray × Bool)} (h : Rd w 8 A n c (yesL r)) {i : Nat} {x : ByteArray × Bool} (hx : r[i]? = some x) : ∃ ad, A = some ad ∧ Cel w (ad.add (i * 8)) (yes x.1 x.2) := by
  obtain ⟨ad, rfl, _⟩ := h.at_ (i * 8 + 0) _ (yesL_get r i 0 x hx (by omega))
  refine ⟨ad, rfl, fun j u hu => ?_⟩
  have hj : j < 8 := by
    have := (List.getElem?_eq_some_iff.1 hu).1
    simpa [yes] using this
  obtain ⟨ad', e, h2⟩ := h.at_ (i * 8 + j) u (by rw [yesL_get r i j x hx hj]; exact hu)
  injection e with e; subst e
  by_cases hj0 : j = 0
  · subst hj0; simpa using h2
  · rw [if_neg hj0]
    have e2 : ad.add (i * 8 + j) = ⟨(ad.add (i * 8)).block, (ad.add (i * 8)).off + j, none⟩ := by
      unfold Addr.add
      rw [if_neg (by omega)]
      split
      · next e0 => simp [e0]
      · simp [Nat.add_assoc]
    rw [← e2]; exact h2
set_option maxRecDepth 100000 in
theorem ref_any (s : ByteArray) (w : World) : Calls Tryz.prog 18 #[.string s] w (ValOut #[.int .i8 3, .string ⟨#[]⟩, .int .i64 0, .string s, .string ⟨#[]⟩, .slice none 0 0] w) := by
  go_enter Tryz.func18, Tryz.ntmps18
  go_wp2_with fail
  exact bodyPost_ret (v := .agg #[.int .i8 3, .string ⟨#[]⟩, .int .i64 0, .string s, .string ⟨#[]⟩, .slice none 0 0]) (by simp [results, Tryz.results18, go_sem]; try rfl) rfl ⟨rfl, (Below.refl _ w).alloc (Nat.le_refl _) _⟩
def zE : Ex := ⟨0, ⟨#[]⟩, 0, ⟨#[]⟩, ⟨#[]⟩, []⟩
def wkA : Cd := ⟨⟨#[65]⟩, 0, ⟨3, ⟨#[]⟩, 0, ⟨#[80]⟩, ⟨#[]⟩, []⟩, ⟨0, ⟨#[120]⟩, 0, ⟨#[]⟩, ⟨#[]⟩, []⟩, []⟩
def wkN : Cd := ⟨⟨#[65]⟩, 4, zE, zE, []⟩
def wkB : Cd := ⟨⟨#[66]⟩, 3, zE, zE, [wkN]⟩
def wkP : Gv := ⟨⟨#[80]⟩, false, ⟨3, false, 0, ⟨#[120]⟩, [], []⟩⟩
theorem wk_run : runOf [wkA, wkB] [wkP] vEq 3 = .inr [(⟨#[65]⟩, true), (⟨#[66]⟩, false)] := by kernel_rfl
theorem wk_great : csGreat [wkA, wkB] = false := by kernel_rfl
theorem wk_dp : ∀ c ∈ [wkA, wkB], Dp [wkA, wkB] [wkP] vSmall 3 c := by
  have h1 : Dp [wkA, wkB] [wkP] vSmall 1 wkA := ⟨fun _ => ⟨_, _, rfl, rfl, txtV_small _, txtV_small _⟩, fun e => absurd e (by decide), fun e => absurd rfl e⟩
  have h2 : Dp [wkA, wkB] [wkP] vSmall 2 wkN := ⟨fun e => absurd e (by decide), fun _ => ⟨0, wkA, by kernel_rfl, rfl, h1⟩, fun _ e => absurd rfl e⟩
  have h3 : Dp [wkA, wkB] [wkP] vSmall 3 wkB := ⟨fun e => absurd e (by decide), fun e => absurd e (by decide), fun _ _ => ⟨.inr (.inr rfl), fun p hp => by
    rw [show p = wkN from List.mem_singleton.1 hp]; exact h2⟩⟩
  intro c hc
  rcases List.mem_cons.1 hc with rfl | hc
  · exact (h1.more (eq := vEq) 2).1
  · rw [List.mem_singleton.1 hc]; exact h3
theorem ex_lit {S : Nat → Prop} {w : World} (k : Int) (t n : ByteArray) (h : (Lit.int .i8 k).wf = true) (ht : t.size ≤ 1000) (hn : n.size ≤ 1000) : Trs.at S w (Ex.tr ⟨k, t, 0, n, ⟨#[]⟩, []⟩) [.int .i8 k, .string t, .int .i64 0, .string n, .string ⟨#[]⟩, .slice none 0 0] :=
  Ex.at_iff.2 ⟨none, 0, rfl, h, by show (Lit.int .i64 0).wf = true; decide, by show t.size ≤ _; omega, by show n.size ≤ _; omega, by show (⟨#[]⟩ : ByteArray).size ≤ _; decide, Ls.nil _ _ _ _ (by omega) _⟩
def eL (k : Int) (t n : ByteArray) : List Value := [.int .i8 k, .string t, .int .i64 0, .string n, .string ⟨#[]⟩, .slice none 0 0]
theorem cd_lit {S : Nat → Prop} {w : World} (nm : ByteArray) (k : Int) (a b : Ex) (l : List Cd) (xs ys : List Value) (A : Option Addr) (c : Nat) (hn : nm.size ≤ 1000) (hk : (Lit.int .i8 k).wf = true) (ha : Trs.at S w a.tr xs) (hb : Trs.at S w b.tr ys) (hl : Ls S w 15 224 Cd.tr A c l) : Trs.at S w (Cd.tr ⟨nm, k, a, b, l⟩) (.string nm :: .int .i8 k :: (xs ++ (ys ++ [.slice A l.length c]))) :=
  Cd.at_iff.2 ⟨xs, ys, A, c, rfl, by show nm.size ≤ _; omega, hk, ha, hb, hl⟩
set_option maxHeartbeats 4000000 in
theorem wk_at {S : Nat → Prop} {w : World} {q r g : Nat} (h1 : Blk w q #[.string ⟨#[65]⟩, .int .i8 4, .int .i8 0, .string ⟨#[]⟩, .int .i64 0, .string ⟨#[]⟩, .string ⟨#[]⟩, .slice none 0 0, .int .i8 0, .string ⟨#[]⟩, .int .i64 0, .string ⟨#[]⟩, .string ⟨#[]⟩, .slice none 0 0, .slice none 0 0] 46) (h2 : Blk w r #[.string ⟨#[65]⟩, .int .i8 0, .int .i8 3, .string ⟨#[]⟩, .int .i64 0, .string ⟨#[80]⟩, .string ⟨#[]⟩, .slice none 0 0, .int .i8 0, .string ⟨#[120]⟩, .int .i64 0, .string ⟨#[]⟩, .string ⟨#[]⟩, .slice none 0 0, .slice none 0 0, .string ⟨#[66]⟩, .int .i8 3, .int .i8 0, .string ⟨#[]⟩, .int .i64 0, .string ⟨#[]⟩, .string ⟨#[]⟩, .slice none 0 0, .int .i8 0, .string ⟨#[]⟩, .int .i64 0, .string ⟨#[]⟩, .string ⟨#[]⟩, .slice none 0 0, .slice (some ⟨q, 0, none⟩) 1 1] 46) (h3 : Blk w g #[.string ⟨#[80]⟩, .bool false, .int .i8 3, .bool false, .int .i64 0, .string ⟨#[120]⟩, .slice none 0 0, .slice none 0 0] 39) (hq : S q) (hr : S r) (hg : S g) :
    Ls S w 15 224 Cd.tr (some ⟨r, 0, none⟩) 2 [wkA, wkB] ∧ Ls S w 8 104 Gv.tr (some ⟨g, 0, none⟩) 1 [wkP] := by
  have hn : Ls S w 15 224 Cd.tr none 0 [] := Ls.nil _ _ _ _ (by omega) _
  have hz : Trs.at S w zE.tr (eL 0 ⟨#[]⟩ ⟨#[]⟩) := ex_lit 0 ⟨#[]⟩ ⟨#[]⟩ (by decide) (by decide) (by decide)
  have hA : Trs.at S w wkA.tr _ := cd_lit ⟨#[65]⟩ 0 _ _ [] (eL 3 ⟨#[]⟩ ⟨#[80]⟩) (eL 0 ⟨#[120]⟩ ⟨#[]⟩) none 0 (by decide) (by decide) (ex_lit 3 ⟨#[]⟩ ⟨#[80]⟩ (by decide) (by decide) (by decide)) (ex_lit 0 ⟨#[120]⟩ ⟨#[]⟩ (by decide) (by decide) (by decide)) hn
  have hN0 : Trs.at S w wkN.tr _ := cd_lit ⟨#[65]⟩ 4 zE zE [] (eL 0 ⟨#[]⟩ ⟨#[]⟩) (eL 0 ⟨#[]⟩ ⟨#[]⟩) none 0 (by decide) (by decide) hz hz hn
  have hN : Ls S w 15 224 Cd.tr (some ⟨q, 0, none⟩) 1 [wkN] := Ls.blk_ (l := [wkN]) h1 (by omega) rfl (by simp [maxLen]) (by simp) hq (by
    rw [List.flatMap_singleton]; exact hN0)
  have hB : Trs.at S w wkB.tr _ := cd_lit ⟨#[66]⟩ 3 zE zE [wkN] (eL 0 ⟨#[]⟩ ⟨#[]⟩) (eL 0 ⟨#[]⟩ ⟨#[]⟩) _ _ (by decide) (by decide) hz hz hN
  have hP : Trs.at S w wkP.tr _ := Gv.at_iff.2 ⟨_, rfl, by show (⟨#[80]⟩ : ByteArray).size ≤ _; decide, (Vl.at_iff (v := wkP.v)).2 ⟨none, 0, none, 0, rfl, by show (Lit.int .i8 3).wf = true; decide, by show (Lit.int .i64 0).wf = true; decide, by show (⟨#[120]⟩ : ByteArray).size ≤ _; decide, Ls.nil _ _ _ _ (by omega) _, Ls.nil _ _ _ _ (by omega) _⟩⟩
  have hAB : Trs.at S w ([wkA, wkB].flatMap Cd.tr) (#[.string ⟨#[65]⟩, .int .i8 0, .int .i8 3, .string ⟨#[]⟩, .int .i64 0, .string ⟨#[80]⟩, .string ⟨#[]⟩, .slice none 0 0, .int .i8 0, .string ⟨#[120]⟩, .int .i64 0, .string ⟨#[]⟩, .string ⟨#[]⟩, .slice none 0 0, .slice none 0 0, .string ⟨#[66]⟩, .int .i8 3, .int .i8 0, .string ⟨#[]⟩, .int .i64 0, .string ⟨#[]⟩, .string ⟨#[]⟩, .slice none 0 0, .int .i8 0, .string ⟨#[]⟩, .int .i64 0, .string ⟨#[]⟩, .string ⟨#[]⟩, .slice none 0 0, .slice (some ⟨q, 0, none⟩) 1 1] : Array Value).toList := by
    rw [List.flatMap_cons, List.flatMap_singleton]
    exact Trs.at.app.2 ⟨_, _, rfl, hA, hB⟩
  have hPP : Trs.at S w ([wkP].flatMap Gv.tr) (#[.string ⟨#[80]⟩, .bool false, .int .i8 3, .bool false, .int .i64 0, .string ⟨#[120]⟩, .slice none 0 0, .slice none 0 0] : Array Value).toList := by
    rw [List.flatMap_singleton]
    exact hP
  have hL : Ls S w 15 224 Cd.tr (some ⟨r, 0, none⟩) 2 [wkA, wkB] := Ls.blk_ (l := [wkA, wkB]) h2 (by omega) rfl (by simp [maxLen]) (by simp) hr hAB
  have hG : Ls S w 8 104 Gv.tr (some ⟨g, 0, none⟩) 1 [wkP] := Ls.blk_ (l := [wkP]) h3 (by omega) rfl (by simp [maxLen]) (by simp) hg hPP
  exact ⟨hL, hG⟩
set_option maxRecDepth 100000 in
set_option maxHeartbeats 4000000 in
theorem wakes_any (w : World) (hV : VOk w) : Calls Tryz.prog 7 #[] w (BoolB true w) := by
  have HR : Hid (∀ s w', Calls Tryz.prog 18 #[.string s] w' (ValOut #[.int .i8 3, .string ⟨#[]⟩, .int .i64 0, .string s, .string ⟨#[]⟩, .slice none 0 0] w')) := Lib.hid ref_any
  have HV := Lib.hid hV
  clear hV
  go_enter Tryz.func7, Tryz.ntmps7
  go_wp2_with fail
  refine (HR.out _ _).mono ?_
  rintro e w1 ⟨rfl, hb1⟩
  have HB1 := Lib.hid hb1
  have HRUN : Hid (Calls Tryz.prog 8 #[.slice (some ⟨w1.heap.size + 1, 0, none⟩) 2 2, .slice (some ⟨w1.heap.size + 1 + 1, 0, none⟩) 1 1] (((w1.alloc (.cells #[.string ⟨#[65]⟩, .int .i8 4, .int .i8 0, .string ⟨#[]⟩, .int .i64 0, .string ⟨#[]⟩, .string ⟨#[]⟩, .slice none 0 0, .int .i8 0, .string ⟨#[]⟩, .int .i64 0, .string ⟨#[]⟩, .string ⟨#[]⟩, .slice none 0 0, .slice none 0 0] 46)).alloc (.cells #[.string ⟨#[65]⟩, .int .i8 0, .int .i8 3, .string ⟨#[]⟩, .int .i64 0, .string ⟨#[80]⟩, .string ⟨#[]⟩, .slice none 0 0, .int .i8 0, .string ⟨#[120]⟩, .int .i64 0, .string ⟨#[]⟩, .string ⟨#[]⟩, .slice none 0 0, .slice none 0 0, .string ⟨#[66]⟩, .int .i8 3, .int .i8 0, .string ⟨#[]⟩, .int .i64 0, .string ⟨#[]⟩, .string ⟨#[]⟩, .slice none 0 0, .int .i8 0, .string ⟨#[]⟩, .int .i64 0, .string ⟨#[]⟩, .string ⟨#[]⟩, .slice none 0 0, .slice (some ⟨w1.heap.size, 0, none⟩) 1 1] 46)).alloc (.cells #[.string ⟨#[80]⟩, .bool false, .int .i8 3, .bool false, .int .i64 0, .string ⟨#[120]⟩, .slice none 0 0, .slice none 0 0] 39)) fun e w' => Below w.heap.size w w' ∧ ∃ A c, e = .returned (.tuple #[.slice A 2 c, .int .i64 0]) ∧ Rd w' 8 A 2 c (yesL [(⟨#[65]⟩, true), (⟨#[66]⟩, false)])) := Lib.hid (by
    have hb3 : Below w.heap.size w (((w1.alloc (.cells #[.string ⟨#[65]⟩, .int .i8 4, .int .i8 0, .string ⟨#[]⟩, .int .i64 0, .string ⟨#[]⟩, .string ⟨#[]⟩, .slice none 0 0, .int .i8 0, .string ⟨#[]⟩, .int .i64 0, .string ⟨#[]⟩, .string ⟨#[]⟩, .slice none 0 0, .slice none 0 0] 46)).alloc (.cells #[.string ⟨#[65]⟩, .int .i8 0, .int .i8 3, .string ⟨#[]⟩, .int .i64 0, .string ⟨#[80]⟩, .string ⟨#[]⟩, .slice none 0 0, .int .i8 0, .string ⟨#[120]⟩, .int .i64 0, .string ⟨#[]⟩, .string ⟨#[]⟩, .slice none 0 0, .slice none 0 0, .string ⟨#[66]⟩, .int .i8 3, .int .i8 0, .string ⟨#[]⟩, .int .i64 0, .string ⟨#[]⟩, .string ⟨#[]⟩, .slice none 0 0, .int .i8 0, .string ⟨#[]⟩, .int .i64 0, .string ⟨#[]⟩, .string ⟨#[]⟩, .slice none 0 0, .slice (some ⟨w1.heap.size, 0, none⟩) 1 1] 46)).alloc (.cells #[.string ⟨#[80]⟩, .bool false, .int .i8 3, .bool false, .int .i64 0, .string ⟨#[120]⟩, .slice none 0 0, .slice none 0 0] 39)) := (((hb1.alloc hb1.size _).alloc (by have := hb1.size; simp; omega) _).alloc (by have := hb1.size; simp; omega) _)
    have hV3 := HV.out.below hb3
    have k1 := ((Blk.new w1 #[.string ⟨#[65]⟩, .int .i8 4, .int .i8 0, .string ⟨#[]⟩, .int .i64 0, .string ⟨#[]⟩, .string ⟨#[]⟩, .slice none 0 0, .int .i8 0, .string ⟨#[]⟩, .int .i64 0, .string ⟨#[]⟩, .string ⟨#[]⟩, .slice none 0 0, .slice none 0 0] 46).alloc (.cells #[.string ⟨#[65]⟩, .int .i8 0, .int .i8 3, .string ⟨#[]⟩, .int .i64 0, .string ⟨#[80]⟩, .string ⟨#[]⟩, .slice none 0 0, .int .i8 0, .string ⟨#[120]⟩, .int .i64 0, .string ⟨#[]⟩, .string ⟨#[]⟩, .slice none 0 0, .slice none 0 0, .string ⟨#[66]⟩, .int .i8 3, .int .i8 0, .string ⟨#[]⟩, .int .i64 0, .string ⟨#[]⟩, .string ⟨#[]⟩, .slice none 0 0, .int .i8 0, .string ⟨#[]⟩, .int .i64 0, .string ⟨#[]⟩, .string ⟨#[]⟩, .slice none 0 0, .slice (some ⟨w1.heap.size, 0, none⟩) 1 1] 46)).alloc (.cells #[.string ⟨#[80]⟩, .bool false, .int .i8 3, .bool false, .int .i64 0, .string ⟨#[120]⟩, .slice none 0 0, .slice none 0 0] 39)
    have k2 := (Blk.new (w1.alloc (.cells #[.string ⟨#[65]⟩, .int .i8 4, .int .i8 0, .string ⟨#[]⟩, .int .i64 0, .string ⟨#[]⟩, .string ⟨#[]⟩, .slice none 0 0, .int .i8 0, .string ⟨#[]⟩, .int .i64 0, .string ⟨#[]⟩, .string ⟨#[]⟩, .slice none 0 0, .slice none 0 0] 46)) #[.string ⟨#[65]⟩, .int .i8 0, .int .i8 3, .string ⟨#[]⟩, .int .i64 0, .string ⟨#[80]⟩, .string ⟨#[]⟩, .slice none 0 0, .int .i8 0, .string ⟨#[120]⟩, .int .i64 0, .string ⟨#[]⟩, .string ⟨#[]⟩, .slice none 0 0, .slice none 0 0, .string ⟨#[66]⟩, .int .i8 3, .int .i8 0, .string ⟨#[]⟩, .int .i64 0, .string ⟨#[]⟩, .string ⟨#[]⟩, .slice none 0 0, .int .i8 0, .string ⟨#[]⟩, .int .i64 0, .string ⟨#[]⟩, .string ⟨#[]⟩, .slice none 0 0, .slice (some ⟨w1.heap.size, 0, none⟩) 1 1] 46).alloc (.cells #[.string ⟨#[80]⟩, .bool false, .int .i8 3, .bool false, .int .i64 0, .string ⟨#[120]⟩, .slice none 0 0, .slice none 0 0] 39)
    have k3 := Blk.new ((w1.alloc (.cells #[.string ⟨#[65]⟩, .int .i8 4, .int .i8 0, .string ⟨#[]⟩, .int .i64 0, .string ⟨#[]⟩, .string ⟨#[]⟩, .slice none 0 0, .int .i8 0, .string ⟨#[]⟩, .int .i64 0, .string ⟨#[]⟩, .string ⟨#[]⟩, .slice none 0 0, .slice none 0 0] 46)).alloc (.cells #[.string ⟨#[65]⟩, .int .i8 0, .int .i8 3, .string ⟨#[]⟩, .int .i64 0, .string ⟨#[80]⟩, .string ⟨#[]⟩, .slice none 0 0, .int .i8 0, .string ⟨#[120]⟩, .int .i64 0, .string ⟨#[]⟩, .string ⟨#[]⟩, .slice none 0 0, .slice none 0 0, .string ⟨#[66]⟩, .int .i8 3, .int .i8 0, .string ⟨#[]⟩, .int .i64 0, .string ⟨#[]⟩, .string ⟨#[]⟩, .slice none 0 0, .int .i8 0, .string ⟨#[]⟩, .int .i64 0, .string ⟨#[]⟩, .string ⟨#[]⟩, .slice none 0 0, .slice (some ⟨w1.heap.size, 0, none⟩) 1 1] 46)) #[.string ⟨#[80]⟩, .bool false, .int .i8 3, .bool false, .int .i64 0, .string ⟨#[120]⟩, .slice none 0 0, .slice none 0 0] 39
    have e1 : (w1.alloc (.cells #[.string ⟨#[65]⟩, .int .i8 4, .int .i8 0, .string ⟨#[]⟩, .int .i64 0, .string ⟨#[]⟩, .string ⟨#[]⟩, .slice none 0 0, .int .i8 0, .string ⟨#[]⟩, .int .i64 0, .string ⟨#[]⟩, .string ⟨#[]⟩, .slice none 0 0, .slice none 0 0] 46)).heap.size = w1.heap.size + 1 := by simp
    have e2 : ((w1.alloc (.cells #[.string ⟨#[65]⟩, .int .i8 4, .int .i8 0, .string ⟨#[]⟩, .int .i64 0, .string ⟨#[]⟩, .string ⟨#[]⟩, .slice none 0 0, .int .i8 0, .string ⟨#[]⟩, .int .i64 0, .string ⟨#[]⟩, .string ⟨#[]⟩, .slice none 0 0, .slice none 0 0] 46)).alloc (.cells #[.string ⟨#[65]⟩, .int .i8 0, .int .i8 3, .string ⟨#[]⟩, .int .i64 0, .string ⟨#[80]⟩, .string ⟨#[]⟩, .slice none 0 0, .int .i8 0, .string ⟨#[120]⟩, .int .i64 0, .string ⟨#[]⟩, .string ⟨#[]⟩, .slice none 0 0, .slice none 0 0, .string ⟨#[66]⟩, .int .i8 3, .int .i8 0, .string ⟨#[]⟩, .int .i64 0, .string ⟨#[]⟩, .string ⟨#[]⟩, .slice none 0 0, .int .i8 0, .string ⟨#[]⟩, .int .i64 0, .string ⟨#[]⟩, .string ⟨#[]⟩, .slice none 0 0, .slice (some ⟨w1.heap.size, 0, none⟩) 1 1] 46)).heap.size = w1.heap.size + 1 + 1 := by simp
    rw [e1] at k2
    rw [e2] at k3
    obtain ⟨h1, h2⟩ := wk_at (S := fun _ => True) k1 k2 k3 trivial trivial trivial
    obtain ⟨_, hok⟩ := cs_ok wk_great
    have hg : ∀ p ∈ [wkP], vSmall p.v := fun p hp => by rw [List.mem_singleton.1 hp]; exact txtV_small _
    have hrun := crun_any _ _ _ [wkA, wkB] _ _ [wkP] _ hV3 h1 h2 (by simp) hg hok 3 (fun _ => wk_dp)
    rw [wk_run] at hrun
    refine hrun.mono ?_
    rintro e w' ⟨A, c, rfl, ho, hb⟩
    exact ⟨hb3.trans (hb.mono hb3.size), A, c, rfl, ho.rd⟩)
  clear hb1
  go_wp2_with fail
  refine HRUN.out.mono ?_
  rintro e w2 ⟨hb2, A, c, rfl, hrd⟩
  obtain ⟨ad, rfl, hc1⟩ := yes_cel hrd (i := 0) rfl
  obtain ⟨ad', e', hc2⟩ := yes_cel hrd (i := 1) rfl
  injection e' with e'; subst e'
  simp only [yes, Nat.zero_mul, Nat.one_mul] at hc1 hc2
  rw [show ad.add 0 = ad by simp [Addr.add]] at hc1
  rw [show ad.add 8 = ⟨ad.block, ad.off + 8, none⟩ by simp [Addr.add]] at hc2
  obtain ⟨a0, a1, a2, a3, a4, a5, a6, a7⟩ := cel8 hc1
  obtain ⟨b0, b1, b2, b3, b4, b5, b6, b7⟩ := cel8 hc2
  have hcap := hrd.cap
  clear hrd HRUN HR hc1 hc2
  go_wp2_with fail
  go_ret
  exact ⟨rfl, hb2⟩
end Go.Proofs.YtmljdppdaaoehaaGreatDoor
namespace Go.Proofs.YtmljdppdaaoehaaGreatDoor
open Go.RowKit
set_option linter.unusedVariables false
set_option linter.unusedSimpArgs false

def txGreat (l : List ByteArray) : Bool := decide (40 < l.length) || l.any fun s => decide (200 < s.size)
theorem sHas_step {z y : ByteArray} {N : List ByteArray} {n : Nat} (hy : N[n]? = some y) : sHas z (N.take (n + 1)) = (sHas z (N.take n) || (y.toList == z.toList)) := by
  rw [List.take_add_one, hy]
  have h1 : sHas z (N.take n ++ [y]) = (sHas z (N.take n) || bEq z y) := by simp [sHas, List.any_append]
  have h2 : bEq z y = (y.toList == z.toList) := by
    unfold bEq
    rw [Bool.eq_iff_iff, beq_iff_eq, beq_iff_eq, ← Lib.toList_data, ← Lib.toList_data]
    exact ⟨Eq.symm, Eq.symm⟩
  rw [← h2]; exact h1
end Go.Proofs.YtmljdppdaaoehaaGreatDoor
