/- The statements' own functions: ref, great, wakes. -/
/- CondsCircle: the walk. -/
import Derived.Test.YtmljdppdaaoehaaDoorCp1
import Derived.Test.YtmljdppdaaoehaaDoorCn10
import Derived.Test.YtmljdppdaaoehaaDoorGtCond
namespace Go.Proofs.YtmljdppdaaoehaaDoor
open Go.RowKit
set_option linter.unusedVariables false
set_option linter.unusedSimpArgs false

theorem Rd.blk {w : World} {sz n q : Nat} {cs : Array Value} {t : TypeId} (h : Blk w q cs t) (hn : cs.size = n * sz) (hm : n ≤ maxLen) : Rd w sz (some ⟨q, 0, none⟩) n n cs.toList :=
  ⟨by simpa using hn, Nat.le_refl _, hm, fun j u hu => ⟨_, rfl, by
    rw [add_plain, Nat.zero_add]
    exact Blk.cell h j (by simpa using hu)⟩⟩
theorem Ls.blk_ {α : Type} {tr : α → List Tr} {S : Nat → Prop} {w : World} {sz b q : Nat} {cs : Array Value} {t : TypeId} {l : List α} (h : Blk w q cs t) (h0 : 0 < sz) (hn : cs.size = l.length * sz) (hm : l.length ≤ maxLen) (hb : l.length * b ≤ 140737488351232) (hS : S q) (ht : Trs.at S w (l.flatMap tr) cs.toList) : Ls S w sz b tr (some ⟨q, 0, none⟩) l.length l :=
  ⟨h0, hb, Nat.le_refl _, hm, fun ad e _ => by injection e with e; subst e; exact hS, _, Rd.blk h hn hm, ht⟩
theorem yesL_get : ∀ (r : List (ByteArray × Bool)) (i j : Nat) (x : ByteArray × Bool), r[i]? = some x → j < 8 → (yesL r)[i * 8 + j]? = (yes x.1 x.2)[j]?
  | [], i, j, x, h, _ => by cases h
  | y :: r, 0, j, x, h, hj => by
    simp only [List.getElem?_cons_zero, Option.some.injEq] at h
    subst h
    unfold yesL
    rw [List.flatMap_cons, Nat.zero_mul, Nat.zero_add, List.getElem?_append_left (by simpa [yes] using hj)]
  | y :: r, i + 1, j, x, h, hj => by
    have ih := yesL_get r i j x (by simpa using h) hj
    unfold yesL at ih ⊢
    rw [List.flatMap_cons, List.getElem?_append_right (by simp [yes]; omega), ← ih]
    congr 1
    simp [yes]; omega
theorem yes_cel {w : World} {A : Option Addr} {n c : Nat} {r : List (ByteArray × Bool)} (h : Rd w 8 A n c (yesL r)) {i : Nat} {x : ByteArray × Bool} (hx : r[i]? = some x) : ∃ ad, A = some ad ∧ Cel w (ad.add (i * 8)) (yes x.1 x.2) := by
  obtain ⟨ad, rfl, _⟩ := h.at_ (i * 8 + 0) _ (yesL_get r i 0 x hx (by omega))
  refine ⟨ad, rfl, fun j u hu => ?_⟩
  have hj : j < 8 := by
    have := (List.getElem?_eq_some_iff.1 hu).1
    simpa [yes] using this
  obtain ⟨ad', e, h2⟩ := h.at_ (i * 8 + j) u (by rw [yesL_get r i j x hx hj]; exact hu)
  injection e with e; subst e
  by_cases hj0 : j = 0
  · subst hj0; simpa using h2
  · rw [if_neg hj0]
    have e2 : ad.add (i * 8 + j) = ⟨(ad.add (i * 8)).block, (ad.add (i * 8)).off + j, none⟩ := by
      unfold Addr.add
      rw [if_neg (by omega)]
      split
      · next e0 => simp [e0]
      · simp [Nat.add_assoc]
    rw [← e2]; exact h2
set_option maxRecDepth 100000 in
theorem ref_any (s : ByteArray) (w : World) : Calls Tryd.prog 19 #[.string s] w (ValOut #[.int .i8 3, .string ⟨#[]⟩, .int .i64 0, .string s, .string ⟨#[]⟩, .slice none 0 0] w) := by
  go_enter Tryd.func19, Tryd.ntmps19
  go_wp2_with fail
  exact bodyPost_ret (v := .agg #[.int .i8 3, .string ⟨#[]⟩, .int .i64 0, .string s, .string ⟨#[]⟩, .slice none 0 0]) (by simp [results, Tryd.results19, go_sem]; try rfl) rfl ⟨rfl, (Below.refl _ w).alloc (Nat.le_refl _) _⟩
def zE : Ex := ⟨0, ⟨#[]⟩, 0, ⟨#[]⟩, ⟨#[]⟩, []⟩
def wkA : Cd := ⟨⟨#[65]⟩, 0, ⟨3, ⟨#[]⟩, 0, ⟨#[80]⟩, ⟨#[]⟩, []⟩, ⟨0, ⟨#[120]⟩, 0, ⟨#[]⟩, ⟨#[]⟩, []⟩, []⟩
def wkN : Cd := ⟨⟨#[65]⟩, 4, zE, zE, []⟩
def wkB : Cd := ⟨⟨#[66]⟩, 3, zE, zE, [wkN]⟩
def wkP : Gv := ⟨⟨#[80]⟩, false, ⟨3, false, 0, ⟨#[120]⟩, [], []⟩⟩
theorem wk_run : runOf [wkA, wkB] [wkP] vEq 3 = .inr [(⟨#[65]⟩, true), (⟨#[66]⟩, false)] := by kernel_rfl
theorem wk_great : csGreat [wkA, wkB] = false := by kernel_rfl
theorem wk_dp : ∀ c ∈ [wkA, wkB], Dp [wkA, wkB] [wkP] vSmall 3 c := by
  have h1 : Dp [wkA, wkB] [wkP] vSmall 1 wkA := ⟨fun _ => ⟨_, _, rfl, rfl, txtV_small _, txtV_small _⟩, fun e => absurd e (by decide), fun e => absurd rfl e⟩
  have h2 : Dp [wkA, wkB] [wkP] vSmall 2 wkN := ⟨fun e => absurd e (by decide), fun _ => ⟨0, wkA, by kernel_rfl, rfl, h1⟩, fun _ e => absurd rfl e⟩
  have h3 : Dp [wkA, wkB] [wkP] vSmall 3 wkB := ⟨fun e => absurd e (by decide), fun e => absurd e (by decide), fun _ _ => ⟨.inr (.inr rfl), fun p hp => by
    rw [show p = wkN from List.mem_singleton.1 hp]; exact h2⟩⟩
  intro c hc
  rcases List.mem_cons.1 hc with rfl | hc
  · exact (h1.more (eq := vEq) 2).1
  · rw [List.mem_singleton.1 hc]; exact h3
theorem ex_lit {S : Nat → Prop} {w : World} (k : Int) (t n : ByteArray) (h : (Lit.int .i8 k).wf = true) (ht : t.size ≤ 1000) (hn : n.size ≤ 1000) : Trs.at S w (Ex.tr ⟨k, t, 0, n, ⟨#[]⟩, []⟩) [.int .i8 k, .string t, .int .i64 0, .string n, .string ⟨#[]⟩, .slice none 0 0] :=
  Ex.at_iff.2 ⟨none, 0, rfl, h, by show (Lit.int .i64 0).wf = true; decide, by show t.size ≤ _; omega, by show n.size ≤ _; omega, by show (⟨#[]⟩ : ByteArray).size ≤ _; decide, Ls.nil _ _ _ _ (by omega) _⟩
def eL (k : Int) (t n : ByteArray) : List Value := [.int .i8 k, .string t, .int .i64 0, .string n, .string ⟨#[]⟩, .slice none 0 0]
theorem cd_lit {S : Nat → Prop} {w : World} (nm : ByteArray) (k : Int) (a b : Ex) (l : List Cd) (xs ys : List Value) (A : Option Addr) (c : Nat) (hn : nm.size ≤ 1000) (hk : (Lit.int .i8 k).wf = true) (ha : Trs.at S w a.tr xs) (hb : Trs.at S w b.tr ys) (hl : Ls S w 15 224 Cd.tr A c l) : Trs.at S w (Cd.tr ⟨nm, k, a, b, l⟩) (.string nm :: .int .i8 k :: (xs ++ (ys ++ [.slice A l.length c]))) :=
  Cd.at_iff.2 ⟨xs, ys, A, c, rfl, by show nm.size ≤ _; omega, hk, ha, hb, hl⟩
set_option maxHeartbeats 4000000 in
theorem wk_at {S : Nat → Prop} {w : World} {q r g : Nat} (h1 : Blk w q #[.string ⟨#[65]⟩, .int .i8 4, .int .i8 0, .string ⟨#[]⟩, .int .i64 0, .string ⟨#[]⟩, .string ⟨#[]⟩, .slice none 0 0, .int .i8 0, .string ⟨#[]⟩, .int .i64 0, .string ⟨#[]⟩, .string ⟨#[]⟩, .slice none 0 0, .slice none 0 0] 32) (h2 : Blk w r #[.string ⟨#[65]⟩, .int .i8 0, .int .i8 3, .string ⟨#[]⟩, .int .i64 0, .string ⟨#[80]⟩, .string ⟨#[]⟩, .slice none 0 0, .int .i8 0, .string ⟨#[120]⟩, .int .i64 0, .string ⟨#[]⟩, .string ⟨#[]⟩, .slice none 0 0, .slice none 0 0, .string ⟨#[66]⟩, .int .i8 3, .int .i8 0, .string ⟨#[]⟩, .int .i64 0, .string ⟨#[]⟩, .string ⟨#[]⟩, .slice none 0 0, .int .i8 0, .string ⟨#[]⟩, .int .i64 0, .string ⟨#[]⟩, .string ⟨#[]⟩, .slice none 0 0, .slice (some ⟨q, 0, none⟩) 1 1] 32) (h3 : Blk w g #[.string ⟨#[80]⟩, .bool false, .int .i8 3, .bool false, .int .i64 0, .string ⟨#[120]⟩, .slice none 0 0, .slice none 0 0] 41) (hq : S q) (hr : S r) (hg : S g) :
    Ls S w 15 224 Cd.tr (some ⟨r, 0, none⟩) 2 [wkA, wkB] ∧ Ls S w 8 104 Gv.tr (some ⟨g, 0, none⟩) 1 [wkP] := by
  have hn : Ls S w 15 224 Cd.tr none 0 [] := Ls.nil _ _ _ _ (by omega) _
  have hz : Trs.at S w zE.tr (eL 0 ⟨#[]⟩ ⟨#[]⟩) := ex_lit 0 ⟨#[]⟩ ⟨#[]⟩ (by decide) (by decide) (by decide)
  have hA : Trs.at S w wkA.tr _ := cd_lit ⟨#[65]⟩ 0 _ _ [] (eL 3 ⟨#[]⟩ ⟨#[80]⟩) (eL 0 ⟨#[120]⟩ ⟨#[]⟩) none 0 (by decide) (by decide) (ex_lit 3 ⟨#[]⟩ ⟨#[80]⟩ (by decide) (by decide) (by decide)) (ex_lit 0 ⟨#[120]⟩ ⟨#[]⟩ (by decide) (by decide) (by decide)) hn
  have hN0 : Trs.at S w wkN.tr _ := cd_lit ⟨#[65]⟩ 4 zE zE [] (eL 0 ⟨#[]⟩ ⟨#[]⟩) (eL 0 ⟨#[]⟩ ⟨#[]⟩) none 0 (by decide) (by decide) hz hz hn
  have hN : Ls S w 15 224 Cd.tr (some ⟨q, 0, none⟩) 1 [wkN] := Ls.blk_ (l := [wkN]) h1 (by omega) rfl (by simp [maxLen]) (by simp) hq (by
    rw [List.flatMap_singleton]; exact hN0)
  have hB : Trs.at S w wkB.tr _ := cd_lit ⟨#[66]⟩ 3 zE zE [wkN] (eL 0 ⟨#[]⟩ ⟨#[]⟩) (eL 0 ⟨#[]⟩ ⟨#[]⟩) _ _ (by decide) (by decide) hz hz hN
  have hP : Trs.at S w wkP.tr _ := Gv.at_iff.2 ⟨_, rfl, by show (⟨#[80]⟩ : ByteArray).size ≤ _; decide, (Vl.at_iff (v := wkP.v)).2 ⟨none, 0, none, 0, rfl, by show (Lit.int .i8 3).wf = true; decide, by show (Lit.int .i64 0).wf = true; decide, by show (⟨#[120]⟩ : ByteArray).size ≤ _; decide, Ls.nil _ _ _ _ (by omega) _, Ls.nil _ _ _ _ (by omega) _⟩⟩
  have hAB : Trs.at S w ([wkA, wkB].flatMap Cd.tr) (#[.string ⟨#[65]⟩, .int .i8 0, .int .i8 3, .string ⟨#[]⟩, .int .i64 0, .string ⟨#[80]⟩, .string ⟨#[]⟩, .slice none 0 0, .int .i8 0, .string ⟨#[120]⟩, .int .i64 0, .string ⟨#[]⟩, .string ⟨#[]⟩, .slice none 0 0, .slice none 0 0, .string ⟨#[66]⟩, .int .i8 3, .int .i8 0, .string ⟨#[]⟩, .int .i64 0, .string ⟨#[]⟩, .string ⟨#[]⟩, .slice none 0 0, .int .i8 0, .string ⟨#[]⟩, .int .i64 0, .string ⟨#[]⟩, .string ⟨#[]⟩, .slice none 0 0, .slice (some ⟨q, 0, none⟩) 1 1] : Array Value).toList := by
    rw [List.flatMap_cons, List.flatMap_singleton]
    exact Trs.at.app.2 ⟨_, _, rfl, hA, hB⟩
  have hPP : Trs.at S w ([wkP].flatMap Gv.tr) (#[.string ⟨#[80]⟩, .bool false, .int .i8 3, .bool false, .int .i64 0, .string ⟨#[120]⟩, .slice none 0 0, .slice none 0 0] : Array Value).toList := by
    rw [List.flatMap_singleton]
    exact hP
  have hL : Ls S w 15 224 Cd.tr (some ⟨r, 0, none⟩) 2 [wkA, wkB] := Ls.blk_ (l := [wkA, wkB]) h2 (by omega) rfl (by simp [maxLen]) (by simp) hr hAB
  have hG : Ls S w 8 104 Gv.tr (some ⟨g, 0, none⟩) 1 [wkP] := Ls.blk_ (l := [wkP]) h3 (by omega) rfl (by simp [maxLen]) (by simp) hg hPP
  exact ⟨hL, hG⟩
set_option maxRecDepth 100000 in
set_option maxHeartbeats 4000000 in
theorem wakes_any (w : World) (hV : VOk w) : Calls Tryd.prog 8 #[] w (BoolB true w) := by
  have HR : Hid (∀ s w', Calls Tryd.prog 19 #[.string s] w' (ValOut #[.int .i8 3, .string ⟨#[]⟩, .int .i64 0, .string s, .string ⟨#[]⟩, .slice none 0 0] w')) := Lib.hid ref_any
  have HV := Lib.hid hV
  clear hV
  go_enter Tryd.func8, Tryd.ntmps8
  go_wp2_with fail
  refine (HR.out _ _).mono ?_
  rintro e w1 ⟨rfl, hb1⟩
  have HB1 := Lib.hid hb1
  have HRUN : Hid (Calls Tryd.prog 9 #[.slice (some ⟨w1.heap.size + 1, 0, none⟩) 2 2, .slice (some ⟨w1.heap.size + 1 + 1, 0, none⟩) 1 1] (((w1.alloc (.cells #[.string ⟨#[65]⟩, .int .i8 4, .int .i8 0, .string ⟨#[]⟩, .int .i64 0, .string ⟨#[]⟩, .string ⟨#[]⟩, .slice none 0 0, .int .i8 0, .string ⟨#[]⟩, .int .i64 0, .string ⟨#[]⟩, .string ⟨#[]⟩, .slice none 0 0, .slice none 0 0] 32)).alloc (.cells #[.string ⟨#[65]⟩, .int .i8 0, .int .i8 3, .string ⟨#[]⟩, .int .i64 0, .string ⟨#[80]⟩, .string ⟨#[]⟩, .slice none 0 0, .int .i8 0, .string ⟨#[120]⟩, .int .i64 0, .string ⟨#[]⟩, .string ⟨#[]⟩, .slice none 0 0, .slice none 0 0, .string ⟨#[66]⟩, .int .i8 3, .int .i8 0, .string ⟨#[]⟩, .int .i64 0, .string ⟨#[]⟩, .string ⟨#[]⟩, .slice none 0 0, .int .i8 0, .string ⟨#[]⟩, .int .i64 0, .string ⟨#[]⟩, .string ⟨#[]⟩, .slice none 0 0, .slice (some ⟨w1.heap.size, 0, none⟩) 1 1] 32)).alloc (.cells #[.string ⟨#[80]⟩, .bool false, .int .i8 3, .bool false, .int .i64 0, .string ⟨#[120]⟩, .slice none 0 0, .slice none 0 0] 41)) fun e w' => Below w.heap.size w w' ∧ ∃ A c, e = .returned (.tuple #[.slice A 2 c, .int .i64 0]) ∧ Rd w' 8 A 2 c (yesL [(⟨#[65]⟩, true), (⟨#[66]⟩, false)])) := Lib.hid (by
    have hb3 : Below w.heap.size w (((w1.alloc (.cells #[.string ⟨#[65]⟩, .int .i8 4, .int .i8 0, .string ⟨#[]⟩, .int .i64 0, .string ⟨#[]⟩, .string ⟨#[]⟩, .slice none 0 0, .int .i8 0, .string ⟨#[]⟩, .int .i64 0, .string ⟨#[]⟩, .string ⟨#[]⟩, .slice none 0 0, .slice none 0 0] 32)).alloc (.cells #[.string ⟨#[65]⟩, .int .i8 0, .int .i8 3, .string ⟨#[]⟩, .int .i64 0, .string ⟨#[80]⟩, .string ⟨#[]⟩, .slice none 0 0, .int .i8 0, .string ⟨#[120]⟩, .int .i64 0, .string ⟨#[]⟩, .string ⟨#[]⟩, .slice none 0 0, .slice none 0 0, .string ⟨#[66]⟩, .int .i8 3, .int .i8 0, .string ⟨#[]⟩, .int .i64 0, .string ⟨#[]⟩, .string ⟨#[]⟩, .slice none 0 0, .int .i8 0, .string ⟨#[]⟩, .int .i64 0, .string ⟨#[]⟩, .string ⟨#[]⟩, .slice none 0 0, .slice (some ⟨w1.heap.size, 0, none⟩) 1 1] 32)).alloc (.cells #[.string ⟨#[80]⟩, .bool false, .int .i8 3, .bool false, .int .i64 0, .string ⟨#[120]⟩, .slice none 0 0, .slice none 0 0] 41)) := (((hb1.alloc hb1.size _).alloc (by have := hb1.size; simp; omega) _).alloc (by have := hb1.size; simp; omega) _)
    have hV3 := HV.out.below hb3
    have k1 := ((Blk.new w1 #[.string ⟨#[65]⟩, .int .i8 4, .int .i8 0, .string ⟨#[]⟩, .int .i64 0, .string ⟨#[]⟩, .string ⟨#[]⟩, .slice none 0 0, .int .i8 0, .string ⟨#[]⟩, .int .i64 0, .string ⟨#[]⟩, .string ⟨#[]⟩, .slice none 0 0, .slice none 0 0] 32).alloc (.cells #[.string ⟨#[65]⟩, .int .i8 0, .int .i8 3, .string ⟨#[]⟩, .int .i64 0, .string ⟨#[80]⟩, .string ⟨#[]⟩, .slice none 0 0, .int .i8 0, .string ⟨#[120]⟩, .int .i64 0, .string ⟨#[]⟩, .string ⟨#[]⟩, .slice none 0 0, .slice none 0 0, .string ⟨#[66]⟩, .int .i8 3, .int .i8 0, .string ⟨#[]⟩, .int .i64 0, .string ⟨#[]⟩, .string ⟨#[]⟩, .slice none 0 0, .int .i8 0, .string ⟨#[]⟩, .int .i64 0, .string ⟨#[]⟩, .string ⟨#[]⟩, .slice none 0 0, .slice (some ⟨w1.heap.size, 0, none⟩) 1 1] 32)).alloc (.cells #[.string ⟨#[80]⟩, .bool false, .int .i8 3, .bool false, .int .i64 0, .string ⟨#[120]⟩, .slice none 0 0, .slice none 0 0] 41)
    have k2 := (Blk.new (w1.alloc (.cells #[.string ⟨#[65]⟩, .int .i8 4, .int .i8 0, .string ⟨#[]⟩, .int .i64 0, .string ⟨#[]⟩, .string ⟨#[]⟩, .slice none 0 0, .int .i8 0, .string ⟨#[]⟩, .int .i64 0, .string ⟨#[]⟩, .string ⟨#[]⟩, .slice none 0 0, .slice none 0 0] 32)) #[.string ⟨#[65]⟩, .int .i8 0, .int .i8 3, .string ⟨#[]⟩, .int .i64 0, .string ⟨#[80]⟩, .string ⟨#[]⟩, .slice none 0 0, .int .i8 0, .string ⟨#[120]⟩, .int .i64 0, .string ⟨#[]⟩, .string ⟨#[]⟩, .slice none 0 0, .slice none 0 0, .string ⟨#[66]⟩, .int .i8 3, .int .i8 0, .string ⟨#[]⟩, .int .i64 0, .string ⟨#[]⟩, .string ⟨#[]⟩, .slice none 0 0, .int .i8 0, .string ⟨#[]⟩, .int .i64 0, .string ⟨#[]⟩, .string ⟨#[]⟩, .slice none 0 0, .slice (some ⟨w1.heap.size, 0, none⟩) 1 1] 32).alloc (.cells #[.string ⟨#[80]⟩, .bool false, .int .i8 3, .bool false, .int .i64 0, .string ⟨#[120]⟩, .slice none 0 0, .slice none 0 0] 41)
    have k3 := Blk.new ((w1.alloc (.cells #[.string ⟨#[65]⟩, .int .i8 4, .int .i8 0, .string ⟨#[]⟩, .int .i64 0, .string ⟨#[]⟩, .string ⟨#[]⟩, .slice none 0 0, .int .i8 0, .string ⟨#[]⟩, .int .i64 0, .string ⟨#[]⟩, .string ⟨#[]⟩, .slice none 0 0, .slice none 0 0] 32)).alloc (.cells #[.string ⟨#[65]⟩, .int .i8 0, .int .i8 3, .string ⟨#[]⟩, .int .i64 0, .string ⟨#[80]⟩, .string ⟨#[]⟩, .slice none 0 0, .int .i8 0, .string ⟨#[120]⟩, .int .i64 0, .string ⟨#[]⟩, .string ⟨#[]⟩, .slice none 0 0, .slice none 0 0, .string ⟨#[66]⟩, .int .i8 3, .int .i8 0, .string ⟨#[]⟩, .int .i64 0, .string ⟨#[]⟩, .string ⟨#[]⟩, .slice none 0 0, .int .i8 0, .string ⟨#[]⟩, .int .i64 0, .string ⟨#[]⟩, .string ⟨#[]⟩, .slice none 0 0, .slice (some ⟨w1.heap.size, 0, none⟩) 1 1] 32)) #[.string ⟨#[80]⟩, .bool false, .int .i8 3, .bool false, .int .i64 0, .string ⟨#[120]⟩, .slice none 0 0, .slice none 0 0] 41
    have e1 : (w1.alloc (.cells #[.string ⟨#[65]⟩, .int .i8 4, .int .i8 0, .string ⟨#[]⟩, .int .i64 0, .string ⟨#[]⟩, .string ⟨#[]⟩, .slice none 0 0, .int .i8 0, .string ⟨#[]⟩, .int .i64 0, .string ⟨#[]⟩, .string ⟨#[]⟩, .slice none 0 0, .slice none 0 0] 32)).heap.size = w1.heap.size + 1 := by simp
    have e2 : ((w1.alloc (.cells #[.string ⟨#[65]⟩, .int .i8 4, .int .i8 0, .string ⟨#[]⟩, .int .i64 0, .string ⟨#[]⟩, .string ⟨#[]⟩, .slice none 0 0, .int .i8 0, .string ⟨#[]⟩, .int .i64 0, .string ⟨#[]⟩, .string ⟨#[]⟩, .slice none 0 0, .slice none 0 0] 32)).alloc (.cells #[.string ⟨#[65]⟩, .int .i8 0, .int .i8 3, .string ⟨#[]⟩, .int .i64 0, .string ⟨#[80]⟩, .string ⟨#[]⟩, .slice none 0 0, .int .i8 0, .string ⟨#[120]⟩, .int .i64 0, .string ⟨#[]⟩, .string ⟨#[]⟩, .slice none 0 0, .slice none 0 0, .string ⟨#[66]⟩, .int .i8 3, .int .i8 0, .string ⟨#[]⟩, .int .i64 0, .string ⟨#[]⟩, .string ⟨#[]⟩, .slice none 0 0, .int .i8 0, .string ⟨#[]⟩, .int .i64 0, .string ⟨#[]⟩, .string ⟨#[]⟩, .slice none 0 0, .slice (some ⟨w1.heap.size, 0, none⟩) 1 1] 32)).heap.size = w1.heap.size + 1 + 1 := by simp
    rw [e1] at k2
    rw [e2] at k3
    obtain ⟨h1, h2⟩ := wk_at (S := fun _ => True) k1 k2 k3 trivial trivial trivial
    obtain ⟨_, hok⟩ := cs_ok wk_great
    have hg : ∀ p ∈ [wkP], vSmall p.v := fun p hp => by rw [List.mem_singleton.1 hp]; exact txtV_small _
    have hrun := crun_any _ _ _ [wkA, wkB] _ _ [wkP] _ hV3 h1 h2 (by simp) hg hok 3 (fun _ => wk_dp)
    rw [wk_run] at hrun
    refine hrun.mono ?_
    rintro e w' ⟨A, c, rfl, ho, hb⟩
    exact ⟨hb3.trans (hb.mono hb3.size), A, c, rfl, ho.rd⟩)
  clear hb1
  go_wp2_with fail
  refine HRUN.out.mono ?_
  rintro e w2 ⟨hb2, A, c, rfl, hrd⟩
  obtain ⟨ad, rfl, hc1⟩ := yes_cel hrd (i := 0) rfl
  obtain ⟨ad', e', hc2⟩ := yes_cel hrd (i := 1) rfl
  injection e' with e'; subst e'
  simp only [yes, Nat.zero_mul, Nat.one_mul] at hc1 hc2
  rw [show ad.add 0 = ad by simp [Addr.add]] at hc1
  rw [show ad.add 8 = ⟨ad.block, ad.off + 8, none⟩ by simp [Addr.add]] at hc2
  obtain ⟨a0, a1, a2, a3, a4, a5, a6, a7⟩ := cel8 hc1
  obtain ⟨b0, b1, b2, b3, b4, b5, b6, b7⟩ := cel8 hc2
  have hcap := hrd.cap
  clear hrd HRUN HR hc1 hc2
  go_wp2_with fail
  go_ret
  exact ⟨rfl, hb2⟩
end Go.Proofs.YtmljdppdaaoehaaDoor
namespace Go.Proofs.YtmljdppdaaoehaaDoor
open Go.RowKit
set_option linter.unusedVariables false
set_option linter.unusedSimpArgs false

def txGreat (l : List ByteArray) : Bool := decide (40 < l.length) || l.any fun s => decide (200 < s.size)
theorem sHas_step {z y : ByteArray} {N : List ByteArray} {n : Nat} (hy : N[n]? = some y) : sHas z (N.take (n + 1)) = (sHas z (N.take n) || (y.toList == z.toList)) := by
  rw [List.take_add_one, hy]
  have h1 : sHas z (N.take n ++ [y]) = (sHas z (N.take n) || bEq z y) := by simp [sHas, List.any_append]
  have h2 : bEq z y = (y.toList == z.toList) := by
    unfold bEq
    rw [Bool.eq_iff_iff, beq_iff_eq, beq_iff_eq, ← Lib.toList_data, ← Lib.toList_data]
    exact ⟨Eq.symm, Eq.symm⟩
  rw [← h2]; exact h1
set_option maxRecDepth 100000 in
set_option maxHeartbeats 4000000 in
theorem txg_any (S : Nat → Prop) (A : Option Addr) (c : Nat) (l : List ByteArray) (w : World) (hls : Ss S w A c l) :
    Calls Tryd.prog 13 #[.slice A l.length c] w fun e w' => e = .returned (.bool (txGreat l)) ∧ w' = w := by
  have hcap := hls.cap
  have HL := Lib.hid hls
  have HT : Hid (txGreat l = (decide (40 < l.length) || l.any fun s => decide (200 < s.size))) := Lib.hid rfl
  obtain ⟨r, hr⟩ : ∃ r, r = txGreat l := ⟨_, rfl⟩
  rw [← hr] at HT ⊢
  clear hls hr
  by_cases h40 : 40 < l.length
  · have h40' : (40 : Int) < (l.length : Int) := by omega
    go_enter Tryd.func13, Tryd.ntmps13
    go_wp2_with fail
    go_ret
    rw [HT.out]
    simp [h40]
  · have h40' : ¬ (40 : Int) < (l.length : Int) := by omega
    have hl40 : l.length ≤ 40 := by omega
    go_enter Tryd.func13, Tryd.ntmps13
    go_wp2_with fail
    go_loopg [10] l.length (fun g i wr => ∃ j : Nat, j + g = l.length ∧ i = .int .i64 (j : Nat) ∧ Hid (∀ k s, k < j → l[k]? = some s → s.size ≤ 200) ∧ wr = w)
    case atStart => exact ⟨0, by omega, rfl, Lib.hid (fun k s h => by omega), rfl⟩
    case round =>
      obtain ⟨j, hj, rfl, HJ, rfl⟩ := hrel
      cases gk with
      | zero =>
        have hjj : ¬ ((j : Int) < (l.length : Int)) := by omega
        have HR : Hid (r = false) := Lib.hid (by
          rw [HT.out, Bool.or_eq_false_iff]
          refine ⟨by simp; omega, List.any_eq_false.2 (fun s hs => ?_)⟩
          obtain ⟨k, hk, rfl⟩ := List.getElem_of_mem hs
          have := HJ.out k _ (by omega) (List.getElem?_eq_getElem hk)
          simp; omega)
        go_wp2_with fail
        go_ret
        rw [HR.out]
        exact ⟨rfl, rfl⟩
      | succ g =>
        have hjj : (j : Int) < (l.length : Int) := by omega
        have hj0 : (0 : Int) ≤ (j : Int) ∧ (j : Int) < (l.length : Int) := by omega
        obtain ⟨s, hs⟩ := get_lt (l := l) (i := j) (by omega)
        obtain ⟨ad, rfl, hc, hsz⟩ := HL.out.str hs
        have HS := Lib.hid hs
        clear hs
        by_cases h2 : 200 < s.size
        · have h2' : (200 : Int) < (s.size : Int) := by omega
          have HR : Hid (r = true) := Lib.hid (by
            rw [HT.out, Bool.or_eq_true]
            exact .inr (List.any_eq_true.2 ⟨s, List.mem_of_getElem? HS.out, by simpa using h2⟩))
          go_wp2_with fail
          go_ret
          rw [HR.out]
          exact ⟨rfl, rfl⟩
        · have h2' : ¬ (200 : Int) < (s.size : Int) := by omega
          have HJ2 : Hid (∀ k s, k < j + 1 → l[k]? = some s → s.size ≤ 200) := Lib.hid (fun k t hk ht => by
            by_cases hkj : k = j
            · subst hkj; rw [HS.out] at ht; injection ht with ht; subst ht; omega
            · exact HJ.out k t (by omega) ht)
          go_wp2_with fail
          go_roundg g
          case measure => omega
          case rel => exact ⟨j + 1, by omega, by go_num, HJ2, rfl⟩
set_option maxRecDepth 100000 in
set_option maxHeartbeats 8000000 in
theorem condsCircle_any (S : Nat → Prop) (A : Option Addr) (ac : Nat) (l : List Cd) (NA : Option Addr) (nc : Nat) (ns : List ByteArray) (w : World) (hV : VOk w) (hls : Ls S w 15 224 Cd.tr A ac l) (hns : Ss S w NA nc ns) :
    Calls Tryd.prog 5 #[.slice A l.length ac, .slice NA ns.length nc] w (BoolB true w) := by
  have hcap := hls.cap
  have hbyt := hls.bytes
  have HLS := Lib.hid hls
  have HG1 := Lib.hid (csgreat_any S A ac l w hls)
  have HG2 : Hid (∀ w', Below w.heap.size w w' → Calls Tryd.prog 13 #[.slice NA ns.length nc] w' fun e w'' => e = .returned (.bool (txGreat ns)) ∧ w'' = w') := Lib.hid (fun w' h => txg_any S NA nc ns w' (hns.below h))
  have HW : Hid (∀ w', Below w.heap.size w w' → Calls Tryd.prog 8 #[] w' (BoolB true w')) := Lib.hid (fun w' h => wakes_any w' (hV.below h))
  have HCI : Hid (csGreat l = false → ∀ w', Below w.heap.size w w' → Calls Tryd.prog 14 #[.slice A l.length ac] w' (TextsOut (circ l) w')) := Lib.hid (fun h w' hb => circ_any S A ac l w' (hls.below hb) (by have := (cs_ok h).1; omega) (cs_ok h).2)
  have HCK : Hid (csGreat l = false → txGreat ns = false → ∀ w', Below w.heap.size w w' → Calls Tryd.prog 15 #[.slice A l.length ac, .slice NA ns.length nc] w' fun e w'' => e = .returned (.int .i64 (csCheck l ns : Nat)) ∧ Below w'.heap.size w' w'') := Lib.hid (fun h h2 w' hb => by
    have : ns.length ≤ 40 := by
      unfold txGreat at h2
      rw [Bool.or_eq_false_iff] at h2
      simpa using h2.1
    exact check_any S A ac l NA nc ns w' (hV.below hb) (hls.below hb) (hns.below hb) (by omega) (cs_ok h).2)
  have HZ : Hid (csCheck l ns = 0 → circ l = []) := Lib.hid (fun h => by
    obtain ⟨_, hu, hok, hf⟩ := chk_iff.1 h
    exact (circ_fd hu (fun c hc => (hok c hc).2.1)).2 hf)
  have HNM : Hid (csGreat l = false → ∀ (c : Cd) (cs : Array Value) (w' : World), c ∈ l → Trs.at S w' c.tr cs.toList → Calls Tryd.prog 16 #[.agg cs] w' (TextsOut (names c) w')) := Lib.hid (fun h c cs w' hc ht => by
    obtain ⟨h1, h2, _⟩ := (cs_ok h).2 c hc
    exact names_any S c cs w' h1 ht (by omega))
  obtain ⟨g1, hg1⟩ : ∃ g1, g1 = csGreat l := ⟨_, rfl⟩
  obtain ⟨g2, hg2⟩ : ∃ g2, g2 = txGreat ns := ⟨_, rfl⟩
  obtain ⟨ck, hck⟩ : ∃ ck, ck = csCheck l ns := ⟨_, rfl⟩
  obtain ⟨C, hC⟩ : ∃ C, C = circ l := ⟨_, rfl⟩
  have HLAW : Hid (∀ j s, C[j]? = some s → ∃ p c, plAt l s = some p ∧ l[p]? = some c ∧ (∃ z, C[(j + 1) % C.length]? = some z ∧ z ∈ names c) ∧ ∀ k, k < j → C[k]? ≠ some s) := Lib.hid (fun j s h => by
    rw [hC] at h ⊢
    obtain ⟨p, c, _, h2, h3, h4, h5⟩ := circ_law h
    exact ⟨p, c, h2, h3, h4, h5⟩)
  rw [← hg1] at HG1 HCI HCK HNM
  rw [← hg2] at HG2 HCK
  rw [← hck] at HCK HZ
  rw [← hC] at HCI HZ
  clear hg1 hg2 hck hC hls hns hV
  go_enter Tryd.func5, Tryd.ntmps5
  go_wp2_with fail
  refine HG1.out.mono ?_
  rintro e w1 ⟨rfl, hb1⟩
  have HB1 := Lib.hid hb1
  clear hb1 HG1
  cases g1 with
  | true =>
    go_wp2_with fail
    refine (HW.out w1 HB1.out).mono ?_
    rintro e w2 ⟨rfl, hb2⟩
    have HB2 := Lib.hid (HB1.out.trans (hb2.mono HB1.out.size))
    go_wp2_with fail
    go_ret
    exact ⟨rfl, HB2.out⟩
  | false =>
    go_wp2_with fail
    refine (HG2.out w1 HB1.out).mono ?_
    rintro e w2 ⟨rfl, rfl⟩
    cases g2 with
    | true =>
      go_wp2_with fail
      refine (HW.out w2 HB1.out).mono ?_
      rintro e w3 ⟨rfl, hb2⟩
      have HB2 := Lib.hid (HB1.out.trans (hb2.mono HB1.out.size))
      go_wp2_with fail
      go_ret
      exact ⟨rfl, HB2.out⟩
    | false =>
      go_wp2_with fail
      refine (HCI.out trivial w2 HB1.out).mono ?_
      rintro e w3 ⟨CA, cc, rfl, ho, hb3, _⟩
      have HB3 := Lib.hid (HB1.out.trans (hb3.mono HB1.out.size))
      have HC3 := Lib.hid ho.rd
      have hC3 := ho.rd.cap
      have hCm : C.length ≤ maxLen := Nat.le_trans ho.rd.cap ho.rd.max
      clear ho hb3
      go_wp2_with fail
      refine (HCK.out trivial trivial w3 HB3.out).mono ?_
      rintro e w4 ⟨rfl, hb4⟩
      have HB4 := Lib.hid (HB3.out.trans (hb4.mono HB3.out.size))
      have HC4 : Hid (∀ w', Below w4.heap.size w4 w' → ∀ j s, C[j]? = some s → ∃ ad, CA = some ad ∧ w'.cell? (ad.add j) = some (.string s)) := Lib.hid (fun w' hb j s hs => by
        obtain ⟨ad, h1, h2⟩ := HC3.out.at_ j (.string s) (by simp [hs])
        have hb3 : Below w3.heap.size w3 w' := hb4.trans (hb.mono hb4.size)
        exact ⟨ad, h1, (hb3.cell (World.block_lt_of_cell? w3 _ h2)).trans h2⟩)
      clear hb4 HC3
      by_cases hck : ck = 0
      · have hCn := HZ.out hck
        subst hck
        subst hCn
        go_wp2_with fail
        refine (HW.out w4 HB4.out).mono ?_
        rintro e w5 ⟨rfl, hb2⟩
        have HB5 := Lib.hid (HB4.out.trans (hb2.mono HB4.out.size))
        go_wp2_with fail
        go_ret
        exact ⟨rfl, HB5.out⟩
      · have hck' : ((ck : Int) == 0) = false := by rw [beq_eq_false_iff_ne]; omega
        have hcm : C.length ≤ maxLen := hCm
        unfold maxLen at hcm
        go_wp2_with fail
        go_loopg [34] C.length (fun g i wr => ∃ j : Nat, j + g = C.length ∧ i = .int .i64 (j : Nat) ∧ Hid (Below w4.heap.size w4 wr))
        case atStart => exact ⟨0, by omega, rfl, Lib.hid (Below.refl _ _)⟩
        case round =>
          obtain ⟨j, hj, rfl, HBO⟩ := hrel
          rename World => wo
          have HBW : Hid (Below w.heap.size w wo) := Lib.hid (HB4.out.trans (HBO.out.mono HB4.out.size))
          cases gk with
          | zero =>
            have hjj : ¬ ((j : Int) < (C.length : Int)) := by omega
            go_wp2_with fail
            refine (HW.out wo HBW.out).mono ?_
            rintro e w5 ⟨rfl, hb2⟩
            have HB5 := Lib.hid (HBW.out.trans (hb2.mono HBW.out.size))
            go_wp2_with fail
            go_ret
            exact ⟨rfl, HB5.out⟩
          | succ g0 =>
            have hjj : (j : Int) < (C.length : Int) := by omega
            have hj0 : (0 : Int) ≤ (j : Int) ∧ (j : Int) < (C.length : Int) := by omega
            obtain ⟨s, hs⟩ := get_lt (l := C) (i := j) (by omega)
            obtain ⟨p, c, hp, hlp, ⟨z, hz, hzn⟩, hun⟩ := HLAW.out j s hs
            obtain ⟨jn, hjn⟩ : ∃ jn, jn = (j + 1) % C.length := ⟨_, rfl⟩
            have hjnl : jn < C.length := by rw [hjn]; exact Nat.mod_lt _ (by omega)
            rw [← hjn] at hz
            obtain ⟨ad, rfl, cs⟩ := HC4.out wo HBO.out j s hs
            obtain ⟨ad', e', cz⟩ := HC4.out wo HBO.out jn z hz
            injection e' with e'; subst e'
            have HP := Lib.hid hp
            have HS := Lib.hid hs
            have HZ2 := Lib.hid hz
            have HLP := Lib.hid hlp
            have HZN := Lib.hid hzn
            have HUN := Lib.hid hun
            have hrm : ((j : Int) + 1) % (C.length : Int) = (jn : Int) := by rw [hjn]; simp
            have hjn0 : (0 : Int) ≤ (jn : Int) ∧ (jn : Int) < (C.length : Int) := by omega
            have HJN := Lib.hid hjn
            have hpl : p < l.length := (List.getElem?_eq_some_iff.1 hlp).1
            clear hs hp hlp hz hzn hun hjn
            obtain ⟨⟨c', hc1, hcn⟩, hbf⟩ := plAt_some HP.out
            rw [HLP.out] at hc1
            injection hc1 with hc1
            subst hc1
            have HCN := Lib.hid hcn
            have HBF := Lib.hid hbf
            clear hcn hbf
            go_wp2_with fail
            clear cs cz hrm
            go_loopg [47, 8] l.length (fun g i b wr => ∃ k : Nat, k + g = l.length ∧ k ≤ p ∧ i = .int .i64 (k : Nat) ∧ b = .bool false ∧ Hid (Below w4.heap.size w4 wr))
            case atStart => exact ⟨0, by omega, by omega, rfl, rfl, HBO⟩
            case round =>
              obtain ⟨k, hk, hkp, rfl, rfl, HBK⟩ := hrel
              rename World => wk
              have HBWK : Hid (Below w.heap.size w wk) := Lib.hid (HB4.out.trans (HBK.out.mono HB4.out.size))
              cases gk with
              | zero => exact absurd hk (by omega)
              | succ g1 =>
                have hkk : (k : Int) < (l.length : Int) := by omega
                have hk0 : (0 : Int) ≤ (k : Int) ∧ (k : Int) < (l.length : Int) := by omega
                obtain ⟨d, hd⟩ := get_lt (l := l) (i := k) (by omega)
                obtain ⟨ld, dcs, hA, hdt, hdc⟩ := (HLS.out.below HBWK.out).elem Cd.trlen hd
                obtain ⟨ad', e', cs⟩ := HC4.out wk HBK.out j s HS.out
                injection e' with e'; subst e'
                by_cases hkp2 : k = p
                · subst hkp2
                  rw [HLP.out] at hd
                  injection hd with hd
                  subst hd
                  have hE : (c.name.toList == s.toList) = true := by rw [HCN.out]; simp
                  have HNC := Lib.hid (fun w' (hb : Below wk.heap.size wk w') => HNM.out trivial c dcs.toArray w' (List.mem_of_getElem? HLP.out) (by simpa using hdt.below hb))
                  obtain ⟨xs, ys, L, lc, rfl, _, _, hxa, hxb, _⟩ := Cd.at_iff.1 hdt
                  obtain ⟨A1, n1, rfl, _⟩ := ex_cells hxa
                  obtain ⟨B1, n2, rfl, _⟩ := ex_cells hxb
                  obtain ⟨c0, c1, c2, c3, c4, c5, c6, c7, c8, c9, c10, c11, c12, c13, c14⟩ := cel15 hdc
                  clear hdt hdc hxa hxb
                  subst hA
                  go_wp2_with fail
                  go_still (by kernel_rfl)
                  change Exit.then _ _ _ _ wk.drew
                  have HBK2 := Lib.hid HBK.out.drew
                  go_wp2_with fail
                  refine (HNC.out wk.drew (Below.refl _ wk).drew).mono ?_
                  rintro e w5 ⟨NA2, nc2, rfl, hno, hnb, hnsz⟩
                  have HB5 : Hid (Below w4.heap.size w4 w5) := Lib.hid (HBK2.out.trans (hnb.mono HBK2.out.size))
                  have hncap := hno.cap
                  have hnm : (names c).length ≤ maxLen := Nat.le_trans hno.rd.cap hno.rd.max
                  unfold maxLen at hnm
                  have HNR := Lib.hid hno.rd
                  obtain ⟨N, hN⟩ : ∃ N, N = names c := ⟨_, rfl⟩
                  have HZN2 : Hid (z ∈ N) := Lib.hid (by rw [hN]; exact HZN.out)
                  rw [← hN] at HNR hncap hnm
                  rw [← hN]
                  clear hno hnb hnsz hN HNC c0 c1 c2 c3 c4 c5 c6 c7 c8 c9 c10 c11 c12 c13 c14 cs
                  go_wp2_with fail
                  go_loopg [66, 8] N.length (fun g i b wr => ∃ n : Nat, n + g = N.length ∧ i = .int .i64 (n : Nat) ∧ b = .bool (sHas z (N.take n)) ∧ wr = w5)
                  case atStart => exact ⟨0, by omega, rfl, by simp [sHas], rfl⟩
                  case round =>
                    obtain ⟨n, hn, rfl, rfl, rfl⟩ := hrel
                    cases gk with
                    | zero =>
                      have hnn : ¬ ((n : Int) < (N.length : Int)) := by omega
                      have hzz : sHas z (N.take n) = true := by rw [List.take_of_length_le (by omega)]; exact sHas_iff.2 HZN2.out
                      rw [hzz]
                      clear hzz
                      go_wp2_with fail
                      go_loopg [79] j (fun g i wr => ∃ q : Nat, q + g = j ∧ i = .int .i64 (q : Nat) ∧ Hid (Below w4.heap.size w4 wr))
                      case atStart => exact ⟨0, by omega, rfl, HB5⟩
                      case round =>
                        obtain ⟨q, hq, rfl, HBQ⟩ := hrel
                        rename World => wq
                        cases gk with
                        | zero =>
                          have hqq : ¬ ((q : Int) < (j : Int)) := by omega
                          go_wp2_with fail
                          go_roundg g0
                          case measure => omega
                          case rel => exact ⟨j + 1, by omega, by go_num, HBQ⟩
                        | succ g3 =>
                          have hqq : (q : Int) < (j : Int) := by omega
                          have hq0 : (0 : Int) ≤ (q : Int) ∧ (q : Int) < (C.length : Int) := by omega
                          obtain ⟨x, hx⟩ := get_lt (l := C) (i := q) (by omega)
                          obtain ⟨ad', e', cx⟩ := HC4.out wq HBQ.out q x hx
                          injection e' with e'; subst e'
                          obtain ⟨ad', e', cs⟩ := HC4.out wq HBQ.out j s HS.out
                          injection e' with e'; subst e'
                          have hE4 : (x.toList == s.toList) = false := beq_eq_false_iff_ne.2 (fun e => HUN.out q (by omega) (by rw [hx]; exact congrArg some (ba_ext (by rw [← Lib.toList_data, e, Lib.toList_data]))))
                          clear hx
                          go_wp2_with fail
                          go_still (by kernel_rfl)
                          change Exit.then _ _ _ _ wq.drew
                          have HBQ2 := Lib.hid HBQ.out.drew
                          go_wp2_with fail
                          go_roundg g3
                          case measure => omega
                          case rel => exact ⟨q + 1, by omega, by go_num, HBQ2⟩
                    | succ g2 =>
                      have hnn : (n : Int) < (N.length : Int) := by omega
                      have hn0 : (0 : Int) ≤ (n : Int) ∧ (n : Int) < (N.length : Int) := by omega
                      obtain ⟨y, hy⟩ := get_lt (l := N) (i := n) (by omega)
                      obtain ⟨nd, rfl, hcy⟩ := HNR.out.at_ n (.string y) (by simp [hy])
                      have HE3 : Hid (sHas z (N.take (n + 1)) = (sHas z (N.take n) || (y.toList == z.toList))) := Lib.hid (by
                        exact sHas_step hy)
                      clear hy
                      cases hb : sHas z (N.take n) with
                      | true =>
                        rw [hb] at HE3
                        go_wp2_with fail
                        go_roundg g2
                        case measure => omega
                        case rel => exact ⟨n + 1, by omega, by go_num, by rw [HE3.out]; rfl, rfl⟩
                      | false =>
                        rw [hb] at HE3
                        go_wp2_with fail
                        go_roundg g2
                        case measure => omega
                        case rel => exact ⟨n + 1, by omega, by go_num, by rw [HE3.out]; rfl, rfl⟩
                · have hE : (d.name.toList == s.toList) = false := beq_eq_false_iff_ne.2 (fun e => HBF.out k d (by omega) hd (ba_ext (by rw [← Lib.toList_data, e, Lib.toList_data])))
                  obtain ⟨dl, dlc, d0, _, _, _, _⟩ := cd_cel hdt hdc
                  clear hdt hdc hd
                  subst hA
                  go_wp2_with fail
                  go_still (by kernel_rfl)
                  change Exit.then _ _ _ _ wk.drew
                  have HBK2 := Lib.hid HBK.out.drew
                  go_wp2_with fail
                  go_roundg g1
                  case measure => omega
                  case rel => exact ⟨k + 1, by omega, by omega, by go_num, rfl, HBK2⟩
theorem condsCircle_walk (w : World) (hV : VOk w) (A : Option Addr) (n ac : Nat) (l : List Cd) (hn : n = l.length) (hls : Ls (fun k => k < w.heap.size) w 15 224 Cd.tr A ac l) (NA : Option Addr) (m nc : Nat) (ns : List ByteArray) (hm : m = ns.length) (hns : Ss (fun k => k < w.heap.size) w NA nc ns) :
    Calls Tryd.prog 5 #[.slice A n ac, .slice NA m nc] w (BoolB true w) := by
  subst hn; subst hm
  exact condsCircle_any _ A ac l NA nc ns w hV hls hns
end Go.Proofs.YtmljdppdaaoehaaDoor
