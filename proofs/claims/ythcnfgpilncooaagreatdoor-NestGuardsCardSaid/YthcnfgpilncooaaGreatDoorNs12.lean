/- hoardinglaw17.wakes. -/
import Derived.Test.YthcnfgpilncooaaGreatDoorNs11
import Derived.Test.YthcnfgpilncooaaGreatDoorGtTmpl
import Derived.Test.YthcnfgpilncooaaGreatDoorNs7
namespace Go.Proofs.YthcnfgpilncooaaGreatDoor
open Go.RowKit
set_option linter.unusedVariables false
set_option linter.unusedSimpArgs false

theorem Ls.lit {α : Type} {tr : α → List Tr} (w : World) (sz b : Nat) (l : List α) (cs : Array Value) (t : TypeId) (hsz : 0 < sz) (hb : l.length * b ≤ 1000000) (hl : l.length ≤ 1000) (hcs : cs.size = l.length * sz) (ht : Trs.at (fun _ => True) w (l.flatMap tr) cs.toList) :
    Ls (fun _ => True) (w.alloc (.cells cs t)) sz b tr (some ⟨w.heap.size, 0, none⟩) l.length l :=
  ⟨hsz, by omega, Nat.le_refl _, by unfold maxLen; omega, fun _ _ _ => trivial, _, Rd.lit w sz l.length cs t (0, 0) hcs (by unfold maxLen; omega), ht.alloc _⟩
theorem rs_lit {S : Nat → Prop} {w : World} {i ty : ByteArray} {l : List Tm} {A : Option Addr} {c : Nat} (hi : i.size ≤ 1000) (hty : ty.size ≤ 1000) (hl : Ls S w 4 96 Tm.tr A c l) :
    Trs.at S w (Rs.tr ⟨i, ty, ByteArray.empty, [], [], false, l⟩) [.string i, .string ty, .string ByteArray.empty, .slice none 0 0, .slice none 0 0, .bool false, .slice A l.length c] :=
  Rs.at_iff.2 ⟨none, 0, none, 0, A, c, rfl, by show i.size ≤ _; omega, by show ty.size ≤ _; omega, by show ByteArray.empty.size ≤ _; decide, Ls.nil _ _ _ _ (by omega) _, Ls.nil _ _ _ _ (by omega) _, hl⟩
theorem tm_lit {S : Nat → Prop} {w : World} {l : List Rs} {A : Option Addr} {c : Nat} (hl : Ls S w 7 128 Rs.tr A c l) : Trs.at S w (Tm.tr ⟨[], [], l, []⟩) [.slice none 0 0, .slice none 0 0, .slice A l.length c, .slice none 0 0] :=
  Tm.at_iff.2 ⟨none, 0, none, 0, A, c, none, 0, rfl, Ls.nil _ _ _ _ (by omega) _, Ls.nil _ _ _ _ (by omega) _, hl, Ls.nil _ _ _ _ (by omega) _⟩
def rC : Rs := ⟨⟨#[67]⟩, ⟨#[82, 117, 108, 101]⟩, ByteArray.empty, [], [], false, []⟩
def rB : Rs := ⟨⟨#[66]⟩, ⟨#[78, 101, 116]⟩, ByteArray.empty, [], [], false, []⟩
def rM : Rs := ⟨⟨#[77]⟩, ⟨#[83, 116, 97, 99, 107]⟩, ByteArray.empty, [], [], false, [⟨[], [], [rC], []⟩]⟩
def rA : Rs := ⟨⟨#[65]⟩, ⟨#[68, 105, 115, 107]⟩, ByteArray.empty, [], [], false, []⟩
def rN : Rs := ⟨⟨#[78]⟩, ⟨#[83, 116, 97, 99, 107]⟩, ByteArray.empty, [], [], false, [⟨[], [], [rB, rM], []⟩]⟩
def t0 : Tm := ⟨[], [], [rA, rN], []⟩
theorem t0_ok : t0.ok 8 := by
  simp [t0, Tm.ok, rA, rN, rB, rM, rC]
  decide
theorem t0_flat : (flatF 8 t0).1 = 0 ∧ (flatF 8 t0).2.1.length = 3 ∧ (flatF 8 t0).2.2.length = 3 ∧ (flatF 8 t0).2.2.map Nd.id = [⟨#[65]⟩, ⟨#[78, 46, 66]⟩, ⟨#[78, 46, 77, 46, 67]⟩] ∧ (flatF 8 t0).2.1[2]?.map Sc.pre = some ⟨#[78, 46, 77, 46]⟩ :=
  ⟨by kernel_rfl, by kernel_rfl, by kernel_rfl, by kernel_rfl, by kernel_rfl⟩
theorem t0_at (w : World) : Trs.at (fun _ => True) (((((((w.alloc (.cells #[.string ⟨#[67]⟩, .string ⟨#[82, 117, 108, 101]⟩, .string ⟨#[]⟩, .slice none 0 0, .slice none 0 0, .bool false, .slice none 0 0] 48)).alloc (.cells #[.slice none 0 0, .slice none 0 0, .slice (some ⟨w.heap.size, 0, none⟩) 1 1, .slice none 0 0] 27)).alloc (.cells #[.slice none 0 0, .slice none 0 0, .slice (some ⟨w.heap.size, 0, none⟩) 1 1, .slice none 0 0] 27)).alloc (.cells #[.string ⟨#[66]⟩, .string ⟨#[78, 101, 116]⟩, .string ⟨#[]⟩, .slice none 0 0, .slice none 0 0, .bool false, .slice none 0 0, .string ⟨#[77]⟩, .string ⟨#[83, 116, 97, 99, 107]⟩, .string ⟨#[]⟩, .slice none 0 0, .slice none 0 0, .bool false, .slice (some ⟨w.heap.size + 1 + 1, 0, none⟩) 1 1] 48)).alloc (.cells #[.slice none 0 0, .slice none 0 0, .slice (some ⟨w.heap.size + 1 + 1 + 1, 0, none⟩) 2 2, .slice none 0 0] 27)).alloc (.cells #[.slice none 0 0, .slice none 0 0, .slice (some ⟨w.heap.size + 1 + 1 + 1, 0, none⟩) 2 2, .slice none 0 0] 27)).alloc (.cells #[.string ⟨#[65]⟩, .string ⟨#[68, 105, 115, 107]⟩, .string ⟨#[]⟩, .slice none 0 0, .slice none 0 0, .bool false, .slice none 0 0, .string ⟨#[78]⟩, .string ⟨#[83, 116, 97, 99, 107]⟩, .string ⟨#[]⟩, .slice none 0 0, .slice none 0 0, .bool false, .slice (some ⟨w.heap.size + 1 + 1 + 1 + 1 + 1, 0, none⟩) 1 1] 48)) t0.tr [.slice none 0 0, .slice none 0 0, .slice (some ⟨w.heap.size + 1 + 1 + 1 + 1 + 1 + 1, 0, none⟩) 2 2, .slice none 0 0] := by
  have n1 : Ls (fun _ => True) w 4 96 Tm.tr none 0 [] := Ls.nil _ _ _ _ (by omega) _
  have h0 := Ls.lit (tr := Rs.tr) w 7 128 [rC] #[.string ⟨#[67]⟩, .string ⟨#[82, 117, 108, 101]⟩, .string ⟨#[]⟩, .slice none 0 0, .slice none 0 0, .bool false, .slice none 0 0] 48 (by omega) (by decide) (by decide) rfl
    (by
      rw [List.flatMap_cons, List.flatMap_nil, List.append_nil]
      exact rs_lit (i := ⟨#[67]⟩) (ty := ⟨#[82, 117, 108, 101]⟩) (by decide) (by decide) n1)
  have h1 := (tm_lit h0).alloc (.cells #[.slice none 0 0, .slice none 0 0, .slice (some ⟨w.heap.size, 0, none⟩) 1 1, .slice none 0 0] 27)
  have h2 := Ls.lit (tr := Tm.tr) _ 4 96 [⟨[], [], [rC], []⟩] #[.slice none 0 0, .slice none 0 0, .slice (some ⟨w.heap.size, 0, none⟩) 1 1, .slice none 0 0] 27 (by omega) (by decide) (by decide) rfl (by simpa using h1)
  have e2 : ((w.alloc (.cells #[.string ⟨#[67]⟩, .string ⟨#[82, 117, 108, 101]⟩, .string ⟨#[]⟩, .slice none 0 0, .slice none 0 0, .bool false, .slice none 0 0] 48)).alloc (.cells #[.slice none 0 0, .slice none 0 0, .slice (some ⟨w.heap.size, 0, none⟩) 1 1, .slice none 0 0] 27)).heap.size = w.heap.size + 1 + 1 := by simp
  rw [e2] at h2
  generalize hw3 : ((w.alloc (.cells #[.string ⟨#[67]⟩, .string ⟨#[82, 117, 108, 101]⟩, .string ⟨#[]⟩, .slice none 0 0, .slice none 0 0, .bool false, .slice none 0 0] 48)).alloc (.cells #[.slice none 0 0, .slice none 0 0, .slice (some ⟨w.heap.size, 0, none⟩) 1 1, .slice none 0 0] 27)).alloc (.cells #[.slice none 0 0, .slice none 0 0, .slice (some ⟨w.heap.size, 0, none⟩) 1 1, .slice none 0 0] 27) = w3 at h2 ⊢
  have s3 : w3.heap.size = w.heap.size + 1 + 1 + 1 := by rw [← hw3]; simp
  have n3 : Ls (fun _ => True) w3 4 96 Tm.tr none 0 [] := Ls.nil _ _ _ _ (by omega) _
  have h3 := Ls.lit (tr := Rs.tr) w3 7 128 [rB, rM] #[.string ⟨#[66]⟩, .string ⟨#[78, 101, 116]⟩, .string ⟨#[]⟩, .slice none 0 0, .slice none 0 0, .bool false, .slice none 0 0, .string ⟨#[77]⟩, .string ⟨#[83, 116, 97, 99, 107]⟩, .string ⟨#[]⟩, .slice none 0 0, .slice none 0 0, .bool false, .slice (some ⟨w.heap.size + 1 + 1, 0, none⟩) 1 1] 48 (by omega) (by decide) (by decide) rfl
    (by
      rw [List.flatMap_cons, List.flatMap_cons, List.flatMap_nil, List.append_nil]
      exact Trs.at.app.2 ⟨_, _, rfl, rs_lit (i := ⟨#[66]⟩) (ty := ⟨#[78, 101, 116]⟩) (by decide) (by decide) n3, rs_lit (i := ⟨#[77]⟩) (ty := ⟨#[83, 116, 97, 99, 107]⟩) (by decide) (by decide) h2⟩)
  rw [s3] at h3
  have h4 := (tm_lit h3).alloc (.cells #[.slice none 0 0, .slice none 0 0, .slice (some ⟨w.heap.size + 1 + 1 + 1, 0, none⟩) 2 2, .slice none 0 0] 27)
  have h5 := Ls.lit (tr := Tm.tr) _ 4 96 [⟨[], [], [rB, rM], []⟩] #[.slice none 0 0, .slice none 0 0, .slice (some ⟨w.heap.size + 1 + 1 + 1, 0, none⟩) 2 2, .slice none 0 0] 27 (by omega) (by decide) (by decide) rfl (by simpa using h4)
  have e5 : ((w3.alloc (.cells #[.string ⟨#[66]⟩, .string ⟨#[78, 101, 116]⟩, .string ⟨#[]⟩, .slice none 0 0, .slice none 0 0, .bool false, .slice none 0 0, .string ⟨#[77]⟩, .string ⟨#[83, 116, 97, 99, 107]⟩, .string ⟨#[]⟩, .slice none 0 0, .slice none 0 0, .bool false, .slice (some ⟨w.heap.size + 1 + 1, 0, none⟩) 1 1] 48)).alloc (.cells #[.slice none 0 0, .slice none 0 0, .slice (some ⟨w.heap.size + 1 + 1 + 1, 0, none⟩) 2 2, .slice none 0 0] 27)).heap.size = w.heap.size + 1 + 1 + 1 + 1 + 1 := by simp [s3]
  rw [e5] at h5
  generalize hw6 : ((w3.alloc (.cells #[.string ⟨#[66]⟩, .string ⟨#[78, 101, 116]⟩, .string ⟨#[]⟩, .slice none 0 0, .slice none 0 0, .bool false, .slice none 0 0, .string ⟨#[77]⟩, .string ⟨#[83, 116, 97, 99, 107]⟩, .string ⟨#[]⟩, .slice none 0 0, .slice none 0 0, .bool false, .slice (some ⟨w.heap.size + 1 + 1, 0, none⟩) 1 1] 48)).alloc (.cells #[.slice none 0 0, .slice none 0 0, .slice (some ⟨w.heap.size + 1 + 1 + 1, 0, none⟩) 2 2, .slice none 0 0] 27)).alloc (.cells #[.slice none 0 0, .slice none 0 0, .slice (some ⟨w.heap.size + 1 + 1 + 1, 0, none⟩) 2 2, .slice none 0 0] 27) = w6 at h5 ⊢
  have s6 : w6.heap.size = w.heap.size + 1 + 1 + 1 + 1 + 1 + 1 := by rw [← hw6]; simp [s3]
  have n6 : Ls (fun _ => True) w6 4 96 Tm.tr none 0 [] := Ls.nil _ _ _ _ (by omega) _
  have h6 := Ls.lit (tr := Rs.tr) w6 7 128 [rA, rN] #[.string ⟨#[65]⟩, .string ⟨#[68, 105, 115, 107]⟩, .string ⟨#[]⟩, .slice none 0 0, .slice none 0 0, .bool false, .slice none 0 0, .string ⟨#[78]⟩, .string ⟨#[83, 116, 97, 99, 107]⟩, .string ⟨#[]⟩, .slice none 0 0, .slice none 0 0, .bool false, .slice (some ⟨w.heap.size + 1 + 1 + 1 + 1 + 1, 0, none⟩) 1 1] 48 (by omega) (by decide) (by decide) rfl
    (by
      rw [List.flatMap_cons, List.flatMap_cons, List.flatMap_nil, List.append_nil]
      exact Trs.at.app.2 ⟨_, _, rfl, rs_lit (i := ⟨#[65]⟩) (ty := ⟨#[68, 105, 115, 107]⟩) (by decide) (by decide) n6, rs_lit (i := ⟨#[78]⟩) (ty := ⟨#[83, 116, 97, 99, 107]⟩) (by decide) (by decide) h5⟩)
  rw [s6] at h6
  exact tm_lit h6

set_option maxRecDepth 100000 in
set_option maxHeartbeats 4000000 in
theorem wakes_any (w : World) : Calls Tryz.prog 5 #[] w fun e w' => e = .returned (.bool true) ∧ Below w.heap.size w w' := by
  have HC : Hid (Calls Tryz.prog 6 #[.agg #[.slice none 0 0, .slice none 0 0, .slice (some ⟨w.heap.size + 1 + 1 + 1 + 1 + 1 + 1, 0, none⟩) 2 2, .slice none 0 0]] (((((((w.alloc (.cells #[.string ⟨#[67]⟩, .string ⟨#[82, 117, 108, 101]⟩, .string ⟨#[]⟩, .slice none 0 0, .slice none 0 0, .bool false, .slice none 0 0] 48)).alloc (.cells #[.slice none 0 0, .slice none 0 0, .slice (some ⟨w.heap.size, 0, none⟩) 1 1, .slice none 0 0] 27)).alloc (.cells #[.slice none 0 0, .slice none 0 0, .slice (some ⟨w.heap.size, 0, none⟩) 1 1, .slice none 0 0] 27)).alloc (.cells #[.string ⟨#[66]⟩, .string ⟨#[78, 101, 116]⟩, .string ⟨#[]⟩, .slice none 0 0, .slice none 0 0, .bool false, .slice none 0 0, .string ⟨#[77]⟩, .string ⟨#[83, 116, 97, 99, 107]⟩, .string ⟨#[]⟩, .slice none 0 0, .slice none 0 0, .bool false, .slice (some ⟨w.heap.size + 1 + 1, 0, none⟩) 1 1] 48)).alloc (.cells #[.slice none 0 0, .slice none 0 0, .slice (some ⟨w.heap.size + 1 + 1 + 1, 0, none⟩) 2 2, .slice none 0 0] 27)).alloc (.cells #[.slice none 0 0, .slice none 0 0, .slice (some ⟨w.heap.size + 1 + 1 + 1, 0, none⟩) 2 2, .slice none 0 0] 27)).alloc (.cells #[.string ⟨#[65]⟩, .string ⟨#[68, 105, 115, 107]⟩, .string ⟨#[]⟩, .slice none 0 0, .slice none 0 0, .bool false, .slice none 0 0, .string ⟨#[78]⟩, .string ⟨#[83, 116, 97, 99, 107]⟩, .string ⟨#[]⟩, .slice none 0 0, .slice none 0 0, .bool false, .slice (some ⟨w.heap.size + 1 + 1 + 1 + 1 + 1, 0, none⟩) 1 1] 48)) (FlatOut (flatF 8 t0) (((((((w.alloc (.cells #[.string ⟨#[67]⟩, .string ⟨#[82, 117, 108, 101]⟩, .string ⟨#[]⟩, .slice none 0 0, .slice none 0 0, .bool false, .slice none 0 0] 48)).alloc (.cells #[.slice none 0 0, .slice none 0 0, .slice (some ⟨w.heap.size, 0, none⟩) 1 1, .slice none 0 0] 27)).alloc (.cells #[.slice none 0 0, .slice none 0 0, .slice (some ⟨w.heap.size, 0, none⟩) 1 1, .slice none 0 0] 27)).alloc (.cells #[.string ⟨#[66]⟩, .string ⟨#[78, 101, 116]⟩, .string ⟨#[]⟩, .slice none 0 0, .slice none 0 0, .bool false, .slice none 0 0, .string ⟨#[77]⟩, .string ⟨#[83, 116, 97, 99, 107]⟩, .string ⟨#[]⟩, .slice none 0 0, .slice none 0 0, .bool false, .slice (some ⟨w.heap.size + 1 + 1, 0, none⟩) 1 1] 48)).alloc (.cells #[.slice none 0 0, .slice none 0 0, .slice (some ⟨w.heap.size + 1 + 1 + 1, 0, none⟩) 2 2, .slice none 0 0] 27)).alloc (.cells #[.slice none 0 0, .slice none 0 0, .slice (some ⟨w.heap.size + 1 + 1 + 1, 0, none⟩) 2 2, .slice none 0 0] 27)).alloc (.cells #[.string ⟨#[65]⟩, .string ⟨#[68, 105, 115, 107]⟩, .string ⟨#[]⟩, .slice none 0 0, .slice none 0 0, .bool false, .slice none 0 0, .string ⟨#[78]⟩, .string ⟨#[83, 116, 97, 99, 107]⟩, .string ⟨#[]⟩, .slice none 0 0, .slice none 0 0, .bool false, .slice (some ⟨w.heap.size + 1 + 1 + 1 + 1 + 1, 0, none⟩) 1 1] 48)))) := Lib.hid (flat_any (fun _ => True) 8 t0 _ _ t0_ok (t0_at w))
  have HB : Hid (Below w.heap.size w (((((((w.alloc (.cells #[.string ⟨#[67]⟩, .string ⟨#[82, 117, 108, 101]⟩, .string ⟨#[]⟩, .slice none 0 0, .slice none 0 0, .bool false, .slice none 0 0] 48)).alloc (.cells #[.slice none 0 0, .slice none 0 0, .slice (some ⟨w.heap.size, 0, none⟩) 1 1, .slice none 0 0] 27)).alloc (.cells #[.slice none 0 0, .slice none 0 0, .slice (some ⟨w.heap.size, 0, none⟩) 1 1, .slice none 0 0] 27)).alloc (.cells #[.string ⟨#[66]⟩, .string ⟨#[78, 101, 116]⟩, .string ⟨#[]⟩, .slice none 0 0, .slice none 0 0, .bool false, .slice none 0 0, .string ⟨#[77]⟩, .string ⟨#[83, 116, 97, 99, 107]⟩, .string ⟨#[]⟩, .slice none 0 0, .slice none 0 0, .bool false, .slice (some ⟨w.heap.size + 1 + 1, 0, none⟩) 1 1] 48)).alloc (.cells #[.slice none 0 0, .slice none 0 0, .slice (some ⟨w.heap.size + 1 + 1 + 1, 0, none⟩) 2 2, .slice none 0 0] 27)).alloc (.cells #[.slice none 0 0, .slice none 0 0, .slice (some ⟨w.heap.size + 1 + 1 + 1, 0, none⟩) 2 2, .slice none 0 0] 27)).alloc (.cells #[.string ⟨#[65]⟩, .string ⟨#[68, 105, 115, 107]⟩, .string ⟨#[]⟩, .slice none 0 0, .slice none 0 0, .bool false, .slice none 0 0, .string ⟨#[78]⟩, .string ⟨#[83, 116, 97, 99, 107]⟩, .string ⟨#[]⟩, .slice none 0 0, .slice none 0 0, .bool false, .slice (some ⟨w.heap.size + 1 + 1 + 1 + 1 + 1, 0, none⟩) 1 1] 48))) := Lib.hid ((((((((Below.refl _ w).alloc (Nat.le_refl _) _).alloc (by simp) _).alloc (by simp; omega) _).alloc (by simp; omega) _).alloc (by simp; omega) _).alloc (by simp; omega) _).alloc (by simp; omega) _)
  obtain ⟨f1, f2, f3, f4, f5⟩ := t0_flat
  generalize flatF 8 t0 = r at f1 f2 f3 f4 f5 HC
  obtain ⟨e0, sc, nd⟩ := r
  simp only at f1 f2 f3 f4 f5
  subst f1
  go_enter Tryz.func5, Tryz.ntmps5
  go_wp2_with fail
  refine HC.out.mono ?_
  rintro e w5 ⟨hb, A1, c1, A2, c2, rfl, hs, hn⟩
  simp only at hs hn
  obtain ⟨s0, s1, s2, rfl⟩ : ∃ s0 s1 s2, sc = [s0, s1, s2] := by
    match sc, f2 with
    | [a, b, c], _ => exact ⟨a, b, c, rfl⟩
  obtain ⟨n0, n1, n2, rfl⟩ : ∃ n0 n1 n2, nd = [n0, n1, n2] := by
    match nd, f3 with
    | [a, b, c], _ => exact ⟨a, b, c, rfl⟩
  simp only [List.map_cons, List.map_nil, List.cons.injEq, and_true] at f4
  obtain ⟨i0, i1, i2⟩ := f4
  have i3 : s2.pre = ⟨#[78, 46, 77, 46]⟩ := by simpa using f5
  have hs' := Ls.alloc hs (.cells #[.slice A1 3 c1, .slice A2 3 c2] 34)
  have hn' := Ls.alloc hn (.cells #[.slice A1 3 c1, .slice A2 3 c2] 34)
  obtain ⟨ad, k0, rfl, g0, d0⟩ := hn'.elem Nd.trlen (i := 0) (x := n0) rfl
  obtain ⟨ad1, k1, e1, g1, d1⟩ := hn'.elem Nd.trlen (i := 1) (x := n1) rfl
  obtain ⟨ad2, k2, e2, g2, d2⟩ := hn'.elem Nd.trlen (i := 2) (x := n2) rfl
  injection e1 with e1
  injection e2 with e2
  subst e1 e2
  obtain ⟨bd, k3, rfl, g3, d3⟩ := hs'.elem Sc.trlen (i := 2) (x := s2) rfl
  obtain ⟨x0, rfl, y0⟩ := Nd.cells g0
  obtain ⟨x1, rfl, y1⟩ := Nd.cells g1
  obtain ⟨x2, rfl, y2⟩ := Nd.cells g2
  obtain ⟨u1, u2, u3, rfl, _⟩ := Sc.at_iff.1 g3
  have z0 := d0 0 _ rfl
  have z1 := d1 0 _ rfl
  have z2 := d2 0 _ rfl
  have z3 := d3 1 _ rfl
  rw [y0, i0] at z0
  rw [y1, i1] at z1
  rw [y2, i2] at z2
  rw [i3] at z3
  rw [if_pos rfl] at z0 z1 z2
  rw [show ad.add (0 * 11) = ad from by simp [Addr.add]] at z0
  rw [add_pos _ (by omega)] at z1 z2
  rw [if_neg (by omega), add_pos _ (by omega)] at z3
  simp only [Nat.reduceMul, Nat.add_assoc, Nat.reduceAdd] at z1 z2 z3
  have HB5 := Lib.hid (HB.out.trans (hb.mono HB.out.size))
  clear g0 g1 g2 g3 d0 d1 d2 d3 hs hn hs' hn' hb y0 y1 y2 i0 i1 i2 i3 f2 f3 f5
  go_wp2_with fail
  go_ret
  exact ⟨rfl, HB5.out.alloc HB5.out.size _⟩
end Go.Proofs.YthcnfgpilncooaaGreatDoor
