/- hoardinglaw15.not: the walk; conditions in cells. -/
import Derived.Test.YtmljdppdaaoehaaDoorCr1
import Derived.Test.YtmljdppdaaoehaaDoorCs2
import Derived.Test.YtmljdppdaaoehaaDoorSto
namespace Go.Proofs.YtmljdppdaaoehaaDoor
open Go.RowKit
set_option linter.unusedVariables false
set_option linter.unusedSimpArgs false
/-- the cells of a part: its name, kind, parts -/
def ptC (nm : ByteArray) (k : Int) (L : Option Addr) (n lc : Nat) : Array Value := #[.string nm, .int .i8 k, .int .i8 0, .string ⟨#[]⟩, .int .i64 0, .string ⟨#[]⟩, .string ⟨#[]⟩, .slice none 0 0, .int .i8 0, .string ⟨#[]⟩, .int .i64 0, .string ⟨#[]⟩, .string ⟨#[]⟩, .slice none 0 0, .slice L n lc]
def NotOut (cs : Array Value) (w : World) (e : Ending) (w' : World) : Prop := ∃ q, w.heap.size ≤ q ∧ e = .returned (.agg #[.string ⟨#[]⟩, .int .i8 3, .int .i8 0, .string ⟨#[]⟩, .int .i64 0, .string ⟨#[]⟩, .string ⟨#[]⟩, .slice none 0 0, .int .i8 0, .string ⟨#[]⟩, .int .i64 0, .string ⟨#[]⟩, .string ⟨#[]⟩, .slice none 0 0, .slice (some ⟨q, 0, none⟩) 1 1]) ∧ Blk w' q cs 32 ∧ Below w.heap.size w w'
set_option maxRecDepth 100000 in
set_option maxHeartbeats 4000000 in
theorem not_any (nm : ByteArray) (k : Int) (L : Option Addr) (n lc : Nat) (w : World) : Calls Tryd.prog 12 #[.agg #[.string nm, .int .i8 k, .int .i8 0, .string ⟨#[]⟩, .int .i64 0, .string ⟨#[]⟩, .string ⟨#[]⟩, .slice none 0 0, .int .i8 0, .string ⟨#[]⟩, .int .i64 0, .string ⟨#[]⟩, .string ⟨#[]⟩, .slice none 0 0, .slice L n lc]] w (NotOut #[.string nm, .int .i8 k, .int .i8 0, .string ⟨#[]⟩, .int .i64 0, .string ⟨#[]⟩, .string ⟨#[]⟩, .slice none 0 0, .int .i8 0, .string ⟨#[]⟩, .int .i64 0, .string ⟨#[]⟩, .string ⟨#[]⟩, .slice none 0 0, .slice L n lc] w) := by
  go_enter Tryd.func12, Tryd.ntmps12
  go_wp2_with fail
  refine bodyPost_ret (v := .agg (#[.string ⟨#[]⟩, .int .i8 3, .int .i8 0, .string ⟨#[]⟩, .int .i64 0, .string ⟨#[]⟩, .string ⟨#[]⟩, .slice none 0 0, .int .i8 0, .string ⟨#[]⟩, .int .i64 0, .string ⟨#[]⟩, .string ⟨#[]⟩, .slice none 0 0, .slice (some ⟨w.heap.size + 1 + 1, 0, none⟩) 1 1])) (by simp [results, Tryd.results12, go_sem]) rfl ?_
  have e2 : ((w.alloc (.cells #[.string nm, .int .i8 k, .int .i8 0, .string ⟨#[]⟩, .int .i64 0, .string ⟨#[]⟩, .string ⟨#[]⟩, .slice none 0 0, .int .i8 0, .string ⟨#[]⟩, .int .i64 0, .string ⟨#[]⟩, .string ⟨#[]⟩, .slice none 0 0, .slice L n lc] 32)).alloc (.cells #[.string ⟨#[]⟩, .int .i8 3, .int .i8 0, .string ⟨#[]⟩, .int .i64 0, .string ⟨#[]⟩, .string ⟨#[]⟩, .slice none 0 0, .int .i8 0, .string ⟨#[]⟩, .int .i64 0, .string ⟨#[]⟩, .string ⟨#[]⟩, .slice none 0 0, .slice (some ⟨w.heap.size + 1 + 1, 0, none⟩) 1 1] 32)).heap.size = w.heap.size + 1 + 1 := by simp
  refine ⟨w.heap.size + 1 + 1, by omega, rfl, ?_, (((Below.refl _ w).alloc (Nat.le_refl _) _).alloc (by simp) _).alloc (by simp; omega) _⟩
  have := Blk.new ((w.alloc (.cells #[.string nm, .int .i8 k, .int .i8 0, .string ⟨#[]⟩, .int .i64 0, .string ⟨#[]⟩, .string ⟨#[]⟩, .slice none 0 0, .int .i8 0, .string ⟨#[]⟩, .int .i64 0, .string ⟨#[]⟩, .string ⟨#[]⟩, .slice none 0 0, .slice L n lc] 32)).alloc (.cells #[.string ⟨#[]⟩, .int .i8 3, .int .i8 0, .string ⟨#[]⟩, .int .i64 0, .string ⟨#[]⟩, .string ⟨#[]⟩, .slice none 0 0, .int .i8 0, .string ⟨#[]⟩, .int .i64 0, .string ⟨#[]⟩, .string ⟨#[]⟩, .slice none 0 0, .slice (some ⟨w.heap.size + 1 + 1, 0, none⟩) 1 1] 32)) #[.string nm, .int .i8 k, .int .i8 0, .string ⟨#[]⟩, .int .i64 0, .string ⟨#[]⟩, .string ⟨#[]⟩, .slice none 0 0, .int .i8 0, .string ⟨#[]⟩, .int .i64 0, .string ⟨#[]⟩, .string ⟨#[]⟩, .slice none 0 0, .slice L n lc] 32
  rwa [e2] at this
theorem pt_at {S : Nat → Prop} {w : World} {nm : ByteArray} {k : Int} {l : List Cd} {L : Option Addr} {lc : Nat} (hn : nm.size ≤ 140737488351232) (hk : (Lit.int .i8 k).wf = true) (hl : Ls S w 15 224 Cd.tr L lc l) : Trs.at S w (pt nm k l).tr (ptC nm k L l.length lc).toList :=
  Cd.at_iff.2 ⟨_, _, L, lc, rfl, hn, hk, ex_lit 0 ⟨#[]⟩ ⟨#[]⟩ (by decide) (by decide) (by decide), ex_lit 0 ⟨#[]⟩ ⟨#[]⟩ (by decide) (by decide) (by decide), hl⟩
theorem nmP_at {S : Nat → Prop} {w : World} {s : ByteArray} (hn : s.size ≤ 140737488351232) : Trs.at S w (nmP s).tr (ptC s 4 none 0 0).toList := pt_at (l := []) hn (by decide) (Ls.nil _ _ _ _ (by omega) _)
/-- not all (some) of two, in cells -/
theorem not_cont {S : Nat → Prop} {w : World} {s t : ByteArray} {kk : Int} {r q : Nat} (hs : s.size ≤ 140737488351232) (ht : t.size ≤ 140737488351232) (hk : (Lit.int .i8 kk).wf = true) (hr : Blk w r #[.string s, .int .i8 4, .int .i8 0, .string ⟨#[]⟩, .int .i64 0, .string ⟨#[]⟩, .string ⟨#[]⟩, .slice none 0 0, .int .i8 0, .string ⟨#[]⟩, .int .i64 0, .string ⟨#[]⟩, .string ⟨#[]⟩, .slice none 0 0, .slice none 0 0, .string t, .int .i8 4, .int .i8 0, .string ⟨#[]⟩, .int .i64 0, .string ⟨#[]⟩, .string ⟨#[]⟩, .slice none 0 0, .int .i8 0, .string ⟨#[]⟩, .int .i64 0, .string ⟨#[]⟩, .string ⟨#[]⟩, .slice none 0 0, .slice none 0 0] 32) (hq : Blk w q #[.string ⟨#[]⟩, .int .i8 kk, .int .i8 0, .string ⟨#[]⟩, .int .i64 0, .string ⟨#[]⟩, .string ⟨#[]⟩, .slice none 0 0, .int .i8 0, .string ⟨#[]⟩, .int .i64 0, .string ⟨#[]⟩, .string ⟨#[]⟩, .slice none 0 0, .slice (some ⟨r, 0, none⟩) 2 2] 32) (Sr : S r) (Sq : S q) (nm : ByteArray) (hn : nm.size ≤ 1000) :
    Trs.at S w (pt nm 3 [pt noN kk [nmP s, nmP t]]).tr [.string nm, .int .i8 3, .int .i8 0, .string ⟨#[]⟩, .int .i64 0, .string ⟨#[]⟩, .string ⟨#[]⟩, .slice none 0 0, .int .i8 0, .string ⟨#[]⟩, .int .i64 0, .string ⟨#[]⟩, .string ⟨#[]⟩, .slice none 0 0, .slice (some ⟨q, 0, none⟩) 1 1] := by
  have h1 : Ls S w 15 224 Cd.tr (some ⟨r, 0, none⟩) 2 [nmP s, nmP t] := Ls.blk_ (l := [nmP s, nmP t]) hr (by omega) rfl (by simp [maxLen]) (by simp) Sr (by
    rw [List.flatMap_cons, List.flatMap_singleton]
    exact Trs.at.app.2 ⟨_, _, rfl, nmP_at hs, nmP_at ht⟩)
  have h2 : Trs.at S w (pt noN kk [nmP s, nmP t]).tr (ptC noN kk (some ⟨r, 0, none⟩) 2 2).toList := pt_at (l := [nmP s, nmP t]) (by decide) hk h1
  have h3 : Ls S w 15 224 Cd.tr (some ⟨q, 0, none⟩) 1 [pt noN kk [nmP s, nmP t]] := Ls.blk_ (l := [pt noN kk [nmP s, nmP t]]) hq (by omega) rfl (by simp [maxLen]) (by simp) Sq (by
    rw [List.flatMap_singleton]; exact h2)
  exact pt_at (l := [pt noN kk [nmP s, nmP t]]) (by omega) (by decide) h3
/-- one of two not (both not), in cells -/
theorem two_cont {S : Nat → Prop} {w : World} {s t : ByteArray} {kk : Int} {r n1 n2 : Nat} (hs : s.size ≤ 140737488351232) (ht : t.size ≤ 140737488351232) (hk : (Lit.int .i8 kk).wf = true) (h1 : Blk w n1 #[.string s, .int .i8 4, .int .i8 0, .string ⟨#[]⟩, .int .i64 0, .string ⟨#[]⟩, .string ⟨#[]⟩, .slice none 0 0, .int .i8 0, .string ⟨#[]⟩, .int .i64 0, .string ⟨#[]⟩, .string ⟨#[]⟩, .slice none 0 0, .slice none 0 0] 32) (h2 : Blk w n2 #[.string t, .int .i8 4, .int .i8 0, .string ⟨#[]⟩, .int .i64 0, .string ⟨#[]⟩, .string ⟨#[]⟩, .slice none 0 0, .int .i8 0, .string ⟨#[]⟩, .int .i64 0, .string ⟨#[]⟩, .string ⟨#[]⟩, .slice none 0 0, .slice none 0 0] 32)
    (hr : Blk w r #[.string ⟨#[]⟩, .int .i8 3, .int .i8 0, .string ⟨#[]⟩, .int .i64 0, .string ⟨#[]⟩, .string ⟨#[]⟩, .slice none 0 0, .int .i8 0, .string ⟨#[]⟩, .int .i64 0, .string ⟨#[]⟩, .string ⟨#[]⟩, .slice none 0 0, .slice (some ⟨n1, 0, none⟩) 1 1, .string ⟨#[]⟩, .int .i8 3, .int .i8 0, .string ⟨#[]⟩, .int .i64 0, .string ⟨#[]⟩, .string ⟨#[]⟩, .slice none 0 0, .int .i8 0, .string ⟨#[]⟩, .int .i64 0, .string ⟨#[]⟩, .string ⟨#[]⟩, .slice none 0 0, .slice (some ⟨n2, 0, none⟩) 1 1] 32) (S1 : S n1) (S2 : S n2) (Sr : S r) (nm : ByteArray) (hn : nm.size ≤ 1000) :
    Trs.at S w (pt nm kk [notP s, notP t]).tr [.string nm, .int .i8 kk, .int .i8 0, .string ⟨#[]⟩, .int .i64 0, .string ⟨#[]⟩, .string ⟨#[]⟩, .slice none 0 0, .int .i8 0, .string ⟨#[]⟩, .int .i64 0, .string ⟨#[]⟩, .string ⟨#[]⟩, .slice none 0 0, .slice (some ⟨r, 0, none⟩) 2 2] := by
  have k1 : Trs.at S w (notP s).tr (ptC noN 3 (some ⟨n1, 0, none⟩) 1 1).toList := pt_at (l := [nmP s]) (by decide) (by decide) (Ls.blk_ (l := [nmP s]) h1 (by omega) rfl (by simp [maxLen]) (by simp) S1 (by
    rw [List.flatMap_singleton]; exact nmP_at hs))
  have k2 : Trs.at S w (notP t).tr (ptC noN 3 (some ⟨n2, 0, none⟩) 1 1).toList := pt_at (l := [nmP t]) (by decide) (by decide) (Ls.blk_ (l := [nmP t]) h2 (by omega) rfl (by simp [maxLen]) (by simp) S2 (by
    rw [List.flatMap_singleton]; exact nmP_at ht))
  have h3 : Ls S w 15 224 Cd.tr (some ⟨r, 0, none⟩) 2 [notP s, notP t] := Ls.blk_ (l := [notP s, notP t]) hr (by omega) rfl (by simp [maxLen]) (by simp) Sr (by
    rw [List.flatMap_cons, List.flatMap_singleton]
    exact Trs.at.app.2 ⟨_, _, rfl, k1, k2⟩)
  exact pt_at (l := [notP s, notP t]) (by omega) hk h3
end Go.Proofs.YtmljdppdaaoehaaDoor
