/- graph.Order: what it answers. -/
import Derived.Test.YtjpljkjclamjnaaGrOrd
import Derived.Shelf.Abstract
import Derived.WalkMore
import Derived.Deep.LoopGhost
import Derived.Maps.Own
namespace Go.Proofs.Ytjpljkjclamjnaa
open Go.RowKit
set_option linter.unusedVariables false
set_option linter.unusedSimpArgs false

/-- what both Orders answer -/
def OrderP (ls : List (List Int)) (w : World) (e : Ending) (w' : World) : Prop :=
  Below w.heap.size w w' ∧ (mayI ls = false → e = .returned (.tuple #[.slice none 0 0, .int .i64 2])) ∧
  (∀ L, ls = cL L → okG L → orderF L = none → e = .returned (.tuple #[.slice none 0 0, .int .i64 200])) ∧
  (∀ L O, ls = cL L → okG L → orderF L = some O → ∃ A c, e = .returned (.tuple #[.slice A O.length c, .int .i64 0]) ∧ IOw w' w.heap.size A O.length c (cI O))

structure OrdS (w : World) (A : Option Addr) (n c : Nat) (L : List (List Nat)) (T : List Nat) (A' : Option Addr) (c' : Nat) (W : World) : Prop where
  o : OrdI W (w.heap.size + 2) w.heap.size (w.heap.size + 1) T.length A n c L T
  out : IOw W (w.heap.size + 3) A' T.length c' (cI T)
  bel : Below w.heap.size w W
  sz : w.heap.size + 3 ≤ W.heap.size

theorem II.only {w w' : World} {A : Option Addr} {n c : Nat} {ls : List (List Int)} {B : Nat} {w0 : World} (h : II w0 A n c ls) (hb : Below w0.heap.size w0 w') : II w' A n c ls := h.below hb
/-- the map and the row turn -/
theorem OrdS.step {w W w1 w2 : World} {A A' A2 : Option Addr} {n c c' c2 i : Nat} {L : List (List Nat)} {T : List Nat} {ob : Obj} (h : OrdS w A n c L T A' c' W) (h0 : II w A n c (cL L))
    (hm : MB w1 (w.heap.size + 1) (T.length + 1) (fput (tk T) (i : Int) true)) (hg1 : W.grownBy w1 (some (w.heap.size + 1)))
    (ho : IOw w2 (w.heap.size + 3) A2 (T.length + 1) c2 (cI T ++ [(i : Int)])) (hg2 : (w1.alloc ob).grownBy w2 (blk A')) : OrdS w A n c L (T ++ [i]) A2 c2 w2 := by
  have hsz := h.sz
  have hs1 := hg1.size
  have hs2 := hg2.size
  rw [World.size_alloc] at hs2
  have hne : ∀ k, k < w.heap.size + 3 → some k ≠ blk A' := fun k hk e => by have := (h.out.lt e.symm).1; omega
  have hlen : (T ++ [i]).length = T.length + 1 := by simp
  have hbel1 : Below w.heap.size w w1 := h.bel.grown hg1 h.bel.size (fun k e => by injection e with e; omega)
  have hbel : Below w.heap.size w w2 := (hbel1.alloc hbel1.size ob).grown hg2 (by simp; omega) (fun k e => by
    rcases Nat.lt_or_ge k (w.heap.size + 3) with hk | hk
    · exact absurd e.symm (hne k hk)
    · omega)
  have hb2 : w2.heap[w.heap.size + 1]? = w1.heap[w.heap.size + 1]? := (hg2.block _ (by simp; omega) (hne _ (by omega))).trans (Below.heap_alloc _ _ _ (by omega))
  refine ⟨⟨?_, ?_, ?_, h0.below hbel⟩, ?_, hbel, by omega⟩
  · exact ((h.o.pm.kept hg1 (by simp)).alloc ob).kept hg2 (hne _ (by omega))
  · rw [hlen, ← tk_put]
    obtain ⟨D, g1, g2, g3⟩ := hm
    exact ⟨D, ownsMap_same g1 hb2, g2, g3⟩
  · exact ((h.o.pl.kept hg1 (by simp)).alloc ob).kept hg2 (hne _ (by omega))
  · rw [hlen, cI_app]; exact ho

theorem OrdS.init (w : World) {A : Option Addr} {n c : Nat} {L : List (List Nat)} (h : II w A n c (cL L)) (o1 : Obj) (hmk : o1 = .map #[] 0) :
    OrdS w A n c L [] none 0 (((w.alloc (.cells #[.slice A n c] 22)).alloc o1).alloc (.cells #[.map (some (w.heap.size + 1))] 35)) := by
  subst hmk
  have hb : Below w.heap.size w (((w.alloc (.cells #[.slice A n c] 22)).alloc (.map #[] 0)).alloc (.cells #[.map (some (w.heap.size + 1))] 35)) :=
    (((Below.refl _ w).alloc (Nat.le_refl _) _).alloc (by simp) _).alloc (by simp; omega) _
  have h1 := Boxed.new ((w.alloc (.cells #[.slice A n c] 22)).alloc (.map #[] 0)) 35 (.map (some (w.heap.size + 1)))
  have h2 := MB.new (w.alloc (.cells #[.slice A n c] 22))
  rw [World.size_alloc, World.size_alloc] at h1
  rw [World.size_alloc] at h2
  refine ⟨⟨h1, ?_, ((Boxed.new w _ _).alloc _).alloc _, h.below hb⟩, Ow.nil _ _ _ _, hb, by simp⟩
  rw [tk_nil]
  obtain ⟨D, g1, g2, g3⟩ := h2
  exact ⟨D, ownsMap_same g1 (Below.heap_alloc _ _ _ (by simp)), g2, g3⟩
theorem OrdS.row1 {w W w1 : World} {A A' : Option Addr} {n c c' : Nat} {L : List (List Nat)} {T : List Nat} (h : OrdS w A n c L T A' c' W) (hg1 : W.grownBy w1 (some (w.heap.size + 1))) (ob : Obj) : IOw (w1.alloc ob) (w.heap.size + 3) A' T.length c' (cI T) := by
  refine Ow.alloc (Ow.grown h.out hg1 ?_) ob
  cases hA : blk A' with
  | none => exact .inl rfl
  | some g => exact .inr (fun e => by injection e with e; have := (h.out.lt hA).1; omega)
theorem cI_inj {a b : List Nat} (h : cI a = cI b) : a = b := List.map_inj_right (fun x y e => Int.natCast_inj.1 e) |>.1 h
theorem cL_inj {a b : List (List Nat)} (h : cL a = cL b) : a = b := List.map_inj_right (fun x y e => cI_inj e) |>.1 h
theorem OrderP.cyc {L : List (List Nat)} {w W : World} (hb : Below w.heap.size w W) (hm : mayI (cL L) = true) (h : orderF L = none) : OrderP (cL L) w (.returned (.tuple #[.slice none 0 0, .int .i64 200])) W :=
  ⟨hb, fun e => (by rw [hm] at e; cases e), fun _ _ _ _ => rfl, fun L' O e _ h' => (by rw [← cL_inj e, h] at h'; cases h')⟩
theorem OrderP.ok {L : List (List Nat)} {w W : World} {O : List Nat} {A : Option Addr} {c : Nat} (hb : Below w.heap.size w W) (hm : mayI (cL L) = true) (h : orderF L = some O) (ho : IOw W w.heap.size A O.length c (cI O)) : OrderP (cL L) w (.returned (.tuple #[.slice A O.length c, .int .i64 0])) W :=
  ⟨hb, fun e => (by rw [hm] at e; cases e), fun L' e _ h' => (by rw [← cL_inj e, h] at h'; cases h'), fun L' O' e _ h' => (by rw [← cL_inj e, h] at h'; cases h'; exact ⟨A, c, rfl, ho⟩)⟩

set_option maxHeartbeats 2000000 in
theorem order_any (A : Option Addr) (n c : Nat) (ls : List (List Int)) (w : World) (h : II w A n c ls) (hn : n ≤ 1000) :
    Calls Try.prog 10 #[.slice A n c] w (OrderP ls w) := by
  have hc := h.cap
  have hm := h.max
  unfold maxLen at hm
  have HII := Lib.hid (h.below ((Below.refl _ w).alloc (Nat.le_refl _) (.cells #[.slice A n c] 22)))
  have H0 := Lib.hid h
  clear h
  cases hmay : mayI ls with
  | false =>
    have HMAY := Lib.hid hmay
    clear hmay
    go_enter Try.func10, Try.ntmps10
    go_wp2_with fail
    go_step3
    go_wp2_with fail
    refine (may_any _ _ _ _ _ HII.out).mono ?_
    rintro e w' ⟨rfl, rfl⟩
    rw [HMAY.out]
    go_wp2_with fail
    rw [Exit.noGoto_ret]
    go_ret2
    refine ⟨(Below.refl _ w).alloc (Nat.le_refl _) _, fun _ => rfl, ?_, ?_⟩
    · rintro L rfl hok
      have := mayI_cL hok
      rw [HMAY.out] at this; cases this
    · rintro L O rfl hok
      have := mayI_cL hok
      rw [HMAY.out] at this; cases this
  | true =>
    obtain ⟨L, rfl, hok⟩ := mayI_cast hmay
    have HMAY := Lib.hid hmay
    have HOK := Lib.hid hok
    have hlen : L.length = n := by have := H0.out.len; simpa using this
    have HLEN := Lib.hid hlen
    clear hmay hok hlen
    have hmm := @run_makeMap Try.prog
    go_enter Try.func10, Try.ntmps10
    go_wp2_with fail
    go_step3
    go_wp2_with fail
    refine (may_any _ _ _ _ _ HII.out).mono ?_
    rintro e w' ⟨rfl, rfl⟩
    rw [HMAY.out]
    go_wp2_with fail
    clear hmm
    go_step3
    go_wp2_with fail
    go_loopg [2, 14] n (fun g q2 q14 wr => ∃ (T : List Nat) (A' : Option Addr) (c' : Nat), T.length + g = n ∧ q2 = .slice A' T.length c' ∧ q14 = .int .i64 (T.length : Nat) ∧ Hid (OrdS w A n c L T A' c' wr) ∧ Hid (Part L T ∧ ordGo L g T = orderF L))
    case atStart => exact ⟨[], none, 0, by simp, rfl, rfl, Lib.hid (OrdS.init w H0.out _ rfl), Lib.hid ⟨Part.nil L, by rw [← HLEN.out]; rfl⟩⟩
    case round =>
      obtain ⟨T, A', c', hg, rfl, rfl, HS, HT⟩ := hrel
      obtain ⟨W, hWe⟩ : ∃ W, W = wr := ⟨_, rfl⟩
      subst hWe
      have cpl := HS.out.o.pl.cell
      cases gk with
      | zero =>
        have hk : ¬ ((T.length : Int) < (n : Int)) := by omega
        go_wp2_with fail
        (try rw [Exit.noGoto_ret])
        go_ret2
        exact OrderP.ok HS.out.bel HMAY.out (HT.out.2.symm) (Ow.le HS.out.out (by omega))
      | succ g =>
        have hk : (T.length : Int) < n := by omega
        go_wp2_with fail
        go_loopg [2, 18] n (fun g2 q2 q18 wi => ∃ i : Nat, i + g2 = n ∧ q18 = .int .i64 (i : Nat) ∧ q2 = .slice A' T.length c' ∧ wi = W ∧ Hid (∀ k, k < i → rdyB L T k = false))
        case atStart => exact ⟨0, by omega, rfl, rfl, rfl, Lib.hid (fun k h => by omega)⟩
        case round =>
          obtain ⟨i, hi, rfl, rfl, rfl, HF⟩ := hrel
          cases gk with
          | zero =>
            have hkk : ¬ ((i : Int) < (n : Int)) := by omega
            go_wp2_with fail
            (try rw [Exit.noGoto_ret])
            go_ret2
            refine OrderP.cyc HS.out.bel HMAY.out ?_
            rw [← HT.out.2]
            have := nextF_of_none (L := L) (T := T) (fun j hj => HF.out j (by rw [HLEN.out] at hj; omega))
            simp only [ordGo, this]
          | succ g2 =>
            have hkk : (i : Int) < n := by omega
            have cR := ready_any wr (w.heap.size + 2) w.heap.size (w.heap.size + 1) T.length A n c L T HS.out.o HOK.out i (by omega) (by omega)
            have cpm : wr.cell? ⟨w.heap.size + 1 + 1, 0, none⟩ = some (.map (some (w.heap.size + 1))) := HS.out.o.pm.cell
            cases hr : rdyB L T i with
            | false =>
              rw [hr] at cR
              have HF2 : Hid (∀ k, k < i + 1 → rdyB L T k = false) := Lib.hid (fun k hk => by
                rcases Nat.lt_or_ge k i with h | h
                · exact HF.out k h
                · obtain rfl : k = i := by omega
                  exact hr)
              clear hr
              go_wp2_with fail
              refine cR.mono ?_
              rintro e w' ⟨rfl, rfl⟩
              go_wp2_with fail
              go_roundg g2
              case measure => omega
              case rel => exact ⟨i + 1, by omega, by go_num, rfl, rfl, HF2⟩
            | true =>
              rw [hr] at cR
              have HR := Lib.hid hr
              clear hr
              go_wp2_with fail
              refine cR.mono ?_
              rintro e w' ⟨rfl, rfl⟩
              go_wp2_with (first
                | (at_mapUpdate; refine put_MB rfl _ _ _ rfl (w.heap.size + 1) T.length (tk T) rfl HS.out.o.mb (by unfold maxLen; omega) (i : Int) (by omega) (by omega) rfl true rfl ?_; intro w1 hm1 hg1; have HM1 := Lib.hid hm1; have HG1 := Lib.hid hg1; clear hm1 hg1)
                | (at_builtin; refine app_int rfl (.tmp 26) (.tmp 28) rfl (w.heap.size + 3) A' c' T.length (cI T) rfl (HS.out.row1 HG1.out _) _ 1 1 [(i : Int)] rfl (Rd.oneI _ _ _) (by omega) (by have := HS.out.sz; have := HG1.out.size; simp; omega) ?_; intro A2 c2 w2 ho2 hg2 hat2; have HO2 := Lib.hid ho2; have HG2 := Lib.hid hg2; clear ho2 hg2 hat2))
              go_roundg g
              case measure => omega
              case rel =>
                refine ⟨T ++ [i], A2, c2, by simp; omega, by simp, by simp, Lib.hid (HS.out.step H0.out HM1.out HG1.out HO2.out HG2.out), Lib.hid ⟨HT.out.1.snoc (by rw [HLEN.out]; omega) HR.out, ?_⟩⟩
                rw [← HT.out.2]
                have := nextF_of (L := L) (T := T) (by rw [HLEN.out]; omega) HR.out (fun j hj => HF.out j hj)
                simp only [ordGo, this]
end Go.Proofs.Ytjpljkjclamjnaa
