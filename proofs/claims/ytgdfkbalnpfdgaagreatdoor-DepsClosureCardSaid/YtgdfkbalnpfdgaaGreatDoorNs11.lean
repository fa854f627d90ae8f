/- nest.Flatten: the walk. -/
import Derived.Test.YtgdfkbalnpfdgaaGreatDoorNs10
namespace Go.Proofs.YtgdfkbalnpfdgaaGreatDoor
open Go.RowKit
set_option linter.unusedVariables false
set_option linter.unusedSimpArgs false
theorem celB {w : World} {q : Nat} {cs : Array Value} {t : TypeId} (h : Blk w q cs t) : Cel w ⟨q, 0, none⟩ cs.toList := fun j u hu => by
 have h1 := h.cell j (v := u) (by simpa using hu)
 split
 ·next hj => subst hj; exact h1
 ·show w.cell? ⟨q, 0 + j, none⟩ = some u
  rw [Nat.zero_add]; exact h1
theorem bel_start {w w1 : World} {c1 c2 : Array Value} {t1 t2 t3 t4 : TypeId} {c3 c4 : Array Value} (hb1 : Below ((w.alloc (.cells c1 t1)).alloc (.cells c2 t2)).heap.size ((w.alloc (.cells c1 t1)).alloc (.cells c2 t2)) w1) :
 Below w.heap.size w ((w1.alloc (.cells c3 t3)).alloc (.cells c4 t4)) := by
 have hs1 : w.heap.size + 2 ≤ w1.heap.size := by have := hb1.size; simpa using this
 exact (((((Below.refl _ w).alloc (Nat.le_refl _) _).alloc (by simp) _).trans (hb1.mono (by simp; omega))).alloc (by omega) _).alloc (by simp; omega) _
theorem fb_start {w w1 : World} {c1 c2 : Array Value} {t1 t2 t3 t4 : TypeId} {c3 c4 : Array Value} (hb1 : Below ((w.alloc (.cells c1 t1)).alloc (.cells c2 t2)).heap.size ((w.alloc (.cells c1 t1)).alloc (.cells c2 t2)) w1) :
 Blk ((w1.alloc (.cells c3 t3)).alloc (.cells c4 t4)) (w.heap.size + 1) c2 t2 := by
 have h := (((Blk.new (w.alloc (.cells c1 t1)) c2 t2).below hb1).alloc (.cells c3 t3)).alloc (.cells c4 t4)
 have e : (w.alloc (.cells c1 t1)).heap.size = w.heap.size + 1 := by simp
 rw [e] at h
 exact h
theorem put_start {S : Nat → Prop} {k : Nat} {t : Tm} {A B C D : Option Addr} {a b c d : Nat} {w w1 : World} (ht : t.ok k) (htr : Trs.at (fun k => S k ∧ k < w.heap.size) w t.tr [.slice A t.params.length a, .slice B t.conds.length b, .slice C t.res.length c, .slice D t.outs.length d])
 (hb1 : Below ((w.alloc (.cells #[.slice A t.params.length a, .slice B t.conds.length b, .slice C t.res.length c, .slice D t.outs.length d] 27)).alloc (.cells #[.slice none 0 0, .slice none 0 0] 34)).heap.size ((w.alloc (.cells #[.slice A t.params.length a, .slice B t.conds.length b, .slice C t.res.length c, .slice D t.outs.length d] 27)).alloc (.cells #[.slice none 0 0, .slice none 0 0] 34)) w1) :
 ∃ R : Rw, (∀ k', R.mu (w1.heap.size + 1) k' → w1.heap.size ≤ k') ∧ Calls Tryz.prog 46 #[.pointer (some ⟨w1.heap.size + 1, 0, none⟩), .pointer (some ⟨w.heap.size, 0, none⟩), .agg #[.int .i64 0, .slice none 0 0, .slice none 0 0, .int .i64 0]]
   ((w1.alloc (.cells #[.int .i64 (-1), .string ⟨#[]⟩, .slice A t.params.length a, .slice B t.conds.length b, .slice none 0 0, .slice D t.outs.length d, .slice none 0 0] 76)).alloc (.cells #[.slice (some ⟨w1.heap.size, 0, none⟩) 1 1, .slice none 0 0, .slice none 0 0] 123))
   (PutOut (w.heap.size + 2) (w1.heap.size + 1) R (putF k t ar0 (bs0 t)) ((w1.alloc (.cells #[.int .i64 (-1), .string ⟨#[]⟩, .slice A t.params.length a, .slice B t.conds.length b, .slice none 0 0, .slice D t.outs.length d, .slice none 0 0] 76)).alloc (.cells #[.slice (some ⟨w1.heap.size, 0, none⟩) 1 1, .slice none 0 0, .slice none 0 0] 123))) := by
 have hs1 : w.heap.size + 2 ≤ w1.heap.size := by have := hb1.size; simpa using this
 have hb2 : Below w.heap.size w ((w1.alloc (.cells #[.int .i64 (-1), .string ⟨#[]⟩, .slice A t.params.length a, .slice B t.conds.length b, .slice none 0 0, .slice D t.outs.length d, .slice none 0 0] 76)).alloc (.cells #[.slice (some ⟨w1.heap.size, 0, none⟩) 1 1, .slice none 0 0, .slice none 0 0] 123)) :=
  (((((Below.refl _ w).alloc (Nat.le_refl _) _).alloc (by simp) _).trans (hb1.mono (by simp; omega))).alloc (by omega) _).alloc (by simp; omega) _
 have htb : Blk ((w1.alloc (.cells #[.int .i64 (-1), .string ⟨#[]⟩, .slice A t.params.length a, .slice B t.conds.length b, .slice none 0 0, .slice D t.outs.length d, .slice none 0 0] 76)).alloc (.cells #[.slice (some ⟨w1.heap.size, 0, none⟩) 1 1, .slice none 0 0, .slice none 0 0] 123)) w.heap.size #[.slice A t.params.length a, .slice B t.conds.length b, .slice C t.res.length c, .slice D t.outs.length d] 27 :=
  ((((Blk.new w _ _).alloc _).below hb1).alloc _).alloc _
 have hsb := (Blk.new w1 #[.int .i64 (-1), .string ⟨#[]⟩, .slice A t.params.length a, .slice B t.conds.length b, .slice none 0 0, .slice D t.outs.length d, .slice none 0 0] 76).alloc (.cells #[.slice (some ⟨w1.heap.size, 0, none⟩) 1 1, .slice none 0 0, .slice none 0 0] 123)
 have hqb := Blk.new (w1.alloc (.cells #[.int .i64 (-1), .string ⟨#[]⟩, .slice A t.params.length a, .slice B t.conds.length b, .slice none 0 0, .slice D t.outs.length d, .slice none 0 0] 76)) #[.slice (some ⟨w1.heap.size, 0, none⟩) 1 1, .slice none 0 0, .slice none 0 0] 123
 have hsz : (w1.alloc (.cells #[.int .i64 (-1), .string ⟨#[]⟩, .slice A t.params.length a, .slice B t.conds.length b, .slice none 0 0, .slice D t.outs.length d, .slice none 0 0] 76)).heap.size = w1.heap.size + 1 := by simp
 have hsz2 : ((w1.alloc (.cells #[.int .i64 (-1), .string ⟨#[]⟩, .slice A t.params.length a, .slice B t.conds.length b, .slice none 0 0, .slice D t.outs.length d, .slice none 0 0] 76)).alloc (.cells #[.slice (some ⟨w1.heap.size, 0, none⟩) 1 1, .slice none 0 0, .slice none 0 0] 123)).heap.size = w1.heap.size + 2 := by simp
 rw [hsz] at hqb
 generalize ((w1.alloc (.cells #[.int .i64 (-1), .string ⟨#[]⟩, .slice A t.params.length a, .slice B t.conds.length b, .slice none 0 0, .slice D t.outs.length d, .slice none 0 0] 76)).alloc (.cells #[.slice (some ⟨w1.heap.size, 0, none⟩) 1 1, .slice none 0 0, .slice none 0 0] 123)) = w2 at *
 have htr2 := htr.below hb2
 obtain ⟨A', a', B', b', C', c', D', d', he, g1, g2, g3, g4⟩ := Tm.at_iff.1 htr2
 simp only [List.cons.injEq, Value.slice.injEq, true_and, and_true] at he
 obtain ⟨⟨rfl, rfl⟩, ⟨rfl, rfl⟩, ⟨rfl, rfl⟩, rfl, rfl⟩ := he
 have hbare : Trs.at (fun k => S k ∧ k < w.heap.size) w2 (bareT t).tr [.slice A t.params.length a, .slice B t.conds.length b, .slice none 0 0, .slice D t.outs.length d] :=
  Tm.at_iff.2 ⟨A, a, B, b, none, 0, D, d, rfl, g1, g2, Ls.nil _ _ _ _ (by omega) _, g4⟩
 have hB := Bd.init (B := w.heap.size + 2) (by omega) (by omega) hsb hqb hbare (fun k hk => by have := hk.2; omega)
 refine ⟨_, ?_, put_any (w.heap.size + 2) (w1.heap.size + 1) k t _ ⟨w.heap.size, 0, none⟩ ar0 none 0 none 0 _ (bs0 t) w2 ht (ar0_ok t) (bs0_ok t) (by simp [bs0, ar0, cp]) (by simp [bs0, ar0, cp]) hB (htr2.mono (fun k hk => ?_)) (celB htb) ?_ (Ls.nil _ _ _ _ (by omega) _) (Ls.nil _ _ _ _ (by omega) _)⟩
 ·intro k' hk
  rcases hk with hk | hk | hk | hk
  ·omega
  ·simp [blk] at hk; omega
  ·simp [blk] at hk
  ·simp [blk] at hk
 ·refine ⟨fun hf => ?_, by have := hk.2; omega, by have := hk.2; omega⟩
  have := hk.2
  rcases hf with hf | hf | hf | hf
  ·omega
  ·simp [blk] at hf; omega
  ·simp [blk] at hf
  ·simp [blk] at hf
 ·intro hf
  rcases hf with hf | hf | hf | hf
  ·simp at hf; omega
  ·simp [blk] at hf; omega
  ·simp [blk] at hf
  ·simp [blk] at hf
set_option maxRecDepth 100000 in
set_option maxHeartbeats 8000000 in
theorem flat_any (S : Nat → Prop) (k : Nat) (t : Tm) (cs : List Value) (w : World) (ht : t.ok k) (htr : Trs.at S w t.tr cs) :
 Calls Tryz.prog 24 #[.agg cs.toArray] w (FlatOut (flatF k t) w) := by
 have hmm := @run_makeMap Tryz.prog
 obtain ⟨A, a, B, b, C, c, D, d, rfl, h1, h2, h3, h4⟩ := Tm.at_iff.1 htr
 have HT := Lib.hid htr.bound
 have HK := Lib.hid ht
 clear h1 h2 h3 h4 htr ht
 cases hres : putF k t ar0 (bs0 t) with
 | some s =>
   have HPU := Lib.hid (put_put k t ar0 (bs0 t) s HK.out (ar0_ok t) (bs0_ok t) (by simp [bs0, ar0, cp]) hres)
   go_enter Tryz.func24, Tryz.ntmps24
   go_wp2_with (go_at_call 45; (with_reducible refine (bare_any A B C D t.params.length a t.conds.length b t.res.length c t.outs.length d _).mono ?_); rintro e w1 ⟨rfl, hb1⟩; have HB1 := Lib.hid hb1; clear hb1)
   obtain ⟨R0, hlo, hput⟩ := put_start HK.out HT.out HB1.out
   rw [hres] at hput
   have HLO := Lib.hid hlo
   have HP := Lib.hid hput
   have HFB : Hid (Blk ((w1.alloc (.cells #[.int .i64 (-1), .string ⟨#[]⟩, .slice A t.params.length a, .slice B t.conds.length b, .slice none 0 0, .slice D t.outs.length d, .slice none 0 0] 76)).alloc (.cells #[.slice (some ⟨w1.heap.size, 0, none⟩) 1 1, .slice none 0 0, .slice none 0 0] 123)) (w.heap.size + 1) #[.slice none 0 0, .slice none 0 0] 34) := Lib.hid (fb_start HB1.out)
   have HBW : Hid (Below w.heap.size w ((w1.alloc (.cells #[.int .i64 (-1), .string ⟨#[]⟩, .slice A t.params.length a, .slice B t.conds.length b, .slice none 0 0, .slice D t.outs.length d, .slice none 0 0] 76)).alloc (.cells #[.slice (some ⟨w1.heap.size, 0, none⟩) 1 1, .slice none 0 0, .slice none 0 0] 123))) := Lib.hid (bel_start HB1.out)
   clear hlo hput
   refine HP.out.mono ?_
   rintro e w3 ⟨rfl, R, hb3, hgo3⟩
   have hn0 : ¬ R0.mu (w1.heap.size + 1) (w.heap.size + 1) := fun h => by have := HLO.out _ h; have h2 := HB1.out.size; simp at h2; omega
   have hfb := HFB.out.go hgo3 hn0
   have HNF : Hid (¬ R.mu (w1.heap.size + 1) (w.heap.size + 1)) := Lib.hid (fun h => hn0 (hgo3.less _ HFB.out.lt h))
   have HB3 := Lib.hid (hgo3.only.below' HBW.out (fun k hk => by have := HLO.out k hk; have h2 := HB1.out.size; simp at h2; omega))
   have HBD := Lib.hid hb3
   have HFB3 := Lib.hid hfb
   obtain ⟨f0, f1⟩ := blk2 hfb
   have z0 := hfb.frozen 0
   have z1 := hfb.frozen 1
   obtain ⟨q0, q1, q2⟩ := blk3 hb3.box
   clear hn0 hb3 hgo3 hfb HFB HP HBW HLO
   by_cases h16 : 16 < s.nd.length ∨ 16 < s.sc.length
   ·have HF : Hid (flatF k t = (3, [], [])) := Lib.hid (by unfold flatF; rw [hres]; simp only; rw [if_pos h16])
    clear hres
    obtain ⟨r0, r1⟩ := blk2 (((HFB3.out.set 0 (.slice none 0 0)).set 1 (.slice none 0 0)).eq (cs' := #[.slice none 0 0, .slice none 0 0]) (by simp))
    by_cases hn : 16 < s.nd.length
    ·have hN : (16 : Int) < (s.nd.length : Int) := by omega
     clear h16
     go_wp2_with fail
     refine bodyPost_ret (v := .tuple #[.agg #[.slice none 0 0, .slice none 0 0], .int .i64 3]) (by simp [results, Tryz.results24, go_sem, r0, r1]) rfl ?_
     rw [HF.out]
     exact ⟨(HB3.out.setCell (by simp) _).setCell (by simp) _, none, 0, none, 0, rfl, Ls.nil _ _ _ _ (by omega) _, Ls.nil _ _ _ _ (by omega) _⟩
    ·have hN : ¬ ((16 : Int) < (s.nd.length : Int)) := by omega
     have hM : (16 : Int) < (s.sc.length : Int) := by omega
     clear h16 hn
     go_wp2_with fail
     refine bodyPost_ret (v := .tuple #[.agg #[.slice none 0 0, .slice none 0 0], .int .i64 3]) (by simp [results, Tryz.results24, go_sem, r0, r1]) rfl ?_
     rw [HF.out]
     exact ⟨(HB3.out.setCell (by simp) _).setCell (by simp) _, none, 0, none, 0, rfl, Ls.nil _ _ _ _ (by omega) _, Ls.nil _ _ _ _ (by omega) _⟩
   ·have HF : Hid (flatF k t = (0, s.sc, afAll (s.nd.map Nd.id) s.nd s.wt)) := Lib.hid (by unfold flatF; rw [hres]; simp only; rw [if_neg h16])
    have hN : ¬ ((16 : Int) < (s.nd.length : Int)) := by omega
    have hM : ¬ ((16 : Int) < (s.sc.length : Int)) := by omega
    have hnl : s.nd.length ≤ 16 := by omega
    have hsl : s.sc.length ≤ 16 := by omega
    obtain ⟨xs, hx1, hx2⟩ := nd_cells HBD.out.t2
    have hxl : xs.length = s.nd.length := by have := congrArg List.length hx2; simpa using this
    have hrd := HBD.out.r2.rd
    rw [hx1, ← hxl] at hrd
    have HRD := Lib.hid hrd
    have HXI := Lib.hid hx2
    obtain ⟨p0, p1, p2⟩ := blk3 (HBD.out.box.alloc (.map #[] 0))
    obtain ⟨A2, hA2⟩ : ∃ A2, R.A2 = A2 := ⟨_, rfl⟩
    obtain ⟨A3, hA3⟩ : ∃ A3, R.A3 = A3 := ⟨_, rfl⟩
    rw [hA2] at q1 p1 HRD
    rw [hA3] at q2 p2
    have hqlt := HBD.out.box.lt
    have hsz3 : w.heap.size + 2 ≤ w3.heap.size := HFB3.out.lt
    have HM0 := Lib.hid (MS.new w3)
    have HW0 : Hid (Below w3.heap.size w3 (w3.alloc (.map #[] 0))) := Lib.hid ((Below.refl _ w3).alloc (Nat.le_refl _) _)
    have hca := HBD.out.r2.cap
    have hma := HBD.out.r2.max
    have HA2 := Lib.hid hA2
    have HA3 := Lib.hid hA3
    clear hres h16 hx1 hrd hx2 hA2 hA3
    go_wp2_with fail
    clear p0 p1 p2
    go_loopg [51] s.nd.length (fun g i wr => ∃ j : Nat, j + g = s.nd.length ∧ i = .int .i64 (j : Nat) ∧ Hid (MS wr w3.heap.size j ((s.nd.map Nd.id).take j)) ∧ Hid (Below w3.heap.size w3 wr))
    case atStart => exact ⟨0, by omega, rfl, Lib.hid (by simpa using HM0.out), HW0⟩
    case round =>
     obtain ⟨j, hj, rfl, HM, HW⟩ := hrel
     rename World => wo
     clear HM0 HW0
     cases gk with
     | succ g =>
       have hjj : (j : Int) < (s.nd.length : Int) := by omega
       obtain ⟨x, hx⟩ := get_lt (l := xs) (i := j) (by omega)
       obtain ⟨ad, rfl, hcel⟩ := (HRD.out.below HW.out).ncell hx
       obtain ⟨e0, e1, e2, e3, e4, e5, e6, e7, e8, e9, e10⟩ := cel11 hcel
       have hid : (s.nd.map Nd.id)[j]? = some x.id := by rw [← HXI.out, List.getElem?_map, hx]; rfl
       have hxs : x.id.size ≤ 20000 := by
        obtain ⟨n, hn, e⟩ := List.mem_map.1 (List.mem_of_getElem? hid)
        rw [← e]; exact HPU.out.ok.ids n hn
       have HTK : Hid ((s.nd.map Nd.id).take (j + 1) = (s.nd.map Nd.id).take j ++ [x.id]) := Lib.hid (by rw [List.take_add_one, hid]; rfl)
       have HM1 := Lib.hid (HM.out.below ((Below.refl _ wo).alloc (Nat.le_refl _) (.cells #[.string x.id, .int .i64 x.scope, .string x.rid, .string x.rty, .string x.rco, .slice x.P x.pn x.pc, .slice x.D x.dn x.dc, .bool x.ret, .slice x.I x.iN x.ic, .slice x.G x.gn x.gc, .slice x.A x.an x.ac] 80)))
       have HW1 := Lib.hid (HW.out.alloc HW.out.size (.cells #[.string x.id, .int .i64 x.scope, .string x.rid, .string x.rty, .string x.rco, .slice x.P x.pn x.pc, .slice x.D x.dn x.dc, .bool x.ret, .slice x.I x.iN x.ic, .slice x.G x.gn x.gc, .slice x.A x.an x.ac] 80))
       clear hcel hx hid
       go_wp2_with (at_mapUpdate; refine put_MS rfl _ _ _ rfl w3.heap.size j ((s.nd.map Nd.id).take j) rfl HM1.out (by unfold maxLen; omega) x.id (by unfold maxLen; omega) rfl rfl ?_; intro w6 hm6 hg6; have HM6 := Lib.hid hm6; have HG6 := Lib.hid hg6; clear hm6 hg6)
       go_roundg g
       case measure => omega
       case rel => exact ⟨j + 1, by omega, by go_num, Lib.hid (by rw [HTK.out]; exact HM6.out), Lib.hid (HW1.out.grown HG6.out (by have := HW.out.size; simp; omega) (fun k hk => by injection hk with hk; omega))⟩
     | zero =>
       have hjj : ¬ ((j : Int) < (s.nd.length : Int)) := by omega
       have hS0 := Sx.start (HBD.out.below HW.out)
       obtain ⟨p0, p1, p2⟩ := blk3 hS0.box
       rw [HA2.out] at p1
       rw [HA3.out] at p2
       have HS0 := Lib.hid hS0
       have hjn : j = s.nd.length := by omega
       have HM0 : Hid (MS wo w3.heap.size s.nd.length (s.nd.map Nd.id)) := Lib.hid (by
        have := HM.out
        rw [hjn, List.take_of_length_le (by simp)] at this
        exact this)
       have HBW0 := Lib.hid (HB3.out.trans (HW.out.mono (by omega)))
       have HFB0 := Lib.hid (HFB3.out.below HW.out)
       have hsz0 : w3.heap.size ≤ wo.heap.size := HW.out.size
       clear hS0 HM hjn
       go_wp2_with fail
       clear p0 p1 p2 hjj hj
       go_loopg [65] s.nd.length (fun g i wr => ∃ (j2 : Nat) (xb : List Value), j2 + g = s.nd.length ∧ i = .int .i64 (j2 : Nat) ∧ Hid (Sx (w.heap.size + 2) (w1.heap.size + 1) R s j2 (afTake (s.nd.map Nd.id) s.nd s.wt j2) xb none 0 [] wr) ∧ Hid (MS wr w3.heap.size s.nd.length (s.nd.map Nd.id)) ∧ Hid (Below w.heap.size w wr) ∧ Hid (Blk wr (w.heap.size + 1) #[.slice none 0 0, .slice none 0 0] 34) ∧ Hid (w3.heap.size ≤ wr.heap.size))
       case atStart => exact ⟨0, R.x2, by omega, rfl, Lib.hid (by rw [afTake_zero]; exact HS0.out), HM0, HBW0, HFB0, Lib.hid hsz0⟩
       case round =>
        obtain ⟨j2, xb, hj2, rfl, HSx, HMp, HBx, HFx, HSz⟩ := hrel
        rename World => wp
        clear HS0 HM0 HBW0 HFB0 hsz0 HW
        cases gk with
        | zero =>
          have hjj : ¬ ((j2 : Int) < (s.nd.length : Int)) := by omega
          have hsx := HSx.out
          obtain ⟨p0, p1, p2⟩ := blk3 hsx.box
          rw [HA2.out] at p1
          obtain ⟨f0, f1⟩ := blk2 HFx.out
          have z0 := HFx.out.frozen 0
          have z1 := HFx.out.frozen 1
          have hfl := hsx.flat (by omega) (by omega) (by omega)
          rw [afTake_all HPU.out.ok.len (by omega), HA2.out] at hfl
          have HFL := Lib.hid hfl
          have HAL := Lib.hid (afAll_len (ids := s.nd.map Nd.id) HPU.out.ok.len)
          obtain ⟨r0, r1⟩ := blk2 (((HFx.out.set 0 (.slice R.A1 s.sc.length R.c1)).set 1 (.slice A2 s.nd.length R.c2)).eq (cs' := #[.slice R.A1 s.sc.length R.c1, .slice A2 s.nd.length R.c2]) (by simp))
          clear hsx hfl
          go_wp2_with fail
          refine bodyPost_ret (v := .tuple #[.agg #[.slice R.A1 s.sc.length R.c1, .slice A2 s.nd.length R.c2], .int .i64 0]) (by simp [results, Tryz.results24, go_sem, r0, r1]) rfl ?_
          rw [HF.out]
          have hon : Only (fun k => k = w.heap.size + 1) wp ((wp.setCell ⟨w.heap.size + 1, 0, none⟩ (.slice R.A1 s.sc.length R.c1)).setCell ⟨w.heap.size + 1, 1, none⟩ (.slice A2 s.nd.length R.c2)) := ((Only.refl (fun k => k = w.heap.size + 1) wp).setCell _ _ (fun _ => rfl)).setCell _ _ (fun _ => rfl)
          have hS : ∀ k, k < wp.heap.size ∧ k + 1 ≠ w.heap.size + 2 → k < ((wp.setCell ⟨w.heap.size + 1, 0, none⟩ (.slice R.A1 s.sc.length R.c1)).setCell ⟨w.heap.size + 1, 1, none⟩ (.slice A2 s.nd.length R.c2)).heap.size := fun k hk => by simp; exact hk.1
          refine ⟨(HBx.out.setCell (by simp) _).setCell (by simp) _, R.A1, R.c1, A2, R.c2, by simp only [HAL.out], ?_, ?_⟩
          ·exact (HFL.out.1.only hon (fun k hk e => hk.2 (by omega))).mono hS
          ·exact (HFL.out.2.only hon (fun k hk e => hk.2 (by omega))).mono hS
        | succ g2 =>
          have hjj : (j2 : Int) < (s.nd.length : Int) := by omega
          have hwl := HPU.out.ok.len
          obtain ⟨wl, hw⟩ := get_lt (l := s.wt) (i := j2) (by omega)
          obtain ⟨gb, rfl⟩ : ∃ g, A2 = some ⟨g, 0, none⟩ := by
           have := HSx.out.r2.some0 (by omega)
           rw [HA2.out] at this
           exact this
          have HX1 := Lib.hid (HSx.out.below ((Below.refl _ wp).alloc (Nat.le_refl _) (.cells #[.pointer (some ⟨gb, j2 * 11, none⟩)] 88)))
          obtain ⟨ad3, Aw, cw, h3, hc3, hss⟩ := HX1.out.wait hw
          obtain rfl : A3 = some ad3 := by rw [← HA3.out]; exact h3
          obtain ⟨p0, p1, p2⟩ := blk3 HSx.out.box
          rw [HA2.out] at p1
          rw [HA3.out] at p2
          obtain ⟨o0, o1, o2⟩ := blk3 HX1.out.box
          rw [HA2.out] at o1
          rw [HA3.out] at o2
          have hcw := hss.cap
          have HSS := Lib.hid hss
          have HWL := Lib.hid hw
          have HBX1 : Hid (Fl (w.heap.size + 2) (w1.heap.size + 1) R s j2 (afTake (s.nd.map Nd.id) s.nd s.wt j2) xb w3.heap.size wp.heap.size (.pointer (some ⟨gb, j2 * 11, none⟩)) (w.heap.size + 1) w none 0 [] (wp.alloc (.cells #[.pointer (some ⟨gb, j2 * 11, none⟩)] 88))) :=
           Lib.hid ⟨HX1.out, HMp.out.below ((Below.refl _ wp).alloc (Nat.le_refl _) _), Blk.new wp _ _, HFx.out.alloc _, HBx.out.alloc HBx.out.size _, by omega, rfl⟩
          have hok := HPU.out.ok.wts wl (List.mem_of_getElem? hw)
          have hwl2 := hok.1
          have HOK := Lib.hid hok.2
          clear h3 hss hw hok
          go_wp2_with fail
          clear p0 p1 p2 o0 o1 o2 hc3 HX1 HMp HFx HBx
          go_loopg [84] wl.length (fun g i wr => ∃ (j3 : Nat) (A' : Option Addr) (c' : Nat) (l : List ByteArray), j3 + g = wl.length ∧ i = .int .i64 (j3 : Nat) ∧ Hid (afGo (s.nd.map Nd.id) [] wl = afGo (s.nd.map Nd.id) l (wl.drop j3)) ∧ Hid (Fine l (j3 * 17)) ∧
           Hid (Fl (w.heap.size + 2) (w1.heap.size + 1) R s j2 (afTake (s.nd.map Nd.id) s.nd s.wt j2) xb w3.heap.size wp.heap.size (.pointer (some ⟨gb, j2 * 11, none⟩)) (w.heap.size + 1) w A' c' l wr) ∧ Hid (Ss (Sf (w.heap.size + 2) (Fx R (w1.heap.size + 1) A') wr) wr Aw cw wl) ∧ Hid (w3.heap.size ≤ wr.heap.size))
          case atStart => exact ⟨0, none, 0, [], by omega, rfl, Lib.hid rfl, Lib.hid ⟨by simp, by simp⟩, HBX1, HSS, Lib.hid (by have := HSz.out; simp; omega)⟩
          case round =>
           obtain ⟨j3, A', c', l, hj3, rfl, HG, HL, HFl, HSs, HSz3⟩ := hrel
           rename World => wq
           clear HBX1 HSS
           cases gk with
           | zero =>
             have hjj3 : ¬ ((j3 : Int) < (wl.length : Int)) := by omega
             have HR : Hid (l = afGo (s.nd.map Nd.id) [] wl) := Lib.hid (by rw [HG.out, List.drop_of_length_le (by omega)]; rfl)
             go_wp2_with fail
             go_roundg g2
             case measure => omega
             case rel =>
              obtain ⟨n, hn⟩ := get_lt (l := s.nd) (i := j2) (by omega)
              have hf := HL.out
              have hnx := HFl.out.sx.next (n := n) (afTake_get HPU.out.ok.len hn) (by have := hf.1; omega) hf.2
              rw [HR.out, afTake_set HPU.out.ok.len hn HWL.out (HPU.out.ok.afs n (List.mem_of_getElem? hn))] at hnx
              exact ⟨j2 + 1, _, by omega, by go_num, Lib.hid hnx, Lib.hid HFl.out.ms, Lib.hid HFl.out.be, Lib.hid HFl.out.fl, HSz3⟩
           | succ g3 =>
             have hjj3 : (j3 : Int) < (wl.length : Int) := by omega
             obtain ⟨d, hd⟩ := get_lt (l := wl) (i := j3) (by omega)
             obtain ⟨adw, rfl, hdc, _⟩ := HSs.out.str hd
             have hds := HOK.out d (List.mem_of_getElem? hd)
             have hlk := HFl.out.ms.look (d := d) (by unfold maxLen; omega)
             have HGD := Lib.hid (afGo_drop (ids := s.nd.map Nd.id) (l := l) hd)
             clear hd
             go_upto_if 90 with (fail)
             go_cut [] from 90 to 93 (fun wx => ∃ (A2 : Option Addr) (c2 : Nat) (l2 : List ByteArray), Hid (l2 = if sHas d (s.nd.map Nd.id) then addOne l d else l) ∧ Hid (Fine l2 (j3 * 17 + 1)) ∧ Hid (Fl (w.heap.size + 2) (w1.heap.size + 1) R s j2 (afTake (s.nd.map Nd.id) s.nd s.wt j2) xb w3.heap.size wp.heap.size (.pointer (some ⟨gb, j2 * 11, none⟩)) (w.heap.size + 1) w A2 c2 l2 wx) ∧ Hid (Ss (Sf (w.heap.size + 2) (Fx R (w1.heap.size + 1) A2) wx) wx (some adw) cw wl) ∧ Hid (w3.heap.size ≤ wx.heap.size))
             case first =>
              cases hh : sHas d (s.nd.map Nd.id) with
              | false =>
                go_wp2_with fail
                go_meet
                exact ⟨A', c', l, Lib.hid (by simp [hh]), Lib.hid (HL.out.le (by omega)), HFl, HSs, HSz3⟩
              | true =>
                have HCL := Lib.hid (clos_any (w.heap.size + 2) (w1.heap.size + 1) j2 gb wp.heap.size c' R s _ xb A' l d wq HFl.out.sx HA2.out HFl.out.bx (by omega) (by have := HL.out.1; omega) HL.out.2 HFl.out.sx.big)
                go_wp2_with fail
                refine HCL.out.mono ?_
                rintro e w5 ⟨rfl, A5, c5, hs5, hg5⟩
                have HX5 := Lib.hid (HFl.out.go hs5 hg5)
                have HS5 := Lib.hid (HSs.out.go hg5)
                have HZ5 := Lib.hid hg5.only.size
                clear hs5 hg5 hlk hdc
                go_wp2_with fail
                go_meet
                exact ⟨A5, c5, addOne l d, Lib.hid (by simp [hh]), Lib.hid (HL.out.add hds), HX5, HS5, Lib.hid (Nat.le_trans HSz3.out HZ5.out)⟩
             case rest =>
              obtain ⟨A2', c2, l2, HL2, HF2, HX2, HS2, HZ2⟩ := hcut
              rename World => wr
              clear HFl HSs HSz3 hlk hdc
              obtain ⟨p0, p1, p2⟩ := blk3 HX2.out.sx.box
              rw [HA2.out] at p1
              have hun := HX2.out.sx.under R.A1 s.sc.length R.c1 d (by omega) (by omega) HPU.out.ok.ids
              rw [HA2.out] at hun
              have HUN := Lib.hid hun
              have hul := unds_len d (s.nd.map Nd.id) 0
              rw [List.length_map] at hul
              have HUG := Lib.hid (fun (j k : Nat) (h : (unds d 0 (s.nd.map Nd.id))[j]? = some k) => unds_get h)
              obtain ⟨ul, hue⟩ : ∃ ul, ul = unds d 0 (s.nd.map Nd.id) := ⟨_, rfl⟩
              rw [← hue] at HUN hul HUG
              have HUE := Lib.hid hue
              clear hun hue
              go_wp2_with fail
              refine HUN.out.mono ?_
              rintro e w6 ⟨Au, cu, rfl, hou, hbu⟩
              have HX6 := Lib.hid (HX2.out.below hbu)
              have HS6 := Lib.hid (HS2.out.go (Go1.of_below hbu))
              have HO6 := Lib.hid hou
              have HZ6 := Lib.hid hbu.size
              have hcu := hou.cap
              clear hou hbu p0 p1 p2
              go_wp2_with fail
              go_loopg [101] ul.length (fun g i wx => ∃ (j4 : Nat) (A4 : Option Addr) (c4 : Nat) (l4 : List ByteArray), j4 + g = ul.length ∧ i = .int .i64 (j4 : Nat) ∧ Hid (undGo (s.nd.map Nd.id) l2 ul = undGo (s.nd.map Nd.id) l4 (ul.drop j4)) ∧ Hid (Fine l4 (j3 * 17 + 1 + j4)) ∧
               Hid (Fl (w.heap.size + 2) (w1.heap.size + 1) R s j2 (afTake (s.nd.map Nd.id) s.nd s.wt j2) xb w3.heap.size wp.heap.size (.pointer (some ⟨gb, j2 * 11, none⟩)) (w.heap.size + 1) w A4 c4 l4 wx) ∧ Hid (Ss (Sf (w.heap.size + 2) (Fx R (w1.heap.size + 1) A4) wx) wx (some adw) cw wl) ∧ Hid (w3.heap.size ≤ wx.heap.size) ∧ Hid (Ow wx 0 3 1 Au ul.length cu (cN ul)))
              case atStart => exact ⟨0, A2', c2, l2, by omega, rfl, Lib.hid rfl, HF2, HX6, HS6, Lib.hid (Nat.le_trans HZ2.out HZ6.out), Lib.hid (HO6.out.le (Nat.zero_le _))⟩
              case round =>
               obtain ⟨j4, A4, c4, l4, hj4, rfl, HG4, HF4, HX4, HS4, HZ4, HO4⟩ := hrel
               rename World => wt
               clear HX6 HS6 HO6 HZ6 HX2 HS2 HZ2
               cases gk with
               | zero =>
                 have hjj4 : ¬ ((j4 : Int) < (ul.length : Int)) := by omega
                 have HR : Hid (l4 = afOne (s.nd.map Nd.id) l d) := Lib.hid (by
                  have := HG4.out
                  rw [List.drop_of_length_le (by omega), HUE.out, HL2.out] at this
                  exact this.symm)
                 go_wp2_with fail
                 go_roundg g3
                 case measure => omega
                 case rel => exact ⟨j3 + 1, A4, c4, l4, by omega, by go_num, Lib.hid (by rw [HG.out, HGD.out, HR.out]), Lib.hid (HF4.out.le (by omega)), HX4, HS4, HZ4⟩
               | succ g4 =>
                 have hjj4 : (j4 : Int) < (ul.length : Int) := by omega
                 obtain ⟨kk, hk⟩ := get_lt (l := ul) (i := j4) (by omega)
                 obtain ⟨z, hz⟩ := HUG.out j4 kk hk
                 have hkl : kk < s.nd.length := by have := (List.getElem?_eq_some_iff.1 hz).1; simpa using this
                 obtain ⟨adu, rfl, hcu4⟩ := HO4.out.rd.at_ j4 (.int .i64 (kk : Int)) (by simp [cN, hk])
                 have hkk : (kk : Int) < (s.nd.length : Int) := by omega
                 have hidc := HX4.out.sx.idcell HA2.out hz
                 obtain ⟨p0, p1, p2⟩ := blk3 HX4.out.sx.box
                 rw [HA2.out] at p1
                 have hzs : z.size ≤ 20000 := by
                  obtain ⟨n, hn, e⟩ := List.mem_map.1 (List.mem_of_getElem? hz)
                  rw [← e]; exact HPU.out.ok.ids n hn
                 have HGK : Hid (undGo (s.nd.map Nd.id) l2 ul = undGo (s.nd.map Nd.id) (addOne l4 z) (ul.drop (j4 + 1))) := Lib.hid (by
                  rw [HG4.out, undGo_drop hk, List.getD_eq_getElem?_getD, hz]; rfl)
                 have HCL := Lib.hid (clos_any (w.heap.size + 2) (w1.heap.size + 1) j2 gb wp.heap.size c4 R s _ xb A4 l4 z wt HX4.out.sx HA2.out HX4.out.bx (by omega) (by have := HF4.out.1; omega) HF4.out.2 HX4.out.sx.big)
                 clear hk hz
                 go_wp2_with fail
                 refine HCL.out.mono ?_
                 rintro e w7 ⟨rfl, A5, c5, hs5, hg5⟩
                 have HX5 := Lib.hid (HX4.out.go hs5 hg5)
                 have HS5 := Lib.hid (HS4.out.go hg5)
                 have HZ5 := Lib.hid hg5.only.size
                 have HO5 := Lib.hid (HO4.out.only hg5.only (HX4.out.sx.apart HO4.out))
                 clear hs5 hg5 hcu4 hidc p0 p1 p2
                 go_wp2_with fail
                 go_roundg g4
                 case measure => omega
                 case rel => exact ⟨j4 + 1, A5, c5, addOne l4 z, by omega, by go_num, HGK, Lib.hid ((HF4.out.add hzs).le (by omega)), HX5, HS5, Lib.hid (Nat.le_trans HZ4.out HZ5.out), HO5⟩
 | none =>
   have HF : Hid (flatF k t = (170, [], [])) := Lib.hid (by unfold flatF; rw [hres])
   go_enter Tryz.func24, Tryz.ntmps24
   go_wp2_with (go_at_call 45; (with_reducible refine (bare_any A B C D t.params.length a t.conds.length b t.res.length c t.outs.length d _).mono ?_); rintro e w1 ⟨rfl, hb1⟩; have HB1 := Lib.hid hb1; clear hb1)
   obtain ⟨R, hlo, hput⟩ := put_start HK.out HT.out HB1.out
   rw [hres] at hput
   have HLO := Lib.hid hlo
   have HP := Lib.hid hput
   have HFB : Hid (Blk ((w1.alloc (.cells #[.int .i64 (-1), .string ⟨#[]⟩, .slice A t.params.length a, .slice B t.conds.length b, .slice none 0 0, .slice D t.outs.length d, .slice none 0 0] 76)).alloc (.cells #[.slice (some ⟨w1.heap.size, 0, none⟩) 1 1, .slice none 0 0, .slice none 0 0] 123)) (w.heap.size + 1) #[.slice none 0 0, .slice none 0 0] 34) := Lib.hid (fb_start HB1.out)
   have HBW : Hid (Below w.heap.size w ((w1.alloc (.cells #[.int .i64 (-1), .string ⟨#[]⟩, .slice A t.params.length a, .slice B t.conds.length b, .slice none 0 0, .slice D t.outs.length d, .slice none 0 0] 76)).alloc (.cells #[.slice (some ⟨w1.heap.size, 0, none⟩) 1 1, .slice none 0 0, .slice none 0 0] 123))) := Lib.hid (bel_start HB1.out)
   clear hlo hput hres
   refine HP.out.mono ?_
   rintro e w3 ⟨rfl, ho3⟩
   have hn3 : ¬ R.mu (w1.heap.size + 1) (w.heap.size + 1) := fun h => by have := HLO.out _ h; have h2 := HB1.out.size; simp at h2; omega
   have hfb := HFB.out.only ho3 hn3
   have HB3 := Lib.hid (ho3.below' HBW.out (fun k hk => by have := HLO.out k hk; have h2 := HB1.out.size; simp at h2; omega))
   obtain ⟨f0, f1⟩ := blk2 hfb
   have z0 := hfb.frozen 0
   have z1 := hfb.frozen 1
   have HFB3 := Lib.hid hfb
   clear hn3 ho3 hfb HFB HP
   go_wp2_with fail
   obtain ⟨r0, r1⟩ := blk2 (((HFB3.out.set 0 (.slice none 0 0)).set 1 (.slice none 0 0)).eq (cs' := #[.slice none 0 0, .slice none 0 0]) (by simp))
   refine bodyPost_ret (v := .tuple #[.agg #[.slice none 0 0, .slice none 0 0], .int .i64 170]) (by simp [results, Tryz.results24, go_sem, r0, r1]) rfl ?_
   rw [HF.out]
   exact ⟨(HB3.out.setCell (by simp) _).setCell (by simp) _, none, 0, none, 0, rfl, Ls.nil _ _ _ _ (by omega) _, Ls.nil _ _ _ _ (by omega) _⟩
end Go.Proofs.YtgdfkbalnpfdgaaGreatDoor
