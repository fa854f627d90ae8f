/- Values: going over a value and all within (tree.Walk). -/
/- Values: whether one may be (tree.Check). -/
import Derived.Test.YthcnfgpilncooaaGreatDoorEq1
import Derived.Test.YthcnfgpilncooaaGreatDoorRange2
import Derived.Laws.EntriesVeiled
import Derived.Shelf.Abstract
namespace Go
open Go.RowKit in
theorem KeepsFrom.set {B : Nat} {W W' : World} (h : KeepsFrom B W W') (p : Addr) (u : Value) : KeepsFrom B W (W'.setCell p u) :=
  ⟨by simpa using h.size, fun k o hk h1 h2 => (KeepsOthers.setCell W' p u).same k o (h.same k o hk h1 h2) h2⟩
end Go
namespace Go.Proofs.YthcnfgpilncooaaGreatDoor
open Go.RowKit
attribute [local go_sem] Oper.semAt_some
set_option linter.unusedVariables false
set_option linter.unusedSimpArgs false

theorem twalk_any (cs : Array Value) (w : World) :
    Calls Tryz.prog 104 #[.agg cs] w fun e w' => e = .returned (.func (.func 113) #[] #[.pointer (some ⟨w.heap.size, 0, none⟩)]) ∧ w' = w.alloc (.cells cs 57) := by
  have hmf : ∀ (fn : Fn) (first cap : Array Value) (w : World), (Instr.makeFunc fn first cap).run Tryz.prog w = .ok (.func fn first cap) w := fun _ _ _ _ => rfl
  go_enter Tryz.func104, Tryz.ntmps104
  go_wp2
  go_ret
  exact ⟨rfl, rfl⟩
/-- a value as it is handed to a round: with its cells -/
structure Yv where
  v : Vl
  A : Option Addr
  c : Nat
  B : Option Addr
  d : Nat
def Yv.cs (x : Yv) : List Value := [.int .i8 x.v.kind, .bool x.v.bool, .int .i64 x.v.num, .string x.v.text, .slice x.A x.v.list.length x.c, .slice x.B x.v.keys.length x.d]
def Yv.enc (x : Yv) : Array Value := #[.agg #[.int .i8 x.v.kind, .bool x.v.bool, .int .i64 x.v.num, .string x.v.text, .slice x.A x.v.list.length x.c, .slice x.B x.v.keys.length x.d]]
def yvs (l : List Yv) : List Vl := l.map Yv.v
/-- what a round may know of what it is handed -/
structure YvV (S : Nat → Prop) (all : List Vl) (D : Nat) (pre : List Yv) (x : Yv) (W : World) : Prop where
  at_ : all[pre.length]? = some x.v
  tr : Trs.at S W x.v.tr x.cs
theorem Trs.at.keeps {S K : Nat → Prop} {w w' : World} {ts : List Tr} {vs : List Value} (h : Trs.at S w ts vs) (hk : Keeps K w w') (hS : ∀ k, S k → K k) : Trs.at S w' ts vs :=
  Trs.at.keep (fun p hp hs => World.cell?_of_block (hk.block _ (hS _ hs))) (fun _ h => h) ts vs h
theorem Cel.keeps {K : Nat → Prop} {w w' : World} {a : Addr} {cs : List Value} (h : Cel w a cs) (hk : Keeps K w w') (ha : K a.block) : Cel w' a cs := fun j u hu => by
  have hb : (if j = 0 then a else ⟨a.block, a.off + j, none⟩ : Addr).block = a.block := by split <;> rfl
  exact (World.cell?_of_block (hk.block _ (by rw [hb]; exact ha))).trans (h j u hu)
theorem Ls.keeps {α : Type} {S K : Nat → Prop} {w w' : World} {sz b : Nat} {tr : α → List Tr} {A : Option Addr} {c : Nat} {l : List α} (h : Ls S w sz b tr A c l) (hk : Keeps K w w') (hS : ∀ k, S k → K k) : Ls S w' sz b tr A c l :=
  h.keep (fun p hp hs => World.cell?_of_block (hk.block _ (hS _ hs))) (fun _ h => h)
theorem room_none {F : Fence} (hd : F.depth = none) (k : Nat) : F.room k := fun d h => by rw [hd] at h; cases h
theorem RoundIn.any {F : Fence} (hd : F.depth = none) {m m' : Nat} {P : Program} {l : Nat} {f : FuncId} {tmps : Array Value} {assign body : Code} {w : World} {R : Ending → World → Prop}
    (h : RoundIn F m P l f tmps assign body w R) : RoundIn F m' P l f tmps assign body w R := ⟨h.1, fun c cs _ => h.2 c cs (room_none hd _)⟩
theorem YieldAt.any {F : Fence} (hd : F.depth = none) {m : Nat} (m' : Nat) {P : Program} {l : Nat} {args : Array Value} {W : World} {R : Ending → World → Prop} (h : YieldAt F m P l args W R) : YieldAt F m' P l args W R := by
  obtain ⟨fn, tmps, assign, body, hy, hR⟩ := h
  exact ⟨fn, tmps, assign, body, hy, RoundIn.any hd hR⟩
/-- the contract of the inner closure, k deep: from any world in which the base W0's blocks lie -/
def YiC (S : Nat → Prop) (all : List Vl) (KK : Nat → Prop) (by_ bw : Nat) (lp : Nat) (J : List Yv → World → Prop) (Jx : List Yv → World → Prop) (W0 : World) (k : Nat) : Prop :=
  ∀ (m : Nat) (v : Vl) (cs : List Value) (a : Addr) (pre : List Yv) (W : World), vDeep k v → (∃ suf, all = yvs pre ++ vWalk k v ++ suf) → Keeps KK W0 W → J pre W → Trs.at S W0 v.tr cs → Cel W0 a cs → KK a.block →
    CallsIn Fence.wide m Tryz.prog 114 #[.pointer (some a), .pointer (some ⟨by_, 0, none⟩), .pointer (some ⟨bw, 0, none⟩)] W fun e W' =>
      (e = .returned (.bool true) ∧ ∃ ys, yvs ys = vWalk k v ∧ J (pre ++ ys) W' ∧ Keeps KK W0 W') ∨ (e = .returned (.bool false) ∧ ∃ pre', Jx pre' W')
/-- what a round is asked -/
def YiY (S : Nat → Prop) (all : List Vl) (KK : Nat → Prop) (lp : Nat) (J : List Yv → World → Prop) (Jx : List Yv → World → Prop) (W0 : World) : Prop :=
  ∀ (m : Nat) (pre : List Yv) (x : Yv) (W1 : World), Keeps KK W0 W1 → J pre W1 → all[pre.length]? = some x.v → Trs.at S W1 x.v.tr x.cs → YieldAt Fence.wide m Tryz.prog lp x.enc W1 fun e W' =>
    (e = .returned (.bool true) ∧ J (pre ++ [x]) W' ∧ Keeps KK W1 W') ∨ (e = .returned (.bool false) ∧ Jx (pre ++ [x]) W')
theorem yvs_app (a b : List Yv) : yvs (a ++ b) = yvs a ++ yvs b := List.map_append
theorem yvs_len (a : List Yv) : (yvs a).length = a.length := List.length_map ..
set_option maxRecDepth 100000 in
set_option maxHeartbeats 8000000 in
theorem yi_step {S : Nat → Prop} {all : List Vl} {KK : Nat → Prop} {by_ bw lp : Nat} {J Jx : List Yv → World → Prop} {W0 : World} (hSK : ∀ k, S k → KK k) (hKy : KK by_) (hKw : KK bw) (hJ : Lasts J)
    (hby : W0.cell? ⟨by_, 0, none⟩ = some (.func (.yield lp) #[] #[])) (hbw : W0.cell? ⟨bw, 0, none⟩ = some (.func (.func 114) #[] #[.pointer (some ⟨by_, 0, none⟩), .pointer (some ⟨bw, 0, none⟩)]))
    (hY : YiY S all KK lp J Jx W0) (k : Nat) (IH : YiC S all KK by_ bw lp J Jx W0 k) : YiC S all KK by_ bw lp J Jx W0 (k + 1) := by
  intro m v cs a pre W hdp hsuf hkp hj htr hcel hka
  obtain ⟨A, c, B, d, rfl, _, _, _, hl, _⟩ := Vl.at_iff.1 htr
  have hlcap := hl.cap
  have hlbyt := hl.bytes
  have hat : all[pre.length]? = some v := by
    obtain ⟨suf, hs⟩ := hsuf
    rw [hs, List.append_assoc, List.getElem?_append_right (by rw [yvs_len]; omega), yvs_len, Nat.sub_self]; rfl
  have HSUF := Lib.hid hsuf
  have HDP := Lib.hid hdp
  have HKP := Lib.hid hkp
  have HJL := Lib.hid hJ
  have HL := Lib.hid hl
  have HIH := Lib.hid IH
  have HCEL := Lib.hid hcel
  have HSK := Lib.hid hSK
  have HBY := Lib.hid hby
  have HBW := Lib.hid hbw
  have h1 := (hcel.keeps hkp hka)
  obtain ⟨c0, c1, c2, c3, c4, c5⟩ := cel6 h1
  have cy := (World.cell?_of_block (hkp.block by_ hKy)).trans hby
  have cw := (World.cell?_of_block (hkp.block bw hKw)).trans hbw
  have hjd := hJ pre W W.drew hj ((Below.refl _ W).drew)
  have hkd : Keeps KK W0 W.drew := hkp.trans ⟨rfl, rfl, rfl, Nat.le_refl _, fun _ _ => rfl⟩
  obtain ⟨fn, tmps, assign, body, hy, hR⟩ := hY (m - 1) pre ⟨v, A, c, B, d⟩ W.drew hkd hjd hat (htr.keeps hkd hSK)
  have HKD := Lib.hid hkd
  dsimp only [Yv.enc] at hy
  clear hsuf hdp hkp hJ hl IH hcel hby hbw h1 htr hjd hkd hat hj hY
  refine callsIn_of_wp Tryz.func114 rfl trivial ?_
  simp only [Tryz.ntmps114, List.size_toArray, List.length_cons, List.length_nil, Nat.reduceAdd, Nat.reduceSub, Array.replicate_succ, Array.replicate_zero, List.push_toArray, List.append_toArray, List.nil_append, List.cons_append]
  gi_wp2_with fail
  refine wpIn_region_still_tail (fun _ => trivial) rfl (fun h => callsIn_wide.2 h) 4 (by kernel_rfl) (by kernel_rfl) (by kernel_rfl) ?_
  simp only [List.take_succ_cons, List.take_zero, List.drop_succ_cons, List.drop_zero]
  repeat still_step
  try refine wpStill_nil ?_
  gi_wp2_with fail
  refine ⟨(fun h => by cases h), hR.mono ?_⟩
  rintro e w3 (⟨rfl, hj3, hk3⟩ | ⟨rfl, hjx3⟩)
  · have HK3 := Lib.hid (HKD.out.trans hk3)
    have HJ3 := Lib.hid hj3
    clear hR hy hj3 hk3 c0 c1 c2 c3 c4 c5 cy cw
    obtain ⟨c0, c1, c2, c3, c4, c5⟩ := cel6 (HCEL.out.keeps HK3.out hka)
    gi_wp2_with fail
    gi_loopw [17] (fun i wr => ∃ (j : Nat) (ys : List Yv), i = .int .i64 (j : Nat) ∧ j ≤ v.list.length ∧ Hid (yvs ys = v :: (v.list.take j).flatMap (vWalk k)) ∧ Hid (Keeps KK W0 wr) ∧ Hid (J (pre ++ ys) wr))
      (fun i _ => v.list.length - (RowKit.intOf i).toNat)
    case atStart => exact ⟨0, [⟨v, A, c, B, d⟩], rfl, by omega, Lib.hid rfl, HK3, HJ3⟩
    case round =>
      obtain ⟨j, ys, rfl, hj, HYS, HK4, HJ4⟩ := hrel
      clear HK3 HJ3 c0 c1 c2 c3 c4 c5
      rename World => wo
      by_cases hlt : j < v.list.length
      · have hjj : (j : Int) < (v.list.length : Int) := by omega
        obtain ⟨x, hx⟩ := get_lt (l := v.list) (i := j) hlt
        obtain ⟨ad, xs, rfl, hxt, hxc⟩ := HL.out.elem Vl.trlen hx
        have hblk := HSK.out _ (HL.out.blk ad rfl (by omega))
        have hka2 : KK (ad.add (j * 6)).block := by rw [block_of_add]; exact hblk
        have hkd : Keeps KK W0 wo.drew := HK4.out.trans ⟨rfl, rfl, rfl, Nat.le_refl _, fun _ _ => rfl⟩
        have hspl : v.list.flatMap (vWalk k) = (v.list.take j).flatMap (vWalk k) ++ (vWalk k x ++ (v.list.drop (j + 1)).flatMap (vWalk k)) := by
          have : v.list = v.list.take j ++ (x :: v.list.drop (j + 1)) := by rw [← drop_cons hx, List.take_append_drop]
          conv => lhs; rw [this]
          rw [List.flatMap_append, List.flatMap_cons]
        have hsuf2 : ∃ suf, all = yvs (pre ++ ys) ++ vWalk k x ++ suf := by
          obtain ⟨suf, hs⟩ := HSUF.out
          refine ⟨(v.list.drop (j + 1)).flatMap (vWalk k) ++ suf, ?_⟩
          rw [hs, yvs_app, HYS.out]
          simp only [vWalk, hspl, List.append_assoc, List.cons_append]
        have HCL := Lib.hid (HIH.out (m - 1) x xs (ad.add (j * 6)) (pre ++ ys) wo.drew (HDP.out x (List.mem_of_getElem? hx)) hsuf2 hkd (HJL.out _ _ _ HJ4.out (Below.refl _ wo).drew) hxt hxc hka2)
        have HTK : Hid ((v.list.take (j + 1)).flatMap (vWalk k) = (v.list.take j).flatMap (vWalk k) ++ vWalk k x) := Lib.hid (by rw [List.take_add_one, hx, List.flatMap_append]; simp)
        obtain ⟨c0, c1, c2, c3, c4, c5⟩ := cel6 (HCEL.out.keeps HK4.out hka)
        have cw := (World.cell?_of_block (HK4.out.block bw hKw)).trans HBW.out
        have hj0 : (0 : Int) ≤ (j : Int) ∧ (j : Int) < (v.list.length : Int) := by omega
        clear hx hxt hxc hblk hspl hsuf2 hkd
        gi_wp2_with fail
        refine wpIn_region_still_tail (fun _ => trivial) rfl (fun h => callsIn_wide.2 h) 7 (by kernel_rfl) (by kernel_rfl) (by kernel_rfl) ?_
        simp only [List.take_succ_cons, List.take_zero, List.drop_succ_cons, List.drop_zero]
        repeat still_step
        try refine wpStill_nil ?_
        gi_wp2_with fail
        refine ⟨trivial, (fun h => by cases h), HCL.out.mono ?_⟩
        rintro e w5 (⟨rfl, ys2, hy2, hj5, hk5⟩ | ⟨rfl, p2, hjx⟩)
        · have HY5 : Hid (yvs (ys ++ ys2) = v :: (v.list.take (j + 1)).flatMap (vWalk k)) := Lib.hid (by rw [yvs_app, HYS.out, hy2, HTK.out]; rfl)
          have HJ5 : Hid (J (pre ++ (ys ++ ys2)) w5) := Lib.hid (by rw [← List.append_assoc]; exact hj5)
          have HK5 := Lib.hid hk5
          clear hy2 hj5 hk5 c0 c1 c2 c3 c4 c5 cw
          gi_wp2_with fail
          go_roundw
          case rel => exact ⟨j + 1, ys ++ ys2, by go_num, by omega, HY5, HK5, HJ5⟩
          case measure => simp [RowKit.intOf]; omega
        · have HX := Lib.hid hjx
          clear hjx c0 c1 c2 c3 c4 c5 cw
          gi_wp2_with fail
          go_ret
          exact .inr ⟨rfl, _, HX.out⟩
      · have hjj : ¬ ((j : Int) < (v.list.length : Int)) := by omega
        have HYE : Hid (yvs ys = vWalk (k + 1) v) := Lib.hid (by rw [HYS.out, List.take_of_length_le (by omega)]; rfl)
        gi_wp2_with fail
        go_ret
        exact .inl ⟨rfl, ys, HYE.out, HJ4.out, HK4.out⟩
  · gi_wp2_with fail
    go_ret
    exact .inr ⟨rfl, _, hjx3⟩
theorem yi_all {S : Nat → Prop} {all : List Vl} {KK : Nat → Prop} {by_ bw lp : Nat} {J Jx : List Yv → World → Prop} {W0 : World} (hSK : ∀ k, S k → KK k) (hKy : KK by_) (hKw : KK bw) (hJ : Lasts J)
    (hby : W0.cell? ⟨by_, 0, none⟩ = some (.func (.yield lp) #[] #[])) (hbw : W0.cell? ⟨bw, 0, none⟩ = some (.func (.func 114) #[] #[.pointer (some ⟨by_, 0, none⟩), .pointer (some ⟨bw, 0, none⟩)]))
    (hY : YiY S all KK lp J Jx W0) : ∀ k, YiC S all KK by_ bw lp J Jx W0 k := by
  intro k
  induction k with
  | zero => intro m v cs a pre W hd; exact hd.elim
  | succ k ih => exact yi_step hSK hKy hKw hJ hby hbw hY k ih
set_option maxRecDepth 100000 in
set_option maxHeartbeats 8000000 in
/-- the iterator's contract: a value's box is Bs; all that is read lies below D0 -/
theorem walk_iter (S : Nat → Prop) (KB : Nat → Prop) (K : Nat) (v : Vl) (cs : List Value) (Bs : Nat) (w : World) (hS : ∀ k, S k → KB k) (hB : KB Bs) (hD0 : ∀ k, KB k → k < w.heap.size) (hd : vDeep K v) (htr : Trs.at S w v.tr cs) (hcel : Cel w ⟨Bs, 0, none⟩ cs) :
    Iter2 Tryz.prog 113 #[.pointer (some ⟨Bs, 0, none⟩)] Yv.enc KB (YvV S (vWalk K v)) (fun xs => yvs xs = vWalk K v) (fun _ => True) w := by
  have hmf : ∀ (fn : Fn) (first cap : Array Value) (w : World), (Instr.makeFunc fn first cap).run Tryz.prog w = .ok (.func fn first cap) w := fun _ _ _ _ => rfl
  intro n l J Jx W hW hJ hJx hY h0
  have kx : Blk ((W.alloc (.cells #[.func (.yield l) #[] #[]] 95)).alloc (.cells #[.nilFunc] 185)) (W.heap.size + 1) #[.nilFunc] 185 := by
    have := Blk.new (W.alloc (.cells #[.func (.yield l) #[] #[]] 95)) #[.nilFunc] 185
    rwa [show (W.alloc (.cells #[.func (.yield l) #[] #[]] 95)).heap.size = W.heap.size + 1 by simp] at this
  have x0 := kx.cell 0 (v := .nilFunc) rfl
  have z0 := kx.frozen 0
  obtain ⟨W2, hW2⟩ : ∃ W2, (W.alloc (.cells #[.func (.yield l) #[] #[]] 95)).alloc (.cells #[(.func (.func 114) #[] #[.pointer (some ⟨W.heap.size, 0, none⟩), .pointer (some ⟨W.heap.size + 1, 0, none⟩)])] 185) = W2 := ⟨_, rfl⟩
  have hsz : W2.heap.size = W.heap.size + 2 := by rw [← hW2]; simp
  have hb2 : Below W.heap.size W W2 := by rw [← hW2]; exact ((Below.refl _ W).alloc (Nat.le_refl _) _).alloc (by simp) _
  have hbw : Below w.heap.size w W2 := hW.trans (hb2.mono hW.size)
  have k1 : Blk W2 W.heap.size #[.func (.yield l) #[] #[]] 95 := by rw [← hW2]; exact (Blk.new W _ _).alloc _
  have k2 : Blk W2 (W.heap.size + 1) #[(.func (.func 114) #[] #[.pointer (some ⟨W.heap.size, 0, none⟩), .pointer (some ⟨W.heap.size + 1, 0, none⟩)])] 185 := by
    rw [← hW2]
    have := Blk.new (W.alloc (.cells #[.func (.yield l) #[] #[]] 95)) #[(.func (.func 114) #[] #[.pointer (some ⟨W.heap.size, 0, none⟩), .pointer (some ⟨W.heap.size + 1, 0, none⟩)])] 185
    rwa [show (W.alloc (.cells #[.func (.yield l) #[] #[]] 95)).heap.size = W.heap.size + 1 by simp] at this
  have hws := hW.size
  have hyy : YiY S (vWalk K v) (fun k => KB k ∨ (W.heap.size ≤ k ∧ k < W.heap.size + 2)) l (J (W.heap.size + 2)) Jx W2 := fun m pre x W1 hk hj hat ht =>
    YieldAt.any rfl m (hY (W.heap.size + 2) pre x W1 (by omega) (by have := hk.size; omega) hj ⟨hat, ht⟩)
  have hj2 := hJ (W.heap.size + 2) [] W W2 (h0 _ (by omega)) hb2
  have HCL := Lib.hid (yi_all (fun k hk => .inl (hS k hk)) (.inr ⟨by omega, by omega⟩) (.inr ⟨by omega, by omega⟩) (hJ _) (k1.cell 0 rfl) (k2.cell 0 rfl) hyy K (n - 1) v cs ⟨Bs, 0, none⟩ [] W2 hd ⟨[], by simp [yvs]⟩ (Keeps.refl _ _) hj2 (htr.below hbw) (hcel.below hbw) (.inl hB))
  have c1 := k2.cell 0 (v := .func (.func 114) #[] #[.pointer (some ⟨W.heap.size, 0, none⟩), .pointer (some ⟨W.heap.size + 1, 0, none⟩)]) rfl
  rw [← hW2] at HCL c1
  clear hY h0 hj2 hyy k1 k2 htr hcel hJ hJx hd hsz hb2 hbw hW2 kx
  refine callsIn_of_wp Tryz.func113 rfl trivial ?_
  simp only [Tryz.ntmps113, List.size_toArray, List.length_cons, List.length_nil, Nat.reduceAdd, Nat.reduceSub, Array.replicate_succ, Array.replicate_zero, List.push_toArray, List.append_toArray, List.nil_append, List.cons_append]
  gi_wp2_with fail
  refine ⟨trivial, (fun h => by cases h), HCL.out.mono ?_⟩
  rintro e w3 (⟨rfl, ys, hy, hj, hk⟩ | ⟨rfl, p2, hx⟩)
  · gi_wp2_with fail
    go_end0
    exact ⟨⟨_, rfl⟩, .inl ⟨_, ys, hy, hj⟩⟩
  · gi_wp2_with fail
    go_end0
    exact ⟨⟨_, rfl⟩, .inr ⟨_, trivial, hx⟩⟩
end Go.Proofs.YthcnfgpilncooaaGreatDoor
namespace Go.Proofs.YthcnfgpilncooaaGreatDoor
open Go.RowKit
attribute [local go_sem] Oper.semAt_some
set_option linter.unusedVariables false
set_option linter.unusedSimpArgs false

def vChk (v : Vl) : Nat := if 24 < vDepth 24 v then 30 else match (vWalk 24 v).find? (fun x => decide (vAlone x ≠ 0)) with
  | some x => vAlone x
  | none => if 4096 < (vWalk 24 v).length then 3 else 0
/-- few enough to be counted -/
def vSmall (v : Vl) : Prop := (vWalk 24 v).length ≤ 1000000 ∧ ∀ x ∈ vWalk 24 v, x.keys.length ≤ 1000000 ∧ x.list.length ≤ 1000000
/-- between two rounds -/
structure CkI (w : World) (all : List Vl) (pre : List Yv) (W : World) : Prop where
  n : Blk W (w.heap.size + 2) #[.int .i64 (pre.length : Nat)] 3
  r : Blk W (w.heap.size + 1) #[.int .i64 0] 35
  bel : Below w.heap.size w W
  ok : ∀ x ∈ pre, vAlone x.v = 0
  pr : yvs pre = all.take pre.length
/-- a round has left -/
structure CkX (w : World) (all : List Vl) (c : Code) (W : World) : Prop where
  jump : c = .ret
  r : ∃ x, all.find? (fun x => decide (vAlone x ≠ 0)) = some x ∧ Blk W (w.heap.size + 1) #[.int .i64 (vAlone x : Nat)] 35
  bel : Below w.heap.size w W
theorem Blk.own {W W' : World} {q : Nat} {cs : Array Value} {t : TypeId} {row : Option Nat} (h : Blk W q cs t) (hg : W.grownBy W' row) (hr : ∀ r, row = some r → ∃ o : Obj, W.heap[r]? = some o ∧ o.isCells = false) : Blk W' q cs t :=
  h.grown hg (fun e => by
    obtain ⟨o, h1, h2⟩ := hr q e
    rw [show W.heap[q]? = _ from h] at h1
    cases h1; cases h2)
theorem ckI_own (w : World) (all : List Vl) (B : Nat) (hB : w.heap.size ≤ B) : OwnFrom B (CkI w all) := by
  intro pre W W' row h hg hr
  have hr' : ∀ r, row = some r → ∃ o : Obj, W.heap[r]? = some o ∧ o.isCells = false := fun r e => (hr r e).2
  exact ⟨h.n.own hg hr', h.r.own hg hr', h.bel.grown hg h.bel.size (fun k e => by have := (hr k e).1; omega), h.ok, h.pr⟩
theorem ckX_own (w : World) (all : List Vl) (B : Nat) (hB : w.heap.size ≤ B) (c : Code) : OwnFrom B (fun (_ : List Yv) W => CkX w all c W) := by
  intro pre W W' row h hg hr
  have hr' : ∀ r, row = some r → ∃ o : Obj, W.heap[r]? = some o ∧ o.isCells = false := fun r e => (hr r e).2
  obtain ⟨x, hx, hb⟩ := h.r
  exact ⟨h.jump, ⟨x, hx, hb.own hg hr'⟩, h.bel.grown hg h.bel.size (fun k e => by have := (hr k e).1; omega)⟩
theorem yvV_own (S : Nat → Prop) (all : List Vl) (D B : Nat) (hS : ∀ k, S k → k < B) : OwnFrom B (fun (s : List Yv × Yv) W => YvV S all D s.1 s.2 W) := by
  intro s W W' row h hg hr
  exact ⟨h.at_, Trs.at.keep (fun p hp hs => World.cell?_of_block (hg.block _ hp (fun e => by have := (hr _ e.symm).1; have := hS _ hs; omega))) (fun _ h => h) _ _ h.tr⟩
theorem Keeps.set {K : Nat → Prop} {W W' : World} (h : Keeps K W W') (p : Addr) (u : Value) (hp : ¬ K p.block) : Keeps K W (W'.setCell p u) :=
  ⟨h.os, h.tape, h.output, by simpa using h.size, fun k hk => (Below.heap_setCell W' p u k (fun e => hp (e ▸ hk))).trans (h.block k hk)⟩
theorem keepsFrom_below {B : Nat} {W W' : World} (h : Below W.heap.size W W') : KeepsFrom B W W' := ⟨h.size, fun k o _ h1 _ => (h.block k (Array.getElem?_eq_some_iff.1 h1).1).trans h1⟩
/-- the round's variable, in a block of its own -/
def CkA (w : World) (fr : Value → Value → Act) (x : Yv) (a : Act) (W : World) : Prop := ∃ q, w.heap.size + 4 ≤ q ∧ Blk W q x.cs.toArray 57 ∧ a = fr (.pointer (some ⟨q, 0, none⟩)) (.agg #[.int .i8 x.v.kind, .bool x.v.bool, .int .i64 x.v.num, .string x.v.text, .slice x.A x.v.list.length x.c, .slice x.B x.v.keys.length x.d])
theorem ckA_own (w : World) (fr : Value → Value → Act) (B : Nat) : OwnFrom B (fun (s : Yv × Act) W => CkA w fr s.1 s.2 W) := by
  intro s W W' row h hg hr
  have hr' : ∀ r, row = some r → ∃ o : Obj, W.heap[r]? = some o ∧ o.isCells = false := fun r e => (hr r e).2
  obtain ⟨q, hq, hb, ha⟩ := h
  exact ⟨q, hq, hb.own hg hr', ha⟩
set_option maxRecDepth 100000 in
set_option maxHeartbeats 8000000 in
theorem tchk_any (S : Nat → Prop) (v : Vl) (A : Option Addr) (c : Nat) (B : Option Addr) (d : Nat) (w : World) (hV : VOk w) (htr : Trs.at S w v.tr (Yv.cs ⟨v, A, c, B, d⟩)) (hsm : vSmall v) :
    Calls Tryz.prog 94 #[.agg (Yv.cs ⟨v, A, c, B, d⟩).toArray] w fun e w' => e = .returned (.int .i64 (vChk v : Nat)) ∧ Below w.heap.size w w' := by
  obtain ⟨V2, hV2⟩ : ∃ V2, (w.alloc (.cells #[.int .i8 v.kind, .bool v.bool, .int .i64 v.num, .string v.text, .slice A v.list.length c, .slice B v.keys.length d] 57)).alloc (.cells #[.int .i64 0] 35) = V2 := ⟨_, rfl⟩
  have HV2 := Lib.hid hV2
  have kv : Blk V2 w.heap.size #[.int .i8 v.kind, .bool v.bool, .int .i64 v.num, .string v.text, .slice A v.list.length c, .slice B v.keys.length d] 57 := by rw [← hV2]; exact (Blk.new w _ _).alloc _
  have kr : Blk V2 (w.heap.size + 1) #[.int .i64 0] 35 := by
    rw [← hV2]
    have := Blk.new (w.alloc (.cells #[.int .i8 v.kind, .bool v.bool, .int .i64 v.num, .string v.text, .slice A v.list.length c, .slice B v.keys.length d] 57)) #[.int .i64 0] 35
    rwa [show (w.alloc (.cells #[.int .i8 v.kind, .bool v.bool, .int .i64 v.num, .string v.text, .slice A v.list.length c, .slice B v.keys.length d] 57)).heap.size = w.heap.size + 1 by simp] at this
  have hsz : V2.heap.size = w.heap.size + 2 := by rw [← hV2]; simp
  have hb2 : Below w.heap.size w V2 := by rw [← hV2]; exact ((Below.refl _ w).alloc (Nat.le_refl _) _).alloc (by simp) _
  have HDP := Lib.hid (depth_any 24 (by omega) (fun _ => True) v (Yv.cs ⟨v, A, c, B, d⟩) ⟨w.heap.size, 0, none⟩ V2 ((htr.below hb2).mono (fun _ _ => trivial)) (celBlk kv))
  have HTR := Lib.hid htr
  have HSM := Lib.hid hsm
  have HV := Lib.hid hV
  have HKV := Lib.hid kv
  have HKR := Lib.hid kr
  have HSZ := Lib.hid hsz
  have HB2 := Lib.hid hb2
  have HCK : Hid (vChk v = if 24 < vDepth 24 v then 30 else match (vWalk 24 v).find? (fun x => decide (vAlone x ≠ 0)) with | some x => vAlone x | none => if 4096 < (vWalk 24 v).length then 3 else 0) := Lib.hid rfl
  have HDD := Lib.hid (vDepth_deep 24 v)
  obtain ⟨dp, hdp⟩ : ∃ dp, dp = vDepth 24 v := ⟨_, rfl⟩
  rw [← hdp] at HDP HCK HDD
  clear htr hsm hV kv kr hsz hb2 hV2 hdp
  refine (callsIn_wide (n := 3)).1 ?_
  refine callsIn_of_wp_marks Tryz.func94 rfl trivial ?_
  simp only [Tryz.ntmps94, Yv.cs, List.size_toArray, List.length_cons, List.length_nil, Nat.reduceAdd, Nat.reduceSub, Array.replicate_succ, Array.replicate_zero, List.push_toArray, List.append_toArray, List.nil_append, List.cons_append]
  gi_wp2_with fail
  rw [HV2.out]
  refine ⟨trivial, (callsIn_wide.2 HDP.out).mono ?_⟩
  rintro e w2 ⟨rfl, rfl⟩
  by_cases h24 : 24 < dp
  · have hq : (24 : Int) < (dp : Int) := by omega
    have HR : Hid (vChk v = 30) := Lib.hid (by rw [HCK.out, if_pos h24])
    have x1 := HKR.out.cell 0 (v := .int .i64 0) rfl
    have z1 := HKR.out.frozen 0
    have q1 := (HKR.out.set 0 (.int .i64 30)).cell 0 (v := .int .i64 30) (by simp)
    have HB3 := Lib.hid (HB2.out.setCell (p := ⟨w.heap.size + 1, 0, none⟩) (by simp) (.int .i64 30))
    gi_wp2_with fail
    refine ⟨.int .i64 30, ?_, by rw [HR.out]; rfl, HB3.out⟩
    simp [results, Tryz.results94, go_sem, q1]
  · have hq : ¬ ((24 : Int) < (dp : Int)) := by omega
    obtain ⟨c0, c1, c2, c3, c4, c5⟩ := blk6 (HKV.out.alloc (.cells #[.int .i64 0] 3))
    obtain ⟨V3, hV3⟩ : ∃ V3, w2.alloc (.cells #[.int .i64 0] 3) = V3 := ⟨_, rfl⟩
    have HV3 := Lib.hid hV3
    have HTW := Lib.hid (twalk_any #[.int .i8 v.kind, .bool v.bool, .int .i64 v.num, .string v.text, .slice A v.list.length c, .slice B v.keys.length d] V3)
    clear hV3
    gi_wp2_with fail
    rw [HV3.out]
    refine ⟨trivial, (callsIn_wide.2 HTW.out).mono ?_⟩
    rintro e w4 ⟨rfl, rfl⟩
    gi_wp2_with fail
    obtain ⟨V4, hV4⟩ : ∃ V4, V3.alloc (.cells #[.int .i8 v.kind, .bool v.bool, .int .i64 v.num, .string v.text, .slice A v.list.length c, .slice B v.keys.length d] 57) = V4 := ⟨_, rfl⟩
    have hs2 := HSZ.out
    have hs3 : V3.heap.size = w.heap.size + 3 := by rw [← HV3.out]; simp; omega
    have hs4 : V4.heap.size = w.heap.size + 4 := by rw [← hV4]; simp; omega
    have hb23 : Below w2.heap.size w2 V3 := by rw [← HV3.out]; exact (Below.refl _ _).alloc (Nat.le_refl _) _
    have hb34 : Below V3.heap.size V3 V4 := by rw [← hV4]; exact (Below.refl _ _).alloc (Nat.le_refl _) _
    have hb24 : Below w2.heap.size w2 V4 := hb23.trans (hb34.mono hb23.size)
    have hbw : Below w.heap.size w V4 := HB2.out.trans (hb24.mono HB2.out.size)
    have kn : Blk V4 (w.heap.size + 2) #[.int .i64 0] 3 := by
      have := Blk.new w2 #[.int .i64 0] 3
      rw [HV3.out, hs2] at this
      exact this.below hb34
    have kr4 := HKR.out.below hb24
    have kx : Blk V4 (w.heap.size + 3) #[.int .i8 v.kind, .bool v.bool, .int .i64 v.num, .string v.text, .slice A v.list.length c, .slice B v.keys.length d] 57 := by
      have := Blk.new V3 #[.int .i8 v.kind, .bool v.bool, .int .i64 v.num, .string v.text, .slice A v.list.length c, .slice B v.keys.length d] 57
      rwa [hV4, hs3] at this
    have hit := walk_iter (fun k => S k ∧ k < w.heap.size) (fun k => k < w.heap.size ∨ k = w.heap.size + 3) 24 v (Yv.cs ⟨v, A, c, B, d⟩) (w.heap.size + 3) V4 (fun k hk => .inl hk.2) (.inr rfl) (fun k hk => by omega) (HDD.out (by omega)) (HTR.out.bound.below hbw) (celBlk kx)
    rw [hV4, hs3, hs2]
    have HBW := Lib.hid hbw
    have HS4 := Lib.hid hs4
    obtain ⟨all, hall⟩ : ∃ all, all = vWalk 24 v := ⟨_, rfl⟩
    have HSM2 := Lib.hid HSM.out
    unfold vSmall at HSM2
    rw [← hall] at hit HCK HSM2
    have HI0 : Hid (CkI w all [] V4) := Lib.hid ⟨kn, kr4, hbw, by simp, rfl⟩
    have HIT := Lib.hid hit
    clear hb23 hb34 hb24 hbw kn kr4 kx hit hV4 hs3 hs2 hs4 hall c0 c1 c2 c3 c4 c5
    refine wpIn_range3 (gf := 113) (lb := #[.pointer (some ⟨w.heap.size + 3, 0, none⟩)]) rfl (enters_of Tryz.func113 (by kernel_rfl) rfl)
      HIT.out (fun k hk => by have := HS4.out; omega) (Below.refl _ _) (fun _ => rfl) (fun D => yvV_own _ _ _ _ (fun k hk => by have := HS4.out; have := hk.2; omega))
      (fun _ pre W => CkI w all pre W) (fun c _ W => CkX w all c W) (fun _ => ckI_own w all _ (by have := HS4.out; omega)) (fun c => ckX_own w all _ (by have := HS4.out; omega) c) (fun _ _ => HI0.out)
      (fun s W => CkA w (fun (p x : Value) => ({ tmps := #[.agg #[.int .i8 v.kind, .bool v.bool, .int .i64 v.num, .string v.text, .slice A v.list.length c, .slice B v.keys.length d], .pointer (some ⟨w.heap.size, 0, none⟩), .pointer (some ⟨w.heap.size + 1, 0, none⟩), .pointer (some ⟨w.heap.size + 2, 0, none⟩), p, undef, .int .i64 (dp : Int), .bool (decide (24 < (dp : Int))), .agg #[.int .i8 v.kind, .bool v.bool, .int .i64 v.num, .string v.text, .slice A v.list.length c, .slice B v.keys.length d], .func (.func 113) #[] #[.pointer (some ⟨w.heap.size + 3, 0, none⟩)], x, undef, undef, undef, undef, undef, undef, undef, undef], defers := [] } : Act)) s.1 s.2 W) (ckA_own w _ _)
      ?assign ?body ?done ?stop
    case assign =>
      intro lp x W K hsz hK
      dsimp only [Yv.enc]
      have hs4 := HS4.out
      have HK2 := Lib.hid (hK ((fun (p x : Value) => ({ tmps := #[.agg #[.int .i8 v.kind, .bool v.bool, .int .i64 v.num, .string v.text, .slice A v.list.length c, .slice B v.keys.length d], .pointer (some ⟨w.heap.size, 0, none⟩), .pointer (some ⟨w.heap.size + 1, 0, none⟩), .pointer (some ⟨w.heap.size + 2, 0, none⟩), p, undef, .int .i64 (dp : Int), .bool (decide (24 < (dp : Int))), .agg #[.int .i8 v.kind, .bool v.bool, .int .i64 v.num, .string v.text, .slice A v.list.length c, .slice B v.keys.length d], .func (.func 113) #[] #[.pointer (some ⟨w.heap.size + 3, 0, none⟩)], x, undef, undef, undef, undef, undef, undef, undef, undef], defers := [] } : Act)) (.pointer (some ⟨W.heap.size, 0, none⟩)) (.agg #[.int .i8 x.v.kind, .bool x.v.bool, .int .i64 x.v.num, .string x.v.text, .slice x.A x.v.list.length x.c, .slice x.B x.v.keys.length x.d])) (W.alloc (.cells x.cs.toArray 57)) ((Below.refl _ W).alloc (Nat.le_refl _) _) ⟨W.heap.size, by omega, Blk.new W _ _, rfl⟩)
      clear hK
      gi_wp2
      exact HK2.out
    case body =>
      intro lp Dn pre x a₁ W hi hv hax hD1 hD2
      obtain ⟨q, hq, hqb, ha⟩ := hax
      have ha2 : a₁ = (fun (p x : Value) => ({ tmps := #[.agg #[.int .i8 v.kind, .bool v.bool, .int .i64 v.num, .string v.text, .slice A v.list.length c, .slice B v.keys.length d], .pointer (some ⟨w.heap.size, 0, none⟩), .pointer (some ⟨w.heap.size + 1, 0, none⟩), .pointer (some ⟨w.heap.size + 2, 0, none⟩), p, undef, .int .i64 (dp : Int), .bool (decide (24 < (dp : Int))), .agg #[.int .i8 v.kind, .bool v.bool, .int .i64 v.num, .string v.text, .slice A v.list.length c, .slice B v.keys.length d], .func (.func 113) #[] #[.pointer (some ⟨w.heap.size + 3, 0, none⟩)], x, undef, undef, undef, undef, undef, undef, undef, undef], defers := [] } : Act)) (.pointer (some ⟨q, 0, none⟩)) (.agg #[.int .i8 x.v.kind, .bool x.v.bool, .int .i64 x.v.num, .string x.v.text, .slice x.A x.v.list.length x.c, .slice x.B x.v.keys.length x.d]) := ha
      clear ha
      subst ha2
      have hqb2 : Blk W q x.cs.toArray 57 := hqb
      have hat : all[pre.length]? = some x.v := hv.at_
      have htx : Trs.at (fun k => S k ∧ k < w.heap.size) W x.v.tr x.cs := hv.tr
      have hs4 := HS4.out
      have hpl : pre.length < all.length := (List.getElem?_eq_some_iff.1 hat).1
      have hal := HSM2.out.1
      obtain ⟨hk1, hl1⟩ := HSM2.out.2 x.v (List.mem_of_getElem? hat)
      have HAL := Lib.hid (alone_any (fun k => S k ∧ k < w.heap.size) x.v x.cs ⟨q, 0, none⟩ W (HV.out.below hi.bel) htx (celBlk hqb2) hk1 hl1)
      have HI := Lib.hid hi
      have HAT := Lib.hid hat
      obtain ⟨er, her⟩ : ∃ er, er = vAlone x.v := ⟨_, rfl⟩
      have HER := Lib.hid her
      rw [← her] at HAL
      clear hi hv hq hqb hqb2 hat htx her hk1 hl1
      gi_wp2_with fail
      refine ⟨trivial, (CallsIn.inRound lp (callsIn_wide.2 HAL.out)).mono ?_⟩
      rintro e w5 ⟨rfl, hb5⟩
      have HB5 := Lib.hid hb5
      have k1 := HI.out.n.below hb5
      have k2 := HI.out.r.below hb5
      have x1 := k1.cell 0 (v := .int .i64 (pre.length : Nat)) rfl
      have z1 := k1.frozen 0
      have x2 := k2.cell 0 (v := .int .i64 0) rfl
      have z2 := k2.frozen 0
      have HK1 := Lib.hid k1
      have HK2 := Lib.hid k2
      have HBE := Lib.hid (HI.out.bel.trans (hb5.mono HI.out.bel.size))
      have HKP : Hid (Keeps (fun k => (k < w.heap.size ∨ k = w.heap.size + 3) ∨ V4.heap.size + 2 ≤ k ∧ k < Dn) W w5) := Lib.hid (Keeps.of_below hb5 (fun k hk => by omega))
      clear hb5 k1 k2
      by_cases hz : er = 0
      · subst hz
        gi_wp2_with fail
        refine ⟨(keepsFrom_below HB5.out).set _ _, HKP.out.set _ _ (by simp; omega), ⟨?_, HK2.out.setOther _ _ (by simp), HBE.out.setCell (p := ⟨w.heap.size + 2, 0, none⟩) (by simp) _, fun y hy => ?_, ?_⟩⟩
        · exact (HK1.out.set 0 _).eq (by simp)
        · rcases List.mem_append.1 hy with hy | hy
          · exact HI.out.ok y hy
          · rw [List.mem_singleton] at hy; subst hy; exact HER.out.symm
        · rw [yvs_app, HI.out.pr, List.length_append, List.length_singleton, List.take_add_one, HAT.out]; rfl
      · have hzq : ((er : Int) != 0) = true := by simp; omega
        have HF : Hid (all.find? (fun x => decide (vAlone x ≠ 0)) = some x.v) := Lib.hid (by
          rw [List.find?_eq_some_iff_getElem]
          refine ⟨by rw [← HER.out]; simpa using hz, pre.length, hpl, (List.getElem?_eq_some_iff.1 HAT.out).2, fun j hj => ?_⟩
          have hp := HI.out.pr
          have h1 : (yvs pre)[j]? = all[j]? := by rw [hp, List.getElem?_take_of_lt hj]
          rw [List.getElem?_eq_getElem (l := all) (by omega)] at h1
          unfold yvs at h1
          rw [List.getElem?_map] at h1
          obtain ⟨y, hy, hy2⟩ := Option.map_eq_some_iff.1 h1
          rw [← hy2, HI.out.ok y (List.mem_of_getElem? hy)]; rfl)
        clear hz
        gi_wp2_with fail
        refine ⟨(keepsFrom_below HB5.out).set _ _, ⟨rfl, ⟨x.v, HF.out, ?_⟩, HBE.out.setCell (p := ⟨w.heap.size + 1, 0, none⟩) (by simp) _⟩⟩
        rw [← HER.out]
        exact (HK2.out.set 0 _).eq (by simp)
    case done =>
      intro D Dn xs W hD hS hi hK
      have hal := HSM2.out.1
      have hs4 := HS4.out
      have hlen : xs.length = all.length := by rw [← hS, yvs_len]
      have HN : Hid (all.find? (fun x => decide (vAlone x ≠ 0)) = none) := Lib.hid (by
        rw [List.find?_eq_none, ← hS]
        intro y hy
        obtain ⟨z, hz, rfl⟩ := List.mem_map.1 hy
        rw [hi.ok z hz]; simp)
      have hn := hi.n
      rw [hlen] at hn
      have x1 := hn.cell 0 (v := .int .i64 (all.length : Nat)) rfl
      have x2 := hi.r.cell 0 (v := .int .i64 0) rfl
      have z2 := hi.r.frozen 0
      have HR := Lib.hid hi.r
      have HB := Lib.hid hi.bel
      have HKD := Lib.hid hK
      clear hi hS hK hn hlen
      by_cases hbig : 4096 < all.length
      · have hq : (4096 : Int) < (all.length : Int) := by omega
        have HE : Hid (vChk v = 3) := Lib.hid (by rw [HCK.out, if_neg h24, HN.out]; exact if_pos hbig)
        have hb9 := (HR.out.set 0 (.int .i64 3)).grown (grownBy_putObj' (W.setCell ⟨w.heap.size + 1, 0, none⟩ (.int .i64 3)) D (.deferred none)) (by intro e; injection e with e; omega)
        have q1 := hb9.cell 0 (v := .int .i64 3) (by simp)
        have HB9 := Lib.hid ((HB.out.setCell (p := ⟨w.heap.size + 1, 0, none⟩) (by simp) (.int .i64 3)).grown (grownBy_putObj' _ D (.deferred none)) (by simpa using HB.out.size) (fun k e => by injection e with e; omega))
        have hKD : (W.setCell ⟨w.heap.size + 1, 0, none⟩ (.int .i64 3)).heap[D]? = some (.deferred (some [])) := (Below.heap_setCell _ _ _ _ (by simp; omega)).trans HKD.out
        clear hb9
        gi_wp2_with fail
        refine ⟨by simp, .inl ⟨_, _, rfl, run_takeDeferred hKD, ?_⟩⟩
        refine ⟨.int .i64 3, ?_, by rw [HE.out]; rfl, HB9.out⟩
        clear x1 x2 z2 hKD
        generalize (W.setCell ⟨w.heap.size + 1, 0, none⟩ (.int .i64 3)).putObj D (.deferred none) = W9 at q1 ⊢
        simp [results, Tryz.results94, go_sem, q1]
      · have hq : ¬ ((4096 : Int) < (all.length : Int)) := by omega
        have HE : Hid (vChk v = 0) := Lib.hid (by rw [HCK.out, if_neg h24, HN.out]; exact if_neg hbig)
        have hb9 := (HR.out.set 0 (.int .i64 0)).grown (grownBy_putObj' (W.setCell ⟨w.heap.size + 1, 0, none⟩ (.int .i64 0)) D (.deferred none)) (by intro e; injection e with e; omega)
        have q1 := hb9.cell 0 (v := .int .i64 0) (by simp)
        have HB9 := Lib.hid ((HB.out.setCell (p := ⟨w.heap.size + 1, 0, none⟩) (by simp) (.int .i64 0)).grown (grownBy_putObj' _ D (.deferred none)) (by simpa using HB.out.size) (fun k e => by injection e with e; omega))
        have hKD : (W.setCell ⟨w.heap.size + 1, 0, none⟩ (.int .i64 0)).heap[D]? = some (.deferred (some [])) := (Below.heap_setCell _ _ _ _ (by simp; omega)).trans HKD.out
        clear hb9
        gi_wp2_with fail
        refine ⟨by simp, .inl ⟨_, _, rfl, run_takeDeferred hKD, ?_⟩⟩
        refine ⟨.int .i64 0, ?_, by rw [HE.out]; rfl, HB9.out⟩
        clear x1 x2 z2 hKD
        generalize (W.setCell ⟨w.heap.size + 1, 0, none⟩ (.int .i64 0)).putObj D (.deferred none) = W9 at q1 ⊢
        simp [results, Tryz.results94, go_sem, q1]
    case stop =>
      intro D ch pre W hD _ hx hK
      have hj := hx.jump
      subst hj
      have hs4 := HS4.out
      obtain ⟨x, hf, hb⟩ := hx.r
      have HE : Hid (vChk v = vAlone x) := Lib.hid (by rw [HCK.out, if_neg h24, hf])
      have hg := grownBy_putObj' W D (.deferred none)
      have hb2 := hb.grown hg (by intro e; injection e with e; omega)
      have q1 := hb2.cell 0 (v := .int .i64 (vAlone x : Nat)) rfl
      have HB := Lib.hid (hx.bel.grown hg hx.bel.size (fun k e => by injection e with e; omega))
      clear hf hb hb2 hg
      gi_wp2_with fail
      refine ⟨by simp, .inl ⟨_, _, rfl, run_takeDeferred hK, ?_⟩⟩
      refine ⟨.int .i64 (vAlone x : Nat), ?_, by rw [HE.out], HB.out⟩
      generalize W.putObj D (.deferred none) = W9 at q1 ⊢
      simp [results, Tryz.results94, go_sem, q1]
end Go.Proofs.YthcnfgpilncooaaGreatDoor
