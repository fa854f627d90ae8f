/- Conditions: conds.Run's deferred closure. -/
/- Conditions: conds.Run. -/
import Derived.Test.YtmljdppdaaoehaaGreatDoorMem
import Derived.Test.YtmljdppdaaoehaaGreatDoorProg
import Derived.Defers
import Derived.Recover
import Derived.WalkLawsBesides
import Derived.Test.YtmljdppdaaoehaaGreatDoorCn18
namespace Go.Proofs.YtmljdppdaaoehaaGreatDoor
open Go.RowKit
set_option linter.unusedVariables false
set_option linter.unusedSimpArgs false
set_option maxRecDepth 100000 in
theorem rc_idle (b4 b5 : Nat) (w : World) :
    CallsD Tryz.prog 20 #[.pointer (some ⟨b4, 0, none⟩), .pointer (some ⟨b5, 0, none⟩)] .returning w fun e u' w' => e = .returned (.tuple #[]) ∧ u' = .returning ∧ w' = w := by
  refine callsD_of_wpS Tryz.func20 rfl fun c₀ cs hu => ?_
  apply wpS_seq
  apply wpS_region
  simp [wpOpsS, go_sem, recoverD, hu, Tryz.ntmps20, Exit.thenS]
  refine wpS_of_wp ?_
  go_wp2
  refine ⟨rfl, .returning, ?_, .tuple #[], by simp [results, Tryz.results20, go_sem], rfl, rfl, rfl⟩
  cases c₀
  simp_all
theorem run_assert (x : TypeId) (w : World) : (Instr.typeAssert (.iface 55 (.agg #[])) x 55 true).run Tryz.prog w = .ok (.tuple #[.agg #[], .bool true]) w := by
  unfold Instr.typeAssert
  simp [run_underlying Tryz.underlying55]
set_option maxRecDepth 100000 in
theorem rc_hit (b4 b5 : Nat) (c4 c5 : Value) (t4 t5 : TypeId) (w : World) (h4 : Blk w b4 #[c4] t4) (h5 : Blk w b5 #[c5] t5) (hne : b4 ≠ b5) :
    CallsD Tryz.prog 20 #[.pointer (some ⟨b4, 0, none⟩), .pointer (some ⟨b5, 0, none⟩)] (.panicking [{ v := .iface 55 (.agg #[]), recovered := false }]) w fun e u' w' =>
      e = .returned (.tuple #[]) ∧ u' = .panicking [{ v := .iface 55 (.agg #[]), recovered := true }] ∧ Blk w' b4 #[.slice none 0 0] t4 ∧ Blk w' b5 #[.int .i64 150] t5 ∧ Only (fun k => k = b4 ∨ k = b5) w w' := by
  have hta := fun x => run_assert x w
  have k4 := h4.alloc (.cells #[] 55)
  have k5 := h5.alloc (.cells #[] 55)
  have a4 := k4.cell 0 (v := c4) rfl
  have z4 := k4.frozen 0
  have k4' := (k4.set 0 (.slice none 0 0)).eq (cs' := #[.slice none 0 0]) (by simp)
  have k5' := k5.setOther ⟨b4, 0, none⟩ (.slice none 0 0) (fun e => hne e.symm)
  have a5 := k5'.cell 0 (v := c5) rfl
  have z5 := k5'.frozen 0
  have K4 := Lib.hid (k4'.setOther ⟨b5, 0, none⟩ (.int .i64 150) (fun e => hne e))
  have K5 := Lib.hid ((k5'.set 0 (.int .i64 150)).eq (cs' := #[.int .i64 150]) (by simp))
  have HO : Hid (Only (fun k => k = b4 ∨ k = b5) w (((w.alloc (.cells #[] 55)).setCell ⟨b4, 0, none⟩ (.slice none 0 0)).setCell ⟨b5, 0, none⟩ (.int .i64 150))) :=
    Lib.hid (((Only.of_below ((Below.refl _ w).alloc (Nat.le_refl _) _) _).setCell _ _ (fun _ => .inl rfl)).setCell _ _ (fun _ => .inr rfl))
  clear h4 h5 k4 k5 k4' k5'
  refine callsD_of_wpS Tryz.func20 rfl fun c₀ cs hu => ?_
  apply wpS_seq
  apply wpS_region
  simp [wpOpsS, go_sem, recoverD, hu, Tryz.ntmps20, Exit.thenS]
  refine wpS_of_wp ?_
  go_wp2
  refine ⟨rfl, _, rfl, .tuple #[], by simp [results, Tryz.results20, go_sem], rfl, rfl, K4.out, K5.out, HO.out⟩
end Go.Proofs.YtmljdppdaaoehaaGreatDoor
namespace Go.Proofs.YtmljdppdaaoehaaGreatDoor
open Go.RowKit
set_option linter.unusedVariables false
set_option linter.unusedSimpArgs false
/-- an answer's cells -/
def yes (nm : ByteArray) (b : Bool) : List Value := [.string nm, .bool false, .int .i8 1, .bool b, .int .i64 0, .string ⟨#[]⟩, .slice none 0 0, .slice none 0 0]
def yesL (r : List (ByteArray × Bool)) : List Value := r.flatMap fun x => yes x.1 x.2
def runEv (l : List Cd) (ps : List Gv) (eq : Vl → Vl → Bool) (K : Nat) : List Cd → Option (List (ByteArray × Bool))
  | [] => some []
  | c :: r => match evC l ps eq K c with
    | none => none
    | some b => (runEv l ps eq K r).map ((c.name, b) :: ·)
theorem runEv_none {l : List Cd} {ps : List Gv} {eq : Vl → Vl → Bool} {K : Nat} {p : Cd} : ∀ {r : List Cd}, p ∈ r → evC l ps eq K p = none → runEv l ps eq K r = none
  | c :: r, h, hp => by
    unfold runEv
    rcases List.mem_cons.1 h with rfl | h
    · rw [hp]
    · cases evC l ps eq K c with
      | none => rfl
      | some b => simp only; rw [runEv_none h hp]; rfl
theorem runEv_snoc {l : List Cd} {ps : List Gv} {eq : Vl → Vl → Bool} {K : Nat} {p : Cd} : ∀ {r : List Cd}, runEv l ps eq K (r ++ [p]) = (runEv l ps eq K r).bind fun o => (evC l ps eq K p).map fun b => o ++ [(p.name, b)]
  | [] => by
    simp only [List.nil_append, runEv]
    cases evC l ps eq K p <;> simp
  | c :: r => by
    simp only [List.cons_append, runEv]
    cases evC l ps eq K c with
    | none => rfl
    | some b =>
      simp only [runEv_snoc (r := r)]
      cases runEv l ps eq K r with
      | none => rfl
      | some m => cases evC l ps eq K p <;> simp
theorem runEv_len {l : List Cd} {ps : List Gv} {eq : Vl → Vl → Bool} {K : Nat} : ∀ {r : List Cd} {o : List (ByteArray × Bool)}, runEv l ps eq K r = some o → o.length = r.length
  | [], o, h => by simp only [runEv, Option.some.injEq] at h; subst h; rfl
  | c :: r, o, h => by
    unfold runEv at h
    split at h
    · cases h
    · obtain ⟨x, hx, rfl⟩ := Option.map_eq_some_iff.1 h
      simp [runEv_len hx]
def gNames (ps : List Gv) : List ByteArray := ps.map Gv.name
/-- what conds.Run answers: an error, or the names with what they come to -/
def runOf (l : List Cd) (ps : List Gv) (eq : Vl → Vl → Bool) (K : Nat) : Nat ⊕ List (ByteArray × Bool) :=
  if csCheck l (gNames ps) ≠ 0 then .inl (csCheck l (gNames ps)) else match runEv l ps eq K l with
    | none => .inl 150
    | some r => .inr r
def RunOut (r : Nat ⊕ List (ByteArray × Bool)) (w : World) (e : Ending) (w' : World) : Prop := match r with
  | .inl n => e = .returned (.tuple #[.slice none 0 0, .int .i64 (n : Nat)]) ∧ Below w.heap.size w w'
  | .inr r => ∃ A c, e = .returned (.tuple #[.slice A r.length c, .int .i64 0]) ∧ Ow w' w.heap.size 39 8 A r.length c (yesL r) ∧ Below w.heap.size w w'
theorem info_given : (Tryz.prog.info? 39).map (fun i => (i.zero, i.size, i.bytes)) = some (some (.agg #[.string ByteArray.empty, .bool false, .int .i8 0, .bool false, .int .i64 0, .string ByteArray.empty, .slice none 0 0, .slice none 0 0]), 8, 104) := by kernel_rfl
theorem yesL_len (r : List (ByteArray × Bool)) : (yesL r).length = r.length * 8 := flat_len (cs := fun x : ByteArray × Bool => yes x.1 x.2) (fun _ => rfl) r
/-- a condition that is a name -/
def nmCd (s : ByteArray) : Cd := ⟨s, 4, ⟨0, ByteArray.empty, 0, ByteArray.empty, ByteArray.empty, []⟩, ⟨0, ByteArray.empty, 0, ByteArray.empty, ByteArray.empty, []⟩, []⟩
theorem nmCd_at {S : Nat → Prop} {w : World} {c : Cd} (h : c.name.size ≤ 140737488351232) : Trs.at S w (nmCd c.name).tr (#[.string c.name, .int .i8 4, .int .i8 0, .string ⟨#[]⟩, .int .i64 0, .string ⟨#[]⟩, .string ⟨#[]⟩, .slice none 0 0, .int .i8 0, .string ⟨#[]⟩, .int .i64 0, .string ⟨#[]⟩, .string ⟨#[]⟩, .slice none 0 0, .slice none 0 0] : Array Value).toList := by
  have hx : Trs.at S w (Ex.tr ⟨0, ByteArray.empty, 0, ByteArray.empty, ByteArray.empty, []⟩) [.int .i8 0, .string ⟨#[]⟩, .int .i64 0, .string ⟨#[]⟩, .string ⟨#[]⟩, .slice none 0 0] :=
    Ex.at_iff.2 ⟨none, 0, rfl, by show (Lit.int .i8 0).wf = true; decide, by show (Lit.int .i64 0).wf = true; decide, by show ByteArray.empty.size ≤ _; decide, by show ByteArray.empty.size ≤ _; decide, by show ByteArray.empty.size ≤ _; decide, Ls.nil _ _ _ _ (by omega) _⟩
  exact Cd.at_iff.2 ⟨_, _, none, 0, rfl, h, by show (Lit.int .i8 4).wf = true; decide, hx, hx, Ls.nil _ _ _ _ (by omega) _⟩
theorem nmCd_dp {l : List Cd} {ps : List Gv} {G : Vl → Prop} {K i : Nat} {c : Cd} (h1 : plAt l c.name = some i) (h2 : l[i]? = some c) (h3 : Dp l ps G K c) : Dp l ps G (K + 1) (nmCd c.name) :=
  ⟨fun e => absurd e (by show ¬ (4 : Int) = 0; decide), fun _ => ⟨i, c, h1, h2, h3⟩, fun _ e => absurd rfl e⟩
theorem nmCd_ev {l : List Cd} {ps : List Gv} {eq : Vl → Vl → Bool} {K i : Nat} {c : Cd} (h1 : plAt l c.name = some i) (h2 : l[i]? = some c) : evC l ps eq (K + 1) (nmCd c.name) = evC l ps eq K c := by
  rw [evC, if_neg (by show ¬ (4 : Int) = 0; decide), if_pos (show (nmCd c.name).kind = 4 from rfl)]
  show (match plAt l c.name with | some i => _ | none => _) = _
  rw [h1]; simp only [h2]
/-- the evaluator stays where what is written lies besides -/
theorem EvW.go {l : List Cd} {ps : List Gv} {S : Nat → Prop} {w0 w w' : World} {A : Option Addr} {ac : Nat} {PA : Option Addr} {pc mb mn ev kb : Nat} {F : Nat → Prop} (h : EvW l ps S w0 A ac PA pc mb mn ev kb w) (ho : Only F w w') (hF : ∀ k, F k → w0.heap.size ≤ k ∧ k ≠ ev ∧ k ≠ mb ∧ ¬ S k) : EvW l ps S w0 A ac PA pc mb mn ev kb w' :=
  ⟨h.bel.trans (ho.below h.bel.size (fun k hk => (hF k hk).1)), h.kb0, h.ls.only ho (fun k hk e => (hF k e).2.2.2 hk), h.pr.only ho (fun k hk e => (hF k e).2.2.2 hk), h.pl.only ho (fun e => (hF _ e).2.2.1 rfl), h.box.only ho (fun e => (hF _ e).2.1 rfl), h.hS, h.nev, h.nmb⟩
/-- a map lies apart from a row -/
theorem Ow.ne_map {w : World} {base : Nat} {e : TypeId} {sz n c : Nat} {A : Option Addr} {xs : List Value} (h : Ow w base e sz A n c xs) {b : Nat} {es : Array MapEntry} {k : Nat} (hb : w.heap[b]? = some (.map es k)) : blk A ≠ some b := by
  intro hq
  rcases h.2 with ⟨rfl, _⟩ | ⟨g, cur, rfl, _, hg, _⟩
  · cases hq
  · injection hq with hq; subst hq
    rw [hb] at hg
    injection hg with hg; cases hg
theorem Blk.ne_map {w : World} {q : Nat} {cs : Array Value} {t : TypeId} (h : Blk w q cs t) {b : Nat} {es : Array MapEntry} {k : Nat} (hb : w.heap[b]? = some (.map es k)) : q ≠ b := by
  intro e; subst e
  rw [show w.heap[q]? = _ from h] at hb
  injection hb with hb; cases hb
theorem MB.map {w : World} {b n : Nat} {f : ByteArray → Option Bool} (h : MB w b n f) : ∃ es k, w.heap[b]? = some (.map es k) := by
  obtain ⟨D, ⟨es, k, h1, _⟩, _⟩ := h
  exact ⟨es, k, h1⟩
theorem MP.map {w : World} {b n : Nat} {f : ByteArray → Option Nat} (h : MP w b n f) : ∃ es k, w.heap[b]? = some (.map es k) := by
  obtain ⟨D, ⟨es, k, h1, _⟩, _⟩ := h
  exact ⟨es, k, h1⟩
set_option maxRecDepth 100000 in
set_option maxHeartbeats 8000000 in
theorem run_any (S : Nat → Prop) (A : Option Addr) (ac : Nat) (l : List Cd) (PA : Option Addr) (pc : Nat) (ps : List Gv) (eq : Vl → Vl → Bool) (G : Vl → Prop) (K : Nat) (w : World) (hV : VOk w) (hE : EqC G eq w) (hls : Ls S w 15 224 Cd.tr A ac l) (hps : Ls S w 8 104 Gv.tr PA pc ps) (hpl : ps.length ≤ 1000000) (hok : CsOk l)
    (hdp : csCheck l (gNames ps) = 0 → (∀ c ∈ l, Dp l ps G K c) ∧ ∀ i c, l[i]? = some c → plAt l c.name = some i) :
    Calls Tryz.prog 8 #[.slice A l.length ac, .slice PA ps.length pc] w (RunOut (runOf l ps eq K) w) := by
  have hmf : ∀ (fn : Fn) (first cap : Array Value) (w : World), (Instr.makeFunc fn first cap).run Tryz.prog w = .ok (.func fn first cap) w := fun _ _ _ _ => rfl
  have hmm := @run_makeMap Tryz.prog
  have hcap := hls.cap
  have hbyt := hls.bytes
  have hcap2 := hps.cap
  have hbyt2 := hps.bytes
  have HLS := Lib.hid hls.bound
  have HPS := Lib.hid hps.bound
  have HOK := Lib.hid hok
  have HV := Lib.hid hV
  have HE := Lib.hid hE
  have HDP := Lib.hid hdp
  have hb1 : Below w.heap.size w ((w.alloc (.cells #[.slice none 0 0] 23)).alloc (.cells #[.int .i64 0] 31)) := ((Below.refl _ w).alloc (Nat.le_refl _) _).alloc (by simp) _
  have HB1 := Lib.hid hb1
  have HK4 : Hid (Blk ((w.alloc (.cells #[.slice none 0 0] 23)).alloc (.cells #[.int .i64 0] 31)) w.heap.size #[.slice none 0 0] 23) := Lib.hid ((Blk.new w _ _).alloc _)
  have HK5 : Hid (Blk ((w.alloc (.cells #[.slice none 0 0] 23)).alloc (.cells #[.int .i64 0] 31)) (w.heap.size + 1) #[.int .i64 0] 31) := Lib.hid (by
    have := Blk.new (w.alloc (.cells #[.slice none 0 0] 23)) #[.int .i64 0] 31
    rwa [show (w.alloc (.cells #[.slice none 0 0] 23)).heap.size = w.heap.size + 1 by simp] at this)
  have hsz1 : ((w.alloc (.cells #[.slice none 0 0] 23)).alloc (.cells #[.int .i64 0] 31)).heap.size = w.heap.size + 2 := by simp
  clear hls hps hok hV hE hdp hb1
  go_enter_defers Tryz.func8, Tryz.ntmps8
  go_wp2_with fail
  go_loopg [16, 6] ps.length (fun g i v wr => ∃ (j : Nat) (NA : Option Addr) (nc : Nat), j + g = ps.length ∧ i = .int .i64 (j : Nat) ∧ v = .slice NA j nc ∧ Hid (Ow wr (w.heap.size + 2) 9 1 NA j nc ((gNames (ps.take j)).map .string)) ∧ Hid (Below (w.heap.size + 2) ((w.alloc (.cells #[.slice none 0 0] 23)).alloc (.cells #[.int .i64 0] 31)) wr))
  case atStart => exact ⟨0, none, 0, by omega, rfl, rfl, Lib.hid (by simpa [gNames] using Ow.nil _ _ _ _), Lib.hid (by rw [← hsz1]; exact Below.refl _ _)⟩
  case round =>
    obtain ⟨j, NA, nc, hj, rfl, rfl, HN, HB⟩ := hrel
    rename World => wo
    have hwo := HB.out.size
    rw [hsz1] at hwo
    cases gk with
    | zero =>
      have hj2 : j = ps.length := by omega
      subst hj2
      have hjj : ¬ ((ps.length : Int) < (ps.length : Int)) := by omega
      have hb2 : Below w.heap.size w wo := HB1.out.trans (HB.out.mono (by omega))
      have HB2 := Lib.hid hb2
      have hncap := HN.out.cap
      have hsz : ∀ x ∈ gNames ps, x.size ≤ 140737488351232 := fun x hx => by
        obtain ⟨p, hp, rfl⟩ := List.mem_map.1 hx
        obtain ⟨i, hi⟩ := List.mem_iff_getElem?.1 hp
        obtain ⟨_, _, _, hpt, _⟩ := HPS.out.elem Gv.trlen hi
        obtain ⟨_, _, hn, _⟩ := Gv.at_iff.1 hpt
        exact hn
      have hgl : (gNames ps).length = ps.length := by simp [gNames]
      have hss : Ss (fun _ => True) wo NA nc (gNames ps) := Ls.mk_strs (by
        have h := HN.out.rd
        rw [List.take_of_length_le (Nat.le_refl _)] at h
        rw [hgl]; exact h) (by omega) hsz (fun _ _ _ => trivial)
      have HCK : Hid (Calls Tryz.prog 19 #[.slice A l.length ac, .slice NA ps.length nc] wo fun e w' => e = .returned (.int .i64 (csCheck l (gNames ps) : Nat)) ∧ Below wo.heap.size wo w') := Lib.hid (by
        have h := check_any (fun _ => True) A ac l NA nc (gNames ps) wo (HV.out.below hb2) ((HLS.out.below hb2).mono (fun _ _ => trivial)) hss (by omega) HOK.out
        rwa [hgl] at h)
      have HK4w := Lib.hid (HK4.out.below (HB.out.mono (by omega)))
      have HK5w := Lib.hid (HK5.out.below (HB.out.mono (by omega)))
      obtain ⟨e0, he0⟩ : ∃ e0, e0 = csCheck l (gNames ps) := ⟨_, rfl⟩
      have HRO : Hid (runOf l ps eq K = if e0 ≠ 0 then .inl e0 else match runEv l ps eq K l with | none => .inl 150 | some r => .inr r) := Lib.hid (by rw [he0]; rfl)
      rw [← he0] at HCK HDP
      clear hb2 hsz hgl hss he0
      by_cases hz : e0 = 0
      · subst hz
        obtain ⟨hdp, hself⟩ := HDP.out rfl
        have HR : Hid (runOf l ps eq K = match runEv l ps eq K l with | none => .inl 150 | some r => .inr r) := Lib.hid (by rw [HRO.out, if_neg (by simp)])
        have HD := Lib.hid hdp
        have HSELF := Lib.hid hself
        have HPLC : Hid (∀ w', Below wo.heap.size wo w' → Calls Tryz.prog 21 #[.slice A l.length ac] w' fun e w3 => e = .returned (.map (some w'.heap.size)) ∧ MP w3 w'.heap.size l.length (plAt l) ∧ Below w'.heap.size w' w3) :=
          Lib.hid (fun w' hb => places_any (fun _ => True) A ac l w' ((HLS.out.below (HB2.out.trans (hb.mono HB2.out.size))).mono (fun _ _ => trivial)))
        clear hdp hself HRO HDP
        go_wp2_with fail
        refine HCK.out.mono ?_
        rintro e w2 ⟨rfl, hb3⟩
        have hb2w := HB2.out.trans (hb3.mono HB2.out.size)
        have HB3 := Lib.hid hb2w
        have hsz2 := hb2w.size
        have k4 := HK4w.out.below hb3
        have k5 := HK5w.out.below hb3
        have h52 := k5.lt
        have HK4x := Lib.hid k4
        have HK5x := Lib.hid k5
        have HPC := Lib.hid (HPLC.out w2 hb3)
        clear hb3 hb2w k4 k5 HPLC HCK
        go_wp2_with fail
        refine HPC.out.mono ?_
        rintro e w3 ⟨rfl, hmp, hb4⟩
        have hb3w := HB3.out.trans (hb4.mono hsz2)
        have hsz3 := hb4.size
        have hmlt := hmp.lt
        have hba := ((Below.refl _ w3).alloc (Nat.le_refl _) (.map #[] 0)).alloc (by simp) (.cells #[.slice A l.length ac, .map (some w2.heap.size), .slice PA ps.length pc, .map (some w3.heap.size)] 61)
        have hev : Blk ((w3.alloc (.map #[] 0)).alloc (.cells #[.slice A l.length ac, .map (some w2.heap.size), .slice PA ps.length pc, .map (some w3.heap.size)] 61)) (w3.heap.size + 1) #[.slice A l.length ac, .map (some w2.heap.size), .slice PA ps.length pc, .map (some w3.heap.size)] 61 := by
          have := Blk.new (w3.alloc (.map #[] 0)) #[.slice A l.length ac, .map (some w2.heap.size), .slice PA ps.length pc, .map (some w3.heap.size)] 61
          rwa [show (w3.alloc (.map #[] 0)).heap.size = w3.heap.size + 1 by simp] at this
        have hbw4 : Below w.heap.size w ((w3.alloc (.map #[] 0)).alloc (.cells #[.slice A l.length ac, .map (some w2.heap.size), .slice PA ps.length pc, .map (some w3.heap.size)] 61)) := hb3w.trans (hba.mono hb3w.size)
        have HEW : Hid (EvW l ps (fun k => S k ∧ k < w.heap.size) w A ac PA pc w2.heap.size l.length (w3.heap.size + 1) w3.heap.size ((w3.alloc (.map #[] 0)).alloc (.cells #[.slice A l.length ac, .map (some w2.heap.size), .slice PA ps.length pc, .map (some w3.heap.size)] 61))) :=
          Lib.hid ⟨hbw4, by omega, HLS.out.below hbw4, HPS.out.below hbw4, hmp.below hba, hev, fun k hk => by omega, by omega, by omega⟩
        have HMB : Hid (MB ((w3.alloc (.map #[] 0)).alloc (.cells #[.slice A l.length ac, .map (some w2.heap.size), .slice PA ps.length pc, .map (some w3.heap.size)] 61)) w3.heap.size 0 (fun _ => none)) := Lib.hid ((MB.new w3).below ((Below.refl _ _).alloc (Nat.le_refl _) _))
        have HK4y : Hid (Blk ((w3.alloc (.map #[] 0)).alloc (.cells #[.slice A l.length ac, .map (some w2.heap.size), .slice PA ps.length pc, .map (some w3.heap.size)] 61)) w.heap.size #[.slice none 0 0] 23) := Lib.hid ((HK4x.out.below hb4).below hba)
        have HK5y : Hid (Blk ((w3.alloc (.map #[] 0)).alloc (.cells #[.slice A l.length ac, .map (some w2.heap.size), .slice PA ps.length pc, .map (some w3.heap.size)] 61)) (w.heap.size + 1) #[.int .i64 0] 31) := Lib.hid ((HK5x.out.below hb4).below hba)
        obtain ⟨ev, hev2⟩ : ∃ ev, w3.heap.size + 1 = ev := ⟨_, rfl⟩
        obtain ⟨kb, hkb2⟩ : ∃ kb, w3.heap.size = kb := ⟨_, rfl⟩
        obtain ⟨mb, hmb2⟩ : ∃ mb, w2.heap.size = mb := ⟨_, rfl⟩
        clear hmp hb4 hb3w hba hev hbw4 HPC HK4x HK5x
        go_wp2_with fail
        go_loopg [42] l.length (fun g i wr => ∃ (j : Nat) (CA : Option Addr) (cc : Nat) (f : ByteArray → Option Bool) (n : Nat) (O : List (ByteArray × Bool)), j + g = l.length ∧ i = .int .i64 (j : Nat) ∧ O.length = j ∧ Hid (runEv l ps eq K (l.take j) = some O) ∧ Hid (EvW l ps (fun k => S k ∧ k < w.heap.size) w A ac PA pc mb l.length ev kb wr) ∧
          Hid (MB wr kb n f ∧ KnOk l ps eq G f ∧ n ≤ cntK l f) ∧ Hid (Blk wr w.heap.size #[.slice CA O.length cc] 23) ∧ Hid (Blk wr (w.heap.size + 1) #[.int .i64 0] 31) ∧ Hid (Ow wr w.heap.size 39 8 CA O.length cc (yesL O)))
        case atStart =>
          subst hev2 hkb2 hmb2
          exact ⟨0, none, 0, _, 0, [], by omega, rfl, rfl, Lib.hid (by simp [runEv]), HEW, Lib.hid ⟨HMB.out, (by intro s b h; cases h), Nat.zero_le _⟩, HK4y, HK5y, Lib.hid (by simpa [yesL] using Ow.nil _ _ _ _)⟩
        case round =>
          obtain ⟨j, CA, cc, f, n, O, hj, rfl, hO, HRE, HEV, HMK, HX4, HX5, HOW⟩ := hrel
          subst hO
          rename World => wq
          clear HEW HMB HK4y HK5y
          subst hev2 hkb2 hmb2
          cases gk with
          | zero =>
            have hjj : ¬ ((O.length : Int) < (l.length : Int)) := by omega
            have HRF : Hid (runOf l ps eq K = .inr O) := Lib.hid (by
              have h1 := HRE.out
              rw [List.take_of_length_le (by omega)] at h1
              rw [HR.out, h1])
            have x4 := HX4.out.cell 0 (v := .slice CA O.length cc) rfl
            have z4 := HX4.out.frozen 0
            have k4' := (HX4.out.set 0 (.slice CA O.length cc)).eq (cs' := #[.slice CA O.length cc]) (by simp)
            have k5' := HX5.out.setOther ⟨w.heap.size, 0, none⟩ (.slice CA O.length cc) (by simp)
            have x5 := k5'.cell 0 (v := .int .i64 0) rfl
            have z5 := k5'.frozen 0
            have k4'' := k4'.setOther ⟨w.heap.size + 1, 0, none⟩ (.int .i64 0) (by simp)
            have k5'' := (k5'.set 0 (.int .i64 0)).eq (cs' := #[.int .i64 0]) (by simp)
            have y4 := k4''.cell 0 (v := .slice CA O.length cc) rfl
            have y5 := k5''.cell 0 (v := .int .i64 0) rfl
            have HB4 := Lib.hid ((HEV.out.bel.setCell (p := ⟨w.heap.size, 0, none⟩) (Nat.le_refl _) (.slice CA O.length cc)).setCell (p := ⟨w.heap.size + 1, 0, none⟩) (by simp) (.int .i64 0))
            have HOZ := Lib.hid ((HOW.out.setOther ⟨w.heap.size, 0, none⟩ (.slice CA O.length cc) (HOW.out.ne_blk HX4.out (by decide))).setOther ⟨w.heap.size + 1, 0, none⟩ (.int .i64 0) (HOW.out.ne_blk HX5.out (by decide)))
            clear k4' k5' k4'' k5''
            go_wp2_with fail
            simp only [bodyPostD]
            refine leaves_cons (f := 20) (args := #[.pointer (some ⟨w.heap.size, 0, none⟩), .pointer (some ⟨w.heap.size + 1, 0, none⟩)]) (by simp) (by simp [go_sem]) ?_
            refine (rc_idle _ _ _).mono ?_
            rintro e u' w'' ⟨rfl, rfl, rfl⟩
            refine ⟨.tuple #[.slice CA O.length cc, .int .i64 0], by simp [results, Tryz.results8, go_sem, y4, y5], ?_⟩
            rw [HRF.out]
            exact ⟨CA, cc, rfl, HOZ.out, HB4.out⟩
          | succ g =>
            have hjj : (O.length : Int) < (l.length : Int) := by omega
            obtain ⟨c, hc⟩ := get_lt (l := l) (i := O.length) (by omega)
            have hmem := List.mem_of_getElem? hc
            have hself := HSELF.out _ _ hc
            have hdc := HD.out c hmem
            obtain ⟨ad, cs, rfl, hct, hcc⟩ := HEV.out.ls.elem Cd.trlen hc
            obtain ⟨A1, n1, B1, n2, L, lc0, hcel, hlsc, hns, _, _, _, _⟩ := cd_all hct hcc
            obtain ⟨d0, d1, d2, d3, d4, d5, d6, d7, d8, d9, d10, d11, d12, d13, d14⟩ := cel15 hcel
            have hkb := HEV.out.kb0
            have hkl := HMK.out.1.lt
            have hbb : Below wq.heap.size wq ((wq.alloc (.cells #[.string c.name, .int .i8 c.kind, .int .i8 c.a.kind, .string c.a.text, .int .i64 c.a.num, .string c.a.name, .string c.a.attr, .slice A1 c.a.l.length n1, .int .i8 c.b.kind, .string c.b.text, .int .i64 c.b.num, .string c.b.name, .string c.b.attr, .slice B1 c.b.l.length n2, .slice L c.l.length lc0] 46)).alloc (.cells #[.string c.name, .int .i8 4, .int .i8 0, .string ⟨#[]⟩, .int .i64 0, .string ⟨#[]⟩, .string ⟨#[]⟩, .slice none 0 0, .int .i8 0, .string ⟨#[]⟩, .int .i64 0, .string ⟨#[]⟩, .string ⟨#[]⟩, .slice none 0 0, .slice none 0 0] 46)) := ((Below.refl _ wq).alloc (Nat.le_refl _) _).alloc (by simp) _
            have hcp : Blk ((wq.alloc (.cells #[.string c.name, .int .i8 c.kind, .int .i8 c.a.kind, .string c.a.text, .int .i64 c.a.num, .string c.a.name, .string c.a.attr, .slice A1 c.a.l.length n1, .int .i8 c.b.kind, .string c.b.text, .int .i64 c.b.num, .string c.b.name, .string c.b.attr, .slice B1 c.b.l.length n2, .slice L c.l.length lc0] 46)).alloc (.cells #[.string c.name, .int .i8 4, .int .i8 0, .string ⟨#[]⟩, .int .i64 0, .string ⟨#[]⟩, .string ⟨#[]⟩, .slice none 0 0, .int .i8 0, .string ⟨#[]⟩, .int .i64 0, .string ⟨#[]⟩, .string ⟨#[]⟩, .slice none 0 0, .slice none 0 0] 46)) wq.heap.size #[.string c.name, .int .i8 c.kind, .int .i8 c.a.kind, .string c.a.text, .int .i64 c.a.num, .string c.a.name, .string c.a.attr, .slice A1 c.a.l.length n1, .int .i8 c.b.kind, .string c.b.text, .int .i64 c.b.num, .string c.b.name, .string c.b.attr, .slice B1 c.b.l.length n2, .slice L c.l.length lc0] 46 := (Blk.new wq _ _).alloc _
            have hc4 : Blk ((wq.alloc (.cells #[.string c.name, .int .i8 c.kind, .int .i8 c.a.kind, .string c.a.text, .int .i64 c.a.num, .string c.a.name, .string c.a.attr, .slice A1 c.a.l.length n1, .int .i8 c.b.kind, .string c.b.text, .int .i64 c.b.num, .string c.b.name, .string c.b.attr, .slice B1 c.b.l.length n2, .slice L c.l.length lc0] 46)).alloc (.cells #[.string c.name, .int .i8 4, .int .i8 0, .string ⟨#[]⟩, .int .i64 0, .string ⟨#[]⟩, .string ⟨#[]⟩, .slice none 0 0, .int .i8 0, .string ⟨#[]⟩, .int .i64 0, .string ⟨#[]⟩, .string ⟨#[]⟩, .slice none 0 0, .slice none 0 0] 46)) (wq.heap.size + 1) #[.string c.name, .int .i8 4, .int .i8 0, .string ⟨#[]⟩, .int .i64 0, .string ⟨#[]⟩, .string ⟨#[]⟩, .slice none 0 0, .int .i8 0, .string ⟨#[]⟩, .int .i64 0, .string ⟨#[]⟩, .string ⟨#[]⟩, .slice none 0 0, .slice none 0 0] 46 := by
              have := Blk.new (wq.alloc (.cells #[.string c.name, .int .i8 c.kind, .int .i8 c.a.kind, .string c.a.text, .int .i64 c.a.num, .string c.a.name, .string c.a.attr, .slice A1 c.a.l.length n1, .int .i8 c.b.kind, .string c.b.text, .int .i64 c.b.num, .string c.b.name, .string c.b.attr, .slice B1 c.b.l.length n2, .slice L c.l.length lc0] 46)) #[.string c.name, .int .i8 4, .int .i8 0, .string ⟨#[]⟩, .int .i64 0, .string ⟨#[]⟩, .string ⟨#[]⟩, .slice none 0 0, .int .i8 0, .string ⟨#[]⟩, .int .i64 0, .string ⟨#[]⟩, .string ⟨#[]⟩, .slice none 0 0, .slice none 0 0] 46
              rwa [show (wq.alloc (.cells #[.string c.name, .int .i8 c.kind, .int .i8 c.a.kind, .string c.a.text, .int .i64 c.a.num, .string c.a.name, .string c.a.attr, .slice A1 c.a.l.length n1, .int .i8 c.b.kind, .string c.b.text, .int .i64 c.b.num, .string c.b.name, .string c.b.attr, .slice B1 c.b.l.length n2, .slice L c.l.length lc0] 46)).heap.size = wq.heap.size + 1 by simp] at this
            have hpa := pa_all (l := l) (ps := ps) (eq := eq) (G := G) (S := fun k => S k ∧ k < w.heap.size) (w0 := w) (A := some ad) (ac := ac) (PA := PA) (pc := pc) (mb := w2.heap.size) (mn := l.length) (ev := w3.heap.size + 1) (kb := w3.heap.size) HV.out HE.out (K + 1) (K + 1) (Nat.le_refl _)
              (nmCd c.name) _ ⟨wq.heap.size + 1, 0, none⟩ f n ((wq.alloc (.cells #[.string c.name, .int .i8 c.kind, .int .i8 c.a.kind, .string c.a.text, .int .i64 c.a.num, .string c.a.name, .string c.a.attr, .slice A1 c.a.l.length n1, .int .i8 c.b.kind, .string c.b.text, .int .i64 c.b.num, .string c.b.name, .string c.b.attr, .slice B1 c.b.l.length n2, .slice L c.l.length lc0] 46)).alloc (.cells #[.string c.name, .int .i8 4, .int .i8 0, .string ⟨#[]⟩, .int .i64 0, .string ⟨#[]⟩, .string ⟨#[]⟩, .slice none 0 0, .int .i8 0, .string ⟨#[]⟩, .int .i64 0, .string ⟨#[]⟩, .string ⟨#[]⟩, .slice none 0 0, .slice none 0 0] 46)) (nmCd_dp hself hc hdc) (HEV.out.below hbb) (HMK.out.1.below hbb) HMK.out.2.1 HMK.out.2.2 (nmCd_at hns) (celBlk hc4) (by show wq.heap.size + 1 ≠ _; omega)
            rw [nmCd_ev hself hc] at hpa
            have HPA := Lib.hid hpa
            have HTK : Hid (runEv l ps eq K (l.take (O.length + 1)) = (evC l ps eq K c).map fun b => O ++ [(c.name, b)]) := Lib.hid (by
              rw [List.take_add_one, hc]
              show runEv l ps eq K (_ ++ [c]) = _
              rw [runEv_snoc, HRE.out]; rfl)
            have HNO : Hid (evC l ps eq K c = none → runOf l ps eq K = .inl 150) := Lib.hid (fun h => by rw [HR.out, runEv_none hmem h])
            have HBB := Lib.hid hbb
            have HCP := Lib.hid hcp
            obtain ⟨v, hv⟩ : ∃ v, v = evC l ps eq K c := ⟨_, rfl⟩
            rw [← hv] at HPA HTK HNO
            clear hc hmem hself hdc hct hcc hcel hlsc hbb hcp hc4 hpa hv
            go_wp2_with fail
            refine HPA.out.mono ?_
            rintro e w6 hpo
            cases v with
            | none =>
              obtain ⟨f2, n2, g1, g2, g3, g4, g5, rfl⟩ := hpo.panicked
              have HRF := Lib.hid (HNO.out rfl)
              have k4 := Lib.hid ((HX4.out.below HBB.out).only g4 (by omega))
              have k5 := Lib.hid ((HX5.out.below HBB.out).only g4 (by omega))
              have hbz := HBB.out.size
              have hwz := HEV.out.bel.size
              have HB6 := Lib.hid (HEV.out.bel.trans ((HBB.out.mono hwz).trans (g4.below (by omega) (fun k hk => by omega))))
              clear g1 g2 g3 g4 g5 hpo d0 d1 d2 d3 d4 d5 d6 d7 d8 d9 d10 d11 d12 d13 d14
              go_wp2_with fail
              simp only [bodyPostD]
              refine leaves_cons (f := 20) (args := #[.pointer (some ⟨w.heap.size, 0, none⟩), .pointer (some ⟨w.heap.size + 1, 0, none⟩)]) (by simp) (by simp [go_sem]) ?_
              refine (rc_hit _ _ _ _ _ _ _ k4.out k5.out (by omega)).mono ?_
              rintro e u' w7 ⟨rfl, rfl, q4, q5, ho⟩
              have y4 := q4.cell 0 (v := .slice none 0 0) rfl
              have y5 := q5.cell 0 (v := .int .i64 150) rfl
              refine ⟨.tuple #[.slice none 0 0, .int .i64 150], by simp [results, Tryz.results8, go_sem, y4, y5], ?_⟩
              rw [HRF.out]
              exact ⟨rfl, ho.belowB HB6.out (fun k hk => by omega)⟩
            | some b =>
              obtain ⟨f2, n2, g1, g2, g3, g4, g5, rfl⟩ := hpo.returned
              have k4 := Lib.hid ((HX4.out.below HBB.out).only g4 (by omega))
              have k5 := Lib.hid ((HX5.out.below HBB.out).only g4 (by omega))
              have hbz := HBB.out.size
              have HEV6 := Lib.hid ((HEV.out.below HBB.out).only g4)
              have hmap := (HMK.out.1.below HBB.out).map
              have HOW6 := Lib.hid ((HOW.out.below HBB.out).only g4 (fun g hg e => by
                obtain ⟨es, q, hmm⟩ := hmap
                subst e
                exact (HOW.out.below HBB.out).ne_map hmm hg))
              have HMK6 := Lib.hid (⟨g1, g2, g3⟩ : MB w6 w3.heap.size n2 f2 ∧ KnOk l ps eq G f2 ∧ n2 ≤ cntK l f2)
              have x4 := k4.out.cell 0 (v := .slice CA O.length cc) rfl
              have hcn : wq.heap.size ≠ w3.heap.size := by omega
              have xn := (HCP.out.only g4 hcn).cell 0 (v := .string c.name) rfl
              have hocap := HOW.out.cap
              have h6 := HEV6.out.bel.size
              have hnb := HOW6.out.ne_blk k4.out (by decide)
              have hnb5 := HOW6.out.ne_blk k5.out (by decide)
              have hnbe := HOW6.out.ne_blk HEV6.out.box (by decide)
              have hnbm : blk CA ≠ some w2.heap.size := by
                obtain ⟨es, q, hmm⟩ := HEV6.out.pl.map
                exact HOW6.out.ne_map hmm
              have hnbk : blk CA ≠ some w3.heap.size := by
                obtain ⟨es, q, hmm⟩ := HMK6.out.1.map
                exact HOW6.out.ne_map hmm
              have HRN : Hid (Rd (w6.alloc (.cells #[.string c.name, .bool false, .int .i8 1, .bool b, .int .i64 0, .string ⟨#[]⟩, .slice none 0 0, .slice none 0 0] 39)) 8 (some ⟨w6.heap.size, 0, none⟩) 1 1 (yes c.name b)) := Lib.hid (Rd.lit w6 8 1 _ 39 (0, 0) rfl (by simp [maxLen]))
              have k4a := Lib.hid (k4.out.alloc (.cells #[.string c.name, .bool false, .int .i8 1, .bool b, .int .i64 0, .string ⟨#[]⟩, .slice none 0 0, .slice none 0 0] 39))
              have HO6 : Hid (Only (fun _ => False) w6 (w6.alloc (.cells #[.string c.name, .bool false, .int .i8 1, .bool b, .int .i64 0, .string ⟨#[]⟩, .slice none 0 0, .slice none 0 0] 39))) := Lib.hid ((Only.refl _ w6).alloc _)
              clear g1 g2 g3 g4 g5 hpo d0 d1 d2 d3 d4 d5 d6 d7 d8 d9 d10 d11 d12 d13 d14 hmap HPA
              go_wp2_with (at_builtin; refine wpList_row info_given Tryz.underlying23 rfl (by omega) rfl (.tmp 52) (.tmp 58) rfl w.heap.size CA cc O.length (yesL O) rfl (HOW6.out.alloc _) (some ⟨w6.heap.size, 0, none⟩) 1 1 (yes c.name b) rfl HRN.out (by simp [yes, Value.oneCell']) (by omega) (by omega) (by simp; omega) ?_; intro A' c' w7 ho hg hat; have HO7 := Lib.hid ho; have HG7 := Lib.hid hg; have k7 := k4a.out.grown hg hnb; have x7 := k7.cell 0 (v := .slice CA O.length cc) rfl; have z7 := k7.frozen 0; have K7 := Lib.hid k7; clear ho hg hat k7)
              go_roundg g
              case measure => omega
              case rel =>
                have hon : Only (fun k => some k = blk CA ∨ k = w.heap.size) w6 (w7.setCell ⟨w.heap.size, 0, none⟩ (.slice A' (O.length + 1) c')) :=
                  (((Only.refl _ w6).alloc (.cells #[.string c.name, .bool false, .int .i8 1, .bool b, .int .i64 0, .string ⟨#[]⟩, .slice none 0 0, .slice none 0 0] 39)).grown HG7.out (fun g hg _ => .inl hg.symm)).setCell _ _ (fun _ => .inr rfl)
                have hnb7 : blk A' ≠ some w.heap.size := HO7.out.ne_blk K7.out (by decide)
                refine ⟨O.length + 1, A', c', f2, n2, O ++ [(c.name, b)], by omega, by go_num, by simp, HTK, Lib.hid (HEV6.out.go hon (fun k hk => ?_)), Lib.hid ⟨HMK6.out.1.only hon (fun hk => ?_), HMK6.out.2⟩, Lib.hid ?_, Lib.hid (k5.out.only hon (fun hk => ?_)), Lib.hid ?_⟩
                · rcases hk with hk | hk
                  · have := (HOW6.out.lt hk.symm).1
                    exact ⟨this, fun e => hnbe (by rw [← e, hk]), fun e => hnbm (by rw [← e, hk]), fun e => by have := e.2; omega⟩
                  · omega
                · rcases hk with hk | hk
                  · exact hnbk hk.symm
                  · omega
                · simpa using (K7.out.set 0 (.slice A' (O.length + 1) c')).eq (cs' := #[.slice A' (O.length + 1) c']) (by simp)
                · rcases hk with hk | hk
                  · exact hnb5 hk.symm
                  · omega
                · have h := HO7.out.setOther ⟨w.heap.size, 0, none⟩ (.slice A' (O.length + 1) c') hnb7
                  simpa [yesL] using h
      · have hz2 : ((e0 : Int) != 0) = true := by simp; omega
        have HR : Hid (runOf l ps eq K = .inl e0) := Lib.hid (by rw [HRO.out, if_pos hz])
        clear hz
        go_wp2_with fail
        refine HCK.out.mono ?_
        rintro e w2 ⟨rfl, hb3⟩
        have HB3 := Lib.hid (HB2.out.trans (hb3.mono HB2.out.size))
        have k4 := HK4w.out.below hb3
        have k5 := HK5w.out.below hb3
        have x4 := k4.cell 0 (v := .slice none 0 0) rfl
        have z4 := k4.frozen 0
        have k4' := (k4.set 0 (.slice none 0 0)).eq (cs' := #[.slice none 0 0]) (by simp)
        have k5' := k5.setOther ⟨w.heap.size, 0, none⟩ (.slice none 0 0) (by simp)
        have x5 := k5'.cell 0 (v := .int .i64 0) rfl
        have z5 := k5'.frozen 0
        have k4'' := k4'.setOther ⟨w.heap.size + 1, 0, none⟩ (.int .i64 e0) (by simp)
        have k5'' := (k5'.set 0 (.int .i64 e0)).eq (cs' := #[.int .i64 e0]) (by simp)
        have y4 := k4''.cell 0 (v := .slice none 0 0) rfl
        have y5 := k5''.cell 0 (v := .int .i64 e0) rfl
        have HB4 := Lib.hid ((HB3.out.setCell (p := ⟨w.heap.size, 0, none⟩) (Nat.le_refl _) (.slice none 0 0)).setCell (p := ⟨w.heap.size + 1, 0, none⟩) (by simp) (.int .i64 e0))
        clear hb3 k4 k5 k4' k5' k4'' k5''
        go_wp2_with fail
        simp only [bodyPostD, Leaves]
        refine ⟨.tuple #[.slice none 0 0, .int .i64 e0], by simp [results, Tryz.results8, go_sem, y4, y5], ?_⟩
        rw [HR.out]
        exact ⟨rfl, HB4.out⟩
    | succ g =>
      have hjj : (j : Int) < (ps.length : Int) := by omega
      obtain ⟨p, hp⟩ := get_lt (l := ps) (i := j) (by omega)
      have hb2 : Below w.heap.size w wo := HB1.out.trans (HB.out.mono (by omega))
      obtain ⟨ad, cs, rfl, hpt, hpc⟩ := (HPS.out.below hb2).elem Gv.trlen hp
      obtain ⟨vs, rfl, hpn, hvt⟩ := Gv.at_iff.1 hpt
      obtain ⟨GL, lc, GK, kc, rfl, _⟩ := Vl.at_iff.1 hvt
      obtain ⟨d0, d1, d2, d3, d4, d5, d6, d7⟩ := cel8 hpc
      have hncap := HN.out.cap
      have HTK : Hid ((gNames (ps.take (j + 1))).map Value.string = (gNames (ps.take j)).map .string ++ [.string p.name]) := Lib.hid (by simp [gNames, List.take_add_one, hp])
      have HWS : Hid (Below wo.heap.size wo (wo.alloc (.cells #[.string p.name, .bool p.unknown, .int .i8 p.v.kind, .bool p.v.bool, .int .i64 p.v.num, .string p.v.text, .slice GL p.v.list.length lc, .slice GK p.v.keys.length kc] 39))) := Lib.hid ((Below.refl _ wo).alloc (Nat.le_refl _) _)
      have HRN : Hid (Rd ((wo.alloc (.cells #[.string p.name, .bool p.unknown, .int .i8 p.v.kind, .bool p.v.bool, .int .i64 p.v.num, .string p.v.text, .slice GL p.v.list.length lc, .slice GK p.v.keys.length kc] 39)).alloc (.cells #[.string p.name] 9)) 1 (some ⟨wo.heap.size + 1, 0, none⟩) 1 1 [.string p.name]) := Lib.hid (by
        have h := Rd.lit (wo.alloc (.cells #[.string p.name, .bool p.unknown, .int .i8 p.v.kind, .bool p.v.bool, .int .i64 p.v.num, .string p.v.text, .slice GL p.v.list.length lc, .slice GK p.v.keys.length kc] 39)) 1 1 #[.string p.name] 9 (0, 0) rfl (by simp [maxLen])
        rw [show (wo.alloc (.cells #[.string p.name, .bool p.unknown, .int .i8 p.v.kind, .bool p.v.bool, .int .i64 p.v.num, .string p.v.text, .slice GL p.v.list.length lc, .slice GK p.v.keys.length kc] 39)).heap.size = wo.heap.size + 1 by simp] at h
        exact h)
      have HOS := Lib.hid (HN.out.below HWS.out)
      obtain ⟨xs, hxs⟩ : ∃ xs, xs = (gNames (ps.take j)).map Value.string := ⟨_, rfl⟩
      rw [← hxs] at HTK HOS
      clear hp hpt hpc hvt hb2 hxs
      go_wp2_with (at_builtin; refine wpList_row info_str Tryz.underlying35 rfl (by omega) rfl (.tmp 20) (.tmp 23) rfl (w.heap.size + 2) NA nc j xs rfl (HOS.out.alloc _) (some ⟨wo.heap.size + 1, 0, none⟩) 1 1 [.string p.name] rfl HRN.out (by simp [Value.oneCell']) (by omega) (by omega) (by simp; omega) ?_; intro A' c' w6 ho hg hat; have HO6 := Lib.hid ho; have HG6 := Lib.hid hg; clear ho hg hat)
      go_roundg g
      case measure => omega
      case rel => exact ⟨j + 1, A', c', by omega, by go_num, rfl, Lib.hid (by rw [HTK.out]; exact HO6.out), Lib.hid (((HB.out.trans (HWS.out.mono (by omega))).alloc (by simp; omega) _).grown HG6.out (by simp; omega) (fun k hk => (HOS.out.lt hk).1))⟩
end Go.Proofs.YtmljdppdaaoehaaGreatDoor
