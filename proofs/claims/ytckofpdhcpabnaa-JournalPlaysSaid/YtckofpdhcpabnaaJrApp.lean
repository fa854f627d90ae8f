/- journal.Append. -/
import Derived.Test.YtckofpdhcpabnaaJrFirst
import Derived.Test.YtckofpdhcpabnaaFrPlain2
namespace Go.Proofs.Ytckofpdhcpabnaa
open Go.RowKit
set_option linter.unusedVariables false
set_option linter.unusedSimpArgs false

def frm (x : List UInt8) : List UInt8 := by4 x.length ++ x
theorem frm_len (x : List UInt8) : (frm x).length = x.length + 4 := by simp [frm, by4_len]; omega
def fErr (x : List UInt8) : Int := if x.length = 0 then 2 else if 524288 < x.length then 3 else 0
def jApp (s : DS) (x : List UInt8) : Int × DS := if fErr x ≠ 0 then (fErr x, s) else dAppend s (frm x)
theorem fErr_zero {x : List UInt8} (h : fErr x = 0) : 1 ≤ x.length ∧ x.length ≤ 524288 := by
  unfold fErr at h
  by_cases h1 : x.length = 0
  · rw [if_pos h1] at h; omega
  · rw [if_neg h1] at h
    by_cases h2 : 524288 < x.length
    · rw [if_pos h2] at h; omega
    · omega
/-- the frame, whatever comes of it -/
theorem FrameP.out {x : List UInt8} {w w' : World} {e : Ending} (h : FrameP x w e w') : Below w.heap.size w w' ∧ ∃ A n c, e = .returned (.tuple #[.slice A n c, .int .i64 (fErr x)]) ∧ n ≤ x.length + 4 ∧ n ≤ c ∧ c ≤ maxLen ∧
    (fErr x ≠ 0 → A = none ∧ n = 0 ∧ c = 0) ∧ (fErr x = 0 → n = x.length + 4 ∧ Ow w' w.heap.size 5 1 A n c (bv (frm x))) := by
  obtain ⟨h0, h1, h2, h3⟩ := h
  refine ⟨h0, ?_⟩
  by_cases g1 : x.length = 0
  · have e1 : fErr x = 2 := if_pos g1
    exact ⟨none, 0, 0, by rw [e1]; exact h1 g1, by omega, by omega, by simp [maxLen], fun _ => ⟨rfl, rfl, rfl⟩, fun h => by rw [e1] at h; omega⟩
  · by_cases g2 : 524288 < x.length
    · have e1 : fErr x = 3 := by unfold fErr; rw [if_neg g1, if_pos g2]
      exact ⟨none, 0, 0, by rw [e1]; exact h2 g2, by omega, by omega, by simp [maxLen], fun _ => ⟨rfl, rfl, rfl⟩, fun h => by rw [e1] at h; omega⟩
    · have e1 : fErr x = 0 := by unfold fErr; rw [if_neg g1, if_neg g2]
      obtain ⟨A, c, he, ho⟩ := h3 (by omega) (by omega)
      have ho' := Ow.of_own ho
      exact ⟨A, _, c, by rw [e1]; exact he, Nat.le_refl _, ho'.cap, ho'.max, fun h => absurd e1 h, fun _ => ⟨rfl, ho'⟩⟩

/-- behind the first deed of Append -/
def A1P (x : List UInt8) (W : World) (pf : Nat) (e : Ending) (W' : World) : Prop :=
  e = .returned (.int .i64 (fErr x)) ∧ Only (fun k => k = pf) W W' ∧ (fErr x = 0 → ∃ A c, Boxed W' pf 22 (.slice A (x.length + 4) c) ∧ Rd W' 1 A (x.length + 4) c (bv (frm x)))
set_option maxHeartbeats 1000000 in
theorem japp1 (W : World) (pr pf : Nat) (X : Option Addr) (m cx : Nat) (x : List UInt8) (v : Value) (h1 : Boxed W pr 22 (.slice X m cx)) (h2 : Boxed W pf 22 v) (hr : Rd W 1 X m cx (bv x)) :
    Calls Try.prog 25 #[.pointer (some ⟨pr, 0, none⟩), .pointer (some ⟨pf, 0, none⟩)] W (A1P x W pf) := by
  have c1 := h1.cell
  have H2 := Lib.hid h2
  have HF := Lib.hid (frame_any X m cx x W hr)
  clear h1 h2 hr
  go_enter Try.func25, Try.ntmps25
  go_wp2_with fail
  refine HF.out.mono ?_
  intro e w1 hP
  obtain ⟨hb, A, n, c, rfl, hn, hnc, hcm, hbad, hgood⟩ := hP.out
  have HB := Lib.hid hb
  have hx := boxBel H2.out hb
  have hc2 := hx.cell
  have hf2 := hx.frozen
  have HX := Lib.hid hx
  have HG := Lib.hid hgood
  clear hP hb hbad hgood hx
  go_wp2_with fail
  go_ret
  refine ⟨rfl, (Only.of_below HB.out _).setCell _ _ (fun _ => rfl), fun h0 => ?_⟩
  obtain ⟨rfl, ho⟩ := HG.out h0
  refine ⟨A, c, HX.out.set _, ?_⟩
  exact (ho.setOther _ _ (fun e => by have h3 : W.heap.size ≤ pf := (ho.lt e).1; have := H2.out.lt; omega)).rd
theorem japp2 (B : Nat) (W : World) (q : Nat) (r : Option Nat) (s : DS) (pd pf : Nat) (A : Option Addr) (n c : Nat) (y : List UInt8) (hd : Boxed W pd 26 (.pointer (some ⟨q, 0, none⟩))) (hf : Boxed W pf 22 (.slice A n c)) (hk : Dk 52 B W q r s) (hr : Rd W 1 A n c (bv y)) :
    Calls Try.prog 27 #[.pointer (some ⟨pd, 0, none⟩), .pointer (some ⟨pf, 0, none⟩)] W (DAns 52 B q r (dAppend s y) W) := by
  have c1 := hd.cell
  have c2 := hf.cell
  have HD := Lib.hid (dappend_any B W q r s A n c y hk hr)
  clear hd hf hk hr
  go_enter Try.func27, Try.ntmps27
  go_wp2_with fail
  refine HD.out.mono ?_
  rintro e w1 ⟨rfl, hS⟩
  have HS := Lib.hid hS
  clear hS
  go_wp2_with fail
  go_ret
  exact ⟨rfl, HS.out⟩

theorem ent25 : ∀ args w, (callFunc 25 args).run Try.prog w = .ok (.enter 25 args) w := enters_of Try.func25 (by kernel_rfl) rfl
theorem ent27 : ∀ args w, (callFunc 27 args).run Try.prog w = .ok (.enter 27 args) w := enters_of Try.func27 (by kernel_rfl) rfl
set_option maxHeartbeats 1000000 in
theorem japp_any (B : Nat) (w : World) (q : Nat) (r : Option Nat) (s : DS) (X : Option Addr) (m cx : Nat) (x : List UInt8) (h : Dk 52 B w q r s) (hr : Rd w 1 X m cx (bv x)) :
    Calls Try.prog 9 #[.pointer (some ⟨q, 0, none⟩), .slice X m cx] w (DAns 52 B q r (jApp s x) w) := by
  obtain ⟨W1, hW1⟩ : ∃ W1, w.alloc (.cells #[.pointer (some ⟨q, 0, none⟩)] 26) = W1 := ⟨_, rfl⟩
  obtain ⟨W2, hW2⟩ : ∃ W2, W1.alloc (.cells #[.slice X m cx] 22) = W2 := ⟨_, rfl⟩
  obtain ⟨W3, hW3⟩ : ∃ W3, W2.alloc (.cells #[.slice none 0 0] 22) = W3 := ⟨_, rfl⟩
  obtain ⟨W4, hW4⟩ : ∃ W4, W3.alloc (.cells #[fnV 25 #[.pointer (some ⟨w.heap.size + 1, 0, none⟩), .pointer (some ⟨w.heap.size + 1 + 1, 0, none⟩)],
    fnV 27 #[.pointer (some ⟨w.heap.size, 0, none⟩), .pointer (some ⟨w.heap.size + 1 + 1, 0, none⟩)]] 44) = W4 := ⟨_, rfl⟩
  have s1 : W1.heap.size = w.heap.size + 1 := by rw [← hW1, World.size_alloc]
  have s2 : W2.heap.size = w.heap.size + 1 + 1 := by rw [← hW2, World.size_alloc, s1]
  have s3 : W3.heap.size = w.heap.size + 1 + 1 + 1 := by rw [← hW3, World.size_alloc, s2]
  have s4 : W4.heap.size = w.heap.size + 1 + 1 + 1 + 1 := by rw [← hW4, World.size_alloc, s3]
  have bW : Below w.heap.size w W4 := by
    rw [← hW4, ← hW3, ← hW2, ← hW1]
    exact ((((Below.refl _ w).alloc (Nat.le_refl _) _).alloc (by rw [hW1, s1]; omega) _).alloc (by rw [hW1, hW2, s2]; omega) _).alloc (by rw [hW1, hW2, hW3, s3]; omega) _
  have hpd : Boxed W4 w.heap.size 26 (.pointer (some ⟨q, 0, none⟩)) := by
    rw [← hW4, ← hW3, ← hW2, ← hW1]; exact (((Boxed.new w _ _).alloc _).alloc _).alloc _
  have hpr : Boxed W4 (w.heap.size + 1) 22 (.slice X m cx) := by
    rw [← s1, ← hW4, ← hW3, ← hW2]; exact ((Boxed.new W1 _ _).alloc _).alloc _
  have hpf : Boxed W4 (w.heap.size + 1 + 1) 22 (.slice none 0 0) := by
    rw [← s2, ← hW4, ← hW3]; exact (Boxed.new W2 _ _).alloc _
  have hfb : Blk W4 (w.heap.size + 1 + 1 + 1) #[fnV 25 #[.pointer (some ⟨w.heap.size + 1, 0, none⟩), .pointer (some ⟨w.heap.size + 1 + 1, 0, none⟩)],
    fnV 27 #[.pointer (some ⟨w.heap.size, 0, none⟩), .pointer (some ⟨w.heap.size + 1 + 1, 0, none⟩)]] 44 := by
    rw [← s3, ← hW4]; exact Blk.new W3 _ _
  have key := first2 W4 (w.heap.size + 1 + 1 + 1) 25 27 _ _ (fun e W' => DAns 52 B q r (jApp s x) w e W') hfb ent25 ent27
    ((japp1 W4 _ _ X m cx x _ hpr hpf (hr.below bW)).mono fun e W' hA => by
      obtain ⟨rfl, ho, hg⟩ := hA
      have hbw : Below w.heap.size w W' := bW.trans (ho.below (by rw [s4]; omega) (fun i e => by omega))
      refine ⟨fErr x, rfl, ?_⟩
      by_cases h0 : fErr x = 0
      · right
        obtain ⟨A, c, hb, hrd⟩ := hg h0
        refine ⟨h0, hfb.only ho (by omega), ?_⟩
        refine (japp2 B W' q r s _ _ A _ c _ (boxOnly hpd ho (by omega)) hb (h.below hbw) hrd).mono fun e2 w2 hD => ?_
        refine ⟨_, hD.1, ?_⟩
        have : jApp s x = dAppend s (frm x) := by unfold jApp; rw [if_neg (by simpa using h0)]
        rw [this]
        exact DAns.pre hbw ⟨rfl, hD.2⟩
      · left
        refine ⟨h0, ?_⟩
        have : jApp s x = (fErr x, s) := by unfold jApp; rw [if_pos h0]
        rw [this]
        exact ⟨rfl, DStep.same h hbw⟩)
  have KEY := Lib.hid key
  clear key hpd hpr hpf hfb bW s2 s3 s4 s1
  subst hW1 hW2 hW3
  rw [← hW4] at KEY
  simp only [fnV] at KEY
  clear hW4 W4 h hr
  go_enter Try.func9, Try.ntmps9
  go_wp2_with fail
  refine KEY.out.mono ?_
  rintro e w1 ⟨rfl, hS⟩
  have HS := Lib.hid hS
  clear hS KEY
  go_wp2_with fail
  go_ret
  exact ⟨rfl, HS.out⟩
end Go.Proofs.Ytckofpdhcpabnaa
