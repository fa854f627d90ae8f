/- The law FrameBack. -/
import Derived.Test.YtdfompaenclhnaaOpen2
import Derived.Test.YtdfompaenclhnaaFrPlain3
import Derived.Test.YtdfompaenclhnaaFrJoin
namespace Go.Proofs.Ytdfompaenclhnaa
open Go.RowKit
set_option linter.unusedVariables false

theorem info_int : (Try.prog.info? 3).map (fun i => (i.zero, i.size, i.bytes)) = some (some (.int .i64 0), 1, 8) := by kernel_rfl

/-- numbers as cells -/
def iv (l : List Nat) : List Value := l.map fun (k : Nat) => .int .i64 (k : Int)
theorem iv_snoc (l : List Nat) (k : Nat) : iv (l ++ [k]) = iv l ++ [.int .i64 (k : Int)] := by simp [iv]
@[simp] theorem iv_len (l : List Nat) : (iv l).length = l.length := by simp [iv]

theorem own_below {w w' : World} {base : Nat} {e : TypeId} {sz n : Nat} {v : Value} {xs : List Value} (h : w.ownsRow base e sz v n xs) (hb : Below w.heap.size w w') : w'.ownsRow base e sz v n xs :=
  own_kept h (grown_none_of_below hb) (fun _ e => by cases e)

section
variable {w : World} {ops : Array Oper} {rest : List Oper} {o : Oper} {a : Act} {Q : Exit → Act → World → Prop}
theorem app_i (hw : Region.wanted o (yielded ops a.tmps) = true) (s x : Operand)
    (ho : o.op = .call { callee := .builtin .append, args := #[s, x], argTypes := #[37, 37] })
    (base : Nat) (A0 : Option Addr) (c0 n : Nat) (l : List Value) (hs : a.eval s = .slice A0 n c0) (hown : w.ownsRow base 3 1 (.slice A0 n c0) n l)
    (A : Option Addr) (m c : Nat) (k : List Value) (hx : a.eval x = .slice A m c) (hr : Rd w 1 A m c k) (h1 : ∀ u ∈ k, u.oneCell' = true)
    (h63 : (n + m) * 8 ≤ 140737488355328) (hbase : base ≤ w.heap.size)
    (h : ∀ A' c' w', w'.ownsRow base 3 1 (.slice A' (n + m) c') (n + m) (l ++ k) → w.grownBy w' (Value.slice A0 n c0).ownBlock → (A' = A0 ∨ A' = some ⟨w.heap.size, 0, none⟩) → (A' = none ↔ A0 = none ∧ m = 0) →
      wpList Try.prog ops Q rest (a.put o.dst (.slice A' (n + m) c')) w') : wpList Try.prog ops Q (o :: rest) a w := by
  obtain ⟨i0, hi, hz0, hz1, hz2⟩ := info_parts info_int
  exact wpList_app w hw s x _ ho base _ i0 _ 1 8 Try.underlying37 hi hz0 hz1 hz2 rfl (by omega) A0 c0 n l hs hown A m c k hx hr h1 h63 (by omega) hbase h
end

/-- the rows of kept loads, by value -/
structure PutV (w : World) (ps : List (List UInt8)) (vs : List Value) : Prop where
  len : vs.length = ps.length
  row : ∀ (i : Nat) (x : List UInt8), ps[i]? = some x → ∃ Ai ci, vs[i]? = some (Value.slice Ai x.length ci) ∧ Rd w 1 Ai x.length ci (bv x)
theorem PutV.snoc {w : World} {ps : List (List UInt8)} {vs : List Value} {x : List UInt8} {A : Option Addr} {n c : Nat} (h : PutV w ps vs) (hn : x.length = n) (hr : Rd w 1 A n c (bv x)) : PutV w (ps ++ [x]) (vs ++ [.slice A n c]) := by
  subst hn
  refine ⟨by simp [h.len], fun i y hy => ?_⟩
  rcases Nat.lt_or_ge i ps.length with hi | hi
  · rw [List.getElem?_append_left hi] at hy
    obtain ⟨Ai, ci, h1, h2⟩ := h.row i y hy
    exact ⟨Ai, ci, by rw [List.getElem?_append_left (by rw [h.len]; exact hi)]; exact h1, h2⟩
  · rw [List.getElem?_append_right hi] at hy
    have h0 : i - ps.length = 0 := by
      rcases Nat.eq_zero_or_pos (i - ps.length) with h0 | h0
      · exact h0
      · rw [List.getElem?_eq_none (by simp; omega)] at hy; cases hy
    rw [h0] at hy
    simp at hy
    subst hy
    exact ⟨A, c, by rw [List.getElem?_append_right (by rw [h.len]; exact hi), h.len, h0]; rfl, hr⟩
theorem PutV.bb {w W : World} {ps : List (List UInt8)} {vs : List Value} {A : Option Addr} {n c : Nat} (h : PutV w ps vs) (hn : ps.length = n) (hb : Below w.heap.size w W) (hr : Rd W 1 A n c vs) : BB W 0 A n c ps vs :=
  ⟨hr, hn, fun _ _ => Nat.zero_le _, fun i x hx => by obtain ⟨Ai, ci, a, b⟩ := h.row i x hx; exact ⟨Ai, ci, a, b.below hb, fun _ _ => Nat.zero_le _⟩⟩

/-- between two rounds -/
structure BackI (w : World) (ps : List (List UInt8)) (A1 A2 A3 : Option Addr) (c1 c2 c3 : Nat) (W : World) : Prop where
  b : W.ownsRow w.heap.size 5 1 (.slice A1 (szs ps) c1) (szs ps) (bv (frs ps))
  put : ∃ vs, W.ownsRow w.heap.size 22 1 (.slice A2 ps.length c2) ps.length vs ∧ PutV w ps vs
  ends : W.ownsRow w.heap.size 3 1 (.slice A3 ps.length c3) ps.length (iv (endsOf ps))
  bel : Below w.heap.size w W
  ok : okl ps
  sm : szs ps ≤ 6004
theorem BackI.below {w W W' : World} {ps : List (List UInt8)} {A1 A2 A3 : Option Addr} {c1 c2 c3 : Nat} (h : BackI w ps A1 A2 A3 c1 c2 c3 W) (hb : Below W.heap.size W W') : BackI w ps A1 A2 A3 c1 c2 c3 W' := by
  obtain ⟨vs, h1, h2⟩ := h.put
  exact ⟨own_below h.b hb, ⟨vs, own_below h1 hb, h2⟩, own_below h.ends hb, h.bel.trans (hb.mono h.bel.size), h.ok, h.sm⟩
theorem back_step {w W1 w2 w3 w4 : World} {ps : List (List UInt8)} {vs : List Value} {y : List UInt8} {Ay A1 A2 A3 B1 B2 B3 : Option Addr} {cy c1 c2 c3 d1 d2 d3 m : Nat} {b2 b3 : Obj} (h : BackI w ps A1 A2 A3 c1 c2 c3 W1)
    (hp : W1.ownsRow w.heap.size 22 1 (.slice A2 ps.length c2) ps.length vs) (hv : PutV w ps vs) (hy : Rd w 1 Ay y.length cy (bv y)) (hm : m = y.length + 4) (h1 : 1 ≤ y.length) (h2 : y.length ≤ 2000) (h3 : szs ps ≤ 4000)
    (o1 : w2.ownsRow w.heap.size 5 1 (.slice B1 (szs ps + m) d1) (szs ps + m) (bv (frs ps ++ (by4 y.length ++ y)))) (g1 : W1.grownBy w2 (Value.slice A1 (szs ps) c1).ownBlock)
    (o2 : w3.ownsRow w.heap.size 22 1 (.slice B2 (ps.length + 1) d2) (ps.length + 1) (vs ++ [.slice Ay y.length cy])) (g2 : (w2.alloc b2).grownBy w3 (Value.slice A2 ps.length c2).ownBlock)
    (o3 : w4.ownsRow w.heap.size 3 1 (.slice B3 (ps.length + 1) d3) (ps.length + 1) (iv (endsOf ps) ++ [.int .i64 ((szs ps + m : Nat) : Int)])) (g3 : (w3.alloc b3).grownBy w4 (Value.slice A3 ps.length c3).ownBlock) :
    szs (ps ++ [y]) = szs ps + m ∧ (ps ++ [y]).length = ps.length + 1 ∧ BackI w (ps ++ [y]) B1 B2 B3 d1 d2 d3 w4 := by
  have e1 : szs (ps ++ [y]) = szs ps + m := by rw [szs_snoc, hm]
  have e2 : (ps ++ [y]).length = ps.length + 1 := by simp
  have b1 : Below w.heap.size w w2 := below_app h.bel h.b g1 h.bel.size
  have p1 := hp.kept g1 (own_ne hp h.b (by decide))
  have q1 := h.ends.kept g1 (own_ne h.ends h.b (by decide))
  have b2' : Below w.heap.size w w3 := below_app (b1.alloc b1.size b2) (p1.alloc b2) g2 (by have := b1.size; simp; omega)
  have r2 := (o1.alloc b2).kept g2 (own_ne o1 p1 (by decide))
  have q2 := (q1.alloc b2).kept g2 (own_ne q1 p1 (by decide))
  have b3' : Below w.heap.size w w4 := below_app (b2'.alloc b2'.size b3) (q2.alloc b3) g3 (by have := b2'.size; simp; omega)
  have r3 := (r2.alloc b3).kept g3 (own_ne r2 q2 (by decide))
  have s3 := (o2.alloc b3).kept g3 (own_ne o2 q2 (by decide))
  refine ⟨e1, e2, ⟨?_, ⟨_, ?_, hv.snoc rfl hy⟩, ?_, b3', ?_, by omega⟩⟩
  · rw [e1, frs_snoc]; exact r3
  · rw [e2]; exact s3
  · rw [e2, endsOf_snoc, iv_snoc, e1]; exact o3
  · intro z hz
    rcases List.mem_append.1 hz with hz | hz
    · exact h.ok z hz
    · rw [List.mem_singleton] at hz; subst hz; omega
theorem nil_len (ps : List (List UInt8)) : ps.length ≤ szs ps := length_le_szs ps

theorem Rd.take {w : World} {sz n c m : Nat} {A : Option Addr} {xs : List Value} (h : Rd w sz A n c xs) (hm : m ≤ n) : Rd w sz A m c (xs.take (m * sz)) := by
  refine ⟨?_, Nat.le_trans hm h.cap, h.max, fun j u hu => h.at_ j u ?_⟩
  · rw [List.length_take, h.len]; exact Nat.min_eq_left (Nat.mul_le_mul_right _ hm)
  · rw [List.getElem?_take] at hu
    split at hu
    · exact hu
    · cases hu
theorem Rd.btake {w : World} {n c m : Nat} {A : Option Addr} {l : List UInt8} (h : Rd w 1 A n c (bv l)) (hm : m ≤ n) : Rd w 1 A m c (bv (l.take m)) := by
  have := h.take hm
  rwa [Nat.mul_one, bv_take] at this
theorem BB.take {w : World} {B n c m : Nat} {A : Option Addr} {ls : List (List UInt8)} {vs : List Value} (h : BB w B A n c ls vs) (hm : m ≤ n) : BB w B A m c (ls.take m) (vs.take m) := by
  have hr := h.rd.take hm
  rw [Nat.mul_one] at hr
  refine ⟨hr, by rw [List.length_take, h.len]; exact Nat.min_eq_left hm, h.new, fun i x hx => ?_⟩
  rw [List.getElem?_take] at hx ⊢
  split at hx
  · rename_i hi; rw [if_pos hi]; exact h.row i x hx
  · cases hx

theorem tmod_bound (x : Int) (m : Nat) (h : 0 < m) : -(m : Int) < x.tmod m ∧ x.tmod m < m :=
  ⟨Int.lt_tmod_of_pos x (by omega), Int.tmod_lt_of_pos x (by omega)⟩

set_option maxRecDepth 100000 in
set_option maxHeartbeats 4000000 in
theorem frameBack_walk (w : World) (A : Option Addr) (n c : Nat) (ls : List (List UInt8)) (vs : List Value) (hbb : BB w 0 A n c ls vs) (x : Int) (hx1 : -9223372036854775808 ≤ x) (hx2 : x ≤ 9223372036854775807) :
    Calls Try.prog 6 #[.slice A n c, .int .i64 x] w (Yes w) := by
  have hc := hbb.rd.cap
  have hm := hbb.rd.max
  unfold maxLen at hm
  have HL := Lib.hid hbb.len
  go_enter Try.func6, Try.ntmps6
  go_wp2_with fail
  go_loopw [5, 6, 7, 21] (fun b p e i wr => ∃ (k : Nat) (A1 A2 A3 : Option Addr) (c1 c2 c3 : Nat), k ≤ n ∧ i = .int .i64 k ∧ b = .slice A1 (szs (kept (ls.take k))) c1 ∧ p = .slice A2 (kept (ls.take k)).length c2 ∧ e = .slice A3 (kept (ls.take k)).length c3 ∧
      BackI w (kept (ls.take k)) A1 A2 A3 c1 c2 c3 wr) (fun _ _ _ i _ => n - (intOf i).toNat)
  case atStart => exact ⟨0, none, none, none, 0, 0, 0, Nat.zero_le _, rfl, rfl, rfl, rfl, ⟨World.ownsRow_nil _ _ _ _, ⟨[], World.ownsRow_nil _ _ _ _, rfl, by simp [kept]⟩, World.ownsRow_nil _ _ _ _, Below.refl _ _, by simp [okl, kept], by simp [kept]⟩⟩
  case round =>
    obtain ⟨k, A1, A2, A3, c1, c2, c3, hk, rfl, rfl, rfl, rfl, hi⟩ := hrel
    have hsz := hi.bel.size
    have hsm := hi.sm
    have hpl := nil_len (kept (ls.take k))
    by_cases hlt : k < n
    · obtain ⟨ad, rfl, _⟩ := hbb.rd.addr (by omega) (by omega)
      obtain ⟨y, hy⟩ : ∃ y, ls[k]? = some y := ⟨_, List.getElem?_eq_getElem (by rw [HL.out]; exact hlt)⟩
      obtain ⟨Ay, cy, hv, hry, _⟩ := hbb.row k y hy
      have hcl := (hbb.rd.below hi.bel).get hv
      have hry' := hry.below hi.bel
      have hcy := hry.cap
      have hmy := hry.max
      unfold maxLen at hmy
      have htk : ls.take (k + 1) = ls.take k ++ [y] := by
        rw [List.take_add_one, hy]; rfl
      have HTK := Lib.hid htk
      have HBB := Lib.hid hbb
      have HI := Lib.hid hi
      have HRY := Lib.hid hry
      have HRY' := Lib.hid hry'
      clear htk hy hv hbb hi hry hry'
      by_cases h40 : 40 ≤ k
      · go_wp2_with (go_at_call 9; refine (wakes_any _).mono ?_; rintro e w1 ⟨rfl, HB⟩)
        go_ret
        exact ⟨rfl, HI.out.bel.trans (HB.mono hsz)⟩
      by_cases h2k : 2000 < y.length
      · go_wp2_with (go_at_call 9; refine (wakes_any _).mono ?_; rintro e w1 ⟨rfl, HB⟩)
        go_ret
        exact ⟨rfl, HI.out.bel.trans (HB.mono hsz)⟩
      by_cases h4k : 4000 < szs (kept (ls.take k))
      · go_wp2_with (go_at_call 9; refine (wakes_any _).mono ?_; rintro e w1 ⟨rfl, HB⟩)
        go_ret
        exact ⟨rfl, HI.out.bel.trans (HB.mono hsz)⟩
      by_cases hy0 : y.length = 0
      · have HY0 := Lib.hid hy0
        clear hy0
        go_wp2_with fail
        refine (frame_any _ _ _ _ _ HRY'.out).mono ?_
        rintro e w1 ⟨HB, h2, -, -⟩
        obtain rfl := h2 HY0.out
        clear h2
        have hI1 := HI.out.below HB
        have HI1 := Lib.hid hI1
        clear hI1 HB
        go_wp2_with fail
        go_roundw
        case rel =>
          refine ⟨k + 1, A1, A2, A3, c1, c2, c3, by omega, by go_num, ?_, ?_, ?_, ?_⟩
          · rw [HTK.out, kept_snoc_no _ _ HY0.out]
          · rw [HTK.out, kept_snoc_no _ _ HY0.out]
          · rw [HTK.out, kept_snoc_no _ _ HY0.out]
          · rw [HTK.out, kept_snoc_no _ _ HY0.out]; exact HI1.out
        case measure => simp [intOf]; omega
      · have hy1 : 1 ≤ y.length := by omega
        clear hy0
        go_wp2_with fail
        refine (frame_any _ _ _ _ _ HRY'.out).mono ?_
        rintro e w1 ⟨HB, -, -, h2⟩
        obtain ⟨Af, cf, rfl, hof⟩ := h2 hy1 (by omega)
        have hI1 := HI.out.below HB
        obtain ⟨vp, hput, hpv⟩ := hI1.put
        have HI1 := Lib.hid hI1
        have HP := Lib.hid hput
        have HPV := Lib.hid hpv
        have HOF := Lib.hid hof
        have hsz1 := hI1.bel.size
        clear hI1 hput hpv hof h2 HB
        go_wp2_with (first
          | (at_builtin; refine app_u8 rfl (.tmp 46) (.tmp 47) rfl w.heap.size A1 c1 _ _ rfl HI1.out.b _ _ _ _ rfl (Rd.of_own HOF.out) (by omega) hsz1 ?_; intro B1 d1 w2 ho1 hg1 hat1 hn1; have hs2 : w.heap.size ≤ w2.heap.size := Nat.le_trans hsz1 hg1.size; have HO1 := Lib.hid ho1; have HG1 := Lib.hid hg1; clear ho1 hg1 hat1 hn1)
          | (at_builtin; refine app_bs rfl (.tmp 49) (.tmp 51) rfl w.heap.size A2 c2 _ _ rfl ((HP.out.kept HG1.out (own_ne HP.out HI1.out.b (by decide))).alloc _) _ _ _ [.slice Ay y.length cy] rfl (Rd.lit w2 1 1 #[.slice Ay y.length cy] _ _ rfl (by simp [maxLen])) (by simp [Value.oneCell']) (by omega) (by simp; omega) ?_; intro B2 d2 w3 ho1 hg1 hat1 hn1; have hs3 : w.heap.size ≤ w3.heap.size := (by have := hg1.size; simp at this; omega); have HO2 := Lib.hid ho1; have HG2 := Lib.hid hg1; clear ho1 hg1 hat1 hn1)
          | (at_builtin; refine app_i rfl (.tmp 53) (.tmp 56) rfl w.heap.size A3 c3 _ _ rfl (((((HI1.out.ends.kept HG1.out (own_ne HI1.out.ends HI1.out.b (by decide))).alloc _).kept HG2.out (own_ne (HI1.out.ends.kept HG1.out (own_ne HI1.out.ends HI1.out.b (by decide))) (HP.out.kept HG1.out (own_ne HP.out HI1.out.b (by decide))) (by decide)))).alloc _) _ _ _ [.int .i64 ((szs (kept (ls.take k)) + (y.length + 4) : Nat) : Int)] rfl (Rd.lit w3 1 1 #[.int .i64 ((szs (kept (ls.take k)) + (y.length + 4) : Nat) : Int)] _ _ rfl (by simp [maxLen])) (by simp [Value.oneCell']) (by omega) (by simp; omega) ?_; intro B3 d3 w4 ho1 hg1 hat1 hn1; have HO3 := Lib.hid ho1; have HG3 := Lib.hid hg1; clear ho1 hg1 hat1 hn1))
        obtain ⟨e1, e2, hN⟩ := back_step HI1.out HP.out HPV.out HRY.out rfl hy1 (by omega) (by omega) HO1.out HG1.out HO2.out HG2.out HO3.out HG3.out
        have HN := Lib.hid hN
        clear hN
        go_roundw
        case rel =>
          refine ⟨k + 1, B1, B2, B3, d1, d2, d3, by omega, by go_num, ?_, ?_, ?_, ?_⟩
          · rw [HTK.out, kept_snoc_yes _ _ hy1, e1]
          · rw [HTK.out, kept_snoc_yes _ _ hy1, e2]
          · rw [HTK.out, kept_snoc_yes _ _ hy1, e2]
          · rw [HTK.out, kept_snoc_yes _ _ hy1]; exact HN.out
        case measure => simp [intOf]; omega
    · obtain rfl : k = n := by omega
      have hall : ls.take k = ls := List.take_of_length_le (by rw [HL.out]; exact Nat.le_refl _)
      rw [hall] at hi hsm hpl ⊢
      obtain ⟨ps, hps⟩ : ∃ ps, kept ls = ps := ⟨_, rfl⟩
      rw [hps] at hi hsm hpl ⊢
      clear hall hps HL
      have hld := loads_frs ps hi.ok
      have hfl := frs_len ps
      have HLD := Lib.hid hld
      have HFL := Lib.hid hfl
      have HI := Lib.hid hi
      clear hld hfl hi
      go_wp2_with fail
      refine (scan_any _ _ _ _ _ (Rd.of_own HI.out.b) (by omega)).mono ?_
      rintro e w1 ⟨A4, c4, vs4, rfl, hbb4, HB4⟩
      rw [HLD.out, HFL.out, Int.sub_self]
      rw [HLD.out] at hbb4
      have hI1 := HI.out.below HB4
      obtain ⟨vp, hput, hpv⟩ := hI1.put
      have hbbp := hpv.bb rfl hI1.bel (Rd.of_own hput)
      have HI1 := Lib.hid hI1
      have HP := Lib.hid hput
      have HPV := Lib.hid hpv
      have HBBP := Lib.hid hbbp
      have HBB4 := Lib.hid hbb4
      clear hI1 hput hpv hbbp hbb4 HB4
      go_wp2_with fail
      refine (same_any _ _ _ _ _ _ _ _ _ _ _ HBB4.out HBBP.out).mono ?_
      rintro e w2 ⟨rfl, j, rfl⟩
      obtain ⟨L, hL⟩ : ∃ L, szs ps = L := ⟨_, rfl⟩
      have hT := tmod_bound x (L + 1) (by omega)
      rw [show ((L + 1 : Nat) : Int) = (L : Int) + 1 from by omega] at hT
      obtain ⟨T, hT0⟩ : ∃ T, x.tmod ((L : Int) + 1) = T := ⟨_, rfl⟩
      rw [hT0] at hT
      obtain ⟨hT1, hT2⟩ := hT
      have hC1 := Int.emod_nonneg (T + ((L : Int) + 1)) (show (L : Int) + 1 ≠ 0 by omega)
      have hC2 := Int.emod_lt_of_pos (T + ((L : Int) + 1)) (show 0 < (L : Int) + 1 by omega)
      obtain ⟨C, hC0⟩ : ∃ C : Nat, (T + ((L : Int) + 1)) % ((L : Int) + 1) = (C : Int) := ⟨_, (Int.toNat_of_nonneg hC1).symm⟩
      rw [hC0] at hC1 hC2
      have hcap := (Rd.of_own HI1.out.b).cap
      rw [hL] at hsm hpl hcap ⊢
      have HLL := Lib.hid hL
      clear hL hC1
      have hC3 : C ≤ L := by omega
      clear hC2
      have hlc := loads_cut ps C HI1.out.ok
      have hKl := wholes_le ps C
      have hKi := wholes_iff ps C
      obtain ⟨K, hK⟩ : ∃ K, wholes ps C = K := ⟨_, rfl⟩
      rw [hK] at hlc hKl hKi
      clear hK
      have hlk : (ps.take K).length = K := by rw [List.length_take]; exact Nat.min_eq_left hKl
      have hlC : ((frs ps).take C).length = C := by rw [List.length_take, HFL.out, HLL.out]; exact Nat.min_eq_left hC3
      have HLC := Lib.hid hlc
      have HLK := Lib.hid hlk
      have HKI := Lib.hid hKi
      have HlC := Lib.hid hlC
      clear hlc hlk hKi hlC
      go_wp2_with fail
      have hrc := (((Rd.of_own HI1.out.b).btake (m := C) (by rw [HLL.out]; exact hC3)).drewN j)
      refine (scan_any _ _ _ _ _ hrc (by omega)).mono ?_
      rintro e w3 ⟨A5, c5, vs5, rfl, hbb5, HB5⟩
      rw [HLC.out, HLK.out, HlC.out]
      rw [HLC.out, HLK.out] at hbb5
      have hB1 := below_drewN HI1.out.bel j
      have hI3 : BackI w ps A1 A2 A3 c1 c2 c3 w3 := (show BackI w ps A1 A2 A3 c1 c2 c3 (w1.drewN j) from ⟨HI1.out.b, HI1.out.put, HI1.out.ends, hB1, HI1.out.ok, HI1.out.sm⟩).below HB5
      have hbp3 := ((HBBP.out.drewN j).below HB5).take (m := K) (by exact hKl)
      have hre := Rd.of_own hI3.ends
      have HI3 := Lib.hid hI3
      have HBP3 := Lib.hid hbp3
      have HBB5 := Lib.hid hbb5
      have HRE := Lib.hid hre
      have hkl := szs_take_le ps K
      rw [HLL.out] at hkl
      clear hrc hI3 hbp3 hbb5 hB1 hre HB5
      go_wp2_with fail
      go_loopw [17, 18] (fun a b wr => ∃ (i m : Nat), i ≤ K ∧ a = .int .i64 i ∧ b = .int .i64 (szs (ps.take i) : Nat) ∧ wr = w3.drewN m) (fun a _ _ => K - (intOf a).toNat)
      case atStart => exact ⟨0, 0, Nat.zero_le _, rfl, rfl, rfl⟩
      case round =>
        obtain ⟨i, m, hi, rfl, rfl, rfl⟩ := hrel
        obtain ⟨W, hW⟩ : ∃ W, w3.drewN m = W := ⟨_, rfl⟩
        have hre := HRE.out.drewN m
        rw [hW] at hre ⊢
        have HW := Lib.hid hW
        clear hW
        by_cases hik : i < K
        · obtain ⟨ad, rfl, _⟩ := hre.addr (by omega) (by omega)
          have hce := hre.get (j := i) (u := .int .i64 (szs (ps.take (i + 1)) : Nat)) (by simp only [iv, List.getElem?_map]; rw [endsOf_get _ _ (by omega)]; rfl)
          have hle := (HKI.out i (by omega)).1 hik
          have hts := szs_take_le ps i
          rw [HLL.out] at hts
          go_wp2_with fail
          go_roundw
          case rel => exact ⟨i + 1, m, by omega, by go_num, rfl, HW.out.symm⟩
          case measure => simp [intOf]; omega
        · obtain rfl : i = K := by omega
          have hbb5 := HBB5.out.drewN m
          have hbp := HBP3.out.drewN m
          have hbW : Below w.heap.size w (w3.drewN m) := below_drewN HI3.out.bel m
          rw [HW.out] at hbb5 hbp hbW
          have HBB := Lib.hid hbb5
          have HBP := Lib.hid hbp
          have HBW := Lib.hid hbW
          clear hbb5 hbp hbW
          have hpc := hre.cap
          have hpm := hre.max
          unfold maxLen at hpm
          have hcp := HBP.out.rd.cap
          by_cases hiL : i < ps.length
          · obtain ⟨ad, rfl, _⟩ := hre.addr (by omega) (by omega)
            have hce := hre.get (j := i) (u := .int .i64 (szs (ps.take (i + 1)) : Nat)) (by simp only [iv, List.getElem?_map]; rw [endsOf_get _ _ hiL]; rfl)
            have hgt : C < szs (ps.take (i + 1)) := by have := (HKI.out i hiL).2; omega
            go_wp2_with fail
            refine (same_any _ _ _ _ _ _ _ _ _ _ _ HBB.out HBP.out).mono ?_
            rintro e w7 ⟨rfl, j7, rfl⟩
            go_wp2_with fail
            refine (wakes_any _).mono ?_
            rintro e w8 ⟨rfl, HB8⟩
            go_wp2_with fail
            go_ret
            exact ⟨rfl, (below_drewN HBW.out j7).trans (HB8.mono HBW.out.size)⟩
          · go_wp2_with fail
            refine (same_any _ _ _ _ _ _ _ _ _ _ _ HBB.out HBP.out).mono ?_
            rintro e w7 ⟨rfl, j7, rfl⟩
            go_wp2_with fail
            refine (wakes_any _).mono ?_
            rintro e w8 ⟨rfl, HB8⟩
            go_wp2_with fail
            go_ret
            exact ⟨rfl, (below_drewN HBW.out j7).trans (HB8.mono HBW.out.size)⟩
end Go.Proofs.Ytdfompaenclhnaa
