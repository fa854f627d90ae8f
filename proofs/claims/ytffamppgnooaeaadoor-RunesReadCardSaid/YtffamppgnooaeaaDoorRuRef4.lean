/- hoardingref01.Unquote, walked. -/
import Derived.Test.YtffamppgnooaeaaDoorRuRef3
import Derived.Test.YtffamppgnooaeaaDoorRuOneA
import Derived.Lib.AppendStr
namespace Go.Proofs.YtffamppgnooaeaaDoor
open Go.RowKit Go.Lib
set_option linter.unusedVariables false
set_option linter.unusedSimpArgs false

theorem r4_info : (Tryd.prog.info? 5).map (fun i => (i.zero, i.size, i.bytes)) = some (some (.int .u8 0), 1, 1) := by kernel_rfl
theorem r4_str (s : ByteArray) : strCells s = bv s.data.toList := rfl
theorem r4_below {w w' : World} {base : Nat} {e : TypeId} {sz n : Nat} {v : Value} {xs : List Value} (h : w.ownsRow base e sz v n xs) (hb : Below w.heap.size w w') : w'.ownsRow base e sz v n xs :=
  h.kept (row := none) ⟨hb.os, hb.tape, hb.output, hb.size, fun k hk _ => hb.block k hk⟩ (by
    rcases h.2 with ⟨rfl, _⟩ | ⟨g, cap, cur, rfl, _⟩
    · exact .inl rfl
    · exact .inr (by simp [Value.ownBlock]))
/-- append(out, s...) of a text -/
theorem wpList_r4 {w : World} {ops : Array Oper} {rest : List Oper} {o : Oper} {a : Act} {Q : Exit → Act → World → Prop} (hgd : o.guard = none) (sl x : Operand)
    (ho : o.op = .call { callee := .builtin .append, args := #[sl, x], argTypes := #[37, 9] }) (base : Nat) (A : Option Addr) (c : Nat) (out : List UInt8)
    (hs : a.eval sl = .slice A out.length c) (hown : w.ownsRow base 5 1 (.slice A out.length c) out.length (bv out)) (s : ByteArray) (hx : a.eval x = .string s) (l : List UInt8) (hl : s.data.toList = l)
    (hz : out.length + s.size ≤ 140737488355328) (hbase : base ≤ w.heap.size)
    (h : ∀ A' c' w', w'.ownsRow base 5 1 (.slice A' (out ++ l).length c') (out ++ l).length (bv (out ++ l)) → w.grownBy w' (Value.slice A out.length c).ownBlock → wpList Tryd.prog ops Q rest (a.put o.dst (.slice A' (out ++ l).length c')) w') : wpList Tryd.prog ops Q (o :: rest) a w := by
  obtain ⟨i0, hi, hz0, hz1, hz2⟩ := info_parts r4_info
  refine wpList_append_own_string w hgd sl x 37 9 ho base 5 i0 Tryd.underlying37 Tryd.underlying9 hi hz0 hz1 hz2 _ out.length (bv out) hs hown s hx (by unfold maxLen; omega) hz hbase ?_
  intro v' w' h1 h2 _
  subst hl
  have hlen : out.length + s.size = (out ++ s.data.toList).length := by rw [List.length_append, Lib.size_eq]
  rw [r4_str, ← bv_append, hlen] at h1
  obtain ⟨A', c', rfl⟩ := own_form h1
  exact h A' c' w' h1 h2
set_option maxRecDepth 100000 in
set_option maxHeartbeats 8000000 in
theorem runquote_any (b : ByteArray) (i : Int) (hi1 : -9223372036854775808 ≤ i) (hi2 : i ≤ 9223372036854775807) (hb : b.size ≤ 30000) (w : World) :
    Calls Tryd.prog 9 #[.string b, .int .i64 i] w (UnqP b.data.toList i w) := by
  have HSZ := Lib.hid (Lib.size_eq b)
  by_cases ho : i < 0 ∨ (b.size : Int) < i
  · have HE := Lib.hid (unquoteL_out (l := b.data.toList) (i := i) (by have := HSZ.out; omega))
    rcases ho with ho | ho
    all_goals
      go_enter Tryd.func9, Tryd.ntmps9
      go_wp2_with fail
      go_ret3
      exact ⟨by rw [HE.out]; rfl, Below.refl _ _⟩
  obtain ⟨n, rfl⟩ : ∃ n : Nat, i = (n : Int) := ⟨i.toNat, by omega⟩
  have hns : n ≤ b.size := by omega
  clear ho hi1 hi2
  by_cases hend : n = b.size
  · have HE := Lib.hid (unquoteL_end (l := b.data.toList) (n := n) (by have := HSZ.out; omega) (.inl (by have := HSZ.out; omega)))
    have hq : ((n : Int) == (b.size : Int)) = true := by simp [hend]
    have hq2 : (n == b.size) = true := by simp [hend]
    clear hend
    go_enter Tryd.func9, Tryd.ntmps9
    go_wp2_with fail
    go_ret3
    exact ⟨by rw [HE.out]; rfl, Below.refl _ _⟩
  have hlt0 : n < b.size := by omega
  have hq : ((n : Int) == (b.size : Int)) = false := by simp; omega
  have hq2 : (n == b.size) = false := by simpa using hend
  clear hend
  obtain ⟨x, hx⟩ : ∃ x, b[n] = x := ⟨_, rfl⟩
  have HX : Hid (nb b.data.toList n = x.toNat) := Lib.hid (by unfold nb; rw [List.getD_eq_getElem?_getD, Lib.data_getElem? b n hlt0, hx]; rfl)
  by_cases h34 : x.toNat = 34
  · have hxz : ((x.toNat : Int) != 34) = false := by simp [h34]
    have HU := Lib.hid (unquoteL_go (l := b.data.toList) (n := n) (by have := HSZ.out; omega) (by rw [HX.out]; exact h34))
    obtain ⟨RES, hRES⟩ : ∃ RES, unqL (b.data.toList.drop (n + 1)) [] (n + 1) = RES := ⟨_, rfl⟩
    rw [hRES] at HU
    have HRES := Lib.hid hRES
    have hd1 : decide (b.size < n) = false := decide_eq_false (by omega)
    have hd2 : decide ((n : Int) < 0) = false := decide_eq_false (by omega)
    have hd3 : decide ((b.size : Int) < (n : Int)) = false := decide_eq_false (by omega)
    clear h34 hRES
    go_enter Tryd.func9, Tryd.ntmps9
    go_wp2_with fail
    go_loopg [1, 7] (b.size - (n + 1)) (fun gk q q7 wr => ∃ (k : Nat) (out : List UInt8) (A : Option Addr) (c : Nat), k + gk = b.size ∧ q = .int .i64 (k : Nat) ∧ q7 = .slice A out.length c ∧ Hid (wr.ownsRow w.heap.size 5 1 (.slice A out.length c) out.length (bv out)) ∧ Hid (Below w.heap.size w wr) ∧ Hid (unqL (b.data.toList.drop k) out k = RES) ∧ Hid (out.length ≤ k))
    case atStart => exact ⟨n + 1, [], none, 0, by omega, by go_num, rfl, Lib.hid ⟨rfl, .inl ⟨rfl, rfl⟩⟩, Lib.hid (Below.refl _ _), Lib.hid HRES.out, Lib.hid (Nat.zero_le _)⟩
    case round =>
      obtain ⟨k, out, A, cc, hk, rfl, rfl, HOWN, HB, HR, HO⟩ := hrel
      obtain ⟨W, hW⟩ : ∃ W, W = wr := ⟨_, rfl⟩
      subst hW
      cases gk with
      | zero =>
        have hkn : ¬ (k : Int) < (b.size : Int) := by omega
        go_wp2_with fail
        go_ret3
        refine ⟨?_, HB.out⟩
        have hr := HR.out
        rw [unq_end (by have := HSZ.out; omega)] at hr
        rw [HU.out, ← hr, show k = b.size by omega]
        rfl
      | succ g =>
        have hlt : k < b.size := by omega
        obtain ⟨c, hc⟩ : ∃ c, b[k] = c := ⟨_, rfl⟩
        have HC : Hid (nb b.data.toList k = c.toNat) := Lib.hid (by unfold nb; rw [List.getD_eq_getElem?_getD, Lib.data_getElem? b k hlt, hc]; rfl)
        have HST := Lib.hid (unqL_step (b.data.toList.drop k) out k (drop_ne (by have := HSZ.out; omega)))
        have HN0 : Hid (nb (b.data.toList.drop k) 0 = c.toNat) := Lib.hid (by rw [nb_drop, Nat.add_zero]; exact HC.out)
        by_cases c34 : c.toNat = 34
        · have hz : ((c.toNat : Int) == 34) = true := by simp [c34]
          have HRR : Hid ((out, k + 1, 0) = RES) := Lib.hid (by rw [← HR.out, HST.out, if_pos (by rw [HN0.out]; exact c34)])
          have hs1 := run_str (P := Tryd.prog) W 37 5 9 Tryd.underlying37 Tryd.underlying5 Tryd.underlying9 (Rd.of_own HOWN.out)
          clear c34
          go_wp2_with fail
          go_ret3
          refine ⟨?_, HB.out⟩
          rw [HU.out, ← HRR.out]
          rfl
        · have hz : ((c.toNat : Int) == 34) = false := by simp; omega
          have C34 := Lib.hid c34
          clear c34
          by_cases c92 : c.toNat = 92
          · have hz2 : ((c.toNat : Int) == 92) = true := by simp [c92]
            have HEL := Lib.hid (escL_le (b.data.toList.drop k))
            have HEN := Lib.hid (escL_len (b.data.toList.drop k))
            have HSS : Hid (unqL (b.data.toList.drop k) out k = if (escL (b.data.toList.drop k)).2 = 0 then ([], k, 10) else unqL ((b.data.toList.drop k).drop (escL (b.data.toList.drop k)).2) (out ++ (escL (b.data.toList.drop k)).1) (k + (escL (b.data.toList.drop k)).2)) := Lib.hid (by rw [HST.out, if_neg (by rw [HN0.out]; exact C34.out), if_pos (by rw [HN0.out]; exact c92)])
            have HES := Lib.hid (rescape_any b k hb (by omega) W)
            clear c92
            go_wp2_with fail
            refine HES.out.mono ?_
            rintro e w4 ⟨rfl, hb4⟩
            have HOWN4 := Lib.hid (r4_below HOWN.out hb4)
            have HB4 := Lib.hid (HB.out.trans (hb4.mono HB.out.size))
            clear hb4 HES
            rcases hee : escL (b.data.toList.drop k) with ⟨eo, en⟩
            rw [hee] at HSS HEL HEN
            rw [List.length_drop] at HEL
            simp only at HSS HEL HEN ⊢
            clear hee
            by_cases hen : en = 0
            · have hz3 : ((en : Int) == 0) = true := by simp [hen]
              have HRR : Hid (([], k, 10) = RES) := Lib.hid (by rw [← HR.out, HSS.out, if_pos hen])
              clear hen
              go_wp2_with fail
              go_ret3
              refine ⟨?_, HB4.out⟩
              rw [HU.out, ← HRR.out]
              rfl
            · have hz3 : ((en : Int) == 0) = false := by simp; omega
              have HRR : Hid (unqL (b.data.toList.drop (k + en)) (out ++ eo) (k + en) = RES) := Lib.hid (by rw [← HR.out, HSS.out, if_neg hen, List.drop_drop])
              have hen1 : 1 ≤ en := by omega
              have hen2 : k + en ≤ b.size := by have := HEL.out; have := HSZ.out; omega
              have HOO : Hid ((out ++ eo).length ≤ k + en) := Lib.hid (by rw [List.length_append]; have := HO.out; have := HEN.out; omega)
              clear hen
              go_wp2_with (at_builtin; refine wpList_r4 rfl (.tmp 84) (.tmp 85) rfl w.heap.size A cc out rfl HOWN4.out _ rfl eo (by simp) (by have h1 := HOO.out; rw [List.length_append] at h1; show out.length + eo.toArray.size ≤ _; rw [List.size_toArray]; omega) HB4.out.size ?_; intro A5 c5 w5 h5 hg5; have HOWN5 := Lib.hid h5; have HB5 := Lib.hid (HB4.out.grown hg5 HB4.out.size (fun g e => (HOWN4.out.lt g e).1)); clear h5 hg5)
              go_roundg (b.size - (k + en))
              case rel => exact ⟨k + en, out ++ eo, A5, c5, by omega, by go_num, by rw [List.length_append], HOWN5, HB5, HRR, HOO⟩
              case measure => omega
          · have hz2 : ((c.toNat : Int) == 92) = false := by simp; omega
            have C92 := Lib.hid c92
            clear c92
            have HSS : Hid (unqL (b.data.toList.drop k) out k = if c.toNat < 32 ∨ (oneL (b.data.toList.drop k)).2 = 0 then ([], k, 10) else unqL ((b.data.toList.drop k).drop (oneL (b.data.toList.drop k)).2) (out ++ (b.data.toList.drop k).take (oneL (b.data.toList.drop k)).2) (k + (oneL (b.data.toList.drop k)).2)) := Lib.hid (by
              rw [HST.out, if_neg (by rw [HN0.out]; exact C34.out), if_neg (by rw [HN0.out]; exact C92.out), HN0.out])
            have HOL := Lib.hid (oneL_le (b.data.toList.drop k))
            have HDE := Lib.hid (one_any b k (by omega) hb W)
            go_wp2_with fail
            refine HDE.out.mono ?_
            rintro e w4 ⟨rfl, rfl⟩
            clear HDE
            rcases hoo : oneL (b.data.toList.drop k) with ⟨o1, dn⟩
            rw [hoo] at HSS HOL
            rw [List.length_drop] at HOL
            simp only at HSS HOL ⊢
            clear hoo
            by_cases c32 : c.toNat < 32
            · have HRR : Hid (([], k, 10) = RES) := Lib.hid (by rw [← HR.out, HSS.out, if_pos (.inl c32)])
              have hc32 : decide ((c.toNat : Int) < 32) = true := decide_eq_true (by omega)
              clear c32
              go_wp2_with fail
              go_ret3
              refine ⟨?_, HB.out⟩
              rw [HU.out, ← HRR.out]
              rfl
            · have hc32 : decide ((c.toNat : Int) < 32) = false := decide_eq_false (by omega)
              by_cases hdn : dn = 0
              · have HRR : Hid (([], k, 10) = RES) := Lib.hid (by rw [← HR.out, HSS.out, if_pos (.inr hdn)])
                have hzd : ((dn : Int) == 0) = true := by simp [hdn]
                clear hdn c32
                go_wp2_with fail
                go_ret3
                refine ⟨?_, HB.out⟩
                rw [HU.out, ← HRR.out]
                rfl
              · have hkn2 : k + dn ≤ b.size := by have := HSZ.out; have := HOL.out; omega
                have hzd : ((dn : Int) == 0) = false := by simp; omega
                have hdn1 : 1 ≤ dn := by omega
                have HRR : Hid (unqL (b.data.toList.drop (k + dn)) (out ++ (b.data.toList.drop k).take dn) (k + dn) = RES) := Lib.hid (by rw [← HR.out, HSS.out, if_neg (by omega), List.drop_drop])
                have HOO : Hid ((out ++ (b.data.toList.drop k).take dn).length ≤ k + dn) := Lib.hid (by rw [List.length_append]; have := HO.out; have := List.length_take_le dn (b.data.toList.drop k); omega)
                have HX2 : Hid ((b.extract k (k + dn)).data.toList = (b.data.toList.drop k).take dn) := Lib.hid (by rw [Lib.extract_data, show k + dn - k = dn by omega])
                have HESZ : Hid ((b.extract k (k + dn)).size ≤ dn) := Lib.hid (by
                  rw [Lib.size_eq, HX2.out]; exact List.length_take_le _ _)
                have hsl : ∀ W, (Instr.slice 9 (.string b) (some (.int .i64 (k : Nat))) (some (.int .i64 ((k : Int) + (dn : Int)))) none).run Tryd.prog W = .ok (.string (b.extract k (k + dn))) W := fun W => run_slice_str (P := Tryd.prog) W 9 b Tryd.underlying9 .i64 .i64 k (k + dn) _ _ rfl (by omega) (by omega) (by omega)
                clear hdn c32
                go_wp2_with (at_builtin; refine wpList_r4 rfl (.tmp 54) (.tmp 60) rfl w.heap.size A cc out rfl HOWN.out _ rfl _ HX2.out (by have h1 := HO.out; have h2 := HESZ.out; omega) HB.out.size ?_; intro A5 c5 w5 h5 hg5; have HOWN5 := Lib.hid h5; have HB5 := Lib.hid (HB.out.grown hg5 HB.out.size (fun g e => (HOWN.out.lt g e).1)); clear h5 hg5)
                go_roundg (b.size - (k + dn))
                case rel => exact ⟨k + dn, _, A5, c5, by omega, by go_num, by rw [List.length_append, List.length_take, List.length_drop, HSZ.out], HOWN5, HB5, HRR, HOO⟩
                case measure => omega
  · have hxz : ((x.toNat : Int) != 34) = true := by simp; omega
    have HE := Lib.hid (unquoteL_end (l := b.data.toList) (n := n) (by have := HSZ.out; omega) (.inr (by rw [HX.out]; exact h34)))
    clear h34
    go_enter Tryd.func9, Tryd.ntmps9
    go_wp2_with fail
    go_ret3
    exact ⟨by rw [HE.out]; rfl, Below.refl _ _⟩
end Go.Proofs.YtffamppgnooaeaaDoor
