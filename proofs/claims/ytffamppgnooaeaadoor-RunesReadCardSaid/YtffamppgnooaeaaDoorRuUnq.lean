/- runes.Unquote. -/
import Derived.Test.YtffamppgnooaeaaDoorRuEsc3
namespace Go.Proofs.YtffamppgnooaeaaDoor
open Go.RowKit Go.Lib
set_option linter.unusedVariables false
set_option linter.unusedSimpArgs false

theorem Bu.below {B b : Nat} {bs : List Value} {w w' : World} (h : Bu B b bs w) (hb : Below w.heap.size w w') : Bu B b bs w' := by
  have key : ∀ p, Lib.BuilderAt 39 5 B b p bs w → Lib.BuilderAt 39 5 B b p bs w' := by
    rintro p ⟨h1, v, h2, h3, h4⟩
    refine ⟨h1, v, (hb.block b (Array.getElem?_eq_some_iff.1 h2).1).trans h2, ?_, h4⟩
    exact h3.kept (row := none) ⟨hb.os, hb.tape, hb.output, hb.size, fun k hk _ => hb.block k hk⟩ (by
      rcases h3.2 with ⟨rfl, _⟩ | ⟨g, cap, cur, rfl, _⟩
      · exact .inl rfl
      · exact .inr (by simp [Value.ownBlock]))
  rcases h with h | h
  · exact .inl (key _ h)
  · exact .inr (key _ h)
theorem uB_len (r : Nat) : (uB r).length ≤ 4 := by unfold uB; repeat' split
                                                   all_goals simp
theorem escL_len (l : List UInt8) : (escL l).1.length ≤ (escL l).2 := by
  unfold escL
  split
  · simp
  · simp only
    repeat' split
    all_goals first
      | (simp only [List.length_cons, List.length_nil]; omega)
      | (simp only; have := uB_len ‹Nat›; omega)
      | (unfold pairL; repeat' split
         all_goals first
          | (simp only [List.length_nil]; omega)
          | (simp only; exact Nat.le_trans (uB_len _) (by omega)))
theorem decodeGo_eq {s : ByteArray} {l : List UInt8} (hs : s.data.toList = l) (hne : l ≠ []) : Lib.decodeGo s = decodeL l := by
  subst hs
  have h0 : s.size ≠ 0 := by
    rw [Lib.size_eq]; intro h; exact hne (List.eq_nil_of_length_eq_zero h)
  show (if s.size = 0 then _ else Utf8.decode s 0) = _
  rw [if_neg h0]
  rfl
def UnqP (l : List UInt8) (i : Int) (w : World) (e : Ending) (w' : World) : Prop := e = .returned (.tuple #[.string ⟨(unquoteL l i).1.toArray⟩, .int .i64 (unquoteL l i).2.1, .int .i64 (unquoteL l i).2.2]) ∧ Below w.heap.size w w'
theorem unquoteL_out {l : List UInt8} {i : Int} (h : i < 0 ∨ (l.length : Int) < i) : unquoteL l i = ([], 0, 2) := by unfold unquoteL; rw [if_pos h]
theorem unquoteL_end {l : List UInt8} {n : Nat} (h : n ≤ l.length) (h2 : n = l.length ∨ nb l n ≠ 34) : unquoteL l (n : Int) = ([], (n : Int), 10) := by
  unfold unquoteL
  rw [if_neg (by omega), if_pos (by rcases h2 with h2 | h2; · left; omega
                                    · right; simpa using h2)]
theorem unquoteL_go {l : List UInt8} {n : Nat} (h : n < l.length) (h2 : nb l n = 34) : unquoteL l (n : Int) = ((unqL (l.drop (n + 1)) [] (n + 1)).1, (((unqL (l.drop (n + 1)) [] (n + 1)).2.1 : Nat) : Int), (((unqL (l.drop (n + 1)) [] (n + 1)).2.2 : Nat) : Int)) := by
  unfold unquoteL
  rw [if_neg (by omega), if_neg (by
    rintro (h3 | h3)
    · omega
    · exact h3 (by simpa using h2))]
  rfl
theorem unq_end {l out : List UInt8} {k : Nat} (h : l.length ≤ k) : unqL (l.drop k) out k = ([], k, 10) := by rw [List.drop_of_length_le h]; rfl
theorem drop_ne {l : List UInt8} {k : Nat} (h : k < l.length) : l.drop k ≠ [] := by
  intro e; have := congrArg List.length e; rw [List.length_drop] at this; simp at this; omega
set_option maxRecDepth 100000 in
set_option maxHeartbeats 4000000 in
theorem unquote_any (b : ByteArray) (i : Int) (hi1 : -9223372036854775808 ≤ i) (hi2 : i ≤ 9223372036854775807) (hb : b.size ≤ 30000) (w : World) (hv : Vars w) :
    Calls Tryd.prog 8 #[.string b, .int .i64 i] w (UnqP b.data.toList i w) := by
  have HSZ := Lib.hid (Lib.size_eq b)
  have HV := Lib.hid hv
  clear hv
  by_cases ho : i < 0 ∨ (b.size : Int) < i
  · have HE := Lib.hid (unquoteL_out (l := b.data.toList) (i := i) (by have := HSZ.out; omega))
    rcases ho with ho | ho
    all_goals
      go_enter Tryd.func8, Tryd.ntmps8
      go_wp2_with fail
      go_ret3
      exact ⟨by rw [HE.out]; rfl, Below.refl _ _⟩
  obtain ⟨n, rfl⟩ : ∃ n : Nat, i = (n : Int) := ⟨i.toNat, by omega⟩
  have hns : n ≤ b.size := by omega
  clear ho hi1 hi2
  by_cases hend : n = b.size
  · have HE := Lib.hid (unquoteL_end (l := b.data.toList) (n := n) (by have := HSZ.out; omega) (.inl (by have := HSZ.out; omega)))
    have hq : ((n : Int) == (b.size : Int)) = true := by simp [hend]
    have hq2 : (n == b.size) = true := by simp [hend]
    clear hend
    go_enter Tryd.func8, Tryd.ntmps8
    go_wp2_with fail
    go_ret3
    exact ⟨by rw [HE.out]; rfl, Below.refl _ _⟩
  have hlt0 : n < b.size := by omega
  have hq : ((n : Int) == (b.size : Int)) = false := by simp; omega
  have hq2 : (n == b.size) = false := by simpa using hend
  clear hend
  obtain ⟨x, hx⟩ : ∃ x, b[n] = x := ⟨_, rfl⟩
  have HX : Hid (nb b.data.toList n = x.toNat) := Lib.hid (by unfold nb; rw [List.getD_eq_getElem?_getD, Lib.data_getElem? b n hlt0, hx]; rfl)
  by_cases h34 : x.toNat = 34
  · have hxz : ((x.toNat : Int) != 34) = false := by simp [h34]
    have HU := Lib.hid (unquoteL_go (l := b.data.toList) (n := n) (by have := HSZ.out; omega) (by rw [HX.out]; exact h34))
    obtain ⟨RES, hRES⟩ : ∃ RES, unqL (b.data.toList.drop (n + 1)) [] (n + 1) = RES := ⟨_, rfl⟩
    rw [hRES] at HU
    have HRES := Lib.hid hRES
    have hd1 : decide (b.size < n) = false := decide_eq_false (by omega)
    have hd2 : decide ((n : Int) < 0) = false := decide_eq_false (by omega)
    have hd3 : decide ((b.size : Int) < (n : Int)) = false := decide_eq_false (by omega)
    clear h34 hRES
    go_enter Tryd.func8, Tryd.ntmps8
    go_wp2_with fail
    have hbu : Bu w.heap.size w.heap.size (Lib.byteCells []) (w.alloc (.cells #[.pointer none, .slice none 0 0] 39)) := Lib.fresh_isBuilder _ _ w
    have HBU := Lib.hid hbu
    have HB0 := Lib.hid ((Below.refl _ w).alloc (Nat.le_refl _) (.cells #[.pointer none, .slice none 0 0] 39))
    clear hbu
    generalize w.alloc (.cells #[.pointer none, .slice none 0 0] 39) = w1 at HBU HB0 ⊢
    go_loopg [1] (b.size - (n + 1)) (fun gk q wr => ∃ (k : Nat) (out : List UInt8), k + gk = b.size ∧ q = .int .i64 (k : Nat) ∧ Hid (Bu w.heap.size w.heap.size (Lib.byteCells out) wr) ∧ Hid (Below w.heap.size w wr) ∧ Hid (unqL (b.data.toList.drop k) out k = RES) ∧ Hid (out.length ≤ k))
    case atStart => exact ⟨n + 1, [], by omega, by go_num, HBU, HB0, Lib.hid HRES.out, Lib.hid (Nat.zero_le _)⟩
    case round =>
      obtain ⟨k, out, hk, rfl, HBK, HB, HR, HO⟩ := hrel
      obtain ⟨W, hW⟩ : ∃ W, W = wr := ⟨_, rfl⟩
      subst hW
      have HVW := Lib.hid (HV.out.below HB.out)
      cases gk with
      | zero =>
        have hkn : ¬ (k : Int) < (b.size : Int) := by omega
        go_wp2_with fail
        go_ret3
        refine ⟨?_, HB.out⟩
        have hr := HR.out
        rw [unq_end (by have := HSZ.out; omega)] at hr
        rw [HU.out, ← hr, show k = b.size by omega]
        rfl
      | succ g =>
        have hlt : k < b.size := by omega
        obtain ⟨c, hc⟩ : ∃ c, b[k] = c := ⟨_, rfl⟩
        have HC : Hid (nb b.data.toList k = c.toNat) := Lib.hid (by unfold nb; rw [List.getD_eq_getElem?_getD, Lib.data_getElem? b k hlt, hc]; rfl)
        have HST := Lib.hid (unqL_step (b.data.toList.drop k) out k (drop_ne (by have := HSZ.out; omega)))
        have HN0 : Hid (nb (b.data.toList.drop k) 0 = c.toNat) := Lib.hid (by rw [nb_drop, Nat.add_zero]; exact HC.out)
        by_cases c34 : c.toNat = 34
        · have hz : ((c.toNat : Int) == 34) = true := by simp [c34]
          have HRR : Hid ((out, k + 1, 0) = RES) := Lib.hid (by rw [← HR.out, HST.out, if_pos (by rw [HN0.out]; exact c34)])
          clear c34
          go_wp2_with fail
          refine (bu_read _ _ out _ HBK.out HB.out.size).mono ?_
          rintro e w4 ⟨rfl, hb4⟩
          have HB4 := Lib.hid (HB.out.trans hb4)
          clear hb4
          go_wp2_with fail
          go_ret3
          refine ⟨?_, HB4.out⟩
          rw [HU.out, ← HRR.out]
          rfl
        · have hz : ((c.toNat : Int) == 34) = false := by simp; omega
          have C34 := Lib.hid c34
          clear c34
          by_cases c92 : c.toNat = 92
          · have hz2 : ((c.toNat : Int) == 92) = true := by simp [c92]
            have HEL := Lib.hid (escL_le (b.data.toList.drop k))
            have HEN := Lib.hid (escL_len (b.data.toList.drop k))
            have HSS : Hid (unqL (b.data.toList.drop k) out k = if (escL (b.data.toList.drop k)).2 = 0 then ([], k, 10) else unqL ((b.data.toList.drop k).drop (escL (b.data.toList.drop k)).2) (out ++ (escL (b.data.toList.drop k)).1) (k + (escL (b.data.toList.drop k)).2)) := Lib.hid (by rw [HST.out, if_neg (by rw [HN0.out]; exact C34.out), if_pos (by rw [HN0.out]; exact c92)])
            have HES := Lib.hid (escape_any b k hb (by omega) (by rw [HC.out]; exact c92) W HVW.out)
            clear c92
            go_wp2_with fail
            refine HES.out.mono ?_
            rintro e w4 ⟨rfl, hb4⟩
            have HBK4 := Lib.hid (HBK.out.below hb4)
            have HB4 := Lib.hid (HB.out.trans (hb4.mono HB.out.size))
            clear hb4 HES
            rcases hee : escL (b.data.toList.drop k) with ⟨eo, en⟩
            rw [hee] at HSS HEL HEN
            rw [List.length_drop] at HEL
            simp only at HSS HEL HEN ⊢
            clear hee
            by_cases hen : en = 0
            · have hz3 : ((en : Int) == 0) = true := by simp [hen]
              have HRR : Hid (([], k, 10) = RES) := Lib.hid (by rw [← HR.out, HSS.out, if_pos hen])
              clear hen
              go_wp2_with fail
              go_ret3
              refine ⟨?_, HB4.out⟩
              rw [HU.out, ← HRR.out]
              rfl
            · have hz3 : ((en : Int) == 0) = false := by simp; omega
              have HRR : Hid (unqL (b.data.toList.drop (k + en)) (out ++ eo) (k + en) = RES) := Lib.hid (by rw [← HR.out, HSS.out, if_neg hen, List.drop_drop])
              have hen1 : 1 ≤ en := by omega
              have hen2 : k + en ≤ b.size := by have := HEL.out; have := HSZ.out; omega
              have HOO : Hid ((out ++ eo).length ≤ k + en) := Lib.hid (by rw [List.length_append]; have := HO.out; have := HEN.out; omega)
              clear hen
              go_wp2_with fail
              refine (bu_many _ _ out ⟨eo.toArray⟩ _ HBK4.out (by have h1 := HOO.out; rw [List.length_append] at h1; show out.length + eo.toArray.size ≤ _; rw [List.size_toArray]; omega) HB4.out.size).mono ?_
              rintro e w5 ⟨rfl, h5, hb5⟩
              have HBK5 := Lib.hid h5
              have HB5 := Lib.hid (HB4.out.trans hb5)
              clear h5 hb5
              go_wp2_with fail
              go_roundg (b.size - (k + en))
              case rel => exact ⟨k + en, out ++ eo, by omega, by go_num, HBK5, HB5, HRR, HOO⟩
              case measure => omega
          · have hz2 : ((c.toNat : Int) == 92) = false := by simp; omega
            have C92 := Lib.hid c92
            clear c92
            have HSS : Hid (unqL (b.data.toList.drop k) out k = if c.toNat < 32 ∨ (oneL (b.data.toList.drop k)).2 = 0 then ([], k, 10) else unqL ((b.data.toList.drop k).drop (oneL (b.data.toList.drop k)).2) (out ++ (b.data.toList.drop k).take (oneL (b.data.toList.drop k)).2) (k + (oneL (b.data.toList.drop k)).2)) := Lib.hid (by
              rw [HST.out, if_neg (by rw [HN0.out]; exact C34.out), if_neg (by rw [HN0.out]; exact C92.out), HN0.out])
            have hsx : (b.extract k b.size).data.toList = b.data.toList.drop k := Lib.extract_to_end b k
            have HOD := Lib.hid (oneL_decode (b.data.toList.drop k) (drop_ne (by have := HSZ.out; omega)))
            have HDE := Lib.hid (decode_any (b.extract k b.size) W HVW.out.u8)
            rw [decodeGo_eq hsx (drop_ne (by have := HSZ.out; omega))] at HDE
            clear hsx
            go_wp2_with fail
            refine HDE.out.mono ?_
            rintro e w4 ⟨rfl, hb4⟩
            have HBK4 := Lib.hid (HBK.out.below hb4)
            have HB4 := Lib.hid (HB.out.trans (hb4.mono HB.out.size))
            clear hb4 HDE
            rcases hdd : decodeL (b.data.toList.drop k) with ⟨dr, dn⟩
            rcases hoo : oneL (b.data.toList.drop k) with ⟨o1, o2⟩
            rw [hdd, hoo] at HOD
            rw [hoo] at HSS
            simp only at HOD HSS ⊢
            clear hdd hoo
            by_cases c32 : c.toNat < 32
            · have HRR : Hid (([], k, 10) = RES) := Lib.hid (by rw [← HR.out, HSS.out, if_pos (.inl c32)])
              clear HOD
              go_wp2_with fail
              go_ret3
              refine ⟨?_, HB4.out⟩
              rw [HU.out, ← HRR.out]
              rfl
            · rcases HOD.out with ⟨h1, h2⟩ | ⟨h1, h2, h3, h4⟩
              · injection h2 with h2 h3
                subst h1 h2 h3
                have HRR : Hid (([], k, 10) = RES) := Lib.hid (by rw [← HR.out, HSS.out, if_pos (.inr rfl)])
                clear HOD
                go_wp2_with fail
                go_ret3
                refine ⟨?_, HB4.out⟩
                rw [HU.out, ← HRR.out]
                rfl
              · injection h3 with h3 h5
                subst h3 h5
                rw [List.length_drop] at h2
                have hkn2 : k + dn ≤ b.size := by have := HSZ.out; omega
                have HRR : Hid (unqL (b.data.toList.drop (k + dn)) (out ++ (b.data.toList.drop k).take dn) (k + dn) = RES) := Lib.hid (by rw [← HR.out, HSS.out, if_neg (by omega), List.drop_drop])
                have HOO : Hid ((out ++ (b.data.toList.drop k).take dn).length ≤ k + dn) := Lib.hid (by rw [List.length_append]; have := HO.out; have := List.length_take_le dn (b.data.toList.drop k); omega)
                have HX2 : Hid ((b.extract k (k + dn)).data.toList = (b.data.toList.drop k).take dn) := Lib.hid (by rw [Lib.extract_data, show k + dn - k = dn by omega])
                have hes : (b.extract k (k + dn)).size ≤ dn := by
                  rw [Lib.size_eq, HX2.out]; exact List.length_take_le _ _
                have HESZ := Lib.hid hes
                have hsl : ∀ W, (Instr.slice 9 (.string b) (some (.int .i64 (k : Nat))) (some (.int .i64 ((k : Int) + (dn : Int)))) none).run Tryd.prog W = .ok (.string (b.extract k (k + dn))) W := fun W => run_slice_str (P := Tryd.prog) W 9 b Tryd.underlying9 .i64 .i64 k (k + dn) _ _ rfl (by omega) (by omega) (by omega)
                have HH4 := Lib.hid h4
                clear HOD hes h2 h4
                by_cases hfd : dr = 65533
                · have hdn2 : 2 ≤ dn := by have := HH4.out; omega
                  have hz4 : ((dr : Int) == 65533) = true := by simp [hfd]
                  clear hfd
                  go_wp2_with fail
                  refine (bu_many _ _ out (b.extract k (k + dn)) _ HBK4.out (by have h1 := HO.out; have h2 := HESZ.out; omega) HB4.out.size).mono ?_
                  rintro e w5 ⟨rfl, h5, hb5⟩
                  rw [HX2.out] at h5
                  have HBK5 := Lib.hid h5
                  have HB5 := Lib.hid (HB4.out.trans hb5)
                  generalize ((b.extract k (k + dn)).size : Int) = esz
                  clear h5 hb5
                  go_wp2_with fail
                  go_roundg (b.size - (k + dn))
                  case rel => exact ⟨k + dn, _, by omega, by go_num, HBK5, HB5, HRR, HOO⟩
                  case measure => omega
                · have hz4 : ((dr : Int) == 65533) = false := by simp; omega
                  clear hfd
                  go_wp2_with fail
                  refine (bu_many _ _ out (b.extract k (k + dn)) _ HBK4.out (by have h1 := HO.out; have h2 := HESZ.out; omega) HB4.out.size).mono ?_
                  rintro e w5 ⟨rfl, h5, hb5⟩
                  rw [HX2.out] at h5
                  have HBK5 := Lib.hid h5
                  have HB5 := Lib.hid (HB4.out.trans hb5)
                  generalize ((b.extract k (k + dn)).size : Int) = esz
                  clear h5 hb5
                  go_wp2_with fail
                  go_roundg (b.size - (k + dn))
                  case rel => exact ⟨k + dn, _, by omega, by go_num, HBK5, HB5, HRR, HOO⟩
                  case measure => omega
  · have hxz : ((x.toNat : Int) != 34) = true := by simp; omega
    have HE := Lib.hid (unquoteL_end (l := b.data.toList) (n := n) (by have := HSZ.out; omega) (.inr (by rw [HX.out]; exact h34)))
    clear h34
    go_enter Tryd.func8, Tryd.ntmps8
    go_wp2_with fail
    go_ret3
    exact ⟨by rw [HE.out]; rfl, Below.refl _ _⟩
end Go.Proofs.YtffamppgnooaeaaDoor
