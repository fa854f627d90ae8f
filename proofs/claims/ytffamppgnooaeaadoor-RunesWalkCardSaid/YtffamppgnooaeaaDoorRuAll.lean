/- runes.All: the iterator's contract. -/
import Derived.Test.YtffamppgnooaeaaDoorRuUnq
import Derived.Test.YtffamppgnooaeaaDoorRange
namespace Go.Proofs.YtffamppgnooaeaaDoor
open Go.RowKit Go.Lib
attribute [local go_sem] Oper.semAt_some
set_option linter.unusedVariables false
set_option linter.unusedSimpArgs false

theorem run_eql_func_nil {P : Program} (w : World) {t : TypeId} {as' rs : Array TypeId} {b : Bool} (h : P.underlying t = some (.func as' rs b)) (f : Fn) (x y : Array Value) :
    (binOp .eql t (.func f x y) .nilFunc).run P w = .ok (.bool false) w := by
  have h1 : ∀ d : Nat, (Op.equalIn (d + 1) t (.func f x y) .nilFunc).run P w = .ok false w := fun d => by simp [Op.equalIn, run_underlying h]
  simp only [binOp]
  simp [Op.equal, Op.maxDepth, h1 9999]
theorem all_any (s : ByteArray) (w : World) :
    Calls Tryd.prog 12 #[.string s] w fun e w' => e = .returned (.func (.func 22) #[] #[.pointer (some ⟨w.heap.size, 0, none⟩)]) ∧ w' = w.alloc (.cells #[.string s] 9) := by
  go_enter Tryd.func12, Tryd.ntmps12
  go_wp2
  go_ret
  exact ⟨rfl, rfl⟩
/-- a rune as it is handed to a round -/
structure Rn where
  pos : Nat
  r : Nat
  n : Nat
def Rn.enc (x : Rn) : Array Value := #[.int .i64 x.pos, .int .i64 x.r]
/-- where the runes end -/
def endR (xs : List Rn) : Nat := (xs.map (·.n)).sum
theorem endR_snoc (xs : List Rn) (x : Rn) : endR (xs ++ [x]) = endR xs + x.n := by unfold endR; simp
structure RnV (l : List UInt8) (pre : List Rn) (x : Rn) : Prop where
  pos : x.pos = endR pre
  one : oneL (l.drop x.pos) = (x.r, x.n)
  n1 : 1 ≤ x.n
  le : x.pos + x.n ≤ l.length
theorem oneL_lt (l : List UInt8) (h : 1 ≤ (oneL l).2) : (oneL l).1 < 1114112 := by
  rcases hne : l with _ | ⟨c, r⟩
  · rw [hne] at h; simp [oneL, oneN] at h
  · rw [← hne]
    have hl : 1 ≤ l.length := by rw [hne]; simp
    unfold oneL oneN at h ⊢
    have h0 := nb_lt l 0
    have h1 := nb_lt l 1
    have h2 := nb_lt l 2
    have h3 := nb_lt l 3
    split at h
    · omega
    · split at h
      · rename_i a b; rw [if_neg a, if_pos b]; simp only; omega
      · split at h
        · rename_i a b c
          rw [if_neg a, if_neg b, if_pos c]
          split at h
          · simp at h
          · rename_i d; rw [if_neg d]; simp only; omega
        · split at h
          · rename_i a b c e
            rw [if_neg a, if_neg b, if_neg c, if_pos e]
            split at h
            · simp at h
            · rename_i d; rw [if_neg d]; simp only; omega
          · split at h
            · rename_i a b c e f
              rw [if_neg a, if_neg b, if_neg c, if_neg e, if_pos f]
              split at h
              · simp at h
              · rename_i d; rw [if_neg d]; simp only; omega
            · simp at h
set_option maxRecDepth 100000 in
set_option maxHeartbeats 4000000 in
theorem all_iter (Bs : Nat) (s : ByteArray) (hs : s.size ≤ 2000) (w : World) (D : Nat) (hD : D ≤ w.heap.size) (hbs : Boxed w Bs 9 (.string s)) (hBs : Bs < D)
    (w0 : World) (hD0 : w0.heap.size ≤ D) (hbel : Below w0.heap.size w0 w) (hu : U8 w0) :
    Iter Tryd.prog 22 #[.pointer (some ⟨Bs, 0, none⟩)] Rn.enc (· < D) (fun pre x _ => RnV s.data.toList pre x) (fun xs => endR xs ≤ s.size ∧ (oneL (s.data.toList.drop (endR xs))).2 = 0) (fun _ => True) w := by
  intro m lp J Jx W hW hJ hJx hY h0
  have HSZ := Lib.hid (Lib.size_eq s)
  have HBS := Lib.hid (boxBel hbs hW)
  have hcs := (boxBel hbs hW).cell
  have HY := Lib.hid hY
  have HJ := Lib.hid hJ
  have H0 := Lib.hid h0
  have HU := Lib.hid hu
  have HBW : Hid (Below w0.heap.size w0 W) := Lib.hid (hbel.trans (hW.mono (Nat.le_trans hD0 hD)))
  have hDW : D ≤ W.heap.size := Nat.le_trans hD hW.size
  clear hbs hbel hY hJ hW hJx h0 hu
  refine callsIn_of_wp Tryd.func22 rfl trivial ?_
  simp only [Tryd.ntmps22, List.size_toArray, List.length_cons, List.length_nil, Nat.reduceAdd, Nat.reduceSub, Array.replicate_succ, Array.replicate_zero, List.push_toArray, List.append_toArray, List.nil_append, List.cons_append]
  gi_wp2
  gi_loopw [3] (fun p wr => ∃ pre : List Rn, p = .int .i64 (endR pre : Nat) ∧ endR pre ≤ s.size ∧ Hid (Keeps (· < D) W wr) ∧ Hid (J pre wr))
    (fun p _ => s.size - (RowKit.intOf p).toNat)
  case atStart => exact ⟨[], rfl, Nat.zero_le _, Lib.hid (Keeps.refl _ _), H0⟩
  case round =>
    obtain ⟨pre, rfl, hle, HKP, HJP⟩ := hrel
    clear hcs
    have hcs : wr.cell? ⟨Bs, 0, none⟩ = some (.string s) := Boxed.cell (t := 9) ((HKP.out.block _ hBs).trans HBS.out)
    obtain ⟨z, hz⟩ : ∃ z, endR pre = z := ⟨_, rfl⟩
    rw [hz] at hle ⊢
    have HZ := Lib.hid hz
    clear hz
    have HBR : Hid (Below w0.heap.size w0 wr) := Lib.hid (HBW.out.trans ⟨HKP.out.os, HKP.out.tape, HKP.out.output, HKP.out.size, fun q hq => HKP.out.block q (by omega)⟩)
    by_cases hlt : z < s.size
    · have hsx : (s.extract z s.size).data.toList = s.data.toList.drop z := Lib.extract_to_end s z
      have HOD := Lib.hid (oneL_decode (s.data.toList.drop z) (drop_ne (by have := HSZ.out; omega)))
      have HDE := Lib.hid (decode_any (s.extract z s.size) wr (HU.out.below HBR.out))
      rw [decodeGo_eq hsx (drop_ne (by have := HSZ.out; omega))] at HDE
      clear hsx
      gi_wp2_with fail
      refine ⟨trivial, (fun h => by cases h), (callsIn_wide.2 HDE.out).mono ?_⟩
      rintro e w4 ⟨rfl, hb4⟩
      have hk4 : Keeps (· < D) wr w4 := Keeps.of_below hb4 (fun q hq => Nat.lt_of_lt_of_le hq (Nat.le_trans hDW HKP.out.size))
      have HKP4 := Lib.hid (HKP.out.trans hk4)
      have HJ4 := Lib.hid (HJ.out pre wr w4 HJP.out hb4)
      clear hb4 hk4 HDE hcs
      rcases hdd : decodeL (s.data.toList.drop z) with ⟨dr, dn⟩
      rcases hoo : oneL (s.data.toList.drop z) with ⟨o1, o2⟩
      have HOO := Lib.hid hoo
      rw [hdd, hoo] at HOD
      simp only at HOD ⊢
      clear hdd hoo
      rcases HOD.out with ⟨h1, h2⟩ | ⟨h1, h2, h3, h4⟩
      · injection h2 with h2 h3
        subst h1 h2 h3
        clear HOD
        gi_wp2_with fail
        refine ⟨(fun f h => by cases h), ?_⟩
        gi_wp2_with fail
        refine bodyPost_ret (results_none rfl _ _ _) rfl ?_
        exact ⟨⟨_, rfl⟩, .inl ⟨pre, ⟨by rw [HZ.out]; omega, by rw [HZ.out, HOO.out]⟩, HJ4.out⟩⟩
      · injection h3 with h3 h5
        subst h3 h5
        clear HOD
        rw [List.length_drop] at h2
        have hzn : z + dn ≤ s.size := by have := HSZ.out; omega
        have hrl : dr < 1114112 := by have := oneL_lt (s.data.toList.drop z) (by rw [HOO.out]; exact h1); rw [HOO.out] at this; exact this
        have hvv : RnV s.data.toList pre ⟨z, dr, dn⟩ := ⟨HZ.out.symm, HOO.out, h1, by have := HSZ.out; show z + dn ≤ _; omega⟩
        obtain ⟨fn, tmps, assign, body, hy, hR⟩ := HY.out pre _ w4 HJ4.out hvv
        dsimp only [Rn.enc] at hy
        clear hvv h2
        have h6 : dr ≠ 65533 ∨ (dr = 65533 ∧ 2 ≤ dn) := by omega
        clear h4
        rcases h6 with h6 | ⟨h6, h7⟩
        · have hq : ((dr : Int) == 65533) = false := by simp; omega
          clear h6
          gi_wp2_with fail
          refine ⟨(fun h => by cases h), hR.mono ?_⟩
          rintro e w3 (⟨rfl, hj3, hk3⟩ | ⟨rfl, hjx3⟩)
          · have HJ3 := Lib.hid hj3
            have HK3 := Lib.hid (HKP4.out.trans hk3)
            clear hj3 hk3 hR hy
            gi_wp2
            go_roundw
            case rel => exact ⟨pre ++ [⟨z, dr, dn⟩], by rw [endR_snoc, HZ.out]; rfl, by rw [endR_snoc, HZ.out]; exact hzn, HK3, HJ3⟩
            case measure => simp [RowKit.intOf]; omega
          · gi_wp2
            refine bodyPost_ret (results_none rfl _ _ _) rfl ?_
            exact ⟨⟨_, rfl⟩, .inr ⟨_, trivial, hjx3⟩⟩
        · have hq : ((dr : Int) == 65533) = true := by simp; omega
          clear h6
          gi_wp2_with fail
          refine ⟨(fun h => by cases h), hR.mono ?_⟩
          rintro e w3 (⟨rfl, hj3, hk3⟩ | ⟨rfl, hjx3⟩)
          · have HJ3 := Lib.hid hj3
            have HK3 := Lib.hid (HKP4.out.trans hk3)
            clear hj3 hk3 hR hy
            gi_wp2
            go_roundw
            case rel => exact ⟨pre ++ [⟨z, dr, dn⟩], by rw [endR_snoc, HZ.out]; rfl, by rw [endR_snoc, HZ.out]; exact hzn, HK3, HJ3⟩
            case measure => simp [RowKit.intOf]; omega
          · gi_wp2
            refine bodyPost_ret (results_none rfl _ _ _) rfl ?_
            exact ⟨⟨_, rfl⟩, .inr ⟨_, trivial, hjx3⟩⟩
    · gi_wp2
      go_end0
      refine ⟨⟨_, rfl⟩, .inl ⟨pre, ⟨by rw [HZ.out]; omega, ?_⟩, HJP.out⟩⟩
      rw [HZ.out, List.drop_of_length_le (by have := HSZ.out; omega)]
      rfl
end Go.Proofs.YtffamppgnooaeaaDoor
