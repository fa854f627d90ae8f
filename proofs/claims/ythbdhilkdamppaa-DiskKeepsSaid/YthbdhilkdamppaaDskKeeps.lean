/- The law DiskKeeps. -/
import Derived.Test.YthbdhilkdamppaaDskPlays
namespace Go.Proofs.Ythbdhilkdamppaa
open Go.RowKit
set_option linter.unusedVariables false
set_option linter.unusedSimpArgs false

/-- the disk, and what is wanted of it -/
structure KeepJ (w : World) (q : Nat) (ra : Option Nat) (s : DS) (A : Option Addr) (m c : Nat) (bs : List UInt8) (W : World) : Prop where
  dk : Dk 44 w.heap.size W q ra s
  want : Ow W w.heap.size 5 1 A m c (bv bs)
  sep : ∀ g, blk A = some g → ra ≠ some g
  bel : Below w.heap.size w W

theorem KeepJ.below {w W W' : World} {q : Nat} {ra : Option Nat} {s : DS} {A : Option Addr} {m c : Nat} {bs : List UInt8} (h : KeepJ w q ra s A m c bs W) (hb : Below W.heap.size W W') : KeepJ w q ra s A m c bs W' :=
  ⟨h.dk.below hb, h.want.below hb, h.sep, h.bel.trans (hb.mono h.bel.size)⟩
theorem KeepJ.ne {w W : World} {q : Nat} {ra : Option Nat} {s : DS} {A : Option Addr} {m c : Nat} {bs : List UInt8} (h : KeepJ w q ra s A m c bs W) : blk A ≠ some q := by
  obtain ⟨A', c', hb, _⟩ := h.dk.blk
  exact h.want.ne_blk hb (by decide)
theorem KeepJ.op {w W W' : World} {q : Nat} {ra : Option Nat} {s s' : DS} {A : Option Addr} {m c : Nat} {bs : List UInt8} (h : KeepJ w q ra s A m c bs W) (hS : DStep 44 w.heap.size q ra s' W W') : ∃ ra', KeepJ w q ra' s' A m c bs W' := by
  have hb := hS.below h.dk
  have hne := h.ne
  obtain ⟨⟨ra', hk, hr⟩, ho⟩ := hS
  refine ⟨ra', hk, h.want.only ho (fun g hg hf => ?_), fun g hg hg' => ?_, h.bel.trans hb⟩
  · rcases hf with rfl | hf
    · exact hne hg
    · exact h.sep g hg hf.symm
  · rcases hr g hg' with h1 | h1
    · exact h.sep g hg h1
    · have := (h.want.lt hg).2; omega
theorem KeepJ.app {w W W' : World} {q : Nat} {ra : Option Nat} {s : DS} {A A' : Option Addr} {m m' c c' : Nat} {bs bs' : List UInt8} (h : KeepJ w q ra s A m c bs W) (ho : Ow W' w.heap.size 5 1 A' m' c' (bv bs')) (hg : W.grownBy W' (blk A)) (hA : A' = A ∨ A' = some ⟨W.heap.size, 0, none⟩) : KeepJ w q ra s A' m' c' bs' W' := by
  have hne := h.ne
  refine ⟨h.dk.only (Only.of_grown hg) (fun e => hne e.symm) (fun g h1 e => h.sep g e.symm h1), ho, fun g h1 h2 => ?_, h.bel.grown hg h.bel.size (fun g e => (h.want.lt e).1)⟩
  rcases hA with rfl | rfl
  · exact h.sep g h1 h2
  · injection h1 with h1
    have := (h.dk.lt.2 g h2).2
    simp only at h1
    omega
theorem KeepJ.fresh {w W W' : World} {q : Nat} {ra : Option Nat} {s : DS} {A A' : Option Addr} {m m' c c' : Nat} {bs bs' : List UInt8} (h : KeepJ w q ra s A m c bs W) (ho : Ow W' W.heap.size 5 1 A' m' c' (bv bs')) (hb : Below W.heap.size W W') : KeepJ w q ra s A' m' c' bs' W' :=
  ⟨h.dk.below hb, ho.le h.bel.size, fun g h1 h2 => by have := (h.dk.lt.2 g h2).2; have := (ho.lt h1).1; omega, h.bel.trans (hb.mono h.bel.size)⟩
theorem KeepJ.cut {w W : World} {q : Nat} {ra : Option Nat} {s : DS} {A : Option Addr} {m m' c : Nat} {bs : List UInt8} (h : KeepJ w q ra s A m c bs W) (hm : m' ≤ m) : KeepJ w q ra s A m' c (bs.take m') W := by
  have := h.want.cut hm (Nat.le_trans hm h.want.cap) (Nat.le_refl _)
  rw [Nat.mul_one, bv_take] at this
  exact ⟨h.dk, this, h.sep, h.bel⟩

set_option maxRecDepth 100000 in
set_option maxHeartbeats 16000000 in
theorem diskKeeps_walk (w : World) (A : Option Addr) (n c : Nat) (xs : List AV) (hA : Acts w A n c xs) :
    Calls Try.prog 3 #[.slice A n c] w (Yes w) := by
  have hc := hA.cap
  have hm := hA.max
  unfold maxLen at hm
  have HL := Lib.hid hA.len
  have HBf := Lib.hid hA.before
  have HA := Lib.hid hA
  clear hA
  go_enter Try.func3, Try.ntmps3
  go_wp2_with fail
  go_loop [3, 4] (fun z i => ∃ k t : Nat, k ≤ n ∧ k ≤ 101 ∧ t ≤ k * 131072 ∧ i = .int .i64 k ∧ z = .int .i64 t) (fun _ i => n - (intOf i).toNat)
  case atStart => exact ⟨0, 0, Nat.zero_le _, Nat.zero_le _, Nat.zero_le _, rfl, rfl⟩
  case round =>
    obtain ⟨k0, t, hk1, hk2, hk3, rfl, rfl⟩ := hrel
    by_cases hlt : k0 < n
    · by_cases h60 : k0 ≤ 100
      · obtain ⟨x, hx⟩ : ∃ x, xs[k0]? = some x := ⟨_, List.getElem?_eq_getElem (by rw [HL.out]; exact hlt)⟩
        obtain ⟨hf, ad, rfl, -, c1, -⟩ := HA.out.row k0 x hx
        clear hx hf
        by_cases h4 : 131072 < x.b.length
        · go_wp2_with fail
          go_round
          case rel => exact ⟨k0 + 1, t + 131072, by omega, by omega, by omega, by go_num, by go_num⟩
          case measure => simp [intOf]; omega
        · go_wp2_with fail
          go_round
          case rel => exact ⟨k0 + 1, t + x.b.length, by omega, by omega, by omega, by go_num, by go_num⟩
          case measure => simp [intOf]; omega
      · go_wp2_with (go_at_call 7; refine (wakes_any _).mono ?_; rintro e w1 ⟨rfl, HB⟩)
        go_ret
        exact ⟨rfl, HB⟩
    · by_cases hbig : n > 100 ∨ t > 65536
      · go_wp2_with (go_at_call 7; refine (wakes_any _).mono ?_; rintro e w1 ⟨rfl, HB⟩)
        all_goals
          first
          | (exfalso; omega)
          | (go_ret; exact ⟨rfl, HB⟩)
      have g1 : ¬ 100 < n := by omega
      have g3 : ¬ 65536 < t := by omega
      clear hbig hk1 hk2 hk3
      go_wp2_with fail
      refine (dnew_any _).mono ?_
      rintro e w1 ⟨rfl, hb1, hk1⟩
      have HJ : Hid (KeepJ w w.heap.size none DS.new none 0 0 [] w1) := Lib.hid ⟨hk1, Ow.nil _ _ _ _, fun _ e => (by cases e), hb1⟩
      clear hb1 hk1
      go_wp2_with fail
      go_loopw [6, 7, 8, 9] (fun b kp ar i wr => ∃ (k : Nat) (ra : Option Nat) (sb : List UInt8) (sd sa : Bool) (sk : Nat) (A6 : Option Addr) (c6 m6 : Nat), k ≤ n ∧ i = .int .i64 k ∧ b = .slice A6 m6 c6 ∧ kp = .int .i64 sk ∧ ar = .bool sa ∧ sb.length = m6 ∧ (sd = true → sa = false) ∧ KeepJ w w.heap.size ra ⟨sb, sd, sa, sk⟩ A6 m6 c6 sb wr) (fun _ _ _ i _ => n - (intOf i).toNat)
      case atStart => exact ⟨0, none, [], false, false, 0, none, 0, 0, Nat.zero_le _, rfl, rfl, rfl, rfl, rfl, fun h => (by cases h), HJ.out⟩
      case round =>
        obtain ⟨k, ra, sb, sd, sa, sk, A6, c6, m6, hk, rfl, rfl, rfl, rfl, hm6, hsda, hi⟩ := hrel
        have HM6 := Lib.hid hm6
        have hm6l : m6 ≤ 1048576 := by have := hi.dk.len; simp only at this; omega
        have hkp : sk ≤ 9223372036854775807 := hi.dk.keep
        have hc6 := hi.want.cap
        have HI := Lib.hid hi
        have HSDA := Lib.hid hsda
        clear hi hm6 hsda
        by_cases hlt2 : k < n
        · obtain ⟨x, hx⟩ : ∃ x, xs[k]? = some x := ⟨_, List.getElem?_eq_getElem (by rw [HL.out]; exact hlt2)⟩
          have HBX := Lib.hid (HBf.out x (List.mem_of_getElem? hx))
          obtain ⟨hf, ad, rfl, c0, c1, c2⟩ := (HA.out.below HI.out.bel).row k x hx
          clear hx
          obtain ⟨d, X, cx, b, nn⟩ := x
          obtain ⟨hr, hd1, hd2, hn1, hn2⟩ := hf
          simp only at hr hd1 hd2 hn1 hn2 c0 c1 c2
          have HXL0 := Lib.hid (show b.length = b.length from rfl)
          obtain ⟨m, hm0⟩ : ∃ m, b.length = m := ⟨_, rfl⟩
          rw [hm0] at hr c1
          have HXL := Lib.hid hm0
          have hrc := hr.cap
          have hrm := hr.max
          unfold maxLen at hrm
          clear hm0 HXL0
          by_cases q0 : d = 0
          · subst q0
            have HK := Lib.hid (Blk.new wr #[.int .i64 0, .slice X m cx, .int .i64 nn] 25)
            have HJ := Lib.hid (HI.out.below ((Below.refl _ wr).alloc (Nat.le_refl _) (.cells #[.int .i64 0, .slice X m cx, .int .i64 nn] 25)))
            have HR := Lib.hid (hr.alloc (.cells #[.int .i64 0, .slice X m cx, .int .i64 nn] 25))
            have HBX2 : Hid (¬ Ft w.heap.size ra wr.heap.size) := Lib.hid (by
              rintro (h | h)
              · have := HI.out.dk.lt.1; omega
              · have := (HI.out.dk.lt.2 _ h.symm).2; omega)
            clear hr
            have hml : ¬ 1048576 < sb.length + b.length → m6 + m ≤ 1048576 := fun h => by rw [HM6.out, HXL.out] at h; omega
            have HML := Lib.hid hml
            clear hml
            cases sd with
            | true =>
              obtain rfl : sa = false := HSDA.out rfl
              as_aux_lemma =>
                go_wp2_with fail
                refine (ddown_any _ _ _ _ _ HJ.out.dk).mono ?_
                rintro e w' ⟨rfl, rfl⟩
                go_wp2_with fail
                refine (dappend_any _ _ _ _ _ X m cx b HJ.out.dk HR.out).mono ?_
                rintro e w2 ⟨rfl, hS⟩
                rw [show (dAppend ⟨sb, true, false, sk⟩ b).1 = 60 from rfl]
                rw [show (dAppend ⟨sb, true, false, sk⟩ b).2 = ⟨sb, true, false, sk⟩ from rfl] at hS
                have hk2 := HK.out.only hS.only HBX2.out
                have HR2 := Lib.hid (HR.out.only hS.only (fun ad e h0 hf => by
                  have hb := HBX.out ad e (by rw [HXL.out]; exact h0)
                  rcases hf with hf | hf
                  · omega
                  · have := (HI.out.dk.lt.2 _ hf.symm).1; omega))
                obtain ⟨ra2, hj2⟩ := HJ.out.op hS
                have e0 := hk2.cell 0 rfl
                have e1 := hk2.cell 1 rfl
                have e2 := hk2.cell 2 rfl
                have HK2 := Lib.hid hk2
                have HJ2 := Lib.hid hj2
                clear hS hk2 hj2
                
                have HLEN := Lib.hid (show (DS.b ⟨sb, true, false, sk⟩).length = m6 from (HM6.out))
                go_wp2_with fail
                refine (dbytes_any _ _ _ _ _ HJ2.out.dk).mono ?_
                rintro e w8 ⟨hb8, h8, -⟩
                obtain rfl := h8 rfl
                have HJ8 := Lib.hid (HJ2.out.below hb8)
                clear h8 hb8
                go_wp2_with (first
                  | (go_at_call 9; refine (ddown_any _ _ _ _ _ HJ8.out.dk).mono ?_; rintro e w' ⟨rfl, rfl⟩)
                  | (go_at_call 17; refine (dlen_any _ _ _ _ _ HJ8.out.dk).mono ?_; rintro e w' ⟨rfl, rfl⟩; rw [HLEN.out]))
                go_roundw
                case rel => exact ⟨k + 1, _, sb, true, false, sk, A6, c6, m6, by omega, by go_num, rfl, rfl, rfl, HM6.out, by decide, HJ8.out⟩
                case measure => simp [intOf]; omega
            | false =>
              by_cases hbad : 1048576 < sb.length + b.length
              · cases sa with
                | true =>
                  as_aux_lemma =>
                    go_wp2_with fail
                    refine (ddown_any _ _ _ _ _ HJ.out.dk).mono ?_
                    rintro e w' ⟨rfl, rfl⟩
                    go_wp2_with fail
                    refine (dappend_any _ _ _ _ _ X m cx b HJ.out.dk HR.out).mono ?_
                    rintro e w2 ⟨rfl, hS⟩
                    rw [show (dAppend ⟨sb, false, true, sk⟩ b).1 = 3 from by unfold dAppend; simp only [Bool.false_eq_true, if_false, if_true]; rw [if_pos hbad]]
                    rw [show (dAppend ⟨sb, false, true, sk⟩ b).2 = ⟨sb, false, true, sk⟩ from by unfold dAppend; simp only [Bool.false_eq_true, if_false, if_true]; rw [if_pos hbad]] at hS
                    have hk2 := HK.out.only hS.only HBX2.out
                    have HR2 := Lib.hid (HR.out.only hS.only (fun ad e h0 hf => by
                      have hb := HBX.out ad e (by rw [HXL.out]; exact h0)
                      rcases hf with hf | hf
                      · omega
                      · have := (HI.out.dk.lt.2 _ hf.symm).1; omega))
                    obtain ⟨ra2, hj2⟩ := HJ.out.op hS
                    have e0 := hk2.cell 0 rfl
                    have e1 := hk2.cell 1 rfl
                    have e2 := hk2.cell 2 rfl
                    have HK2 := Lib.hid hk2
                    have HJ2 := Lib.hid hj2
                    clear hS hk2 hj2
                    
                    have HLEN := Lib.hid (show (DS.b ⟨sb, false, true, sk⟩).length = m6 from (HM6.out))
                    go_wp2_with fail
                    refine (dbytes_any _ _ _ _ _ HJ2.out.dk).mono ?_
                    rintro e w8 ⟨hb8, -, h8⟩
                    obtain ⟨A8, c8, rfl, ho8⟩ := h8 rfl
                    have HJ8 := Lib.hid (HJ2.out.below hb8)
                    rw [HLEN.out] at ho8 ⊢
                    have hs1 := run_str (P := Try.prog) w8 23 5 9 Try.underlying23 Try.underlying5 Try.underlying9 ho8.rd
                    have hs2 := run_str (P := Try.prog) w8 23 5 9 Try.underlying23 Try.underlying5 Try.underlying9 HJ8.out.want.rd
                    clear h8 hb8 ho8
                    go_wp2_with (first
                      | (go_at_call 9; refine (ddown_any _ _ _ _ _ HJ8.out.dk).mono ?_; rintro e w' ⟨rfl, rfl⟩)
                      | (go_at_call 17; refine (dlen_any _ _ _ _ _ HJ8.out.dk).mono ?_; rintro e w' ⟨rfl, rfl⟩; rw [HLEN.out]))
                    go_roundw
                    case rel => exact ⟨k + 1, _, sb, false, true, sk, A6, c6, m6, by omega, by go_num, rfl, rfl, rfl, HM6.out, by decide, HJ8.out⟩
                    case measure => simp [intOf]; omega
                | false =>
                  as_aux_lemma =>
                    go_wp2_with fail
                    refine (ddown_any _ _ _ _ _ HJ.out.dk).mono ?_
                    rintro e w' ⟨rfl, rfl⟩
                    go_wp2_with fail
                    refine (dappend_any _ _ _ _ _ X m cx b HJ.out.dk HR.out).mono ?_
                    rintro e w2 ⟨rfl, hS⟩
                    rw [show (dAppend ⟨sb, false, false, sk⟩ b).1 = 3 from by unfold dAppend; simp only [Bool.false_eq_true, if_false, if_true]; rw [if_pos hbad]]
                    rw [show (dAppend ⟨sb, false, false, sk⟩ b).2 = ⟨sb, false, false, sk⟩ from by unfold dAppend; simp only [Bool.false_eq_true, if_false, if_true]; rw [if_pos hbad]] at hS
                    have hk2 := HK.out.only hS.only HBX2.out
                    have HR2 := Lib.hid (HR.out.only hS.only (fun ad e h0 hf => by
                      have hb := HBX.out ad e (by rw [HXL.out]; exact h0)
                      rcases hf with hf | hf
                      · omega
                      · have := (HI.out.dk.lt.2 _ hf.symm).1; omega))
                    obtain ⟨ra2, hj2⟩ := HJ.out.op hS
                    have e0 := hk2.cell 0 rfl
                    have e1 := hk2.cell 1 rfl
                    have e2 := hk2.cell 2 rfl
                    have HK2 := Lib.hid hk2
                    have HJ2 := Lib.hid hj2
                    clear hS hk2 hj2
                    
                    have HLEN := Lib.hid (show (DS.b ⟨sb, false, false, sk⟩).length = m6 from (HM6.out))
                    go_wp2_with fail
                    refine (dbytes_any _ _ _ _ _ HJ2.out.dk).mono ?_
                    rintro e w8 ⟨hb8, -, h8⟩
                    obtain ⟨A8, c8, rfl, ho8⟩ := h8 rfl
                    have HJ8 := Lib.hid (HJ2.out.below hb8)
                    rw [HLEN.out] at ho8 ⊢
                    have hs1 := run_str (P := Try.prog) w8 23 5 9 Try.underlying23 Try.underlying5 Try.underlying9 ho8.rd
                    have hs2 := run_str (P := Try.prog) w8 23 5 9 Try.underlying23 Try.underlying5 Try.underlying9 HJ8.out.want.rd
                    clear h8 hb8 ho8
                    go_wp2_with (first
                      | (go_at_call 9; refine (ddown_any _ _ _ _ _ HJ8.out.dk).mono ?_; rintro e w' ⟨rfl, rfl⟩)
                      | (go_at_call 17; refine (dlen_any _ _ _ _ _ HJ8.out.dk).mono ?_; rintro e w' ⟨rfl, rfl⟩; rw [HLEN.out]))
                    go_roundw
                    case rel => exact ⟨k + 1, _, sb, false, false, sk, A6, c6, m6, by omega, by go_num, rfl, rfl, rfl, HM6.out, by decide, HJ8.out⟩
                    case measure => simp [intOf]; omega
              · cases sa with
                | true =>
                  have hmin : ∃ kk, kk = min sk m ∧ b.take sk = b.take kk ∧ kk ≤ m := ⟨min sk m, rfl, by rw [← HXL.out, ← List.take_take, List.take_length], Nat.min_le_right _ _⟩
                  obtain ⟨kk, hkk, htk, hkm⟩ := hmin
                  have hbl : (b.take kk).length = kk := by rw [List.length_take, HXL.out]; exact Nat.min_eq_left hkm
                  have HBL := Lib.hid hbl
                  have HTK := Lib.hid htk
                  clear htk hbl
                  have hkc : kk ≤ cx := by omega
                  by_cases hsm : m < sk
                  · obtain rfl : kk = m := by omega
                    clear hkk
                    as_aux_lemma =>
                      go_wp2_with fail
                      refine (ddown_any _ _ _ _ _ HJ.out.dk).mono ?_
                      rintro e w' ⟨rfl, rfl⟩
                      go_wp2_with fail
                      refine (dappend_any _ _ _ _ _ X kk cx b HJ.out.dk HR.out).mono ?_
                      rintro e w2 ⟨rfl, hS⟩
                      rw [show (dAppend ⟨sb, false, true, sk⟩ b).1 = 60 from by unfold dAppend; simp only [Bool.false_eq_true, if_false, if_true]; rw [if_neg hbad]]
                      rw [show (dAppend ⟨sb, false, true, sk⟩ b).2 = ⟨sb ++ b.take sk, true, false, sk⟩ from by unfold dAppend; simp only [Bool.false_eq_true, if_false, if_true]; rw [if_neg hbad]] at hS
                      have hk2 := HK.out.only hS.only HBX2.out
                      have HR2 := Lib.hid (HR.out.only hS.only (fun ad e h0 hf => by
                        have hb := HBX.out ad e (by rw [HXL.out]; exact h0)
                        rcases hf with hf | hf
                        · omega
                        · have := (HI.out.dk.lt.2 _ hf.symm).1; omega))
                      obtain ⟨ra2, hj2⟩ := HJ.out.op hS
                      have e0 := hk2.cell 0 rfl
                      have e1 := hk2.cell 1 rfl
                      have e2 := hk2.cell 2 rfl
                      have HK2 := Lib.hid hk2
                      have HJ2 := Lib.hid hj2
                      clear hS hk2 hj2
                      have HR18 := Lib.hid (HR2.out.btake (m := kk) (by omega))
                      rw [HTK.out] at HJ2
                      have hbd := HML.out hbad
                      go_wp2_with (at_builtin; refine app_u8o rfl (.tmp 87) (.tmp 95) rfl w.heap.size A6 c6 m6 sb rfl HJ2.out.want X kk cx (b.take kk) rfl HR18.out (by omega) HJ2.out.bel.size ?_; intro A7 c7 w7 ho7 hg7 hat7; have HJ7 := Lib.hid (HJ2.out.app ho7 hg7 hat7); have hk7 := HK2.out.grown hg7 (HJ2.out.want.ne_blk HK2.out (by decide)); have e0 := hk7.cell 0 rfl; have e1 := hk7.cell 1 rfl; have e2 := hk7.cell 2 rfl; clear ho7 hg7 hat7 hk7)
                      have HLEN := Lib.hid (show (DS.b ⟨sb ++ b.take kk, true, false, sk⟩).length = (m6 + kk) from (by rw [List.length_append, HM6.out, HBL.out]))
                      go_wp2_with fail
                      refine (dbytes_any _ _ _ _ _ HJ7.out.dk).mono ?_
                      rintro e w8 ⟨hb8, h8, -⟩
                      obtain rfl := h8 rfl
                      have HJ8 := Lib.hid (HJ7.out.below hb8)
                      clear h8 hb8
                      go_wp2_with (first
                        | (go_at_call 9; refine (ddown_any _ _ _ _ _ HJ8.out.dk).mono ?_; rintro e w' ⟨rfl, rfl⟩)
                        | (go_at_call 17; refine (dlen_any _ _ _ _ _ HJ8.out.dk).mono ?_; rintro e w' ⟨rfl, rfl⟩; rw [HLEN.out]))
                      go_roundw
                      case rel => exact ⟨k + 1, _, (sb ++ b.take kk), true, false, sk, A7, c7, (m6 + kk), by omega, by go_num, rfl, rfl, rfl, by rw [List.length_append, HM6.out, HBL.out], by decide, HJ8.out⟩
                      case measure => simp [intOf]; omega
                  · obtain rfl : kk = sk := by omega
                    clear hkk
                    as_aux_lemma =>
                      go_wp2_with fail
                      refine (ddown_any _ _ _ _ _ HJ.out.dk).mono ?_
                      rintro e w' ⟨rfl, rfl⟩
                      go_wp2_with fail
                      refine (dappend_any _ _ _ _ _ X m cx b HJ.out.dk HR.out).mono ?_
                      rintro e w2 ⟨rfl, hS⟩
                      rw [show (dAppend ⟨sb, false, true, kk⟩ b).1 = 60 from by unfold dAppend; simp only [Bool.false_eq_true, if_false, if_true]; rw [if_neg hbad]]
                      rw [show (dAppend ⟨sb, false, true, kk⟩ b).2 = ⟨sb ++ b.take kk, true, false, kk⟩ from by unfold dAppend; simp only [Bool.false_eq_true, if_false, if_true]; rw [if_neg hbad]] at hS
                      have hk2 := HK.out.only hS.only HBX2.out
                      have HR2 := Lib.hid (HR.out.only hS.only (fun ad e h0 hf => by
                        have hb := HBX.out ad e (by rw [HXL.out]; exact h0)
                        rcases hf with hf | hf
                        · omega
                        · have := (HI.out.dk.lt.2 _ hf.symm).1; omega))
                      obtain ⟨ra2, hj2⟩ := HJ.out.op hS
                      have e0 := hk2.cell 0 rfl
                      have e1 := hk2.cell 1 rfl
                      have e2 := hk2.cell 2 rfl
                      have HK2 := Lib.hid hk2
                      have HJ2 := Lib.hid hj2
                      clear hS hk2 hj2
                      have HR18 := Lib.hid (HR2.out.btake (m := kk) (by omega))
                      skip
                      have hbd := HML.out hbad
                      go_wp2_with (at_builtin; refine app_u8o rfl (.tmp 87) (.tmp 95) rfl w.heap.size A6 c6 m6 sb rfl HJ2.out.want X kk cx (b.take kk) rfl HR18.out (by omega) HJ2.out.bel.size ?_; intro A7 c7 w7 ho7 hg7 hat7; have HJ7 := Lib.hid (HJ2.out.app ho7 hg7 hat7); have hk7 := HK2.out.grown hg7 (HJ2.out.want.ne_blk HK2.out (by decide)); have e0 := hk7.cell 0 rfl; have e1 := hk7.cell 1 rfl; have e2 := hk7.cell 2 rfl; clear ho7 hg7 hat7 hk7)
                      have HLEN := Lib.hid (show (DS.b ⟨sb ++ b.take kk, true, false, kk⟩).length = (m6 + kk) from (by rw [List.length_append, HM6.out, HBL.out]))
                      go_wp2_with fail
                      refine (dbytes_any _ _ _ _ _ HJ7.out.dk).mono ?_
                      rintro e w8 ⟨hb8, h8, -⟩
                      obtain rfl := h8 rfl
                      have HJ8 := Lib.hid (HJ7.out.below hb8)
                      clear h8 hb8
                      go_wp2_with (first
                        | (go_at_call 9; refine (ddown_any _ _ _ _ _ HJ8.out.dk).mono ?_; rintro e w' ⟨rfl, rfl⟩)
                        | (go_at_call 17; refine (dlen_any _ _ _ _ _ HJ8.out.dk).mono ?_; rintro e w' ⟨rfl, rfl⟩; rw [HLEN.out]))
                      go_roundw
                      case rel => exact ⟨k + 1, _, (sb ++ b.take kk), true, false, kk, A7, c7, (m6 + kk), by omega, by go_num, rfl, rfl, rfl, by rw [List.length_append, HM6.out, HBL.out], by decide, HJ8.out⟩
                      case measure => simp [intOf]; omega
                | false =>
                  as_aux_lemma =>
                    go_wp2_with fail
                    refine (ddown_any _ _ _ _ _ HJ.out.dk).mono ?_
                    rintro e w' ⟨rfl, rfl⟩
                    go_wp2_with fail
                    refine (dappend_any _ _ _ _ _ X m cx b HJ.out.dk HR.out).mono ?_
                    rintro e w2 ⟨rfl, hS⟩
                    rw [show (dAppend ⟨sb, false, false, sk⟩ b).1 = 0 from by unfold dAppend; simp only [Bool.false_eq_true, if_false, if_true]; rw [if_neg hbad]]
                    rw [show (dAppend ⟨sb, false, false, sk⟩ b).2 = ⟨sb ++ b, false, false, sk⟩ from by unfold dAppend; simp only [Bool.false_eq_true, if_false, if_true]; rw [if_neg hbad]] at hS
                    have hk2 := HK.out.only hS.only HBX2.out
                    have HR2 := Lib.hid (HR.out.only hS.only (fun ad e h0 hf => by
                      have hb := HBX.out ad e (by rw [HXL.out]; exact h0)
                      rcases hf with hf | hf
                      · omega
                      · have := (HI.out.dk.lt.2 _ hf.symm).1; omega))
                    obtain ⟨ra2, hj2⟩ := HJ.out.op hS
                    have e0 := hk2.cell 0 rfl
                    have e1 := hk2.cell 1 rfl
                    have e2 := hk2.cell 2 rfl
                    have HK2 := Lib.hid hk2
                    have HJ2 := Lib.hid hj2
                    clear hS hk2 hj2
                    have hbd := HML.out hbad
                    go_wp2_with (at_builtin; refine app_u8o rfl (.tmp 77) (.tmp 79) rfl w.heap.size A6 c6 m6 sb rfl HJ2.out.want X m cx b rfl HR2.out (by omega) HJ2.out.bel.size ?_; intro A7 c7 w7 ho7 hg7 hat7; have HJ7 := Lib.hid (HJ2.out.app ho7 hg7 hat7); have hk7 := HK2.out.grown hg7 (HJ2.out.want.ne_blk HK2.out (by decide)); have e0 := hk7.cell 0 rfl; have e1 := hk7.cell 1 rfl; have e2 := hk7.cell 2 rfl; clear ho7 hg7 hat7 hk7)
                    have HLEN := Lib.hid (show (DS.b ⟨sb ++ b, false, false, sk⟩).length = (m6 + m) from (by rw [List.length_append, HM6.out, HXL.out]))
                    go_wp2_with fail
                    refine (dbytes_any _ _ _ _ _ HJ7.out.dk).mono ?_
                    rintro e w8 ⟨hb8, -, h8⟩
                    obtain ⟨A8, c8, rfl, ho8⟩ := h8 rfl
                    have HJ8 := Lib.hid (HJ7.out.below hb8)
                    rw [HLEN.out] at ho8 ⊢
                    have hs1 := run_str (P := Try.prog) w8 23 5 9 Try.underlying23 Try.underlying5 Try.underlying9 ho8.rd
                    have hs2 := run_str (P := Try.prog) w8 23 5 9 Try.underlying23 Try.underlying5 Try.underlying9 HJ8.out.want.rd
                    clear h8 hb8 ho8
                    go_wp2_with (first
                      | (go_at_call 9; refine (ddown_any _ _ _ _ _ HJ8.out.dk).mono ?_; rintro e w' ⟨rfl, rfl⟩)
                      | (go_at_call 17; refine (dlen_any _ _ _ _ _ HJ8.out.dk).mono ?_; rintro e w' ⟨rfl, rfl⟩; rw [HLEN.out]))
                    go_roundw
                    case rel => exact ⟨k + 1, _, (sb ++ b), false, false, sk, A7, c7, (m6 + m), by omega, by go_num, rfl, rfl, rfl, by rw [List.length_append, HM6.out, HXL.out], by decide, HJ8.out⟩
                    case measure => simp [intOf]; omega
          by_cases q1 : d = 1
          · clear q0
            subst q1
            have HK := Lib.hid (Blk.new wr #[.int .i64 1, .slice X m cx, .int .i64 nn] 25)
            have HJ := Lib.hid (HI.out.below ((Below.refl _ wr).alloc (Nat.le_refl _) (.cells #[.int .i64 1, .slice X m cx, .int .i64 nn] 25)))
            have HR := Lib.hid (hr.alloc (.cells #[.int .i64 1, .slice X m cx, .int .i64 nn] 25))
            have HBX2 : Hid (¬ Ft w.heap.size ra wr.heap.size) := Lib.hid (by
              rintro (h | h)
              · have := HI.out.dk.lt.1; omega
              · have := (HI.out.dk.lt.2 _ h.symm).2; omega)
            clear hr
            cases sd with
            | true =>
              obtain rfl : sa = false := HSDA.out rfl
              as_aux_lemma =>
                go_wp2_with fail
                refine (ddown_any _ _ _ _ _ HJ.out.dk).mono ?_
                rintro e w' ⟨rfl, rfl⟩
                go_wp2_with fail
                refine (dswap_any _ _ _ _ _ X m cx b HJ.out.dk HR.out).mono ?_
                rintro e w2 ⟨rfl, hS⟩
                rw [show (dSwap ⟨sb, true, false, sk⟩ b).1 = 60 from rfl]
                rw [show (dSwap ⟨sb, true, false, sk⟩ b).2 = ⟨sb, true, false, sk⟩ from rfl] at hS
                have hk2 := HK.out.only hS.only HBX2.out
                have HR2 := Lib.hid (HR.out.only hS.only (fun ad e h0 hf => by
                  have hb := HBX.out ad e (by rw [HXL.out]; exact h0)
                  rcases hf with hf | hf
                  · omega
                  · have := (HI.out.dk.lt.2 _ hf.symm).1; omega))
                obtain ⟨ra2, hj2⟩ := HJ.out.op hS
                have e0 := hk2.cell 0 rfl
                have e1 := hk2.cell 1 rfl
                have e2 := hk2.cell 2 rfl
                have HK2 := Lib.hid hk2
                have HJ2 := Lib.hid hj2
                clear hS hk2 hj2
                
                have HLEN := Lib.hid (show (DS.b ⟨sb, true, false, sk⟩).length = m6 from (HM6.out))
                go_wp2_with fail
                refine (dbytes_any _ _ _ _ _ HJ2.out.dk).mono ?_
                rintro e w8 ⟨hb8, h8, -⟩
                obtain rfl := h8 rfl
                have HJ8 := Lib.hid (HJ2.out.below hb8)
                clear h8 hb8
                go_wp2_with (first
                  | (go_at_call 9; refine (ddown_any _ _ _ _ _ HJ8.out.dk).mono ?_; rintro e w' ⟨rfl, rfl⟩)
                  | (go_at_call 17; refine (dlen_any _ _ _ _ _ HJ8.out.dk).mono ?_; rintro e w' ⟨rfl, rfl⟩; rw [HLEN.out]))
                go_roundw
                case rel => exact ⟨k + 1, _, sb, true, false, sk, A6, c6, m6, by omega, by go_num, rfl, rfl, rfl, HM6.out, by decide, HJ8.out⟩
                case measure => simp [intOf]; omega
            | false =>
              by_cases hbad : 1048576 < b.length
              · cases sa with
                | true =>
                  as_aux_lemma =>
                    go_wp2_with fail
                    refine (ddown_any _ _ _ _ _ HJ.out.dk).mono ?_
                    rintro e w' ⟨rfl, rfl⟩
                    go_wp2_with fail
                    refine (dswap_any _ _ _ _ _ X m cx b HJ.out.dk HR.out).mono ?_
                    rintro e w2 ⟨rfl, hS⟩
                    rw [show (dSwap ⟨sb, false, true, sk⟩ b).1 = 3 from by unfold dSwap; simp only [Bool.false_eq_true, if_false, if_true]; rw [if_pos hbad]]
                    rw [show (dSwap ⟨sb, false, true, sk⟩ b).2 = ⟨sb, false, true, sk⟩ from by unfold dSwap; simp only [Bool.false_eq_true, if_false, if_true]; rw [if_pos hbad]] at hS
                    have hk2 := HK.out.only hS.only HBX2.out
                    have HR2 := Lib.hid (HR.out.only hS.only (fun ad e h0 hf => by
                      have hb := HBX.out ad e (by rw [HXL.out]; exact h0)
                      rcases hf with hf | hf
                      · omega
                      · have := (HI.out.dk.lt.2 _ hf.symm).1; omega))
                    obtain ⟨ra2, hj2⟩ := HJ.out.op hS
                    have e0 := hk2.cell 0 rfl
                    have e1 := hk2.cell 1 rfl
                    have e2 := hk2.cell 2 rfl
                    have HK2 := Lib.hid hk2
                    have HJ2 := Lib.hid hj2
                    clear hS hk2 hj2
                    
                    have HLEN := Lib.hid (show (DS.b ⟨sb, false, true, sk⟩).length = m6 from (HM6.out))
                    go_wp2_with fail
                    refine (dbytes_any _ _ _ _ _ HJ2.out.dk).mono ?_
                    rintro e w8 ⟨hb8, -, h8⟩
                    obtain ⟨A8, c8, rfl, ho8⟩ := h8 rfl
                    have HJ8 := Lib.hid (HJ2.out.below hb8)
                    rw [HLEN.out] at ho8 ⊢
                    have hs1 := run_str (P := Try.prog) w8 23 5 9 Try.underlying23 Try.underlying5 Try.underlying9 ho8.rd
                    have hs2 := run_str (P := Try.prog) w8 23 5 9 Try.underlying23 Try.underlying5 Try.underlying9 HJ8.out.want.rd
                    clear h8 hb8 ho8
                    go_wp2_with (first
                      | (go_at_call 9; refine (ddown_any _ _ _ _ _ HJ8.out.dk).mono ?_; rintro e w' ⟨rfl, rfl⟩)
                      | (go_at_call 17; refine (dlen_any _ _ _ _ _ HJ8.out.dk).mono ?_; rintro e w' ⟨rfl, rfl⟩; rw [HLEN.out]))
                    go_roundw
                    case rel => exact ⟨k + 1, _, sb, false, true, sk, A6, c6, m6, by omega, by go_num, rfl, rfl, rfl, HM6.out, by decide, HJ8.out⟩
                    case measure => simp [intOf]; omega
                | false =>
                  as_aux_lemma =>
                    go_wp2_with fail
                    refine (ddown_any _ _ _ _ _ HJ.out.dk).mono ?_
                    rintro e w' ⟨rfl, rfl⟩
                    go_wp2_with fail
                    refine (dswap_any _ _ _ _ _ X m cx b HJ.out.dk HR.out).mono ?_
                    rintro e w2 ⟨rfl, hS⟩
                    rw [show (dSwap ⟨sb, false, false, sk⟩ b).1 = 3 from by unfold dSwap; simp only [Bool.false_eq_true, if_false, if_true]; rw [if_pos hbad]]
                    rw [show (dSwap ⟨sb, false, false, sk⟩ b).2 = ⟨sb, false, false, sk⟩ from by unfold dSwap; simp only [Bool.false_eq_true, if_false, if_true]; rw [if_pos hbad]] at hS
                    have hk2 := HK.out.only hS.only HBX2.out
                    have HR2 := Lib.hid (HR.out.only hS.only (fun ad e h0 hf => by
                      have hb := HBX.out ad e (by rw [HXL.out]; exact h0)
                      rcases hf with hf | hf
                      · omega
                      · have := (HI.out.dk.lt.2 _ hf.symm).1; omega))
                    obtain ⟨ra2, hj2⟩ := HJ.out.op hS
                    have e0 := hk2.cell 0 rfl
                    have e1 := hk2.cell 1 rfl
                    have e2 := hk2.cell 2 rfl
                    have HK2 := Lib.hid hk2
                    have HJ2 := Lib.hid hj2
                    clear hS hk2 hj2
                    
                    have HLEN := Lib.hid (show (DS.b ⟨sb, false, false, sk⟩).length = m6 from (HM6.out))
                    go_wp2_with fail
                    refine (dbytes_any _ _ _ _ _ HJ2.out.dk).mono ?_
                    rintro e w8 ⟨hb8, -, h8⟩
                    obtain ⟨A8, c8, rfl, ho8⟩ := h8 rfl
                    have HJ8 := Lib.hid (HJ2.out.below hb8)
                    rw [HLEN.out] at ho8 ⊢
                    have hs1 := run_str (P := Try.prog) w8 23 5 9 Try.underlying23 Try.underlying5 Try.underlying9 ho8.rd
                    have hs2 := run_str (P := Try.prog) w8 23 5 9 Try.underlying23 Try.underlying5 Try.underlying9 HJ8.out.want.rd
                    clear h8 hb8 ho8
                    go_wp2_with (first
                      | (go_at_call 9; refine (ddown_any _ _ _ _ _ HJ8.out.dk).mono ?_; rintro e w' ⟨rfl, rfl⟩)
                      | (go_at_call 17; refine (dlen_any _ _ _ _ _ HJ8.out.dk).mono ?_; rintro e w' ⟨rfl, rfl⟩; rw [HLEN.out]))
                    go_roundw
                    case rel => exact ⟨k + 1, _, sb, false, false, sk, A6, c6, m6, by omega, by go_num, rfl, rfl, rfl, HM6.out, by decide, HJ8.out⟩
                    case measure => simp [intOf]; omega
              · cases sa with
                | true =>
                  as_aux_lemma =>
                    go_wp2_with fail
                    refine (ddown_any _ _ _ _ _ HJ.out.dk).mono ?_
                    rintro e w' ⟨rfl, rfl⟩
                    go_wp2_with fail
                    refine (dswap_any _ _ _ _ _ X m cx b HJ.out.dk HR.out).mono ?_
                    rintro e w2 ⟨rfl, hS⟩
                    rw [show (dSwap ⟨sb, false, true, sk⟩ b).1 = 60 from by unfold dSwap; simp only [Bool.false_eq_true, if_false, if_true]; rw [if_neg hbad]]
                    rw [show (dSwap ⟨sb, false, true, sk⟩ b).2 = ⟨sb, true, false, sk⟩ from by unfold dSwap; simp only [Bool.false_eq_true, if_false, if_true]; rw [if_neg hbad]] at hS
                    have hk2 := HK.out.only hS.only HBX2.out
                    have HR2 := Lib.hid (HR.out.only hS.only (fun ad e h0 hf => by
                      have hb := HBX.out ad e (by rw [HXL.out]; exact h0)
                      rcases hf with hf | hf
                      · omega
                      · have := (HI.out.dk.lt.2 _ hf.symm).1; omega))
                    obtain ⟨ra2, hj2⟩ := HJ.out.op hS
                    have e0 := hk2.cell 0 rfl
                    have e1 := hk2.cell 1 rfl
                    have e2 := hk2.cell 2 rfl
                    have HK2 := Lib.hid hk2
                    have HJ2 := Lib.hid hj2
                    clear hS hk2 hj2
                    
                    have HLEN := Lib.hid (show (DS.b ⟨sb, true, false, sk⟩).length = m6 from (HM6.out))
                    go_wp2_with fail
                    refine (dbytes_any _ _ _ _ _ HJ2.out.dk).mono ?_
                    rintro e w8 ⟨hb8, h8, -⟩
                    obtain rfl := h8 rfl
                    have HJ8 := Lib.hid (HJ2.out.below hb8)
                    clear h8 hb8
                    go_wp2_with (first
                      | (go_at_call 9; refine (ddown_any _ _ _ _ _ HJ8.out.dk).mono ?_; rintro e w' ⟨rfl, rfl⟩)
                      | (go_at_call 17; refine (dlen_any _ _ _ _ _ HJ8.out.dk).mono ?_; rintro e w' ⟨rfl, rfl⟩; rw [HLEN.out]))
                    go_roundw
                    case rel => exact ⟨k + 1, _, sb, true, false, sk, A6, c6, m6, by omega, by go_num, rfl, rfl, rfl, HM6.out, by decide, HJ8.out⟩
                    case measure => simp [intOf]; omega
                | false =>
                  as_aux_lemma =>
                    go_wp2_with fail
                    refine (ddown_any _ _ _ _ _ HJ.out.dk).mono ?_
                    rintro e w' ⟨rfl, rfl⟩
                    go_wp2_with fail
                    refine (dswap_any _ _ _ _ _ X m cx b HJ.out.dk HR.out).mono ?_
                    rintro e w2 ⟨rfl, hS⟩
                    rw [show (dSwap ⟨sb, false, false, sk⟩ b).1 = 0 from by unfold dSwap; simp only [Bool.false_eq_true, if_false, if_true]; rw [if_neg hbad]]
                    rw [show (dSwap ⟨sb, false, false, sk⟩ b).2 = ⟨b, false, false, sk⟩ from by unfold dSwap; simp only [Bool.false_eq_true, if_false, if_true]; rw [if_neg hbad]] at hS
                    have hk2 := HK.out.only hS.only HBX2.out
                    have HR2 := Lib.hid (HR.out.only hS.only (fun ad e h0 hf => by
                      have hb := HBX.out ad e (by rw [HXL.out]; exact h0)
                      rcases hf with hf | hf
                      · omega
                      · have := (HI.out.dk.lt.2 _ hf.symm).1; omega))
                    obtain ⟨ra2, hj2⟩ := HJ.out.op hS
                    have e0 := hk2.cell 0 rfl
                    have e1 := hk2.cell 1 rfl
                    have e2 := hk2.cell 2 rfl
                    have HK2 := Lib.hid hk2
                    have HJ2 := Lib.hid hj2
                    clear hS hk2 hj2
                    have HO0 := Lib.hid (Ow.of_own (World.ownsRow_lit (base := w2.heap.size) (e := 5) (size := 1) w2 #[] 0 (Nat.le_refl _) (by simp [maxLen]) rfl))
                    have hbl2 := HK2.out.lt
                    have hmx : m ≤ 1048576 := by have := HJ2.out.dk.len; simp only at this; rw [HXL.out] at this; exact this
                    go_wp2_with (at_builtin; refine app_u8o rfl (.tmp 105) (.tmp 107) rfl w2.heap.size _ 0 0 [] rfl HO0.out X m cx b rfl (HR2.out.alloc _) (by omega) (by simp) ?_; intro A7 c7 w7 ho7 hg7 hat7; have hb7 : Below w2.heap.size w2 w7 := ((Below.refl _ w2).alloc (Nat.le_refl _) _).grown hg7 (by simp) (fun g e => (by injection e with e; exact Nat.le_of_eq e)); have ho7' : Ow w7 w2.heap.size 5 1 A7 m c7 (bv b) := (by simpa using ho7); have HJ7 := Lib.hid (HJ2.out.fresh ho7' hb7); have hk7 := HK2.out.below hb7; have e0 := hk7.cell 0 rfl; have e1 := hk7.cell 1 rfl; have e2 := hk7.cell 2 rfl; clear ho7 ho7' hg7 hat7 hk7 hb7)
                    have HLEN := Lib.hid (show (DS.b ⟨b, false, false, sk⟩).length = m from (HXL.out))
                    go_wp2_with fail
                    refine (dbytes_any _ _ _ _ _ HJ7.out.dk).mono ?_
                    rintro e w8 ⟨hb8, -, h8⟩
                    obtain ⟨A8, c8, rfl, ho8⟩ := h8 rfl
                    have HJ8 := Lib.hid (HJ7.out.below hb8)
                    rw [HLEN.out] at ho8 ⊢
                    have hs1 := run_str (P := Try.prog) w8 23 5 9 Try.underlying23 Try.underlying5 Try.underlying9 ho8.rd
                    have hs2 := run_str (P := Try.prog) w8 23 5 9 Try.underlying23 Try.underlying5 Try.underlying9 HJ8.out.want.rd
                    clear h8 hb8 ho8
                    go_wp2_with (first
                      | (go_at_call 9; refine (ddown_any _ _ _ _ _ HJ8.out.dk).mono ?_; rintro e w' ⟨rfl, rfl⟩)
                      | (go_at_call 17; refine (dlen_any _ _ _ _ _ HJ8.out.dk).mono ?_; rintro e w' ⟨rfl, rfl⟩; rw [HLEN.out]))
                    go_roundw
                    case rel => exact ⟨k + 1, _, b, false, false, sk, A7, c7, m, by omega, by go_num, rfl, rfl, rfl, HXL.out, by decide, HJ8.out⟩
                    case measure => simp [intOf]; omega
          by_cases q2 : d = 2
          · clear q0 q1
            subst q2
            have HK := Lib.hid (Blk.new wr #[.int .i64 2, .slice X m cx, .int .i64 nn] 25)
            have HJ := Lib.hid (HI.out.below ((Below.refl _ wr).alloc (Nat.le_refl _) (.cells #[.int .i64 2, .slice X m cx, .int .i64 nn] 25)))
            have HR := Lib.hid (hr.alloc (.cells #[.int .i64 2, .slice X m cx, .int .i64 nn] 25))
            have HBX2 : Hid (¬ Ft w.heap.size ra wr.heap.size) := Lib.hid (by
              rintro (h | h)
              · have := HI.out.dk.lt.1; omega
              · have := (HI.out.dk.lt.2 _ h.symm).2; omega)
            clear hr
            cases sd with
            | true =>
              obtain rfl : sa = false := HSDA.out rfl
              as_aux_lemma =>
                go_wp2_with fail
                refine (ddown_any _ _ _ _ _ HJ.out.dk).mono ?_
                rintro e w' ⟨rfl, rfl⟩
                go_wp2_with fail
                refine (dcut_any _ _ _ _ _ nn hn1 hn2 HJ.out.dk).mono ?_
                rintro e w2 ⟨rfl, hS⟩
                rw [show (dCut ⟨sb, true, false, sk⟩ nn).1 = 60 from rfl]
                rw [show (dCut ⟨sb, true, false, sk⟩ nn).2 = ⟨sb, true, false, sk⟩ from rfl] at hS
                have hk2 := HK.out.only hS.only HBX2.out
                have HR2 := Lib.hid (HR.out.only hS.only (fun ad e h0 hf => by
                  have hb := HBX.out ad e (by rw [HXL.out]; exact h0)
                  rcases hf with hf | hf
                  · omega
                  · have := (HI.out.dk.lt.2 _ hf.symm).1; omega))
                obtain ⟨ra2, hj2⟩ := HJ.out.op hS
                have e0 := hk2.cell 0 rfl
                have e1 := hk2.cell 1 rfl
                have e2 := hk2.cell 2 rfl
                have HK2 := Lib.hid hk2
                have HJ2 := Lib.hid hj2
                clear hS hk2 hj2
                
                have HLEN := Lib.hid (show (DS.b ⟨sb, true, false, sk⟩).length = m6 from (HM6.out))
                go_wp2_with fail
                refine (dbytes_any _ _ _ _ _ HJ2.out.dk).mono ?_
                rintro e w8 ⟨hb8, h8, -⟩
                obtain rfl := h8 rfl
                have HJ8 := Lib.hid (HJ2.out.below hb8)
                clear h8 hb8
                go_wp2_with (first
                  | (go_at_call 9; refine (ddown_any _ _ _ _ _ HJ8.out.dk).mono ?_; rintro e w' ⟨rfl, rfl⟩)
                  | (go_at_call 17; refine (dlen_any _ _ _ _ _ HJ8.out.dk).mono ?_; rintro e w' ⟨rfl, rfl⟩; rw [HLEN.out]))
                go_roundw
                case rel => exact ⟨k + 1, _, sb, true, false, sk, A6, c6, m6, by omega, by go_num, rfl, rfl, rfl, HM6.out, by decide, HJ8.out⟩
                case measure => simp [intOf]; omega
            | false =>
              by_cases hbad : nn < 0 ∨ (sb.length : Int) < nn
              · cases sa with
                | true =>
                  as_aux_lemma =>
                    go_wp2_with fail
                    refine (ddown_any _ _ _ _ _ HJ.out.dk).mono ?_
                    rintro e w' ⟨rfl, rfl⟩
                    go_wp2_with fail
                    refine (dcut_any _ _ _ _ _ nn hn1 hn2 HJ.out.dk).mono ?_
                    rintro e w2 ⟨rfl, hS⟩
                    rw [show (dCut ⟨sb, false, true, sk⟩ nn).1 = 2 from by unfold dCut; simp only [Bool.false_eq_true, if_false, if_true]; rw [if_pos hbad]]
                    rw [show (dCut ⟨sb, false, true, sk⟩ nn).2 = ⟨sb, false, true, sk⟩ from by unfold dCut; simp only [Bool.false_eq_true, if_false, if_true]; rw [if_pos hbad]] at hS
                    have hk2 := HK.out.only hS.only HBX2.out
                    have HR2 := Lib.hid (HR.out.only hS.only (fun ad e h0 hf => by
                      have hb := HBX.out ad e (by rw [HXL.out]; exact h0)
                      rcases hf with hf | hf
                      · omega
                      · have := (HI.out.dk.lt.2 _ hf.symm).1; omega))
                    obtain ⟨ra2, hj2⟩ := HJ.out.op hS
                    have e0 := hk2.cell 0 rfl
                    have e1 := hk2.cell 1 rfl
                    have e2 := hk2.cell 2 rfl
                    have HK2 := Lib.hid hk2
                    have HJ2 := Lib.hid hj2
                    clear hS hk2 hj2
                    
                    have HLEN := Lib.hid (show (DS.b ⟨sb, false, true, sk⟩).length = m6 from (HM6.out))
                    go_wp2_with fail
                    refine (dbytes_any _ _ _ _ _ HJ2.out.dk).mono ?_
                    rintro e w8 ⟨hb8, -, h8⟩
                    obtain ⟨A8, c8, rfl, ho8⟩ := h8 rfl
                    have HJ8 := Lib.hid (HJ2.out.below hb8)
                    rw [HLEN.out] at ho8 ⊢
                    have hs1 := run_str (P := Try.prog) w8 23 5 9 Try.underlying23 Try.underlying5 Try.underlying9 ho8.rd
                    have hs2 := run_str (P := Try.prog) w8 23 5 9 Try.underlying23 Try.underlying5 Try.underlying9 HJ8.out.want.rd
                    clear h8 hb8 ho8
                    go_wp2_with (first
                      | (go_at_call 9; refine (ddown_any _ _ _ _ _ HJ8.out.dk).mono ?_; rintro e w' ⟨rfl, rfl⟩)
                      | (go_at_call 17; refine (dlen_any _ _ _ _ _ HJ8.out.dk).mono ?_; rintro e w' ⟨rfl, rfl⟩; rw [HLEN.out]))
                    go_roundw
                    case rel => exact ⟨k + 1, _, sb, false, true, sk, A6, c6, m6, by omega, by go_num, rfl, rfl, rfl, HM6.out, by decide, HJ8.out⟩
                    case measure => simp [intOf]; omega
                | false =>
                  as_aux_lemma =>
                    go_wp2_with fail
                    refine (ddown_any _ _ _ _ _ HJ.out.dk).mono ?_
                    rintro e w' ⟨rfl, rfl⟩
                    go_wp2_with fail
                    refine (dcut_any _ _ _ _ _ nn hn1 hn2 HJ.out.dk).mono ?_
                    rintro e w2 ⟨rfl, hS⟩
                    rw [show (dCut ⟨sb, false, false, sk⟩ nn).1 = 2 from by unfold dCut; simp only [Bool.false_eq_true, if_false, if_true]; rw [if_pos hbad]]
                    rw [show (dCut ⟨sb, false, false, sk⟩ nn).2 = ⟨sb, false, false, sk⟩ from by unfold dCut; simp only [Bool.false_eq_true, if_false, if_true]; rw [if_pos hbad]] at hS
                    have hk2 := HK.out.only hS.only HBX2.out
                    have HR2 := Lib.hid (HR.out.only hS.only (fun ad e h0 hf => by
                      have hb := HBX.out ad e (by rw [HXL.out]; exact h0)
                      rcases hf with hf | hf
                      · omega
                      · have := (HI.out.dk.lt.2 _ hf.symm).1; omega))
                    obtain ⟨ra2, hj2⟩ := HJ.out.op hS
                    have e0 := hk2.cell 0 rfl
                    have e1 := hk2.cell 1 rfl
                    have e2 := hk2.cell 2 rfl
                    have HK2 := Lib.hid hk2
                    have HJ2 := Lib.hid hj2
                    clear hS hk2 hj2
                    
                    have HLEN := Lib.hid (show (DS.b ⟨sb, false, false, sk⟩).length = m6 from (HM6.out))
                    go_wp2_with fail
                    refine (dbytes_any _ _ _ _ _ HJ2.out.dk).mono ?_
                    rintro e w8 ⟨hb8, -, h8⟩
                    obtain ⟨A8, c8, rfl, ho8⟩ := h8 rfl
                    have HJ8 := Lib.hid (HJ2.out.below hb8)
                    rw [HLEN.out] at ho8 ⊢
                    have hs1 := run_str (P := Try.prog) w8 23 5 9 Try.underlying23 Try.underlying5 Try.underlying9 ho8.rd
                    have hs2 := run_str (P := Try.prog) w8 23 5 9 Try.underlying23 Try.underlying5 Try.underlying9 HJ8.out.want.rd
                    clear h8 hb8 ho8
                    go_wp2_with (first
                      | (go_at_call 9; refine (ddown_any _ _ _ _ _ HJ8.out.dk).mono ?_; rintro e w' ⟨rfl, rfl⟩)
                      | (go_at_call 17; refine (dlen_any _ _ _ _ _ HJ8.out.dk).mono ?_; rintro e w' ⟨rfl, rfl⟩; rw [HLEN.out]))
                    go_roundw
                    case rel => exact ⟨k + 1, _, sb, false, false, sk, A6, c6, m6, by omega, by go_num, rfl, rfl, rfl, HM6.out, by decide, HJ8.out⟩
                    case measure => simp [intOf]; omega
              · cases sa with
                | true =>
                  as_aux_lemma =>
                    go_wp2_with fail
                    refine (ddown_any _ _ _ _ _ HJ.out.dk).mono ?_
                    rintro e w' ⟨rfl, rfl⟩
                    go_wp2_with fail
                    refine (dcut_any _ _ _ _ _ nn hn1 hn2 HJ.out.dk).mono ?_
                    rintro e w2 ⟨rfl, hS⟩
                    rw [show (dCut ⟨sb, false, true, sk⟩ nn).1 = 60 from by unfold dCut; simp only [Bool.false_eq_true, if_false, if_true]; rw [if_neg hbad]]
                    rw [show (dCut ⟨sb, false, true, sk⟩ nn).2 = ⟨sb, true, false, sk⟩ from by unfold dCut; simp only [Bool.false_eq_true, if_false, if_true]; rw [if_neg hbad]] at hS
                    have hk2 := HK.out.only hS.only HBX2.out
                    have HR2 := Lib.hid (HR.out.only hS.only (fun ad e h0 hf => by
                      have hb := HBX.out ad e (by rw [HXL.out]; exact h0)
                      rcases hf with hf | hf
                      · omega
                      · have := (HI.out.dk.lt.2 _ hf.symm).1; omega))
                    obtain ⟨ra2, hj2⟩ := HJ.out.op hS
                    have e0 := hk2.cell 0 rfl
                    have e1 := hk2.cell 1 rfl
                    have e2 := hk2.cell 2 rfl
                    have HK2 := Lib.hid hk2
                    have HJ2 := Lib.hid hj2
                    clear hS hk2 hj2
                    
                    have HLEN := Lib.hid (show (DS.b ⟨sb, true, false, sk⟩).length = m6 from (HM6.out))
                    go_wp2_with fail
                    refine (dbytes_any _ _ _ _ _ HJ2.out.dk).mono ?_
                    rintro e w8 ⟨hb8, h8, -⟩
                    obtain rfl := h8 rfl
                    have HJ8 := Lib.hid (HJ2.out.below hb8)
                    clear h8 hb8
                    go_wp2_with (first
                      | (go_at_call 9; refine (ddown_any _ _ _ _ _ HJ8.out.dk).mono ?_; rintro e w' ⟨rfl, rfl⟩)
                      | (go_at_call 17; refine (dlen_any _ _ _ _ _ HJ8.out.dk).mono ?_; rintro e w' ⟨rfl, rfl⟩; rw [HLEN.out]))
                    go_roundw
                    case rel => exact ⟨k + 1, _, sb, true, false, sk, A6, c6, m6, by omega, by go_num, rfl, rfl, rfl, HM6.out, by decide, HJ8.out⟩
                    case measure => simp [intOf]; omega
                | false =>
                  obtain ⟨mc, hmc⟩ : ∃ mc : Nat, nn = (mc : Int) := ⟨nn.toNat, by omega⟩
                  subst hmc
                  have hmc2 : mc ≤ m6 := by have := HM6.out; omega
                  as_aux_lemma =>
                    go_wp2_with fail
                    refine (ddown_any _ _ _ _ _ HJ.out.dk).mono ?_
                    rintro e w' ⟨rfl, rfl⟩
                    go_wp2_with fail
                    refine (dcut_any _ _ _ _ _ (mc : Int) hn1 hn2 HJ.out.dk).mono ?_
                    rintro e w2 ⟨rfl, hS⟩
                    rw [show (dCut ⟨sb, false, false, sk⟩ (mc : Int)).1 = 0 from by unfold dCut; simp only [Bool.false_eq_true, if_false, if_true]; rw [if_neg hbad]; try rfl]
                    rw [show (dCut ⟨sb, false, false, sk⟩ (mc : Int)).2 = ⟨sb.take mc, false, false, sk⟩ from by unfold dCut; simp only [Bool.false_eq_true, if_false, if_true]; rw [if_neg hbad]; try rfl] at hS
                    have hk2 := HK.out.only hS.only HBX2.out
                    have HR2 := Lib.hid (HR.out.only hS.only (fun ad e h0 hf => by
                      have hb := HBX.out ad e (by rw [HXL.out]; exact h0)
                      rcases hf with hf | hf
                      · omega
                      · have := (HI.out.dk.lt.2 _ hf.symm).1; omega))
                    obtain ⟨ra2, hj2⟩ := HJ.out.op hS
                    have e0 := hk2.cell 0 rfl
                    have e1 := hk2.cell 1 rfl
                    have e2 := hk2.cell 2 rfl
                    have HK2 := Lib.hid hk2
                    have HJ2 := Lib.hid hj2
                    clear hS hk2 hj2
                    have HJ7 := Lib.hid (HJ2.out.cut hmc2)
                    have hcc : mc ≤ c6 := by omega
                    have HLEN := Lib.hid (show (DS.b ⟨sb.take mc, false, false, sk⟩).length = mc from (by rw [List.length_take, HM6.out]; exact Nat.min_eq_left hmc2))
                    go_wp2_with fail
                    refine (dbytes_any _ _ _ _ _ HJ7.out.dk).mono ?_
                    rintro e w8 ⟨hb8, -, h8⟩
                    obtain ⟨A8, c8, rfl, ho8⟩ := h8 rfl
                    have HJ8 := Lib.hid (HJ7.out.below hb8)
                    rw [HLEN.out] at ho8 ⊢
                    have hs1 := run_str (P := Try.prog) w8 23 5 9 Try.underlying23 Try.underlying5 Try.underlying9 ho8.rd
                    have hs2 := run_str (P := Try.prog) w8 23 5 9 Try.underlying23 Try.underlying5 Try.underlying9 HJ8.out.want.rd
                    clear h8 hb8 ho8
                    go_wp2_with (first
                      | (go_at_call 9; refine (ddown_any _ _ _ _ _ HJ8.out.dk).mono ?_; rintro e w' ⟨rfl, rfl⟩)
                      | (go_at_call 17; refine (dlen_any _ _ _ _ _ HJ8.out.dk).mono ?_; rintro e w' ⟨rfl, rfl⟩; rw [HLEN.out]))
                    go_roundw
                    case rel => exact ⟨k + 1, _, (sb.take mc), false, false, sk, A6, c6, mc, by omega, by go_num, rfl, rfl, rfl, by rw [List.length_take, HM6.out]; exact Nat.min_eq_left hmc2, by decide, HJ8.out⟩
                    case measure => simp [intOf]; omega
          by_cases q3 : d = 3
          · clear q0 q1 q2
            subst q3
            have HK := Lib.hid (Blk.new wr #[.int .i64 3, .slice X m cx, .int .i64 nn] 25)
            have HJ := Lib.hid (HI.out.below ((Below.refl _ wr).alloc (Nat.le_refl _) (.cells #[.int .i64 3, .slice X m cx, .int .i64 nn] 25)))
            have HR := Lib.hid (hr.alloc (.cells #[.int .i64 3, .slice X m cx, .int .i64 nn] 25))
            have HBX2 : Hid (¬ Ft w.heap.size ra wr.heap.size) := Lib.hid (by
              rintro (h | h)
              · have := HI.out.dk.lt.1; omega
              · have := (HI.out.dk.lt.2 _ h.symm).2; omega)
            clear hr
            cases sd with
            | true =>
              obtain rfl : sa = false := HSDA.out rfl
              as_aux_lemma =>
                go_wp2_with fail
                refine (ddown_any _ _ _ _ _ HJ.out.dk).mono ?_
                rintro e w' ⟨rfl, rfl⟩
                go_wp2_with fail
                refine (darm_any _ _ _ _ _ nn hn2 HJ.out.dk).mono ?_
                rintro e w2 ⟨rfl, hS⟩
                rw [show (dArm ⟨sb, true, false, sk⟩ nn).1 = 60 from rfl]
                rw [show (dArm ⟨sb, true, false, sk⟩ nn).2 = ⟨sb, true, false, sk⟩ from rfl] at hS
                have hk2 := HK.out.only hS.only HBX2.out
                have HR2 := Lib.hid (HR.out.only hS.only (fun ad e h0 hf => by
                  have hb := HBX.out ad e (by rw [HXL.out]; exact h0)
                  rcases hf with hf | hf
                  · omega
                  · have := (HI.out.dk.lt.2 _ hf.symm).1; omega))
                obtain ⟨ra2, hj2⟩ := HJ.out.op hS
                have e0 := hk2.cell 0 rfl
                have e1 := hk2.cell 1 rfl
                have e2 := hk2.cell 2 rfl
                have HK2 := Lib.hid hk2
                have HJ2 := Lib.hid hj2
                clear hS hk2 hj2
                
                have HLEN := Lib.hid (show (DS.b ⟨sb, true, false, sk⟩).length = m6 from (HM6.out))
                go_wp2_with fail
                refine (dbytes_any _ _ _ _ _ HJ2.out.dk).mono ?_
                rintro e w8 ⟨hb8, h8, -⟩
                obtain rfl := h8 rfl
                have HJ8 := Lib.hid (HJ2.out.below hb8)
                clear h8 hb8
                go_wp2_with (first
                  | (go_at_call 9; refine (ddown_any _ _ _ _ _ HJ8.out.dk).mono ?_; rintro e w' ⟨rfl, rfl⟩)
                  | (go_at_call 17; refine (dlen_any _ _ _ _ _ HJ8.out.dk).mono ?_; rintro e w' ⟨rfl, rfl⟩; rw [HLEN.out]))
                go_roundw
                case rel => exact ⟨k + 1, _, sb, true, false, sk, A6, c6, m6, by omega, by go_num, rfl, rfl, rfl, HM6.out, by decide, HJ8.out⟩
                case measure => simp [intOf]; omega
            | false =>
              by_cases hbad : nn < 0
              · cases sa with
                | true =>
                  as_aux_lemma =>
                    go_wp2_with fail
                    refine (ddown_any _ _ _ _ _ HJ.out.dk).mono ?_
                    rintro e w' ⟨rfl, rfl⟩
                    go_wp2_with fail
                    refine (darm_any _ _ _ _ _ nn hn2 HJ.out.dk).mono ?_
                    rintro e w2 ⟨rfl, hS⟩
                    rw [show (dArm ⟨sb, false, true, sk⟩ nn).1 = 2 from by unfold dArm; simp only [Bool.false_eq_true, if_false, if_true]; rw [if_pos hbad]]
                    rw [show (dArm ⟨sb, false, true, sk⟩ nn).2 = ⟨sb, false, true, sk⟩ from by unfold dArm; simp only [Bool.false_eq_true, if_false, if_true]; rw [if_pos hbad]] at hS
                    have hk2 := HK.out.only hS.only HBX2.out
                    have HR2 := Lib.hid (HR.out.only hS.only (fun ad e h0 hf => by
                      have hb := HBX.out ad e (by rw [HXL.out]; exact h0)
                      rcases hf with hf | hf
                      · omega
                      · have := (HI.out.dk.lt.2 _ hf.symm).1; omega))
                    obtain ⟨ra2, hj2⟩ := HJ.out.op hS
                    have e0 := hk2.cell 0 rfl
                    have e1 := hk2.cell 1 rfl
                    have e2 := hk2.cell 2 rfl
                    have HK2 := Lib.hid hk2
                    have HJ2 := Lib.hid hj2
                    clear hS hk2 hj2
                    
                    have HLEN := Lib.hid (show (DS.b ⟨sb, false, true, sk⟩).length = m6 from (HM6.out))
                    go_wp2_with fail
                    refine (dbytes_any _ _ _ _ _ HJ2.out.dk).mono ?_
                    rintro e w8 ⟨hb8, -, h8⟩
                    obtain ⟨A8, c8, rfl, ho8⟩ := h8 rfl
                    have HJ8 := Lib.hid (HJ2.out.below hb8)
                    rw [HLEN.out] at ho8 ⊢
                    have hs1 := run_str (P := Try.prog) w8 23 5 9 Try.underlying23 Try.underlying5 Try.underlying9 ho8.rd
                    have hs2 := run_str (P := Try.prog) w8 23 5 9 Try.underlying23 Try.underlying5 Try.underlying9 HJ8.out.want.rd
                    clear h8 hb8 ho8
                    go_wp2_with (first
                      | (go_at_call 9; refine (ddown_any _ _ _ _ _ HJ8.out.dk).mono ?_; rintro e w' ⟨rfl, rfl⟩)
                      | (go_at_call 17; refine (dlen_any _ _ _ _ _ HJ8.out.dk).mono ?_; rintro e w' ⟨rfl, rfl⟩; rw [HLEN.out]))
                    go_roundw
                    case rel => exact ⟨k + 1, _, sb, false, true, sk, A6, c6, m6, by omega, by go_num, rfl, rfl, rfl, HM6.out, by decide, HJ8.out⟩
                    case measure => simp [intOf]; omega
                | false =>
                  as_aux_lemma =>
                    go_wp2_with fail
                    refine (ddown_any _ _ _ _ _ HJ.out.dk).mono ?_
                    rintro e w' ⟨rfl, rfl⟩
                    go_wp2_with fail
                    refine (darm_any _ _ _ _ _ nn hn2 HJ.out.dk).mono ?_
                    rintro e w2 ⟨rfl, hS⟩
                    rw [show (dArm ⟨sb, false, false, sk⟩ nn).1 = 2 from by unfold dArm; simp only [Bool.false_eq_true, if_false, if_true]; rw [if_pos hbad]]
                    rw [show (dArm ⟨sb, false, false, sk⟩ nn).2 = ⟨sb, false, false, sk⟩ from by unfold dArm; simp only [Bool.false_eq_true, if_false, if_true]; rw [if_pos hbad]] at hS
                    have hk2 := HK.out.only hS.only HBX2.out
                    have HR2 := Lib.hid (HR.out.only hS.only (fun ad e h0 hf => by
                      have hb := HBX.out ad e (by rw [HXL.out]; exact h0)
                      rcases hf with hf | hf
                      · omega
                      · have := (HI.out.dk.lt.2 _ hf.symm).1; omega))
                    obtain ⟨ra2, hj2⟩ := HJ.out.op hS
                    have e0 := hk2.cell 0 rfl
                    have e1 := hk2.cell 1 rfl
                    have e2 := hk2.cell 2 rfl
                    have HK2 := Lib.hid hk2
                    have HJ2 := Lib.hid hj2
                    clear hS hk2 hj2
                    
                    have HLEN := Lib.hid (show (DS.b ⟨sb, false, false, sk⟩).length = m6 from (HM6.out))
                    go_wp2_with fail
                    refine (dbytes_any _ _ _ _ _ HJ2.out.dk).mono ?_
                    rintro e w8 ⟨hb8, -, h8⟩
                    obtain ⟨A8, c8, rfl, ho8⟩ := h8 rfl
                    have HJ8 := Lib.hid (HJ2.out.below hb8)
                    rw [HLEN.out] at ho8 ⊢
                    have hs1 := run_str (P := Try.prog) w8 23 5 9 Try.underlying23 Try.underlying5 Try.underlying9 ho8.rd
                    have hs2 := run_str (P := Try.prog) w8 23 5 9 Try.underlying23 Try.underlying5 Try.underlying9 HJ8.out.want.rd
                    clear h8 hb8 ho8
                    go_wp2_with (first
                      | (go_at_call 9; refine (ddown_any _ _ _ _ _ HJ8.out.dk).mono ?_; rintro e w' ⟨rfl, rfl⟩)
                      | (go_at_call 17; refine (dlen_any _ _ _ _ _ HJ8.out.dk).mono ?_; rintro e w' ⟨rfl, rfl⟩; rw [HLEN.out]))
                    go_roundw
                    case rel => exact ⟨k + 1, _, sb, false, false, sk, A6, c6, m6, by omega, by go_num, rfl, rfl, rfl, HM6.out, by decide, HJ8.out⟩
                    case measure => simp [intOf]; omega
              · obtain ⟨mc, hmc⟩ : ∃ mc : Nat, nn = (mc : Int) := ⟨nn.toNat, by omega⟩
                subst hmc
                cases sa with
                | true =>
                  as_aux_lemma =>
                    go_wp2_with fail
                    refine (ddown_any _ _ _ _ _ HJ.out.dk).mono ?_
                    rintro e w' ⟨rfl, rfl⟩
                    go_wp2_with fail
                    refine (darm_any _ _ _ _ _ (mc : Int) hn2 HJ.out.dk).mono ?_
                    rintro e w2 ⟨rfl, hS⟩
                    rw [show (dArm ⟨sb, false, true, sk⟩ (mc : Int)).1 = 0 from by unfold dArm; simp only [Bool.false_eq_true, if_false, if_true]; rw [if_neg (show ¬ (mc : Int) < 0 by omega)]; try rfl]
                    rw [show (dArm ⟨sb, false, true, sk⟩ (mc : Int)).2 = ⟨sb, false, true, mc⟩ from by unfold dArm; simp only [Bool.false_eq_true, if_false, if_true]; rw [if_neg (show ¬ (mc : Int) < 0 by omega)]; try rfl] at hS
                    have hk2 := HK.out.only hS.only HBX2.out
                    have HR2 := Lib.hid (HR.out.only hS.only (fun ad e h0 hf => by
                      have hb := HBX.out ad e (by rw [HXL.out]; exact h0)
                      rcases hf with hf | hf
                      · omega
                      · have := (HI.out.dk.lt.2 _ hf.symm).1; omega))
                    obtain ⟨ra2, hj2⟩ := HJ.out.op hS
                    have e0 := hk2.cell 0 rfl
                    have e1 := hk2.cell 1 rfl
                    have e2 := hk2.cell 2 rfl
                    have HK2 := Lib.hid hk2
                    have HJ2 := Lib.hid hj2
                    clear hS hk2 hj2
                    
                    have HLEN := Lib.hid (show (DS.b ⟨sb, false, true, mc⟩).length = m6 from (HM6.out))
                    go_wp2_with fail
                    refine (dbytes_any _ _ _ _ _ HJ2.out.dk).mono ?_
                    rintro e w8 ⟨hb8, -, h8⟩
                    obtain ⟨A8, c8, rfl, ho8⟩ := h8 rfl
                    have HJ8 := Lib.hid (HJ2.out.below hb8)
                    rw [HLEN.out] at ho8 ⊢
                    have hs1 := run_str (P := Try.prog) w8 23 5 9 Try.underlying23 Try.underlying5 Try.underlying9 ho8.rd
                    have hs2 := run_str (P := Try.prog) w8 23 5 9 Try.underlying23 Try.underlying5 Try.underlying9 HJ8.out.want.rd
                    clear h8 hb8 ho8
                    go_wp2_with (first
                      | (go_at_call 9; refine (ddown_any _ _ _ _ _ HJ8.out.dk).mono ?_; rintro e w' ⟨rfl, rfl⟩)
                      | (go_at_call 17; refine (dlen_any _ _ _ _ _ HJ8.out.dk).mono ?_; rintro e w' ⟨rfl, rfl⟩; rw [HLEN.out]))
                    go_roundw
                    case rel => exact ⟨k + 1, _, sb, false, true, mc, A6, c6, m6, by omega, by go_num, rfl, rfl, rfl, HM6.out, by decide, HJ8.out⟩
                    case measure => simp [intOf]; omega
                | false =>
                  as_aux_lemma =>
                    go_wp2_with fail
                    refine (ddown_any _ _ _ _ _ HJ.out.dk).mono ?_
                    rintro e w' ⟨rfl, rfl⟩
                    go_wp2_with fail
                    refine (darm_any _ _ _ _ _ (mc : Int) hn2 HJ.out.dk).mono ?_
                    rintro e w2 ⟨rfl, hS⟩
                    rw [show (dArm ⟨sb, false, false, sk⟩ (mc : Int)).1 = 0 from by unfold dArm; simp only [Bool.false_eq_true, if_false, if_true]; rw [if_neg (show ¬ (mc : Int) < 0 by omega)]; try rfl]
                    rw [show (dArm ⟨sb, false, false, sk⟩ (mc : Int)).2 = ⟨sb, false, true, mc⟩ from by unfold dArm; simp only [Bool.false_eq_true, if_false, if_true]; rw [if_neg (show ¬ (mc : Int) < 0 by omega)]; try rfl] at hS
                    have hk2 := HK.out.only hS.only HBX2.out
                    have HR2 := Lib.hid (HR.out.only hS.only (fun ad e h0 hf => by
                      have hb := HBX.out ad e (by rw [HXL.out]; exact h0)
                      rcases hf with hf | hf
                      · omega
                      · have := (HI.out.dk.lt.2 _ hf.symm).1; omega))
                    obtain ⟨ra2, hj2⟩ := HJ.out.op hS
                    have e0 := hk2.cell 0 rfl
                    have e1 := hk2.cell 1 rfl
                    have e2 := hk2.cell 2 rfl
                    have HK2 := Lib.hid hk2
                    have HJ2 := Lib.hid hj2
                    clear hS hk2 hj2
                    
                    have HLEN := Lib.hid (show (DS.b ⟨sb, false, true, mc⟩).length = m6 from (HM6.out))
                    go_wp2_with fail
                    refine (dbytes_any _ _ _ _ _ HJ2.out.dk).mono ?_
                    rintro e w8 ⟨hb8, -, h8⟩
                    obtain ⟨A8, c8, rfl, ho8⟩ := h8 rfl
                    have HJ8 := Lib.hid (HJ2.out.below hb8)
                    rw [HLEN.out] at ho8 ⊢
                    have hs1 := run_str (P := Try.prog) w8 23 5 9 Try.underlying23 Try.underlying5 Try.underlying9 ho8.rd
                    have hs2 := run_str (P := Try.prog) w8 23 5 9 Try.underlying23 Try.underlying5 Try.underlying9 HJ8.out.want.rd
                    clear h8 hb8 ho8
                    go_wp2_with (first
                      | (go_at_call 9; refine (ddown_any _ _ _ _ _ HJ8.out.dk).mono ?_; rintro e w' ⟨rfl, rfl⟩)
                      | (go_at_call 17; refine (dlen_any _ _ _ _ _ HJ8.out.dk).mono ?_; rintro e w' ⟨rfl, rfl⟩; rw [HLEN.out]))
                    go_roundw
                    case rel => exact ⟨k + 1, _, sb, false, true, mc, A6, c6, m6, by omega, by go_num, rfl, rfl, rfl, HM6.out, by decide, HJ8.out⟩
                    case measure => simp [intOf]; omega
          by_cases q4 : d = 4
          · clear q0 q1 q2 q3
            subst q4
            have HK := Lib.hid (Blk.new wr #[.int .i64 4, .slice X m cx, .int .i64 nn] 25)
            have HJ := Lib.hid (HI.out.below ((Below.refl _ wr).alloc (Nat.le_refl _) (.cells #[.int .i64 4, .slice X m cx, .int .i64 nn] 25)))
            have HR := Lib.hid (hr.alloc (.cells #[.int .i64 4, .slice X m cx, .int .i64 nn] 25))
            have HBX2 : Hid (¬ Ft w.heap.size ra wr.heap.size) := Lib.hid (by
              rintro (h | h)
              · have := HI.out.dk.lt.1; omega
              · have := (HI.out.dk.lt.2 _ h.symm).2; omega)
            clear hr
            cases sd with
            | true =>
              obtain rfl : sa = false := HSDA.out rfl
              as_aux_lemma =>
                go_wp2_with fail
                refine (ddown_any _ _ _ _ _ HJ.out.dk).mono ?_
                rintro e w' ⟨rfl, rfl⟩
                go_wp2_with fail
                refine (dcrash_any _ _ _ _ _ HJ.out.dk).mono ?_
                rintro e w2 ⟨rfl, hS⟩
                rw [show (dCrash ⟨sb, true, false, sk⟩).1 = 60 from rfl]
                rw [show (dCrash ⟨sb, true, false, sk⟩).2 = ⟨sb, true, false, sk⟩ from rfl] at hS
                have hk2 := HK.out.only hS.only HBX2.out
                have HR2 := Lib.hid (HR.out.only hS.only (fun ad e h0 hf => by
                  have hb := HBX.out ad e (by rw [HXL.out]; exact h0)
                  rcases hf with hf | hf
                  · omega
                  · have := (HI.out.dk.lt.2 _ hf.symm).1; omega))
                obtain ⟨ra2, hj2⟩ := HJ.out.op hS
                have e0 := hk2.cell 0 rfl
                have e1 := hk2.cell 1 rfl
                have e2 := hk2.cell 2 rfl
                have HK2 := Lib.hid hk2
                have HJ2 := Lib.hid hj2
                clear hS hk2 hj2
                
                have HLEN := Lib.hid (show (DS.b ⟨sb, true, false, sk⟩).length = m6 from (HM6.out))
                go_wp2_with fail
                refine (dbytes_any _ _ _ _ _ HJ2.out.dk).mono ?_
                rintro e w8 ⟨hb8, h8, -⟩
                obtain rfl := h8 rfl
                have HJ8 := Lib.hid (HJ2.out.below hb8)
                clear h8 hb8
                go_wp2_with (first
                  | (go_at_call 9; refine (ddown_any _ _ _ _ _ HJ8.out.dk).mono ?_; rintro e w' ⟨rfl, rfl⟩)
                  | (go_at_call 17; refine (dlen_any _ _ _ _ _ HJ8.out.dk).mono ?_; rintro e w' ⟨rfl, rfl⟩; rw [HLEN.out]))
                go_roundw
                case rel => exact ⟨k + 1, _, sb, true, false, sk, A6, c6, m6, by omega, by go_num, rfl, rfl, rfl, HM6.out, by decide, HJ8.out⟩
                case measure => simp [intOf]; omega
            | false =>
              cases sa with
              | true =>
                as_aux_lemma =>
                  go_wp2_with fail
                  refine (ddown_any _ _ _ _ _ HJ.out.dk).mono ?_
                  rintro e w' ⟨rfl, rfl⟩
                  go_wp2_with fail
                  refine (dcrash_any _ _ _ _ _ HJ.out.dk).mono ?_
                  rintro e w2 ⟨rfl, hS⟩
                  rw [show (dCrash ⟨sb, false, true, sk⟩).1 = 0 from rfl]
                  rw [show (dCrash ⟨sb, false, true, sk⟩).2 = ⟨sb, true, false, sk⟩ from rfl] at hS
                  have hk2 := HK.out.only hS.only HBX2.out
                  have HR2 := Lib.hid (HR.out.only hS.only (fun ad e h0 hf => by
                    have hb := HBX.out ad e (by rw [HXL.out]; exact h0)
                    rcases hf with hf | hf
                    · omega
                    · have := (HI.out.dk.lt.2 _ hf.symm).1; omega))
                  obtain ⟨ra2, hj2⟩ := HJ.out.op hS
                  have e0 := hk2.cell 0 rfl
                  have e1 := hk2.cell 1 rfl
                  have e2 := hk2.cell 2 rfl
                  have HK2 := Lib.hid hk2
                  have HJ2 := Lib.hid hj2
                  clear hS hk2 hj2
                  
                  have HLEN := Lib.hid (show (DS.b ⟨sb, true, false, sk⟩).length = m6 from (HM6.out))
                  go_wp2_with fail
                  refine (dbytes_any _ _ _ _ _ HJ2.out.dk).mono ?_
                  rintro e w8 ⟨hb8, h8, -⟩
                  obtain rfl := h8 rfl
                  have HJ8 := Lib.hid (HJ2.out.below hb8)
                  clear h8 hb8
                  go_wp2_with (first
                    | (go_at_call 9; refine (ddown_any _ _ _ _ _ HJ8.out.dk).mono ?_; rintro e w' ⟨rfl, rfl⟩)
                    | (go_at_call 17; refine (dlen_any _ _ _ _ _ HJ8.out.dk).mono ?_; rintro e w' ⟨rfl, rfl⟩; rw [HLEN.out]))
                  go_roundw
                  case rel => exact ⟨k + 1, _, sb, true, false, sk, A6, c6, m6, by omega, by go_num, rfl, rfl, rfl, HM6.out, by decide, HJ8.out⟩
                  case measure => simp [intOf]; omega
              | false =>
                as_aux_lemma =>
                  go_wp2_with fail
                  refine (ddown_any _ _ _ _ _ HJ.out.dk).mono ?_
                  rintro e w' ⟨rfl, rfl⟩
                  go_wp2_with fail
                  refine (dcrash_any _ _ _ _ _ HJ.out.dk).mono ?_
                  rintro e w2 ⟨rfl, hS⟩
                  rw [show (dCrash ⟨sb, false, false, sk⟩).1 = 0 from rfl]
                  rw [show (dCrash ⟨sb, false, false, sk⟩).2 = ⟨sb, true, false, sk⟩ from rfl] at hS
                  have hk2 := HK.out.only hS.only HBX2.out
                  have HR2 := Lib.hid (HR.out.only hS.only (fun ad e h0 hf => by
                    have hb := HBX.out ad e (by rw [HXL.out]; exact h0)
                    rcases hf with hf | hf
                    · omega
                    · have := (HI.out.dk.lt.2 _ hf.symm).1; omega))
                  obtain ⟨ra2, hj2⟩ := HJ.out.op hS
                  have e0 := hk2.cell 0 rfl
                  have e1 := hk2.cell 1 rfl
                  have e2 := hk2.cell 2 rfl
                  have HK2 := Lib.hid hk2
                  have HJ2 := Lib.hid hj2
                  clear hS hk2 hj2
                  
                  have HLEN := Lib.hid (show (DS.b ⟨sb, true, false, sk⟩).length = m6 from (HM6.out))
                  go_wp2_with fail
                  refine (dbytes_any _ _ _ _ _ HJ2.out.dk).mono ?_
                  rintro e w8 ⟨hb8, h8, -⟩
                  obtain rfl := h8 rfl
                  have HJ8 := Lib.hid (HJ2.out.below hb8)
                  clear h8 hb8
                  go_wp2_with (first
                    | (go_at_call 9; refine (ddown_any _ _ _ _ _ HJ8.out.dk).mono ?_; rintro e w' ⟨rfl, rfl⟩)
                    | (go_at_call 17; refine (dlen_any _ _ _ _ _ HJ8.out.dk).mono ?_; rintro e w' ⟨rfl, rfl⟩; rw [HLEN.out]))
                  go_roundw
                  case rel => exact ⟨k + 1, _, sb, true, false, sk, A6, c6, m6, by omega, by go_num, rfl, rfl, rfl, HM6.out, by decide, HJ8.out⟩
                  case measure => simp [intOf]; omega
          by_cases q5 : d = 5
          · clear q0 q1 q2 q3 q4
            subst q5
            have HK := Lib.hid (Blk.new wr #[.int .i64 5, .slice X m cx, .int .i64 nn] 25)
            have HJ := Lib.hid (HI.out.below ((Below.refl _ wr).alloc (Nat.le_refl _) (.cells #[.int .i64 5, .slice X m cx, .int .i64 nn] 25)))
            have HR := Lib.hid (hr.alloc (.cells #[.int .i64 5, .slice X m cx, .int .i64 nn] 25))
            have HBX2 : Hid (¬ Ft w.heap.size ra wr.heap.size) := Lib.hid (by
              rintro (h | h)
              · have := HI.out.dk.lt.1; omega
              · have := (HI.out.dk.lt.2 _ h.symm).2; omega)
            clear hr
            cases sd with
            | true =>
              obtain rfl : sa = false := HSDA.out rfl
              as_aux_lemma =>
                go_wp2_with fail
                refine (ddown_any _ _ _ _ _ HJ.out.dk).mono ?_
                rintro e w' ⟨rfl, rfl⟩
                go_wp2_with fail
                refine (dup_any _ _ _ _ _ HJ.out.dk).mono ?_
                rintro e w2 ⟨rfl, hS⟩
                rw [show (dUp ⟨sb, true, false, sk⟩).1 = 0 from rfl]
                rw [show (dUp ⟨sb, true, false, sk⟩).2 = ⟨sb, false, false, sk⟩ from rfl] at hS
                have hk2 := HK.out.only hS.only HBX2.out
                have HR2 := Lib.hid (HR.out.only hS.only (fun ad e h0 hf => by
                  have hb := HBX.out ad e (by rw [HXL.out]; exact h0)
                  rcases hf with hf | hf
                  · omega
                  · have := (HI.out.dk.lt.2 _ hf.symm).1; omega))
                obtain ⟨ra2, hj2⟩ := HJ.out.op hS
                have e0 := hk2.cell 0 rfl
                have e1 := hk2.cell 1 rfl
                have e2 := hk2.cell 2 rfl
                have HK2 := Lib.hid hk2
                have HJ2 := Lib.hid hj2
                clear hS hk2 hj2
                
                have HLEN := Lib.hid (show (DS.b ⟨sb, false, false, sk⟩).length = m6 from (HM6.out))
                go_wp2_with fail
                refine (dbytes_any _ _ _ _ _ HJ2.out.dk).mono ?_
                rintro e w8 ⟨hb8, -, h8⟩
                obtain ⟨A8, c8, rfl, ho8⟩ := h8 rfl
                have HJ8 := Lib.hid (HJ2.out.below hb8)
                rw [HLEN.out] at ho8 ⊢
                have hs1 := run_str (P := Try.prog) w8 23 5 9 Try.underlying23 Try.underlying5 Try.underlying9 ho8.rd
                have hs2 := run_str (P := Try.prog) w8 23 5 9 Try.underlying23 Try.underlying5 Try.underlying9 HJ8.out.want.rd
                clear h8 hb8 ho8
                go_wp2_with (first
                  | (go_at_call 9; refine (ddown_any _ _ _ _ _ HJ8.out.dk).mono ?_; rintro e w' ⟨rfl, rfl⟩)
                  | (go_at_call 17; refine (dlen_any _ _ _ _ _ HJ8.out.dk).mono ?_; rintro e w' ⟨rfl, rfl⟩; rw [HLEN.out]))
                go_roundw
                case rel => exact ⟨k + 1, _, sb, false, false, sk, A6, c6, m6, by omega, by go_num, rfl, rfl, rfl, HM6.out, by decide, HJ8.out⟩
                case measure => simp [intOf]; omega
            | false =>
              cases sa with
              | true =>
                as_aux_lemma =>
                  go_wp2_with fail
                  refine (ddown_any _ _ _ _ _ HJ.out.dk).mono ?_
                  rintro e w' ⟨rfl, rfl⟩
                  go_wp2_with fail
                  refine (dup_any _ _ _ _ _ HJ.out.dk).mono ?_
                  rintro e w2 ⟨rfl, hS⟩
                  rw [show (dUp ⟨sb, false, true, sk⟩).1 = 2 from rfl]
                  rw [show (dUp ⟨sb, false, true, sk⟩).2 = ⟨sb, false, true, sk⟩ from rfl] at hS
                  have hk2 := HK.out.only hS.only HBX2.out
                  have HR2 := Lib.hid (HR.out.only hS.only (fun ad e h0 hf => by
                    have hb := HBX.out ad e (by rw [HXL.out]; exact h0)
                    rcases hf with hf | hf
                    · omega
                    · have := (HI.out.dk.lt.2 _ hf.symm).1; omega))
                  obtain ⟨ra2, hj2⟩ := HJ.out.op hS
                  have e0 := hk2.cell 0 rfl
                  have e1 := hk2.cell 1 rfl
                  have e2 := hk2.cell 2 rfl
                  have HK2 := Lib.hid hk2
                  have HJ2 := Lib.hid hj2
                  clear hS hk2 hj2
                  
                  have HLEN := Lib.hid (show (DS.b ⟨sb, false, true, sk⟩).length = m6 from (HM6.out))
                  go_wp2_with fail
                  refine (dbytes_any _ _ _ _ _ HJ2.out.dk).mono ?_
                  rintro e w8 ⟨hb8, -, h8⟩
                  obtain ⟨A8, c8, rfl, ho8⟩ := h8 rfl
                  have HJ8 := Lib.hid (HJ2.out.below hb8)
                  rw [HLEN.out] at ho8 ⊢
                  have hs1 := run_str (P := Try.prog) w8 23 5 9 Try.underlying23 Try.underlying5 Try.underlying9 ho8.rd
                  have hs2 := run_str (P := Try.prog) w8 23 5 9 Try.underlying23 Try.underlying5 Try.underlying9 HJ8.out.want.rd
                  clear h8 hb8 ho8
                  go_wp2_with (first
                    | (go_at_call 9; refine (ddown_any _ _ _ _ _ HJ8.out.dk).mono ?_; rintro e w' ⟨rfl, rfl⟩)
                    | (go_at_call 17; refine (dlen_any _ _ _ _ _ HJ8.out.dk).mono ?_; rintro e w' ⟨rfl, rfl⟩; rw [HLEN.out]))
                  go_roundw
                  case rel => exact ⟨k + 1, _, sb, false, true, sk, A6, c6, m6, by omega, by go_num, rfl, rfl, rfl, HM6.out, by decide, HJ8.out⟩
                  case measure => simp [intOf]; omega
              | false =>
                as_aux_lemma =>
                  go_wp2_with fail
                  refine (ddown_any _ _ _ _ _ HJ.out.dk).mono ?_
                  rintro e w' ⟨rfl, rfl⟩
                  go_wp2_with fail
                  refine (dup_any _ _ _ _ _ HJ.out.dk).mono ?_
                  rintro e w2 ⟨rfl, hS⟩
                  rw [show (dUp ⟨sb, false, false, sk⟩).1 = 2 from rfl]
                  rw [show (dUp ⟨sb, false, false, sk⟩).2 = ⟨sb, false, false, sk⟩ from rfl] at hS
                  have hk2 := HK.out.only hS.only HBX2.out
                  have HR2 := Lib.hid (HR.out.only hS.only (fun ad e h0 hf => by
                    have hb := HBX.out ad e (by rw [HXL.out]; exact h0)
                    rcases hf with hf | hf
                    · omega
                    · have := (HI.out.dk.lt.2 _ hf.symm).1; omega))
                  obtain ⟨ra2, hj2⟩ := HJ.out.op hS
                  have e0 := hk2.cell 0 rfl
                  have e1 := hk2.cell 1 rfl
                  have e2 := hk2.cell 2 rfl
                  have HK2 := Lib.hid hk2
                  have HJ2 := Lib.hid hj2
                  clear hS hk2 hj2
                  
                  have HLEN := Lib.hid (show (DS.b ⟨sb, false, false, sk⟩).length = m6 from (HM6.out))
                  go_wp2_with fail
                  refine (dbytes_any _ _ _ _ _ HJ2.out.dk).mono ?_
                  rintro e w8 ⟨hb8, -, h8⟩
                  obtain ⟨A8, c8, rfl, ho8⟩ := h8 rfl
                  have HJ8 := Lib.hid (HJ2.out.below hb8)
                  rw [HLEN.out] at ho8 ⊢
                  have hs1 := run_str (P := Try.prog) w8 23 5 9 Try.underlying23 Try.underlying5 Try.underlying9 ho8.rd
                  have hs2 := run_str (P := Try.prog) w8 23 5 9 Try.underlying23 Try.underlying5 Try.underlying9 HJ8.out.want.rd
                  clear h8 hb8 ho8
                  go_wp2_with (first
                    | (go_at_call 9; refine (ddown_any _ _ _ _ _ HJ8.out.dk).mono ?_; rintro e w' ⟨rfl, rfl⟩)
                    | (go_at_call 17; refine (dlen_any _ _ _ _ _ HJ8.out.dk).mono ?_; rintro e w' ⟨rfl, rfl⟩; rw [HLEN.out]))
                  go_roundw
                  case rel => exact ⟨k + 1, _, sb, false, false, sk, A6, c6, m6, by omega, by go_num, rfl, rfl, rfl, HM6.out, by decide, HJ8.out⟩
                  case measure => simp [intOf]; omega
          have hdd : d < 0 ∨ 5 < d := by omega
          clear q0 q1 q2 q3 q4 q5
          rcases hdd with hdd | hdd
          · skip
            have HK := Lib.hid (Blk.new wr #[.int .i64 5, .slice X m cx, .int .i64 nn] 25)
            have HJ := Lib.hid (HI.out.below ((Below.refl _ wr).alloc (Nat.le_refl _) (.cells #[.int .i64 5, .slice X m cx, .int .i64 nn] 25)))
            have HR := Lib.hid (hr.alloc (.cells #[.int .i64 5, .slice X m cx, .int .i64 nn] 25))
            have HBX2 : Hid (¬ Ft w.heap.size ra wr.heap.size) := Lib.hid (by
              rintro (h | h)
              · have := HI.out.dk.lt.1; omega
              · have := (HI.out.dk.lt.2 _ h.symm).2; omega)
            clear hr
            cases sd with
            | true =>
              obtain rfl : sa = false := HSDA.out rfl
              as_aux_lemma =>
                go_wp2_with fail
                refine (ddown_any _ _ _ _ _ HJ.out.dk).mono ?_
                rintro e w' ⟨rfl, rfl⟩
                go_wp2_with fail
                refine (dup_any _ _ _ _ _ HJ.out.dk).mono ?_
                rintro e w2 ⟨rfl, hS⟩
                rw [show (dUp ⟨sb, true, false, sk⟩).1 = 0 from rfl]
                rw [show (dUp ⟨sb, true, false, sk⟩).2 = ⟨sb, false, false, sk⟩ from rfl] at hS
                have hk2 := HK.out.only hS.only HBX2.out
                have HR2 := Lib.hid (HR.out.only hS.only (fun ad e h0 hf => by
                  have hb := HBX.out ad e (by rw [HXL.out]; exact h0)
                  rcases hf with hf | hf
                  · omega
                  · have := (HI.out.dk.lt.2 _ hf.symm).1; omega))
                obtain ⟨ra2, hj2⟩ := HJ.out.op hS
                have e0 := hk2.cell 0 rfl
                have e1 := hk2.cell 1 rfl
                have e2 := hk2.cell 2 rfl
                have HK2 := Lib.hid hk2
                have HJ2 := Lib.hid hj2
                clear hS hk2 hj2
                
                have HLEN := Lib.hid (show (DS.b ⟨sb, false, false, sk⟩).length = m6 from (HM6.out))
                go_wp2_with fail
                refine (dbytes_any _ _ _ _ _ HJ2.out.dk).mono ?_
                rintro e w8 ⟨hb8, -, h8⟩
                obtain ⟨A8, c8, rfl, ho8⟩ := h8 rfl
                have HJ8 := Lib.hid (HJ2.out.below hb8)
                rw [HLEN.out] at ho8 ⊢
                have hs1 := run_str (P := Try.prog) w8 23 5 9 Try.underlying23 Try.underlying5 Try.underlying9 ho8.rd
                have hs2 := run_str (P := Try.prog) w8 23 5 9 Try.underlying23 Try.underlying5 Try.underlying9 HJ8.out.want.rd
                clear h8 hb8 ho8
                go_wp2_with (first
                  | (go_at_call 9; refine (ddown_any _ _ _ _ _ HJ8.out.dk).mono ?_; rintro e w' ⟨rfl, rfl⟩)
                  | (go_at_call 17; refine (dlen_any _ _ _ _ _ HJ8.out.dk).mono ?_; rintro e w' ⟨rfl, rfl⟩; rw [HLEN.out]))
                go_roundw
                case rel => exact ⟨k + 1, _, sb, false, false, sk, A6, c6, m6, by omega, by go_num, rfl, rfl, rfl, HM6.out, by decide, HJ8.out⟩
                case measure => simp [intOf]; omega
            | false =>
              cases sa with
              | true =>
                as_aux_lemma =>
                  go_wp2_with fail
                  refine (ddown_any _ _ _ _ _ HJ.out.dk).mono ?_
                  rintro e w' ⟨rfl, rfl⟩
                  go_wp2_with fail
                  refine (dup_any _ _ _ _ _ HJ.out.dk).mono ?_
                  rintro e w2 ⟨rfl, hS⟩
                  rw [show (dUp ⟨sb, false, true, sk⟩).1 = 2 from rfl]
                  rw [show (dUp ⟨sb, false, true, sk⟩).2 = ⟨sb, false, true, sk⟩ from rfl] at hS
                  have hk2 := HK.out.only hS.only HBX2.out
                  have HR2 := Lib.hid (HR.out.only hS.only (fun ad e h0 hf => by
                    have hb := HBX.out ad e (by rw [HXL.out]; exact h0)
                    rcases hf with hf | hf
                    · omega
                    · have := (HI.out.dk.lt.2 _ hf.symm).1; omega))
                  obtain ⟨ra2, hj2⟩ := HJ.out.op hS
                  have e0 := hk2.cell 0 rfl
                  have e1 := hk2.cell 1 rfl
                  have e2 := hk2.cell 2 rfl
                  have HK2 := Lib.hid hk2
                  have HJ2 := Lib.hid hj2
                  clear hS hk2 hj2
                  
                  have HLEN := Lib.hid (show (DS.b ⟨sb, false, true, sk⟩).length = m6 from (HM6.out))
                  go_wp2_with fail
                  refine (dbytes_any _ _ _ _ _ HJ2.out.dk).mono ?_
                  rintro e w8 ⟨hb8, -, h8⟩
                  obtain ⟨A8, c8, rfl, ho8⟩ := h8 rfl
                  have HJ8 := Lib.hid (HJ2.out.below hb8)
                  rw [HLEN.out] at ho8 ⊢
                  have hs1 := run_str (P := Try.prog) w8 23 5 9 Try.underlying23 Try.underlying5 Try.underlying9 ho8.rd
                  have hs2 := run_str (P := Try.prog) w8 23 5 9 Try.underlying23 Try.underlying5 Try.underlying9 HJ8.out.want.rd
                  clear h8 hb8 ho8
                  go_wp2_with (first
                    | (go_at_call 9; refine (ddown_any _ _ _ _ _ HJ8.out.dk).mono ?_; rintro e w' ⟨rfl, rfl⟩)
                    | (go_at_call 17; refine (dlen_any _ _ _ _ _ HJ8.out.dk).mono ?_; rintro e w' ⟨rfl, rfl⟩; rw [HLEN.out]))
                  go_roundw
                  case rel => exact ⟨k + 1, _, sb, false, true, sk, A6, c6, m6, by omega, by go_num, rfl, rfl, rfl, HM6.out, by decide, HJ8.out⟩
                  case measure => simp [intOf]; omega
              | false =>
                as_aux_lemma =>
                  go_wp2_with fail
                  refine (ddown_any _ _ _ _ _ HJ.out.dk).mono ?_
                  rintro e w' ⟨rfl, rfl⟩
                  go_wp2_with fail
                  refine (dup_any _ _ _ _ _ HJ.out.dk).mono ?_
                  rintro e w2 ⟨rfl, hS⟩
                  rw [show (dUp ⟨sb, false, false, sk⟩).1 = 2 from rfl]
                  rw [show (dUp ⟨sb, false, false, sk⟩).2 = ⟨sb, false, false, sk⟩ from rfl] at hS
                  have hk2 := HK.out.only hS.only HBX2.out
                  have HR2 := Lib.hid (HR.out.only hS.only (fun ad e h0 hf => by
                    have hb := HBX.out ad e (by rw [HXL.out]; exact h0)
                    rcases hf with hf | hf
                    · omega
                    · have := (HI.out.dk.lt.2 _ hf.symm).1; omega))
                  obtain ⟨ra2, hj2⟩ := HJ.out.op hS
                  have e0 := hk2.cell 0 rfl
                  have e1 := hk2.cell 1 rfl
                  have e2 := hk2.cell 2 rfl
                  have HK2 := Lib.hid hk2
                  have HJ2 := Lib.hid hj2
                  clear hS hk2 hj2
                  
                  have HLEN := Lib.hid (show (DS.b ⟨sb, false, false, sk⟩).length = m6 from (HM6.out))
                  go_wp2_with fail
                  refine (dbytes_any _ _ _ _ _ HJ2.out.dk).mono ?_
                  rintro e w8 ⟨hb8, -, h8⟩
                  obtain ⟨A8, c8, rfl, ho8⟩ := h8 rfl
                  have HJ8 := Lib.hid (HJ2.out.below hb8)
                  rw [HLEN.out] at ho8 ⊢
                  have hs1 := run_str (P := Try.prog) w8 23 5 9 Try.underlying23 Try.underlying5 Try.underlying9 ho8.rd
                  have hs2 := run_str (P := Try.prog) w8 23 5 9 Try.underlying23 Try.underlying5 Try.underlying9 HJ8.out.want.rd
                  clear h8 hb8 ho8
                  go_wp2_with (first
                    | (go_at_call 9; refine (ddown_any _ _ _ _ _ HJ8.out.dk).mono ?_; rintro e w' ⟨rfl, rfl⟩)
                    | (go_at_call 17; refine (dlen_any _ _ _ _ _ HJ8.out.dk).mono ?_; rintro e w' ⟨rfl, rfl⟩; rw [HLEN.out]))
                  go_roundw
                  case rel => exact ⟨k + 1, _, sb, false, false, sk, A6, c6, m6, by omega, by go_num, rfl, rfl, rfl, HM6.out, by decide, HJ8.out⟩
                  case measure => simp [intOf]; omega
          · have hdd0 : ¬ d < 0 := by omega
            have HK := Lib.hid (Blk.new wr #[.int .i64 5, .slice X m cx, .int .i64 nn] 25)
            have HJ := Lib.hid (HI.out.below ((Below.refl _ wr).alloc (Nat.le_refl _) (.cells #[.int .i64 5, .slice X m cx, .int .i64 nn] 25)))
            have HR := Lib.hid (hr.alloc (.cells #[.int .i64 5, .slice X m cx, .int .i64 nn] 25))
            have HBX2 : Hid (¬ Ft w.heap.size ra wr.heap.size) := Lib.hid (by
              rintro (h | h)
              · have := HI.out.dk.lt.1; omega
              · have := (HI.out.dk.lt.2 _ h.symm).2; omega)
            clear hr
            cases sd with
            | true =>
              obtain rfl : sa = false := HSDA.out rfl
              as_aux_lemma =>
                go_wp2_with fail
                refine (ddown_any _ _ _ _ _ HJ.out.dk).mono ?_
                rintro e w' ⟨rfl, rfl⟩
                go_wp2_with fail
                refine (dup_any _ _ _ _ _ HJ.out.dk).mono ?_
                rintro e w2 ⟨rfl, hS⟩
                rw [show (dUp ⟨sb, true, false, sk⟩).1 = 0 from rfl]
                rw [show (dUp ⟨sb, true, false, sk⟩).2 = ⟨sb, false, false, sk⟩ from rfl] at hS
                have hk2 := HK.out.only hS.only HBX2.out
                have HR2 := Lib.hid (HR.out.only hS.only (fun ad e h0 hf => by
                  have hb := HBX.out ad e (by rw [HXL.out]; exact h0)
                  rcases hf with hf | hf
                  · omega
                  · have := (HI.out.dk.lt.2 _ hf.symm).1; omega))
                obtain ⟨ra2, hj2⟩ := HJ.out.op hS
                have e0 := hk2.cell 0 rfl
                have e1 := hk2.cell 1 rfl
                have e2 := hk2.cell 2 rfl
                have HK2 := Lib.hid hk2
                have HJ2 := Lib.hid hj2
                clear hS hk2 hj2
                
                have HLEN := Lib.hid (show (DS.b ⟨sb, false, false, sk⟩).length = m6 from (HM6.out))
                go_wp2_with fail
                refine (dbytes_any _ _ _ _ _ HJ2.out.dk).mono ?_
                rintro e w8 ⟨hb8, -, h8⟩
                obtain ⟨A8, c8, rfl, ho8⟩ := h8 rfl
                have HJ8 := Lib.hid (HJ2.out.below hb8)
                rw [HLEN.out] at ho8 ⊢
                have hs1 := run_str (P := Try.prog) w8 23 5 9 Try.underlying23 Try.underlying5 Try.underlying9 ho8.rd
                have hs2 := run_str (P := Try.prog) w8 23 5 9 Try.underlying23 Try.underlying5 Try.underlying9 HJ8.out.want.rd
                clear h8 hb8 ho8
                go_wp2_with (first
                  | (go_at_call 9; refine (ddown_any _ _ _ _ _ HJ8.out.dk).mono ?_; rintro e w' ⟨rfl, rfl⟩)
                  | (go_at_call 17; refine (dlen_any _ _ _ _ _ HJ8.out.dk).mono ?_; rintro e w' ⟨rfl, rfl⟩; rw [HLEN.out]))
                go_roundw
                case rel => exact ⟨k + 1, _, sb, false, false, sk, A6, c6, m6, by omega, by go_num, rfl, rfl, rfl, HM6.out, by decide, HJ8.out⟩
                case measure => simp [intOf]; omega
            | false =>
              cases sa with
              | true =>
                as_aux_lemma =>
                  go_wp2_with fail
                  refine (ddown_any _ _ _ _ _ HJ.out.dk).mono ?_
                  rintro e w' ⟨rfl, rfl⟩
                  go_wp2_with fail
                  refine (dup_any _ _ _ _ _ HJ.out.dk).mono ?_
                  rintro e w2 ⟨rfl, hS⟩
                  rw [show (dUp ⟨sb, false, true, sk⟩).1 = 2 from rfl]
                  rw [show (dUp ⟨sb, false, true, sk⟩).2 = ⟨sb, false, true, sk⟩ from rfl] at hS
                  have hk2 := HK.out.only hS.only HBX2.out
                  have HR2 := Lib.hid (HR.out.only hS.only (fun ad e h0 hf => by
                    have hb := HBX.out ad e (by rw [HXL.out]; exact h0)
                    rcases hf with hf | hf
                    · omega
                    · have := (HI.out.dk.lt.2 _ hf.symm).1; omega))
                  obtain ⟨ra2, hj2⟩ := HJ.out.op hS
                  have e0 := hk2.cell 0 rfl
                  have e1 := hk2.cell 1 rfl
                  have e2 := hk2.cell 2 rfl
                  have HK2 := Lib.hid hk2
                  have HJ2 := Lib.hid hj2
                  clear hS hk2 hj2
                  
                  have HLEN := Lib.hid (show (DS.b ⟨sb, false, true, sk⟩).length = m6 from (HM6.out))
                  go_wp2_with fail
                  refine (dbytes_any _ _ _ _ _ HJ2.out.dk).mono ?_
                  rintro e w8 ⟨hb8, -, h8⟩
                  obtain ⟨A8, c8, rfl, ho8⟩ := h8 rfl
                  have HJ8 := Lib.hid (HJ2.out.below hb8)
                  rw [HLEN.out] at ho8 ⊢
                  have hs1 := run_str (P := Try.prog) w8 23 5 9 Try.underlying23 Try.underlying5 Try.underlying9 ho8.rd
                  have hs2 := run_str (P := Try.prog) w8 23 5 9 Try.underlying23 Try.underlying5 Try.underlying9 HJ8.out.want.rd
                  clear h8 hb8 ho8
                  go_wp2_with (first
                    | (go_at_call 9; refine (ddown_any _ _ _ _ _ HJ8.out.dk).mono ?_; rintro e w' ⟨rfl, rfl⟩)
                    | (go_at_call 17; refine (dlen_any _ _ _ _ _ HJ8.out.dk).mono ?_; rintro e w' ⟨rfl, rfl⟩; rw [HLEN.out]))
                  go_roundw
                  case rel => exact ⟨k + 1, _, sb, false, true, sk, A6, c6, m6, by omega, by go_num, rfl, rfl, rfl, HM6.out, by decide, HJ8.out⟩
                  case measure => simp [intOf]; omega
              | false =>
                as_aux_lemma =>
                  go_wp2_with fail
                  refine (ddown_any _ _ _ _ _ HJ.out.dk).mono ?_
                  rintro e w' ⟨rfl, rfl⟩
                  go_wp2_with fail
                  refine (dup_any _ _ _ _ _ HJ.out.dk).mono ?_
                  rintro e w2 ⟨rfl, hS⟩
                  rw [show (dUp ⟨sb, false, false, sk⟩).1 = 2 from rfl]
                  rw [show (dUp ⟨sb, false, false, sk⟩).2 = ⟨sb, false, false, sk⟩ from rfl] at hS
                  have hk2 := HK.out.only hS.only HBX2.out
                  have HR2 := Lib.hid (HR.out.only hS.only (fun ad e h0 hf => by
                    have hb := HBX.out ad e (by rw [HXL.out]; exact h0)
                    rcases hf with hf | hf
                    · omega
                    · have := (HI.out.dk.lt.2 _ hf.symm).1; omega))
                  obtain ⟨ra2, hj2⟩ := HJ.out.op hS
                  have e0 := hk2.cell 0 rfl
                  have e1 := hk2.cell 1 rfl
                  have e2 := hk2.cell 2 rfl
                  have HK2 := Lib.hid hk2
                  have HJ2 := Lib.hid hj2
                  clear hS hk2 hj2
                  
                  have HLEN := Lib.hid (show (DS.b ⟨sb, false, false, sk⟩).length = m6 from (HM6.out))
                  go_wp2_with fail
                  refine (dbytes_any _ _ _ _ _ HJ2.out.dk).mono ?_
                  rintro e w8 ⟨hb8, -, h8⟩
                  obtain ⟨A8, c8, rfl, ho8⟩ := h8 rfl
                  have HJ8 := Lib.hid (HJ2.out.below hb8)
                  rw [HLEN.out] at ho8 ⊢
                  have hs1 := run_str (P := Try.prog) w8 23 5 9 Try.underlying23 Try.underlying5 Try.underlying9 ho8.rd
                  have hs2 := run_str (P := Try.prog) w8 23 5 9 Try.underlying23 Try.underlying5 Try.underlying9 HJ8.out.want.rd
                  clear h8 hb8 ho8
                  go_wp2_with (first
                    | (go_at_call 9; refine (ddown_any _ _ _ _ _ HJ8.out.dk).mono ?_; rintro e w' ⟨rfl, rfl⟩)
                    | (go_at_call 17; refine (dlen_any _ _ _ _ _ HJ8.out.dk).mono ?_; rintro e w' ⟨rfl, rfl⟩; rw [HLEN.out]))
                  go_roundw
                  case rel => exact ⟨k + 1, _, sb, false, false, sk, A6, c6, m6, by omega, by go_num, rfl, rfl, rfl, HM6.out, by decide, HJ8.out⟩
                  case measure => simp [intOf]; omega
        · go_wp2_with (go_at_call 7; refine (wakes_any _).mono ?_; rintro e w3 ⟨rfl, HB⟩)
          go_ret
          exact ⟨rfl, HI.out.bel.trans (HB.mono HI.out.bel.size)⟩
end Go.Proofs.Ythbdhilkdamppaa
