import Derived.Lib.ValidLaws
import Derived.LoopN
import Derived.Lib.IndexBytes
import Derived.Laws.BitsAllLaws
import Derived.Test.YtmljdppdaaoehaaGreatDoorCn10
/- The rune at a place, as hoardingref01 has it (One), its Valid, letter, digit, Name: walks. -/
namespace Go.Proofs.YtmljdppdaaoehaaGreatDoor
open Go.RowKit Go.Lib
set_option linter.unusedVariables false
set_option linter.unusedSimpArgs false
set_option maxRecDepth 100000
/-- byte i, 0 behind the end -/
def nb (l : List UInt8) (i : Nat) : Nat := (l.getD i 0).toNat
theorem nb_lt (l : List UInt8) (i : Nat) : nb l i < 256 := UInt8.toNat_lt _
/-- the rune at the head, as the document has it: how many bytes; 0: none -/
def oneN (n b0 b1 b2 b3 : Nat) : Nat × Nat :=
  if n = 0 then (0, 0) else if b0 < 128 then (b0, 1)
  else if 192 ≤ b0 ∧ b0 < 224 then (if n < 2 ∨ b1 < 128 ∨ 191 < b1 ∨ b0 % 32 * 64 + b1 - 128 < 128 then (0, 0) else (b0 % 32 * 64 + b1 - 128, 2))
  else if 224 ≤ b0 ∧ b0 < 240 then (if n < 3 ∨ b1 < 128 ∨ 191 < b1 ∨ b2 < 128 ∨ 191 < b2 ∨ (b0 % 16 * 64 + b1 - 128) * 64 + b2 - 128 < 2048 ∨ 55296 ≤ (b0 % 16 * 64 + b1 - 128) * 64 + b2 - 128 ∧ (b0 % 16 * 64 + b1 - 128) * 64 + b2 - 128 ≤ 57343 then (0, 0) else ((b0 % 16 * 64 + b1 - 128) * 64 + b2 - 128, 3))
  else if 240 ≤ b0 ∧ b0 < 248 then (if n < 4 ∨ b1 < 128 ∨ 191 < b1 ∨ b2 < 128 ∨ 191 < b2 ∨ b3 < 128 ∨ 191 < b3 ∨ ((b0 % 8 * 64 + b1 - 128) * 64 + b2 - 128) * 64 + b3 - 128 < 65536 ∨ 1114111 < ((b0 % 8 * 64 + b1 - 128) * 64 + b2 - 128) * 64 + b3 - 128 then (0, 0) else (((b0 % 8 * 64 + b1 - 128) * 64 + b2 - 128) * 64 + b3 - 128, 4))
  else (0, 0)
def oneL (l : List UInt8) : Nat × Nat := oneN l.length (nb l 0) (nb l 1) (nb l 2) (nb l 3)

set_option maxRecDepth 100000 in
set_option maxHeartbeats 4000000 in
theorem oneN_decode (n b0 b1 b2 b3 : Nat) (hn : 1 ≤ n) (h0 : b0 < 256) (h1 : b1 < 256) (h2 : b2 < 256) (h3 : b3 < 256) :
    ((oneN n b0 b1 b2 b3).2 = 0 ∧ decodeN n b0 b1 b2 b3 = (65533, 1)) ∨ (1 ≤ (oneN n b0 b1 b2 b3).2 ∧ (oneN n b0 b1 b2 b3).2 ≤ n ∧ decodeN n b0 b1 b2 b3 = oneN n b0 b1 b2 b3 ∧ ¬ ((oneN n b0 b1 b2 b3).1 = 65533 ∧ (oneN n b0 b1 b2 b3).2 = 1)) := by
  obtain ⟨p, hp⟩ : ∃ p, oneN n b0 b1 b2 b3 = p := ⟨_, rfl⟩
  rw [hp]
  unfold oneN at hp
  repeat' split at hp
  all_goals subst hp
  all_goals
    first
    | (exfalso; omega)
    | (refine .inl ⟨rfl, ?_⟩; unfold decodeN; repeat' split
       all_goals first | rfl | (exfalso; omega))
    | (refine .inr ⟨by simp, by simp only; omega, ?_, by simp only; omega⟩; unfold decodeN; repeat' split
       all_goals first | (exfalso; omega) | (apply Prod.ext <;> simp only <;> omega))
theorem decodeL_nb (l : List UInt8) : decodeL l = decodeN l.length (nb l 0) (nb l 1) (nb l 2) (nb l 3) := by
  rw [decodeL_N]; rfl
theorem oneL_decode (l : List UInt8) (hne : l ≠ []) : ((oneL l).2 = 0 ∧ decodeL l = (65533, 1)) ∨ (1 ≤ (oneL l).2 ∧ (oneL l).2 ≤ l.length ∧ decodeL l = oneL l ∧ ¬ ((oneL l).1 = 65533 ∧ (oneL l).2 = 1)) := by
  have := oneN_decode l.length (nb l 0) (nb l 1) (nb l 2) (nb l 3) (List.length_pos_iff.2 hne) (nb_lt _ _) (nb_lt _ _) (nb_lt _ _) (nb_lt _ _)
  rwa [← decodeL_nb] at this
theorem nb_drop (l : List UInt8) (i j : Nat) : nb (l.drop i) j = nb l (i + j) := by
  unfold nb
  rw [List.getD_eq_getElem?_getD, List.getD_eq_getElem?_getD, List.getElem?_drop]
theorem oneN_asc {n b0 b1 b2 b3 : Nat} (hn : 1 ≤ n) (hb : b0 < 128) : oneN n b0 b1 b2 b3 = (b0, 1) := by
  unfold oneN; rw [if_neg (by omega), if_pos hb]
theorem oneN_0 {n b0 b1 b2 b3 : Nat} (h : 128 ≤ b0) (h2 : b0 < 192 ∨ 248 ≤ b0) : oneN n b0 b1 b2 b3 = (0, 0) := by
  unfold oneN
  split
  · rfl
  · rw [if_neg (by omega), if_neg (by omega), if_neg (by omega), if_neg (by omega)]
theorem oneN_2 {n b0 b1 b2 b3 : Nat} (hn : 1 ≤ n) (h : 192 ≤ b0) (h2 : b0 < 224) : oneN n b0 b1 b2 b3 = if n < 2 ∨ b1 < 128 ∨ 191 < b1 ∨ b0 % 32 * 64 + b1 - 128 < 128 then (0, 0) else (b0 % 32 * 64 + b1 - 128, 2) := by
  unfold oneN
  rw [if_neg (by omega), if_neg (by omega), if_pos ⟨h, h2⟩]
theorem oneN_3 {n b0 b1 b2 b3 : Nat} (hn : 1 ≤ n) (h : 224 ≤ b0) (h2 : b0 < 240) : oneN n b0 b1 b2 b3 = if n < 3 ∨ b1 < 128 ∨ 191 < b1 ∨ b2 < 128 ∨ 191 < b2 ∨ (b0 % 16 * 64 + b1 - 128) * 64 + b2 - 128 < 2048 ∨ 55296 ≤ (b0 % 16 * 64 + b1 - 128) * 64 + b2 - 128 ∧ (b0 % 16 * 64 + b1 - 128) * 64 + b2 - 128 ≤ 57343 then (0, 0) else ((b0 % 16 * 64 + b1 - 128) * 64 + b2 - 128, 3) := by
  unfold oneN
  rw [if_neg (by omega), if_neg (by omega), if_neg (by omega), if_pos ⟨h, h2⟩]
theorem oneN_4 {n b0 b1 b2 b3 : Nat} (hn : 1 ≤ n) (h : 240 ≤ b0) (h2 : b0 < 248) : oneN n b0 b1 b2 b3 = if n < 4 ∨ b1 < 128 ∨ 191 < b1 ∨ b2 < 128 ∨ 191 < b2 ∨ b3 < 128 ∨ 191 < b3 ∨ ((b0 % 8 * 64 + b1 - 128) * 64 + b2 - 128) * 64 + b3 - 128 < 65536 ∨ 1114111 < ((b0 % 8 * 64 + b1 - 128) * 64 + b2 - 128) * 64 + b3 - 128 then (0, 0) else (((b0 % 8 * 64 + b1 - 128) * 64 + b2 - 128) * 64 + b3 - 128, 4) := by
  unfold oneN
  rw [if_neg (by omega), if_neg (by omega), if_neg (by omega), if_neg (by omega), if_pos ⟨h, h2⟩]
theorem and31 : ∀ c : Fin 256, bits .and .i64 ((c.val : Nat) : Int) 31 = ((c.val % 32 : Nat) : Int) := by decide +kernel
theorem and15' : ∀ c : Fin 256, bits .and .i64 ((c.val : Nat) : Int) 15 = ((c.val % 16 : Nat) : Int) := by decide +kernel
theorem and7 : ∀ c : Fin 256, bits .and .i64 ((c.val : Nat) : Int) 7 = ((c.val % 8 : Nat) : Int) := by decide +kernel
theorem nb_at (s : ByteArray) (i : Nat) (h : i < s.size) {x : UInt8} (hx : s[i] = x) : nb s.data.toList i = x.toNat := by
  unfold nb; rw [List.getD_eq_getElem?_getD, Lib.data_getElem? s i h, hx]; rfl
def OneP (l : List UInt8) (w : World) (e : Ending) (w' : World) : Prop := e = .returned (.tuple #[.int .i64 ((oneL l).1 : Nat), .int .i64 ((oneL l).2 : Nat)]) ∧ w' = w
theorem one_none {l : List UInt8} {w : World} (h : oneL l = (0, 0)) : OneP l w (.returned (.tuple #[.int .i64 0, .int .i64 0])) w := ⟨by rw [h]; rfl, rfl⟩
theorem one_some {l : List UInt8} {w : World} {r n : Nat} {x y : Int} (h : oneL l = (r, n)) (hx : x = (r : Int)) (hy : y = (n : Int)) : OneP l w (.returned (.tuple #[.int .i64 x, .int .i64 y])) w := ⟨by rw [h, hx, hy], rfl⟩
set_option maxHeartbeats 8000000 in
theorem one3 (s : ByteArray) (i : Nat) (hlt : i < s.size) (hs : s.size ≤ 30000) (w : World) (x : UInt8) (HX : Hid (s[i] = x)) (c : Nat) (hci : (x.toNat : Int) = (c : Int)) (clo : 224 ≤ c) (chi : c < 240)
    (HO : Hid (∃ n b1 b2 b3, 1 ≤ n ∧ n = s.size - i ∧ b1 = nb s.data.toList (i + 1) ∧ b2 = nb s.data.toList (i + 2) ∧ b3 = nb s.data.toList (i + 3) ∧ oneL (s.data.toList.drop i) = oneN n c b1 b2 b3)) :
    Calls Tryz.prog 77 #[.string s, .int .i64 (i : Nat)] w (OneP (s.data.toList.drop i) w) := by
  have hx := HX.out
  have hand : bits .and .i64 (c : Int) 15 = ((c % 16 : Nat) : Int) := and15' ⟨c, by omega⟩
  by_cases hn : s.size < i + 3
  · have HE := Lib.hid (show oneL (s.data.toList.drop i) = (0, 0) by obtain ⟨n, b1, b2, b3, h, hn, _, _, _, e⟩ := HO.out; rw [e, oneN_3 h clo chi, if_pos (.inl (by omega))])
    go_enter Tryz.func77, Tryz.ntmps77
    go_wp2_with fail
    go_ret2
    exact one_none HE.out
  have hlt1 : i + 1 < s.size := by omega
  obtain ⟨y, hy⟩ : ∃ y, s[i + 1] = y := ⟨_, rfl⟩
  have HB1 := Lib.hid (nb_at s (i + 1) hlt1 hy)
  obtain ⟨d, hd⟩ : ∃ d, y.toNat = d := ⟨_, rfl⟩
  have hdi : (y.toNat : Int) = (d : Int) := by omega
  rw [hd] at HB1
  have hd256 : d < 256 := by rw [← hd]; exact y.toNat_lt
  clear hd
  have hlt2 : i + 2 < s.size := by omega
  obtain ⟨z, hz⟩ : ∃ z, s[i + 2] = z := ⟨_, rfl⟩
  have HB2 := Lib.hid (nb_at s (i + 2) hlt2 hz)
  obtain ⟨g, hg⟩ : ∃ g, z.toNat = g := ⟨_, rfl⟩
  have hgi : (z.toNat : Int) = (g : Int) := by omega
  rw [hg] at HB2
  have hg256 : g < 256 := by rw [← hg]; exact z.toNat_lt
  clear hg
  have HE := Lib.hid (show oneL (s.data.toList.drop i) = if d < 128 ∨ 191 < d ∨ g < 128 ∨ 191 < g ∨ (c % 16 * 64 + d - 128) * 64 + g - 128 < 2048 ∨ 55296 ≤ (c % 16 * 64 + d - 128) * 64 + g - 128 ∧ (c % 16 * 64 + d - 128) * 64 + g - 128 ≤ 57343 then (0, 0) else ((c % 16 * 64 + d - 128) * 64 + g - 128, 3) by
    obtain ⟨n, b1, b2, b3, h, hn, h1, h2, h3, e⟩ := HO.out
    rw [e, oneN_3 h clo chi, h1, HB1.out, h2, HB2.out]
    congr 1
    simp only [eq_iff_iff]
    omega)
  clear HO HX
  obtain ⟨m, hm⟩ : ∃ m, c % 16 = m := ⟨_, rfl⟩
  rw [hm] at HE hand
  have hm1 : m < 16 := by omega
  clear hm
  by_cases e1 : d < 128
  · rw [if_pos (.inl e1)] at HE
    go_enter Tryz.func77, Tryz.ntmps77
    go_wp2_with fail
    refine wp_loop_rounds 1 ?_
    rw [rounds_succ]
    go_wp2_with fail
    go_ret2
    exact one_none HE.out
  have f0 := e1
  clear e1
  by_cases e1 : 191 < d
  · rw [if_pos (.inr (.inl e1))] at HE
    go_enter Tryz.func77, Tryz.ntmps77
    go_wp2_with fail
    refine wp_loop_rounds 1 ?_
    rw [rounds_succ]
    go_wp2_with fail
    go_ret2
    exact one_none HE.out
  have f1 := e1
  clear e1
  by_cases e1 : g < 128
  · rw [if_pos (.inr (.inr (.inl e1)))] at HE
    go_enter Tryz.func77, Tryz.ntmps77
    go_wp2_with fail
    refine wp_loop_rounds 2 ?_
    rw [rounds_succ]
    go_wp2_with fail
    rw [rounds_succ]
    go_wp2_with fail
    go_ret2
    exact one_none HE.out
  have f2 := e1
  clear e1
  by_cases e1 : 191 < g
  · rw [if_pos (.inr (.inr (.inr (.inl e1))))] at HE
    go_enter Tryz.func77, Tryz.ntmps77
    go_wp2_with fail
    refine wp_loop_rounds 2 ?_
    rw [rounds_succ]
    go_wp2_with fail
    rw [rounds_succ]
    go_wp2_with fail
    go_ret2
    exact one_none HE.out
  have f3 := e1
  clear e1
  by_cases e1 : (m * 64 + d - 128) * 64 + g - 128 < 2048
  · rw [if_pos (.inr (.inr (.inr (.inr (.inl e1)))))] at HE
    go_enter Tryz.func77, Tryz.ntmps77
    go_wp2_with fail
    refine wp_loop_rounds 3 ?_
    rw [rounds_succ]
    go_wp2_with fail
    rw [rounds_succ]
    go_wp2_with fail
    rw [rounds_succ]
    go_wp2_with fail
    go_ret2
    exact one_none HE.out
  have f4 := e1
  clear e1
  by_cases e1 : 55296 ≤ (m * 64 + d - 128) * 64 + g - 128 ∧ (m * 64 + d - 128) * 64 + g - 128 ≤ 57343
  · rw [if_pos (.inr (.inr (.inr (.inr (.inr (e1))))))] at HE
    go_enter Tryz.func77, Tryz.ntmps77
    go_wp2_with fail
    refine wp_loop_rounds 3 ?_
    rw [rounds_succ]
    go_wp2_with fail
    rw [rounds_succ]
    go_wp2_with fail
    rw [rounds_succ]
    go_wp2_with fail
    go_ret2
    exact one_none HE.out
  have f5 := e1
  clear e1
  rw [if_neg (by omega)] at HE
  rcases (show (m * 64 + d - 128) * 64 + g - 128 < 55296 ∨ 57343 < (m * 64 + d - 128) * 64 + g - 128 by omega) with e2 | e2
  all_goals
    go_enter Tryz.func77, Tryz.ntmps77
    go_wp2_with fail
    refine wp_loop_rounds 3 ?_
    rw [rounds_succ]
    go_wp2_with fail
    rw [rounds_succ]
    go_wp2_with fail
    rw [rounds_succ]
    go_wp2_with fail
    go_ret2
    exact one_some HE.out (by omega) rfl
set_option maxHeartbeats 8000000 in
theorem one4 (s : ByteArray) (i : Nat) (hlt : i < s.size) (hs : s.size ≤ 30000) (w : World) (x : UInt8) (HX : Hid (s[i] = x)) (c : Nat) (hci : (x.toNat : Int) = (c : Int)) (clo : 240 ≤ c) (chi : c < 248)
    (HO : Hid (∃ n b1 b2 b3, 1 ≤ n ∧ n = s.size - i ∧ b1 = nb s.data.toList (i + 1) ∧ b2 = nb s.data.toList (i + 2) ∧ b3 = nb s.data.toList (i + 3) ∧ oneL (s.data.toList.drop i) = oneN n c b1 b2 b3)) :
    Calls Tryz.prog 77 #[.string s, .int .i64 (i : Nat)] w (OneP (s.data.toList.drop i) w) := by
  have hx := HX.out
  have hand : bits .and .i64 (c : Int) 7 = ((c % 8 : Nat) : Int) := and7 ⟨c, by omega⟩
  by_cases hn : s.size < i + 4
  · have HE := Lib.hid (show oneL (s.data.toList.drop i) = (0, 0) by obtain ⟨n, b1, b2, b3, h, hn, _, _, _, e⟩ := HO.out; rw [e, oneN_4 h clo chi, if_pos (.inl (by omega))])
    go_enter Tryz.func77, Tryz.ntmps77
    go_wp2_with fail
    go_ret2
    exact one_none HE.out
  have hlt1 : i + 1 < s.size := by omega
  obtain ⟨y, hy⟩ : ∃ y, s[i + 1] = y := ⟨_, rfl⟩
  have HB1 := Lib.hid (nb_at s (i + 1) hlt1 hy)
  obtain ⟨d, hd⟩ : ∃ d, y.toNat = d := ⟨_, rfl⟩
  have hdi : (y.toNat : Int) = (d : Int) := by omega
  rw [hd] at HB1
  have hd256 : d < 256 := by rw [← hd]; exact y.toNat_lt
  clear hd
  have hlt2 : i + 2 < s.size := by omega
  obtain ⟨z, hz⟩ : ∃ z, s[i + 2] = z := ⟨_, rfl⟩
  have HB2 := Lib.hid (nb_at s (i + 2) hlt2 hz)
  obtain ⟨g, hg⟩ : ∃ g, z.toNat = g := ⟨_, rfl⟩
  have hgi : (z.toNat : Int) = (g : Int) := by omega
  rw [hg] at HB2
  have hg256 : g < 256 := by rw [← hg]; exact z.toNat_lt
  clear hg
  have hlt3 : i + 3 < s.size := by omega
  obtain ⟨t, ht⟩ : ∃ t, s[i + 3] = t := ⟨_, rfl⟩
  have HB3 := Lib.hid (nb_at s (i + 3) hlt3 ht)
  obtain ⟨h, hh⟩ : ∃ h, t.toNat = h := ⟨_, rfl⟩
  have hhi : (t.toNat : Int) = (h : Int) := by omega
  rw [hh] at HB3
  have hh256 : h < 256 := by rw [← hh]; exact t.toNat_lt
  clear hh
  have HE := Lib.hid (show oneL (s.data.toList.drop i) = if d < 128 ∨ 191 < d ∨ g < 128 ∨ 191 < g ∨ h < 128 ∨ 191 < h ∨ ((c % 8 * 64 + d - 128) * 64 + g - 128) * 64 + h - 128 < 65536 ∨ 1114111 < ((c % 8 * 64 + d - 128) * 64 + g - 128) * 64 + h - 128 then (0, 0) else (((c % 8 * 64 + d - 128) * 64 + g - 128) * 64 + h - 128, 4) by
    obtain ⟨n, b1, b2, b3, h, hn, h1, h2, h3, e⟩ := HO.out
    rw [e, oneN_4 h clo chi, h1, HB1.out, h2, HB2.out, h3, HB3.out]
    congr 1
    simp only [eq_iff_iff]
    omega)
  clear HO HX
  obtain ⟨m, hm⟩ : ∃ m, c % 8 = m := ⟨_, rfl⟩
  rw [hm] at HE hand
  have hm1 : m < 8 := by omega
  clear hm
  by_cases e1 : d < 128
  · rw [if_pos (.inl e1)] at HE
    go_enter Tryz.func77, Tryz.ntmps77
    go_wp2_with fail
    refine wp_loop_rounds 1 ?_
    rw [rounds_succ]
    go_wp2_with fail
    go_ret2
    exact one_none HE.out
  have f0 := e1
  clear e1
  by_cases e1 : 191 < d
  · rw [if_pos (.inr (.inl e1))] at HE
    go_enter Tryz.func77, Tryz.ntmps77
    go_wp2_with fail
    refine wp_loop_rounds 1 ?_
    rw [rounds_succ]
    go_wp2_with fail
    go_ret2
    exact one_none HE.out
  have f1 := e1
  clear e1
  by_cases e1 : g < 128
  · rw [if_pos (.inr (.inr (.inl e1)))] at HE
    go_enter Tryz.func77, Tryz.ntmps77
    go_wp2_with fail
    refine wp_loop_rounds 2 ?_
    rw [rounds_succ]
    go_wp2_with fail
    rw [rounds_succ]
    go_wp2_with fail
    go_ret2
    exact one_none HE.out
  have f2 := e1
  clear e1
  by_cases e1 : 191 < g
  · rw [if_pos (.inr (.inr (.inr (.inl e1))))] at HE
    go_enter Tryz.func77, Tryz.ntmps77
    go_wp2_with fail
    refine wp_loop_rounds 2 ?_
    rw [rounds_succ]
    go_wp2_with fail
    rw [rounds_succ]
    go_wp2_with fail
    go_ret2
    exact one_none HE.out
  have f3 := e1
  clear e1
  by_cases e1 : h < 128
  · rw [if_pos (.inr (.inr (.inr (.inr (.inl e1)))))] at HE
    go_enter Tryz.func77, Tryz.ntmps77
    go_wp2_with fail
    refine wp_loop_rounds 3 ?_
    rw [rounds_succ]
    go_wp2_with fail
    rw [rounds_succ]
    go_wp2_with fail
    rw [rounds_succ]
    go_wp2_with fail
    go_ret2
    exact one_none HE.out
  have f4 := e1
  clear e1
  by_cases e1 : 191 < h
  · rw [if_pos (.inr (.inr (.inr (.inr (.inr (.inl e1))))))] at HE
    go_enter Tryz.func77, Tryz.ntmps77
    go_wp2_with fail
    refine wp_loop_rounds 3 ?_
    rw [rounds_succ]
    go_wp2_with fail
    rw [rounds_succ]
    go_wp2_with fail
    rw [rounds_succ]
    go_wp2_with fail
    go_ret2
    exact one_none HE.out
  have f5 := e1
  clear e1
  by_cases e1 : ((m * 64 + d - 128) * 64 + g - 128) * 64 + h - 128 < 65536
  · rw [if_pos (.inr (.inr (.inr (.inr (.inr (.inr (.inl e1)))))))] at HE
    go_enter Tryz.func77, Tryz.ntmps77
    go_wp2_with fail
    refine wp_loop_rounds 4 ?_
    rw [rounds_succ]
    go_wp2_with fail
    rw [rounds_succ]
    go_wp2_with fail
    rw [rounds_succ]
    go_wp2_with fail
    rw [rounds_succ]
    go_wp2_with fail
    go_ret2
    exact one_none HE.out
  have f6 := e1
  clear e1
  by_cases e1 : 1114111 < ((m * 64 + d - 128) * 64 + g - 128) * 64 + h - 128
  · rw [if_pos (.inr (.inr (.inr (.inr (.inr (.inr (.inr (e1))))))))] at HE
    go_enter Tryz.func77, Tryz.ntmps77
    go_wp2_with fail
    refine wp_loop_rounds 4 ?_
    rw [rounds_succ]
    go_wp2_with fail
    rw [rounds_succ]
    go_wp2_with fail
    rw [rounds_succ]
    go_wp2_with fail
    rw [rounds_succ]
    go_wp2_with fail
    go_ret2
    exact one_none HE.out
  have f7 := e1
  clear e1
  rw [if_neg (by omega)] at HE
  go_enter Tryz.func77, Tryz.ntmps77
  go_wp2_with fail
  refine wp_loop_rounds 4 ?_
  rw [rounds_succ]
  go_wp2_with fail
  rw [rounds_succ]
  go_wp2_with fail
  rw [rounds_succ]
  go_wp2_with fail
  rw [rounds_succ]
  go_wp2_with fail
  go_ret2
  exact one_some HE.out (by omega) rfl
set_option maxRecDepth 100000 in
set_option maxHeartbeats 8000000 in
theorem one_any (s : ByteArray) (i : Nat) (hi : i ≤ s.size) (hs : s.size ≤ 30000) (w : World) : Calls Tryz.prog 77 #[.string s, .int .i64 (i : Nat)] w (OneP (s.data.toList.drop i) w) := by
  have HSZ := Lib.hid (Lib.size_eq s)
  by_cases he : i = s.size
  · have HE := Lib.hid (show oneL (s.data.toList.drop i) = (0, 0) by rw [List.drop_of_length_le (by have := HSZ.out; omega)]; rfl)
    subst he
    go_enter Tryz.func77, Tryz.ntmps77
    go_wp2_with fail
    go_ret2
    exact one_none HE.out
  have hlt : i < s.size := by omega
  clear hi he
  obtain ⟨x, hx⟩ : ∃ x, s[i] = x := ⟨_, rfl⟩
  have HX := Lib.hid hx
  have HO : Hid (∃ n b1 b2 b3, 1 ≤ n ∧ n = s.size - i ∧ b1 = nb s.data.toList (i + 1) ∧ b2 = nb s.data.toList (i + 2) ∧ b3 = nb s.data.toList (i + 3) ∧ oneL (s.data.toList.drop i) = oneN n x.toNat b1 b2 b3) := Lib.hid (by
    refine ⟨_, _, _, _, ?_, rfl, rfl, rfl, rfl, ?_⟩
    · omega
    · unfold oneL; rw [nb_drop, nb_drop, nb_drop, nb_drop, List.length_drop, Nat.add_zero, nb_at s i hlt hx, ← HSZ.out])
  obtain ⟨c, hc⟩ : ∃ c, x.toNat = c := ⟨_, rfl⟩
  have hc256 : c < 256 := by rw [← hc]; exact x.toNat_lt
  rw [hc] at HO
  have hci : (x.toNat : Int) = (c : Int) := by omega
  have HC := Lib.hid hc
  clear hc
  by_cases c1 : c < 128
  · have HE := Lib.hid (show oneL (s.data.toList.drop i) = (c, 1) by obtain ⟨n, b1, b2, b3, h, _, _, _, _, e⟩ := HO.out; rw [e, oneN_asc h c1])
    go_enter Tryz.func77, Tryz.ntmps77
    go_wp2_with fail
    go_ret2
    exact one_some HE.out rfl rfl
  by_cases c2 : c < 192 ∨ 248 ≤ c
  · have HE := Lib.hid (show oneL (s.data.toList.drop i) = (0, 0) by obtain ⟨n, b1, b2, b3, h, _, _, _, _, e⟩ := HO.out; rw [e, oneN_0 (by omega) c2])
    rcases c2 with c2 | c2
    all_goals
      go_enter Tryz.func77, Tryz.ntmps77
      go_wp2_with fail
      go_ret2
      exact one_none HE.out
  by_cases c3 : c < 224
  · have hand : bits .and .i64 (c : Int) 31 = ((c % 32 : Nat) : Int) := and31 ⟨c, hc256⟩
    by_cases hn : s.size < i + 2
    · have HE := Lib.hid (show oneL (s.data.toList.drop i) = (0, 0) by obtain ⟨n, b1, b2, b3, h, hn, _, _, _, e⟩ := HO.out; rw [e, oneN_2 h (by omega) c3, if_pos (.inl (by omega))])
      go_enter Tryz.func77, Tryz.ntmps77
      go_wp2_with fail
      go_ret2
      exact one_none HE.out
    have hlt1 : i + 1 < s.size := by omega
    obtain ⟨y, hy⟩ : ∃ y, s[i + 1] = y := ⟨_, rfl⟩
    have HB1 := Lib.hid (nb_at s (i + 1) hlt1 hy)
    obtain ⟨d, hd⟩ : ∃ d, y.toNat = d := ⟨_, rfl⟩
    have hdi : (y.toNat : Int) = (d : Int) := by omega
    rw [hd] at HB1
    have hd256 : d < 256 := by rw [← hd]; exact y.toNat_lt
    clear hd
    have HE := Lib.hid (show oneL (s.data.toList.drop i) = if d < 128 ∨ 191 < d ∨ c % 32 * 64 + d - 128 < 128 then (0, 0) else (c % 32 * 64 + d - 128, 2) by
      obtain ⟨n, b1, b2, b3, h, hn, h1, _, _, e⟩ := HO.out
      rw [e, oneN_2 h (by omega) c3, h1, HB1.out]
      congr 1
      simp only [eq_iff_iff]
      omega)
    obtain ⟨m, hm⟩ : ∃ m, c % 32 = m := ⟨_, rfl⟩
    rw [hm] at HE hand
    have hm32 : m < 32 := by omega
    clear hm
    by_cases d1 : d < 128
    · rw [if_pos (.inl d1)] at HE
      go_enter Tryz.func77, Tryz.ntmps77
      go_wp2_with fail
      refine wp_loop_rounds 1 ?_
      rw [rounds_succ]
      go_wp2_with fail
      go_ret2
      exact one_none HE.out
    by_cases d2 : 191 < d
    · rw [if_pos (.inr (.inl d2))] at HE
      go_enter Tryz.func77, Tryz.ntmps77
      go_wp2_with fail
      refine wp_loop_rounds 1 ?_
      rw [rounds_succ]
      go_wp2_with fail
      go_ret2
      exact one_none HE.out
    by_cases d3 : m * 64 + d - 128 < 128
    · rw [if_pos (.inr (.inr d3))] at HE
      go_enter Tryz.func77, Tryz.ntmps77
      go_wp2_with fail
      refine wp_loop_rounds 2 ?_
      rw [rounds_succ]
      go_wp2_with fail
      rw [rounds_succ]
      go_wp2_with fail
      go_ret2
      exact one_none HE.out
    rw [if_neg (by omega)] at HE
    go_enter Tryz.func77, Tryz.ntmps77
    go_wp2_with fail
    refine wp_loop_rounds 2 ?_
    rw [rounds_succ]
    go_wp2_with fail
    rw [rounds_succ]
    go_wp2_with fail
    go_ret2
    exact one_some HE.out (by omega) rfl
  have hxs := HX.out
  by_cases c4 : c < 240
  · exact one3 s i hlt hs w x HX c hci (by omega) c4 HO
  · exact one4 s i hlt hs w x HX c hci (by omega) (by omega) HO
end Go.Proofs.YtmljdppdaaoehaaGreatDoor

/- hoardingref01's Valid, letter, digit, Name: walks. -/
namespace Go.Proofs.YtmljdppdaaoehaaGreatDoor
open Go.RowKit Go.Lib
set_option linter.unusedVariables false
set_option linter.unusedSimpArgs false
set_option maxRecDepth 100000

/-- a text is valid just if a rune stands ahead and what is behind it is valid -/
theorem valid_one (l : List UInt8) (hne : l ≠ []) : validD l = if (oneL l).2 = 0 then false else validD (l.drop (oneL l).2) := by
  rw [validD_step l hne]
  rcases oneL_decode l hne with ⟨h1, h2⟩ | ⟨h1, h2, h3, h4⟩
  · rw [h2, if_pos ⟨rfl, rfl⟩, if_pos h1]
  · rw [h3, if_neg h4, if_neg (by omega)]
theorem oneL_le (l : List UInt8) : (oneL l).2 ≤ l.length := by
  by_cases h : l = []
  · subst h; show (oneN 0 0 0 0 0).2 ≤ 0; unfold oneN; simp
  · rcases oneL_decode l h with ⟨h1, _⟩ | ⟨_, h2, _⟩ <;> omega
set_option maxHeartbeats 8000000 in
theorem rval_any (s : ByteArray) (hs : s.size ≤ 30000) (w : World) : Calls Tryz.prog 57 #[.string s] w fun e w' => e = .returned (.bool (validD s.data.toList)) ∧ w' = w := by
  have HSZ := Lib.hid (Lib.size_eq s)
  obtain ⟨r, hr⟩ : ∃ r, r = validD s.data.toList := ⟨_, rfl⟩
  have HV : Hid (r = validD (s.data.toList.drop 0)) := Lib.hid hr
  rw [← hr]
  clear hr
  go_enter Tryz.func57, Tryz.ntmps57
  go_wp2_with fail
  go_loopg [3] s.size (fun g i wr => ∃ j : Nat, j + g = s.size ∧ i = .int .i64 (j : Nat) ∧ Hid (r = validD (s.data.toList.drop j)) ∧ wr = w)
  case atStart => exact ⟨0, by omega, rfl, HV, rfl⟩
  case round =>
    obtain ⟨j, hj, rfl, HVJ, rfl⟩ := hrel
    by_cases hlt : j < s.size
    · have hjj : (j : Int) < (s.size : Int) := by omega
      have HC := Lib.hid (one_any s j (by omega) hs wr)
      have hne : s.data.toList.drop j ≠ [] := by
        intro e
        have := congrArg List.length e
        rw [List.length_drop, ← HSZ.out] at this
        simp at this; omega
      have hv := valid_one _ hne
      have hle := oneL_le (s.data.toList.drop j)
      rw [List.length_drop, ← HSZ.out] at hle
      rw [List.drop_drop] at hv
      obtain ⟨n, hn⟩ : ∃ n, n = (oneL (s.data.toList.drop j)).2 := ⟨_, rfl⟩
      obtain ⟨q, hq⟩ : ∃ q, q = (oneL (s.data.toList.drop j)).1 := ⟨_, rfl⟩
      unfold OneP at HC
      rw [← hn] at HC hv hle
      rw [← hq] at HC
      clear hn hq hne
      cases n with
      | zero =>
        have HE : Hid (r = false) := Lib.hid (by rw [HVJ.out, hv, if_pos rfl])
        clear hv
        go_wp2_with fail
        refine HC.out.mono ?_
        rintro e w2 ⟨rfl, rfl⟩
        go_wp2_with fail
        go_ret
        exact ⟨by rw [HE.out]; rfl, rfl⟩
      | succ n =>
        have HE : Hid (r = validD (s.data.toList.drop (j + (n + 1)))) := Lib.hid (by rw [HVJ.out, hv, if_neg (by omega)])
        clear hv
        have hnz : ((n + 1 : Nat) : Int) ≠ 0 := by omega
        go_wp2_with fail
        refine HC.out.mono ?_
        rintro e w2 ⟨rfl, rfl⟩
        go_wp2_with fail
        go_roundg (s.size - (j + (n + 1)))
        case measure => omega
        case rel => exact ⟨j + (n + 1), by omega, by go_num, HE, rfl⟩
    · have hjj : ¬ ((j : Int) < (s.size : Int)) := by omega
      have HE : Hid (r = true) := Lib.hid (by rw [HVJ.out, List.drop_of_length_le (by have := HSZ.out; omega)]; rfl)
      go_wp2_with fail
      go_ret
      exact ⟨by rw [HE.out]; rfl, rfl⟩
def isDg (c : Nat) : Bool := decide (48 ≤ c ∧ c ≤ 57)
def isLt (c : Nat) : Bool := decide ((97 ≤ c ∧ c ≤ 122) ∨ (65 ≤ c ∧ c ≤ 90))
theorem isLt_eq : ∀ b : Fin 256, isLetter b.val = isLt b.val := by decide +kernel
theorem rdigit_any (c : Nat) (hc : c < 256) (w : World) : Calls Tryz.prog 72 #[.int .u8 (c : Nat)] w fun e w' => e = .returned (.bool (isDg c)) ∧ w' = w := by
  have h3 : c < 48 ∨ (48 ≤ c ∧ 57 < c) ∨ (48 ≤ c ∧ c ≤ 57) := by omega
  rcases h3 with h | ⟨h, h2⟩ | ⟨h, h2⟩
  · have HE : Hid (isDg c = false) := Lib.hid (by (first | unfold isLt | unfold isDg); first | (rw [decide_eq_true_eq]; omega) | (rw [decide_eq_false_iff_not]; omega))
    go_enter Tryz.func72, Tryz.ntmps72
    go_wp2_with fail
    go_ret; refine ⟨?_, rfl⟩; rw [HE.out]; first | rfl | (refine congrArg (fun b => Ending.returned (Value.bool b)) ?_; first | (simp; done) | (simp; omega))
  · have HE : Hid (isDg c = false) := Lib.hid (by (first | unfold isLt | unfold isDg); first | (rw [decide_eq_true_eq]; omega) | (rw [decide_eq_false_iff_not]; omega))
    go_enter Tryz.func72, Tryz.ntmps72
    go_wp2_with fail
    go_ret; refine ⟨?_, rfl⟩; rw [HE.out]; first | rfl | (refine congrArg (fun b => Ending.returned (Value.bool b)) ?_; first | (simp; done) | (simp; omega))
  · have HE : Hid (isDg c = true) := Lib.hid (by (first | unfold isLt | unfold isDg); first | (rw [decide_eq_true_eq]; omega) | (rw [decide_eq_false_iff_not]; omega))
    go_enter Tryz.func72, Tryz.ntmps72
    go_wp2_with fail
    go_ret; refine ⟨?_, rfl⟩; rw [HE.out]; first | rfl | (refine congrArg (fun b => Ending.returned (Value.bool b)) ?_; first | (simp; done) | (simp; omega))
theorem rletter_any (c : Nat) (hc : c < 256) (w : World) : Calls Tryz.prog 71 #[.int .u8 (c : Nat)] w fun e w' => e = .returned (.bool (isLt c)) ∧ w' = w := by
  have h3 : c < 65 ∨ (65 ≤ c ∧ c ≤ 90 ∧ c < 97) ∨ (90 < c ∧ 65 ≤ c ∧ c < 97) ∨ (97 ≤ c ∧ c ≤ 122) ∨ (122 < c ∧ 97 ≤ c ∧ 65 ≤ c ∧ 90 < c) := by omega
  rcases h3 with h | ⟨h, h2, h4⟩ | ⟨h, h2, h4⟩ | ⟨h, h2⟩ | ⟨h, h2, h4, h5⟩
  · have HE : Hid (isLt c = false) := Lib.hid (by (first | unfold isLt | unfold isDg); first | (rw [decide_eq_true_eq]; omega) | (rw [decide_eq_false_iff_not]; omega))
    go_enter Tryz.func71, Tryz.ntmps71
    go_wp2_with fail
    go_ret; refine ⟨?_, rfl⟩; rw [HE.out]; first | rfl | (refine congrArg (fun b => Ending.returned (Value.bool b)) ?_; first | (simp; done) | (simp; omega))
  · have HE : Hid (isLt c = true) := Lib.hid (by (first | unfold isLt | unfold isDg); first | (rw [decide_eq_true_eq]; omega) | (rw [decide_eq_false_iff_not]; omega))
    go_enter Tryz.func71, Tryz.ntmps71
    go_wp2_with fail
    go_ret; refine ⟨?_, rfl⟩; rw [HE.out]; first | rfl | (refine congrArg (fun b => Ending.returned (Value.bool b)) ?_; first | (simp; done) | (simp; omega))
  · have HE : Hid (isLt c = false) := Lib.hid (by (first | unfold isLt | unfold isDg); first | (rw [decide_eq_true_eq]; omega) | (rw [decide_eq_false_iff_not]; omega))
    go_enter Tryz.func71, Tryz.ntmps71
    go_wp2_with fail
    go_ret; refine ⟨?_, rfl⟩; rw [HE.out]; first | rfl | (refine congrArg (fun b => Ending.returned (Value.bool b)) ?_; first | (simp; done) | (simp; omega))
  · have HE : Hid (isLt c = true) := Lib.hid (by (first | unfold isLt | unfold isDg); first | (rw [decide_eq_true_eq]; omega) | (rw [decide_eq_false_iff_not]; omega))
    go_enter Tryz.func71, Tryz.ntmps71
    go_wp2_with fail
    go_ret; refine ⟨?_, rfl⟩; rw [HE.out]; first | rfl | (refine congrArg (fun b => Ending.returned (Value.bool b)) ?_; first | (simp; done) | (simp; omega))
  · have HE : Hid (isLt c = false) := Lib.hid (by (first | unfold isLt | unfold isDg); first | (rw [decide_eq_true_eq]; omega) | (rw [decide_eq_false_iff_not]; omega))
    go_enter Tryz.func71, Tryz.ntmps71
    go_wp2_with fail
    go_ret; refine ⟨?_, rfl⟩; rw [HE.out]; first | rfl | (refine congrArg (fun b => Ending.returned (Value.bool b)) ?_; first | (simp; done) | (simp; omega))
/-- letters and digits from a place on -/
def nmFrom (l : List UInt8) : Bool := l.all fun b => isLt b.toNat || isDg b.toNat
theorem nameGo_succ : ∀ (l : List UInt8) (i : Nat), nameGo (i + 1) l = nmFrom l
  | [], _ => rfl
  | b :: r, i => by
    unfold nameGo nmFrom
    rw [nameGo_succ r (i + 1), List.all_cons, isLt_eq ⟨b.toNat, b.toNat_lt⟩]
    simp [isDg, nmFrom]
theorem isName_eq (s : ByteArray) (h1 : 1 ≤ s.size) (h2 : s.size ≤ 32) : isName s = (isLt s[0].toNat && nmFrom s.data.toList) := by
  unfold isName
  rw [decide_eq_true (show 0 < s.size ∧ s.size ≤ 32 from ⟨h1, h2⟩), Bool.and_true]
  have h0 : s.data.toList[0]? = some s[0] := Lib.data_getElem? s 0 h1
  cases hl : s.data.toList with
  | nil => rw [hl] at h0; cases h0
  | cons b r =>
    rw [hl] at h0
    injection h0 with h0
    rw [← h0]
    unfold nameGo nmFrom
    rw [nameGo_succ r 0, List.all_cons, isLt_eq ⟨b.toNat, b.toNat_lt⟩]
    cases isLt b.toNat <;> simp [nmFrom]
theorem nmFrom_drop {l : List UInt8} {i : Nat} {b : UInt8} (h : l[i]? = some b) : nmFrom (l.drop i) = ((isLt b.toNat || isDg b.toNat) && nmFrom (l.drop (i + 1))) := by
  rw [drop_cons h]; rfl
set_option maxHeartbeats 8000000 in
theorem rnam_any (s : ByteArray) (hs : s.size ≤ 140737488351232) (w : World) : Calls Tryz.prog 49 #[.string s] w fun e w' => e = .returned (.bool (isName s)) ∧ w' = w := by
  by_cases h1 : s.size < 1
  · have HE : Hid (isName s = false) := Lib.hid (by unfold isName; rw [decide_eq_false (fun h => by omega), Bool.and_false])
    have h1' : (s.size : Int) < 1 := by omega
    go_enter Tryz.func49, Tryz.ntmps49
    go_wp2_with fail
    go_ret
    exact ⟨by rw [HE.out]; rfl, rfl⟩
  by_cases h2 : 32 < s.size
  · have HE : Hid (isName s = false) := Lib.hid (by unfold isName; rw [decide_eq_false (fun h => by omega), Bool.and_false])
    have h1' : ¬ (s.size : Int) < 1 := by omega
    have h2' : (32 : Int) < (s.size : Int) := by omega
    clear h1
    go_enter Tryz.func49, Tryz.ntmps49
    go_wp2_with fail
    go_ret
    exact ⟨by rw [HE.out]; rfl, rfl⟩
  have hn := isName_eq s (by omega) (by omega)
  have h1' : ¬ (s.size : Int) < 1 := by omega
  have h2' : ¬ (32 : Int) < (s.size : Int) := by omega
  have h0 : 0 < s.size := by omega
  have h0' : (0 : Int) < (s.size : Int) := by omega
  obtain ⟨x, hx⟩ : ∃ x, s[0] = x := ⟨_, rfl⟩
  rw [hx] at hn
  obtain ⟨c, hc⟩ : ∃ c, x.toNat = c := ⟨_, rfl⟩
  have hc256 : c < 256 := by rw [← hc]; exact x.toNat_lt
  have hci : (x.toNat : Int) = (c : Int) := by omega
  rw [hc] at hn
  have HC := Lib.hid (rletter_any c hc256 w)
  obtain ⟨r, hr⟩ : ∃ r, r = isName s := ⟨_, rfl⟩
  have HN : Hid (r = (isLt c && nmFrom s.data.toList)) := Lib.hid (by rw [hr, hn])
  rw [← hr]
  clear hn hr hc h1 h2
  obtain ⟨b, hb⟩ : ∃ b, b = isLt c := ⟨_, rfl⟩
  rw [← hb] at HN HC
  clear hb
  cases b with
  | false =>
    have HE : Hid (r = false) := Lib.hid (by rw [HN.out]; rfl)
    go_enter Tryz.func49, Tryz.ntmps49
    go_wp2_with fail
    refine HC.out.mono ?_
    rintro e w2 ⟨rfl, rfl⟩
    go_wp2_with fail
    go_ret
    exact ⟨by rw [HE.out]; rfl, rfl⟩
  | true =>
    have HV : Hid (r = nmFrom (s.data.toList.drop 0)) := Lib.hid (by rw [HN.out]; rfl)
    clear HN
    go_enter Tryz.func49, Tryz.ntmps49
    go_wp2_with fail
    refine HC.out.mono ?_
    rintro e w2 ⟨rfl, rfl⟩
    clear hx hci hc256 HC
    go_wp2_with fail
    go_loopg [3] s.size (fun g i wr => ∃ j : Nat, j + g = s.size ∧ i = .int .i64 (j : Nat) ∧ Hid (r = nmFrom (s.data.toList.drop j)) ∧ wr = w2)
    case atStart => exact ⟨0, by omega, rfl, HV, rfl⟩
    case round =>
      obtain ⟨j, hj, rfl, HVJ, rfl⟩ := hrel
      cases gk with
      | zero =>
        have hjj : ¬ ((j : Int) < (s.size : Int)) := by omega
        have HE : Hid (r = true) := Lib.hid (by rw [HVJ.out, List.drop_of_length_le (by rw [← Lib.size_eq]; omega)]; rfl)
        go_wp2_with fail
        go_ret
        exact ⟨by rw [HE.out]; rfl, rfl⟩
      | succ g =>
        have hlt : j < s.size := by omega
        have hjj : (j : Int) < (s.size : Int) := by omega
        obtain ⟨y, hy⟩ : ∃ y, s[j] = y := ⟨_, rfl⟩
        have hst := nmFrom_drop (hy ▸ Lib.data_getElem? s j hlt)
        obtain ⟨d, hd⟩ : ∃ d, y.toNat = d := ⟨_, rfl⟩
        have hd256 : d < 256 := by rw [← hd]; exact y.toNat_lt
        have hdi : (y.toNat : Int) = (d : Int) := by omega
        rw [hd] at hst
        have HL := Lib.hid (rletter_any d hd256 wr)
        have HD := Lib.hid (rdigit_any d hd256 wr)
        obtain ⟨b, hb⟩ : ∃ b, b = isLt d := ⟨_, rfl⟩
        obtain ⟨b2, hb2⟩ : ∃ b2, b2 = isDg d := ⟨_, rfl⟩
        rw [← hb] at HL hst
        rw [← hb2] at HD hst
        have HST := Lib.hid hst
        clear hst hb hb2 hd
        cases b with
        | true =>
          have HE : Hid (r = nmFrom (s.data.toList.drop (j + 1))) := Lib.hid (by rw [HVJ.out, HST.out]; rfl)
          go_wp2_with fail
          refine HL.out.mono ?_
          rintro e w3 ⟨rfl, rfl⟩
          go_wp2_with fail
          go_roundg g
          case measure => omega
          case rel => exact ⟨j + 1, by omega, by go_num, HE, rfl⟩
        | false =>
          cases b2 with
          | true =>
            have HE : Hid (r = nmFrom (s.data.toList.drop (j + 1))) := Lib.hid (by rw [HVJ.out, HST.out]; rfl)
            go_wp2_with fail
            refine HL.out.mono ?_
            rintro e w3 ⟨rfl, rfl⟩
            go_wp2_with fail
            refine HD.out.mono ?_
            rintro e w4 ⟨rfl, rfl⟩
            go_wp2_with fail
            go_roundg g
            case measure => omega
            case rel => exact ⟨j + 1, by omega, by go_num, HE, rfl⟩
          | false =>
            have HE : Hid (r = false) := Lib.hid (by rw [HVJ.out, HST.out]; rfl)
            go_wp2_with fail
            refine HL.out.mono ?_
            rintro e w3 ⟨rfl, rfl⟩
            go_wp2_with fail
            refine HD.out.mono ?_
            rintro e w4 ⟨rfl, rfl⟩
            go_wp2_with fail
            go_ret
            exact ⟨by rw [HE.out]; rfl, rfl⟩
end Go.Proofs.YtmljdppdaaoehaaGreatDoor
