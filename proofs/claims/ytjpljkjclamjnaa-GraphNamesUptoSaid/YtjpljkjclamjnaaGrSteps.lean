/- graph.steps. -/
import Derived.Test.YtjpljkjclamjnaaGrWave
namespace Go.Proofs.Ytjpljkjclamjnaa
open Go.RowKit
set_option linter.unusedVariables false
set_option linter.unusedSimpArgs false

/-- who leans on x, among the first i and k leans of the next -/
def tl (L : List (List Nat)) (i : Nat) : Nat := ((L.take i).map List.length).sum
theorem tl_succ {L : List (List Nat)} {i : Nat} (h : i < L.length) : tl L (i + 1) = tl L i + (lean' L i).length := by
  unfold tl
  rw [List.take_add_one, List.getElem?_eq_getElem h, List.map_append, List.sum_append]
  simp [lean', List.getD_eq_getElem?_getD, h]
theorem tl_le (L : List (List Nat)) (i : Nat) : tl L i ≤ (L.map List.length).sum := by
  have : (L.map List.length).sum = tl L i + ((L.drop i).map List.length).sum := by
    unfold tl
    rw [← List.sum_append, ← List.map_append, List.take_append_drop]
  omega
structure BackI (L : List (List Nat)) (i k : Nat) (R : Nat → List Nat) : Prop where
  mem : ∀ x y, y ∈ R x ↔ (y < i ∧ x ∈ lean' L y) ∨ (y = i ∧ x ∈ (lean' L i).take k)
  len : ∀ x, (R x).length ≤ tl L i + k
theorem BackI.start (L : List (List Nat)) : BackI L 0 0 (fun _ => []) := ⟨fun x y => by simp, fun x => by simp⟩
theorem BackI.step {L : List (List Nat)} {i k n : Nat} {R : Nat → List Nat} (h : BackI L i k R) (hn : (lean' L i)[k]? = some n) : BackI L i (k + 1) (fup R n (R n ++ [i])) := by
  refine ⟨fun x y => ?_, fun x => ?_⟩
  · rw [List.take_add_one, hn]
    by_cases e : x = n
    · subst e
      rw [fup_same, List.mem_append, h.mem]
      simp only [Option.toList_some, List.mem_append, List.mem_singleton]
      constructor
      · rintro ((⟨h1, h2⟩ | ⟨h1, h2⟩) | h1)
        · exact .inl ⟨h1, h2⟩
        · exact .inr ⟨h1, .inl h2⟩
        · exact .inr ⟨h1, .inr trivial⟩
      · rintro (⟨h1, h2⟩ | ⟨h1, h2 | h2⟩)
        · exact .inl (.inl ⟨h1, h2⟩)
        · exact .inl (.inr ⟨h1, h2⟩)
        · exact .inr h1
    · rw [fup_other _ _ e, h.mem]
      simp [e]
  · by_cases e : x = n
    · subst e; rw [fup_same, List.length_append]; have := h.len x; simp; omega
    · rw [fup_other _ _ e]; have := h.len x; omega
theorem BackI.next {L : List (List Nat)} {i : Nat} {R : Nat → List Nat} (h : BackI L i (lean' L i).length R) (hl : i < L.length) : BackI L (i + 1) 0 R := by
  refine ⟨fun x y => ?_, fun x => ?_⟩
  rotate_left
  · have := h.len x
    rw [tl_succ hl]
    omega
  rw [h.mem, List.take_length]
  simp only [List.take_zero, List.not_mem_nil, and_false, or_false]
  constructor
  · rintro (⟨h1, h2⟩ | ⟨rfl, h2⟩)
    · exact ⟨by omega, h2⟩
    · exact ⟨by omega, h2⟩
  · rintro ⟨h1, h2⟩
    rcases Nat.lt_or_ge y i with h3 | h3
    · exact .inl ⟨h3, h2⟩
    · obtain rfl : y = i := by omega
      exact .inr ⟨rfl, h2⟩
theorem BackI.done {L : List (List Nat)} {R : Nat → List Nat} (h : BackI L L.length 0 R) : ∀ x y, y ∈ R x ↔ x ∈ lean' L y := fun x y => by
  rw [h.mem]
  simp only [List.take_zero, List.not_mem_nil, and_false, or_false]
  exact ⟨fun h => h.2, fun h => ⟨lean_lt h, h⟩⟩

structure BkS (w : World) (n : Nat) (V : Nat → Option Addr × Nat) (R : Nat → List Nat) (W : World) : Prop where
  rows : RowsI W w.heap.size n V R
  bel : Below w.heap.size w W

set_option maxHeartbeats 2000000 in
theorem steps_any (A : Option Addr) (n c t : Nat) (L : List (List Nat)) (w : World) (h : II w A n c (cL L)) (hn : n ≤ 1000) (hok : okG L) (hB : (L.map List.length).sum * 8 ≤ 140737488355328) (ht : t < n) :
    Calls Try.prog 24 #[.slice A n c, .int .i64 (t : Int)] w (fun e w' => Below w.heap.size w w' ∧ ∃ b m f, e = .returned (.map (some b)) ∧ w.heap.size ≤ b ∧ MI w' b m (ofN f) ∧ IsD L t f ∧ ∀ i, f i ≤ n + 2) := by
  have hc := h.cap
  have hmx := h.max
  unfold maxLen at hmx
  have hlen : L.length = n := by have := h.len; simpa using this
  have HLEN := Lib.hid hlen
  have H0 := Lib.hid h
  have HOK := Lib.hid hok
  have HB := Lib.hid hB
  clear h hok hB hlen
  have hmk := make_rows n (by omega)
  have hmm := @run_makeMap Try.prog
  go_enter Try.func24, Try.ntmps24
  go_wp2_with fail
  clear hmk
  go_loopg [25] n (fun g q25 wr => ∃ (i : Nat) (V : Nat → Option Addr × Nat) (R : Nat → List Nat), i + g = n ∧ q25 = .int .i64 (i : Nat) ∧ Hid (BkS w n V R wr) ∧ Hid (BackI L i 0 R))
  case atStart => exact ⟨0, _, _, by omega, rfl, Lib.hid ⟨RowsI.new w n, (Below.refl _ w).alloc (Nat.le_refl _) _⟩, Lib.hid (BackI.start L)⟩
  case round =>
    obtain ⟨i, V, R, hi, rfl, HS, HK⟩ := hrel
    cases gk with
    | zero =>
      have hk : ¬ ((i : Int) < (n : Int)) := by omega
      have HM : Hid (∀ x y, y ∈ R x ↔ x ∈ lean' L y) := Lib.hid (by
        have hin : i = L.length := by rw [HLEN.out]; omega
        subst hin; exact HK.out.done)
      clear HK hi
      obtain ⟨W0, rfl⟩ : ∃ W0 : World, W0 = wr := ⟨_, rfl⟩
      go_wp2_with fail
      clear hmm hk
      go_loopg [11, 12] (2 * n + 1) (fun g q11 q12 W1 => ∃ (d m : Nat) (f : Nat → Nat) (Aw : Option Addr) (cw z : Nat) (Wv : List Nat), q11 = .slice Aw z cw ∧ q12 = .int .i64 (d : Nat) ∧ Hid (Wv.length = z) ∧ Hid (WvS W0 m f Aw cw Wv W1) ∧ Hid (WvP L t n d m f Wv g))
      case atStart => exact ⟨1, 0, _, _, _, 1, [t], rfl, rfl, Lib.hid rfl, Lib.hid (WvS.start W0 t), Lib.hid (WvP.start L t n)⟩
      case round =>
        obtain ⟨d, m, f, Aw, cw, z, Wv, rfl, rfl, HZ, HW, HP⟩ := hrel
        obtain ⟨W1, rfl⟩ : ∃ W1 : World, W1 = wr := ⟨_, rfl⟩
        by_cases hz0 : z = 0
        · subst hz0
          have HE : Hid (Wv = []) := Lib.hid (List.eq_nil_of_length_eq_zero HZ.out)
          go_wp2_with fail
          go_ret
          refine ⟨HS.out.bel.past HW.out.bel, _, m, f, rfl, HS.out.bel.size, HW.out.map, ?_, fun i => ?_⟩
          · have := HP.out.bfs
            rw [HE.out] at this
            exact this.done
          · by_cases hf : f i = 0
            · omega
            · have := (HP.out.bfs.sound i hf).2
              have := HP.out.small.1
              omega
        · have hz : 0 < z := by omega
          have hzi : 0 < (z : Int) := by omega
          have HNE : Hid (Wv ≠ []) := Lib.hid (by intro e; have := HZ.out; rw [e] at this; exact hz0 this.symm)
          obtain ⟨hd2, hd1⟩ := HP.out.small
          have hwc := HW.out.wave.rd.cap
          have hwm := HW.out.wave.rd.max
          unfold maxLen at hwm
          rw [HZ.out] at hwc
          cases gk with
          | zero => exact absurd (HP.out.nonzero HNE.out) (by omega)
          | succ g =>
          clear hz0
          go_wp2_with fail
          go_loopg [13, 58] z (fun g2 q13 q58 W2 => ∃ (j m2 : Nat) (f2 : Nat → Nat) (An : Option Addr) (cn : Nat) (nx : List Nat), j + g2 = z ∧ q58 = .int .i64 (j : Nat) ∧ q13 = .slice An nx.length cn ∧ Hid (WvR W0 W1 m2 f2 An cn nx W2) ∧ Hid (NxI n ((Wv.take j).flatMap R) d m2 f f2 nx))
          case atStart => exact ⟨0, m, f, none, 0, [], by omega, rfl, rfl, Lib.hid HW.out.begin, Lib.hid ⟨rfl, HP.out.cnt, Nat.zero_le _⟩⟩
          case round =>
            obtain ⟨j, m2, f2, An, cn, nx, hj, rfl, rfl, HR, HN⟩ := hrel
            cases gk with
            | zero =>
              have hjz : ¬ ((j : Int) < (z : Int)) := by omega
              have HJ : Hid (Wv.take j = Wv) := Lib.hid (List.take_of_length_le (by rw [HZ.out]; omega))
              clear hj
              go_wp2_with fail
              go_roundg g
              case measure => omega
              case rel => exact ⟨d + 1, m2, f2, An, cn, nx.length, nx, rfl, by go_num, Lib.hid rfl, Lib.hid HR.out.done, Lib.hid (HP.out.next HLEN.out HNE.out (l := Wv.flatMap R) (flat_mem HM.out) (by have := HN.out; rwa [HJ.out] at this))⟩
            | succ g2 =>
              have hjz : (j : Int) < (z : Int) := by omega
              obtain ⟨x, hx⟩ : ∃ x, Wv[j]? = some x := ⟨_, List.getElem?_eq_getElem (by rw [HZ.out]; omega)⟩
              have hxn : x < n := HP.out.node HLEN.out ht (List.mem_of_getElem? hx)
              have hrw := (WvR.wav HW.out HR.out).rd
              rw [HZ.out] at hrw
              obtain ⟨adw, rfl, -⟩ := hrw.addr (by omega) (by omega)
              have hxc := hrw.icell (cI_get hx)
              have hrb := (HS.out.rows.below HR.out.bel)
              obtain ⟨Ax, cx, hxr, hrx⟩ : ∃ Ax cx, wr.cell? ⟨w.heap.size, x, none⟩ = some (.slice Ax (R x).length cx) ∧ ∀ W' : World, Below W0.heap.size W0 W' → Rd W' 1 Ax (R x).length cx (ivI (cI (R x))) :=
                ⟨_, _, hrb.cell hxn, fun W' hb => ((HS.out.rows.below hb).own x hxn).rd⟩
              have hrxc := (hrx _ HR.out.bel).cap
              have hrxm := (hrx _ HR.out.bel).max
              unfold maxLen at hrxm
              have HX := Lib.hid hx
              have HRX := Lib.hid hrx
              clear hx hrw hrb hrx
              obtain ⟨W2, rfl⟩ : ∃ W2 : World, W2 = wr := ⟨_, rfl⟩
              go_wp2_with fail
              go_loopg [13, 67] (R x).length (fun g3 q13 q67 W3 => ∃ (k m3 : Nat) (f3 : Nat → Nat) (An3 : Option Addr) (cn3 : Nat) (nx3 : List Nat), k + g3 = (R x).length ∧ q67 = .int .i64 (k : Nat) ∧ q13 = .slice An3 nx3.length cn3 ∧ Hid (WvR W0 W1 m3 f3 An3 cn3 nx3 W3) ∧ Hid (NxI n ((Wv.take j).flatMap R ++ (R x).take k) d m3 f f3 nx3))
              case atStart => exact ⟨0, m2, f2, An, cn, nx, by omega, rfl, rfl, HR, Lib.hid (by simpa using HN.out)⟩
              case round =>
                obtain ⟨k, m3, f3, An3, cn3, nx3, hkl, rfl, rfl, HR3, HN3⟩ := hrel
                cases gk with
                | zero =>
                  have hkk : ¬ ((k : Int) < ((R x).length : Int)) := by omega
                  have HJ : Hid ((R x).take k = R x) := Lib.hid (List.take_of_length_le (by omega))
                  clear hkl
                  go_wp2_with fail
                  go_roundg g2
                  case measure => omega
                  case rel => exact ⟨j + 1, m3, f3, An3, cn3, nx3, by omega, by go_num, rfl, HR3, Lib.hid (by have := HN3.out; rw [HJ.out] at this; rw [flat_take HX.out]; exact this)⟩
                | succ g3 =>
                  have hkk : (k : Int) < ((R x).length : Int) := by omega
                  obtain ⟨i, hi⟩ : ∃ i, (R x)[k]? = some i := ⟨_, List.getElem?_eq_getElem (by omega)⟩
                  have hin : i < n := by have := lean_lt ((HM.out x i).1 (List.mem_of_getElem? hi)); rw [HLEN.out] at this; exact this
                  have hrx := HRX.out wr HR3.out.bel
                  obtain ⟨adx, rfl, -⟩ := hrx.addr (by omega) (by omega)
                  have hic := hrx.icell (cI_get hi)
                  have hl0 := HR3.out.map.look2 (k := (i : Int)) (by omega) (by omega)
                  rw [ofN_nat] at hl0
                  have HT := Lib.hid (take_one hi)
                  have hm3 : m3 ≤ n := by have := HN3.out.cnt; omega
                  have hn3 := HN3.out.len
                  clear hi hrx
                  by_cases hf : f3 i = 0
                  · have hb : (f3 i != 0) = false := by simp [hf]
                    rw [hb] at hl0
                    have HF := Lib.hid hf
                    clear hb hf
                    go_wp2_with (first
                      | (at_mapUpdate; refine put_MI rfl _ _ _ rfl W0.heap.size m3 (ofN f3) rfl HR3.out.map (by unfold maxLen; omega) (i : Int) (by omega) (by omega) rfl d (by omega) (by omega) rfl ?_; intro w1 hm1 hg1; have HM1 := Lib.hid hm1; have HG1 := Lib.hid hg1; clear hm1 hg1)
                      | (at_builtin; refine app_int rfl (.tmp 82) (.tmp 84) rfl W1.heap.size An3 cn3 nx3.length (cI nx3) rfl (HR3.out.row1 HG1.out _) _ 1 1 [(i : Int)] rfl (Rd.oneI _ _ _) (by omega) (by have h1 := HR3.out.only.size; have h2 := HG1.out.size; rw [World.size_alloc]; omega) ?_; intro A4 c4 w4 ho4 hg4 hat4; have HO4 := Lib.hid ho4; have HG4 := Lib.hid hg4; clear ho4 hg4 hat4))
                    all_goals
                      go_roundg g3
                      case measure => omega
                      case rel => exact ⟨k + 1, m3 + 1, upd f3 i d, A4, c4, nx3 ++ [i], by omega, by go_num, by simp, Lib.hid (HR3.out.put HM1.out HG1.out HO4.out HG4.out), Lib.hid (by rw [HT.out, ← List.append_assoc]; exact HN3.out.put (by omega) hin HF.out)⟩
                  · have hb : (f3 i != 0) = true := by simp [hf]
                    rw [hb] at hl0
                    have HF := Lib.hid hf
                    clear hb hf
                    go_wp2_with fail
                    go_roundg g3
                    case measure => omega
                    case rel => exact ⟨k + 1, m3, f3, An3, cn3, nx3, by omega, by go_num, rfl, HR3, Lib.hid (by rw [HT.out, ← List.append_assoc]; exact HN3.out.skip HF.out)⟩
    | succ g =>
      have hk : (i : Int) < (n : Int) := by omega
      obtain ⟨ad0, Ai, ci, rfl, hro⟩ := H0.out.row2 (i := i) (by rw [HLEN.out]; omega)
      obtain ⟨hcl, hr⟩ := hro wr HS.out.bel
      have hrc := hr.cap
      have hrm := hr.max
      unfold maxLen at hrm
      have HRO := Lib.hid hro
      clear hr hro
      go_wp2_with fail
      go_loopg [32] (lean' L i).length (fun g2 q32 wi => ∃ (k : Nat) (V : Nat → Option Addr × Nat) (R : Nat → List Nat), k + g2 = (lean' L i).length ∧ q32 = .int .i64 (k : Nat) ∧ Hid (BkS w n V R wi) ∧ Hid (BackI L i k R))
      case atStart => exact ⟨0, V, R, by omega, rfl, HS, HK⟩
      case round =>
        obtain ⟨k, V2, R2, hkl, rfl, HS2, HK2⟩ := hrel
        cases gk with
        | zero =>
          have hkk : ¬ ((k : Int) < ((lean' L i).length : Int)) := by omega
          have HE : Hid (k = (lean' L i).length) := Lib.hid (by omega)
          clear hkl
          go_wp2_with fail
          go_roundg g
          case measure => omega
          case rel => exact ⟨i + 1, V2, R2, by omega, by go_num, HS2, Lib.hid (BackI.next (by rw [← HE.out]; exact HK2.out) (by rw [HLEN.out]; omega))⟩
        | succ g2 =>
          have hkk : (k : Int) < ((lean' L i).length : Int) := by omega
          obtain ⟨x, hx⟩ : ∃ x, (lean' L i)[k]? = some x := ⟨_, List.getElem?_eq_getElem (by omega)⟩
          have hxn : x < n := by have := HOK.out i x (List.mem_of_getElem? hx); rw [HLEN.out] at this; exact this
          have hr := (HRO.out wr HS2.out.bel).2
          obtain ⟨adl, rfl, -⟩ := hr.addr (by omega) (by omega)
          have hxc := hr.icell (cI_get hx)
          have hrc3 := HS2.out.rows.cell hxn
          have hrf3 := HS2.out.rows.frozen x
          have hRl := HK2.out.len x
          have HX := Lib.hid hx
          have hRl2 : ((R2 x).length + 1) * 8 ≤ 140737488355328 := by
            have h1 := HB.out
            have h2 := tl_le L (i + 1)
            rw [tl_succ (by rw [HLEN.out]; omega)] at h2
            omega
          clear hx hr
          go_wp2_with (at_builtin; refine app_int rfl (.tmp 41) (.tmp 43) rfl (w.heap.size + 1) (V2 x).1 (V2 x).2 (R2 x).length (cI (R2 x)) rfl ((HS2.out.rows.own x hxn).alloc _) _ 1 1 [(i : Int)] rfl (Rd.oneI _ _ _) hRl2 (by have := HS2.out.rows.bk.lt; rw [World.size_alloc]; omega) ?_; intro A3 c3 w3 ho3 hg3 hat3; have hbk3 := ((HS2.out.rows.bk.alloc (.cells #[.int .i64 (i : Int)] 3)).grown hg3 (fun e => by have := ((HS2.out.rows.own x hxn).lt e).1; omega)); have hf3 := hbk3.frozen x; have hc3 : w3.cell? ⟨w.heap.size, x, none⟩ = some (slV V2 R2 x) := hbk3.cell x (by simp [hxn]); clear hbk3; have HO3 := Lib.hid ho3; have HG3 := Lib.hid hg3; have HA3 := Lib.hid hat3; clear ho3 hg3 hat3)
          all_goals
            go_roundg g2
            case measure => omega
            case rel =>
              exact ⟨k + 1, fup V2 x (A3, c3), fup R2 x (R2 x ++ [i]), by omega, by go_num, Lib.hid ⟨(HS2.out.rows.below ((Below.refl _ _).alloc (Nat.le_refl _) _)).app hxn (by simp) HO3.out HG3.out (HA3.out.elim .inl (fun e => .inr (fun g hg => by rw [e] at hg; injection hg with hg; exact Nat.le_of_eq hg))), ((HS2.out.bel.alloc HS2.out.bel.size _).grown HG3.out (by have := HS2.out.bel.size; simp; omega) (fun g hg => by have := ((HS2.out.rows.own x hxn).lt hg).1; omega)).setCell (Nat.le_refl _) _⟩, Lib.hid (HK2.out.step HX.out)⟩
end Go.Proofs.Ytjpljkjclamjnaa
