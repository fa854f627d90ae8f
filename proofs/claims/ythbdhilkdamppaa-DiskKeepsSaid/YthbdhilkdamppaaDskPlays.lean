/- The law DiskPlays. -/
import Derived.Test.YthbdhilkdamppaaDskDoes
import Derived.Deep.LoopGhost
namespace Go.Proofs.Ythbdhilkdamppaa
open Go.RowKit
set_option linter.unusedVariables false
set_option linter.unusedSimpArgs false

theorem Dk.le {t : TypeId} {B B' : Nat} {W : World} {q : Nat} {r : Option Nat} {s : DS} (h : Dk t B W q r s) (hb : B' ≤ B) : Dk t B' W q r s := by
  obtain ⟨A, c, hk, how, hr⟩ := h.blk
  exact ⟨⟨A, c, hk, how.le hb, hr⟩, Nat.le_trans hb h.q, h.len, h.keep⟩
theorem Apart.fresh {t t' : TypeId} {B : Nat} {W W' : World} {qa : Nat} {ra : Option Nat} {qb : Nat} {rb : Option Nat} {s s' : DS} (h : Dk t W.heap.size W' qa ra s) (hk : Dk t' B W qb rb s') : Apart qa ra qb rb := by
  have h1 := h.lt
  have h2 := hk.lt
  have h3 := h.q
  exact ⟨by omega, fun g ha hb => by have := h1.2 g ha; have := h2.2 g hb; omega, fun e => by have := h1.2 _ e; omega, fun e => by have := h2.2 _ e; omega⟩
theorem Dk.ne {t t' : TypeId} {B B' : Nat} {W : World} {qa : Nat} {ra : Option Nat} {qb : Nat} {rb : Option Nat} {s s' : DS} (h : Dk t B W qa ra s) (hk : Dk t' B' W qb rb s') (ht : t ≠ t') : qa ≠ qb := by
  obtain ⟨A, c, hb, _⟩ := h.blk
  obtain ⟨A', c', hb', _⟩ := hk.blk
  rintro rfl
  unfold Blk at hb hb'
  rw [hb] at hb'
  injection hb' with hb'
  injection hb' with _ h2
  exact ht h2

/-- the acts' bytes lie ahead -/
def Before (B : Nat) (xs : List AV) : Prop := ∀ x ∈ xs, ∀ ad, x.A = some ad → 0 < x.b.length → ad.block < B
theorem Acts.before {w : World} {A : Option Addr} {n c : Nat} {xs : List AV} (h : Acts w A n c xs) : Before w.heap.size xs := by
  intro x hx ad e h0
  obtain ⟨i, hi, rfl⟩ := List.getElem_of_mem hx
  obtain ⟨hf, -⟩ := h.row i _ (List.getElem?_eq_getElem hi)
  have := hf.rd
  rw [e] at this
  exact this.lt (by rw [bv_length]; exact h0)

def SomeBool (w : World) (e : Ending) (w' : World) : Prop := (∃ b, e = .returned (.bool b)) ∧ w = w'
set_option maxHeartbeats 1000000 in
theorem great_any (w : World) (A : Option Addr) (n c : Nat) (xs : List AV) (hA : Acts w A n c xs) :
    Calls Try.prog 18 #[.slice A n c] w (SomeBool w) := by
  have hc := hA.cap
  have hm := hA.max
  unfold maxLen at hm
  have HL := Lib.hid hA.len
  go_enter Try.func18, Try.ntmps18
  go_wp2_with fail
  go_loop [3, 4] (fun z i => ∃ k t : Nat, k ≤ n ∧ k ≤ 201 ∧ t ≤ k * 4194304 ∧ i = .int .i64 k ∧ z = .int .i64 t) (fun _ i => n - (intOf i).toNat)
  case atStart => exact ⟨0, 0, Nat.zero_le _, Nat.zero_le _, Nat.zero_le _, rfl, rfl⟩
  case round =>
    obtain ⟨k, t, hk, hk2, ht, rfl, rfl⟩ := hrel
    have ht2 : t ≤ 843055104 := by omega
    by_cases hlt : k < n
    · by_cases h200 : k ≤ 200
      · obtain ⟨x, hx⟩ : ∃ x, xs[k]? = some x := ⟨_, List.getElem?_eq_getElem (by rw [HL.out]; exact hlt)⟩
        obtain ⟨hf, ad, rfl, c0, c1, c2⟩ := hA.row k x hx
        have hAx := Lib.hid hA
        clear hA hx c0 c2
        by_cases h4 : 4194304 < x.b.length
        · go_wp2_with fail
          go_round
          case rel => exact ⟨k + 1, t + 4194304, by omega, by omega, by omega, by go_num, by go_num⟩
          case measure => simp [intOf]; omega
        · go_wp2_with fail
          go_round
          case rel => exact ⟨k + 1, t + x.b.length, by omega, by omega, by omega, by go_num, by go_num⟩
          case measure => simp [intOf]; omega
      · go_wp2_with fail
        all_goals
          go_ret
          exact ⟨⟨_, rfl⟩, rfl⟩
    · go_wp2_with fail
      all_goals
        go_ret
        exact ⟨⟨_, rfl⟩, rfl⟩

/-- the law's state between two acts -/
structure PlayI (w : World) (qa : Nat) (ra : Option Nat) (qb : Nat) (rb : Option Nat) (s : DS) (W : World) : Prop where
  two : Two w.heap.size W qa ra qb rb s
  bel : Below w.heap.size w W

set_option maxRecDepth 100000 in
set_option maxHeartbeats 4000000 in
theorem diskPlays_walk (w : World) (A : Option Addr) (n c : Nat) (xs : List AV) (hA : Acts w A n c xs) :
    Calls Try.prog 4 #[.slice A n c] w (Yes w) := by
  have hc := hA.cap
  have hm := hA.max
  unfold maxLen at hm
  have HL := Lib.hid hA.len
  have HBf := Lib.hid hA.before
  go_enter Try.func4, Try.ntmps4
  go_wp2_with fail
  refine (great_any _ _ _ _ _ hA).mono ?_
  rintro e w' ⟨⟨g, rfl⟩, rfl⟩
  cases g with
  | true =>
    go_wp2_with (go_at_call 7; refine (wakes_any _).mono ?_; rintro e w1 ⟨rfl, HB⟩)
    go_ret
    exact ⟨rfl, HB⟩
  | false =>
    go_wp2_with fail
    refine (dnew_any _).mono ?_
    rintro e w1 ⟨rfl, hb1, hk1⟩
    have HB1 := Lib.hid hb1
    have HK1 := Lib.hid hk1
    clear hb1 hk1
    go_wp2_with fail
    refine (rnew_any _).mono ?_
    rintro e w2 ⟨rfl, hb2, hk2⟩
    have hi : PlayI w w.heap.size none w1.heap.size none DS.new w2 :=
      ⟨⟨HK1.out.below hb2, hk2.le HB1.out.size, (Apart.fresh hk2 HK1.out).symm⟩, HB1.out.trans (hb2.mono HB1.out.size)⟩
    have HI0 := Lib.hid hi
    clear hi hb2 hk2
    go_wp2_with fail
    go_loopw [3, 5] (fun a i wr => ∃ (k qa : Nat) (ra rb : Option Nat) (s : DS), k ≤ n ∧ i = .int .i64 k ∧ a = .pointer (some ⟨qa, 0, none⟩) ∧ PlayI w qa ra w1.heap.size rb s wr) (fun _ i _ => n - (intOf i).toNat)
    case atStart => exact ⟨0, w.heap.size, none, none, DS.new, Nat.zero_le _, rfl, rfl, HI0.out⟩
    case round =>
      obtain ⟨k, qa, ra, rb, s, hk, rfl, rfl, hi⟩ := hrel
      have HI := Lib.hid hi
      clear hi
      by_cases hlt : k < n
      · obtain ⟨x, hx⟩ : ∃ x, xs[k]? = some x := ⟨_, List.getElem?_eq_getElem (by rw [HL.out]; exact hlt)⟩
        have hbx := HBf.out x (List.mem_of_getElem? hx)
        obtain ⟨hf, ad, rfl, c0, c1, c2⟩ := (hA.below HI.out.bel).row k x hx
        have HAx := Lib.hid hA
        have HBX := Lib.hid hbx
        have HF := Lib.hid hf
        clear hA hx hbx hf
        by_cases h6 : x.d = 6
        · have b6 : (x.d == 6) = true := by simp [h6]
          clear h6 c1 c2
          go_wp2_with fail
          refine (dcopy_any _ _ _ _ s HI.out.two.a).mono ?_
          rintro e w3 ⟨q', r', rfl, hb3, hk3⟩
          have hT3 := HI.out.two.below hb3
          have ap3 := Apart.fresh hk3 HI.out.two.a
          have ap3' := Apart.fresh hk3 HI.out.two.b
          have HT3 := Lib.hid hT3
          have HK3 := Lib.hid (hk3.le HI.out.bel.size)
          have HB3 := Lib.hid (HI.out.bel.trans (hb3.mono HI.out.bel.size))
          clear hT3 hk3 hb3
          go_wp2_with fail
          refine (alike_any _ _ _ _ _ _ s HT3.out).mono ?_
          rintro e w4 ⟨rfl, hb4⟩
          have hb5 : Below w4.heap.size w4 (w4.alloc (.cells #[.int .u8 9] 5)) := (Below.refl _ w4).alloc (Nat.le_refl _) _
          have hT4 := (HT3.out.below hb4).below hb5
          have hk4 := (HK3.out.below hb4).below hb5
          have HT4 := Lib.hid hT4
          have HK4 := Lib.hid hk4
          have HB4 := Lib.hid ((HB3.out.trans (hb4.mono HB3.out.size)).alloc (Nat.le_trans HB3.out.size hb4.size) (.cells #[.int .u8 9] 5))
          have hr := Lib.hid (Rd.one w4 5 9 9 rfl)
          clear hT4 hk4 hb4 hb5
          go_wp2_with fail
          refine (dswap_any _ _ _ _ s _ _ _ [9] HT4.out.a hr.out).mono ?_
          rintro e w5 ⟨rfl, hS⟩
          have hk5 := ap3.symm.keep HK4.out hS
          have hd5 := HT4.out.ap.keep HT4.out.b hS
          have hb5 := hS.below HT4.out.a
          obtain ⟨⟨r5, ka5, hr5⟩, -⟩ := hS
          have ap5 := Lib.hid (ap3.symm.step HK4.out hr5)
          have ap5' := Lib.hid (HT4.out.ap.step HT4.out.b hr5)
          have HK5 := Lib.hid hk5
          have HD5 := Lib.hid hd5
          have HB5 := Lib.hid (HB4.out.trans hb5)
          have KA5 := Lib.hid ka5
          clear hk5 hd5 hb5 ka5 hr5
          go_wp2_with fail
          refine (dcrash_any _ _ _ _ _ KA5.out).mono ?_
          rintro e w6 ⟨rfl, hS⟩
          have hk6 := ap5.out.keep HK5.out hS
          have hd6 := ap5'.out.keep HD5.out hS
          have hb6 := hS.below KA5.out
          have hN := Lib.hid (⟨⟨hk6, hd6, ap3'⟩, HB5.out.trans hb6⟩ : PlayI w q' r' w1.heap.size rb s w6)
          clear hk6 hd6 hb6 hS
          go_wp2_with fail
          go_roundw
          case rel => exact ⟨k + 1, q', r', rb, s, by omega, by go_num, rfl, hN.out⟩
          case measure => simp [intOf]; omega
        · have b6 : (x.d == 6) = false := by simp [h6]
          clear h6
          go_wp2_with fail
          refine (does_any _ _ _ _ _ _ s x HI.out.two HF.out HBX.out).mono ?_
          rintro e w3 ⟨rfl, hS⟩
          have hb3 := hS.below HI.out.two
          obtain ⟨⟨ra', rb', hT3, -, -⟩, -⟩ := hS
          have HT3 := Lib.hid hT3
          have HB3 := Lib.hid (HI.out.bel.trans hb3)
          clear hT3 hb3
          go_wp2_with fail
          refine (alike_any _ _ _ _ _ _ _ HT3.out).mono ?_
          rintro e w4 ⟨rfl, hb4⟩
          have hN := Lib.hid (⟨HT3.out.below hb4, HB3.out.trans (hb4.mono HB3.out.size)⟩ : PlayI w qa ra' w1.heap.size rb' _ w4)
          clear hb4
          go_wp2_with fail
          go_roundw
          case rel => exact ⟨k + 1, qa, ra', rb', _, by omega, by go_num, rfl, hN.out⟩
          case measure => simp [intOf]; omega
      · go_wp2_with (go_at_call 7; refine (wakes_any _).mono ?_; rintro e w3 ⟨rfl, HB⟩)
        go_ret
        exact ⟨rfl, HI.out.bel.trans (HB.mono HI.out.bel.size)⟩
end Go.Proofs.Ythbdhilkdamppaa
