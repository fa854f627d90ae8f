/- strconv.ParseUint of one byte, base 16. -/
import Derived.Test.YtffamppgnooaeaaDoorRuQuote
import Derived.Shelf.Strconv.ToError
import Derived.Laws.IdiomStrings
import Derived.Laws.BitsAllLaws
namespace Go.Proofs.YtffamppgnooaeaaDoor
open Go.Shelf Go.RowKit
set_option linter.unusedVariables false
set_option linter.unusedSimpArgs false

def sh_laysC245_ren : Go.Shelf.Ren := ⟨fun | 245 => 34 | 279 => 37 | 280 => 38 | 281 => 39 | 282 => 40 | 316 => 41 | 171 => 43 | 205 => 42 | 243 => 44 | 246 => 45 | 283 => 46 | 284 => 47 | 285 => 48 | 286 => 49 | 129 => 51 | 317 => 50 | 318 => 52 | 319 => 53 | 320 => 54 | 337 => 55 | 338 => 56 | n => n, fun | 9 => 9 | 3 => 3 | 75 => 44 | 167 => 73 | 4 => 4 | 168 => 75 | 210 => 80 | 37 => 37 | 0 => 0 | 127 => 55 | 145 => 84 | 143 => 82 | 2 => 2 | 171 => 86 | 53 => 66 | 5 => 5 | 173 => 89 | 212 => 93 | 51 => 94 | 20 => 20 | 213 => 95 | 46 => 53 | 232 => 99 | 233 => 100 | 80 => 40 | n => n, fun | 15 => 2 | 16 => 3 | 17 => 4 | 18 => 5 | 19 => 6 | n => n⟩
theorem sh_laysC245 : Go.Proofs.LaysC.n245 Tryd.prog sh_laysC245_ren := {
  mixed := by kernel_rfl
  f129 := Tryd.func51.trans (congrArg some (by kernel_rfl))
  f171 := Tryd.func43.trans (congrArg some (by kernel_rfl))
  f205 := Tryd.func42.trans (congrArg some (by kernel_rfl))
  f243 := Tryd.func44.trans (congrArg some (by kernel_rfl))
  f245 := Tryd.func34.trans (congrArg some (by kernel_rfl))
  f246 := Tryd.func45.trans (congrArg some (by kernel_rfl))
  f279 := Tryd.func37.trans (congrArg some (by kernel_rfl))
  f280 := Tryd.func38.trans (congrArg some (by kernel_rfl))
  f281 := Tryd.func39.trans (congrArg some (by kernel_rfl))
  f282 := Tryd.func40.trans (congrArg some (by kernel_rfl))
  f283 := Tryd.func46.trans (congrArg some (by kernel_rfl))
  f284 := Tryd.func47.trans (congrArg some (by kernel_rfl))
  f285 := Tryd.func48.trans (congrArg some (by kernel_rfl))
  f286 := Tryd.func49.trans (congrArg some (by kernel_rfl))
  f316 := Tryd.func41.trans (congrArg some (by kernel_rfl))
  f317 := Tryd.func50.trans (congrArg some (by kernel_rfl))
  f318 := Tryd.func52.trans (congrArg some (by kernel_rfl))
  f319 := Tryd.func53.trans (congrArg some (by kernel_rfl))
  f320 := Tryd.func54.trans (congrArg some (by kernel_rfl))
  f337 := Tryd.func55.trans (congrArg some (by kernel_rfl))
  f338 := Tryd.func56.trans (congrArg some (by kernel_rfl))
  t0 := Tryd.underlying0
  a0 := Tryd.isAgg0
  z0 := Tryd.sizeOf0
  v0 := Tryd.zeroValue0
  t2 := Tryd.underlying2
  a2 := Tryd.isAgg2
  z2 := Tryd.sizeOf2
  v2 := Tryd.zeroValue2
  t3 := Tryd.underlying3
  a3 := Tryd.isAgg3
  z3 := Tryd.sizeOf3
  v3 := Tryd.zeroValue3
  t4 := Tryd.underlying4
  a4 := Tryd.isAgg4
  z4 := Tryd.sizeOf4
  v4 := Tryd.zeroValue4
  t5 := Tryd.underlying5
  a5 := Tryd.isAgg5
  z5 := Tryd.sizeOf5
  v5 := Tryd.zeroValue5
  t9 := Tryd.underlying9
  a9 := Tryd.isAgg9
  z9 := Tryd.sizeOf9
  v9 := Tryd.zeroValue9
  t20 := Tryd.underlying20
  a20 := Tryd.isAgg20
  z20 := Tryd.sizeOf20
  v20 := Tryd.zeroValue20
  t37 := Tryd.underlying37
  a37 := Tryd.isAgg37
  z37 := Tryd.sizeOf37
  v37 := Tryd.zeroValue37
  t46 := Tryd.underlying53
  a46 := Tryd.isAgg53
  z46 := Tryd.sizeOf53
  v46 := Tryd.zeroValue53
  t51 := Tryd.underlying94
  a51 := Tryd.isAgg94
  z51 := Tryd.sizeOf94
  v51 := Tryd.zeroValue94
  t53 := Tryd.underlying66
  a53 := Tryd.isAgg66
  z53 := Tryd.sizeOf66
  v53 := Tryd.zeroValue66
  t75 := Tryd.underlying44
  a75 := Tryd.isAgg44
  z75 := Tryd.sizeOf44
  v75 := Tryd.zeroValue44
  t127 := Tryd.underlying55
  a127 := Tryd.isAgg55
  z127 := Tryd.sizeOf55
  v127 := Tryd.zeroValue55
  t143 := Tryd.underlying82
  a143 := Tryd.isAgg82
  z143 := Tryd.sizeOf82
  v143 := Tryd.zeroValue82
  t145 := Tryd.underlying84
  a145 := Tryd.isAgg84
  z145 := Tryd.sizeOf84
  v145 := Tryd.zeroValue84
  t167 := Tryd.underlying73
  a167 := Tryd.isAgg73
  z167 := Tryd.sizeOf73
  v167 := Tryd.zeroValue73
  t168 := Tryd.underlying75
  a168 := Tryd.isAgg75
  z168 := Tryd.sizeOf75
  v168 := Tryd.zeroValue75
  t171 := Tryd.underlying86
  a171 := Tryd.isAgg86
  z171 := Tryd.sizeOf86
  v171 := Tryd.zeroValue86
  t173 := Tryd.underlying89
  a173 := Tryd.isAgg89
  z173 := Tryd.sizeOf89
  v173 := Tryd.zeroValue89
  t210 := Tryd.underlying80
  a210 := Tryd.isAgg80
  z210 := Tryd.sizeOf80
  v210 := Tryd.zeroValue80
  t212 := Tryd.underlying93
  a212 := Tryd.isAgg93
  z212 := Tryd.sizeOf93
  v212 := Tryd.zeroValue93
  t213 := Tryd.underlying95
  a213 := Tryd.isAgg95
  z213 := Tryd.sizeOf95
  t232 := Tryd.underlying99
  a232 := Tryd.isAgg99
  z232 := Tryd.sizeOf99
  v232 := Tryd.zeroValue99
  t233 := Tryd.underlying100
  a233 := Tryd.isAgg100
  z233 := Tryd.sizeOf100
  v233 := Tryd.zeroValue100
  g15 := by kernel_rfl
  g16 := by kernel_rfl
  g17 := by kernel_rfl
  g18 := by kernel_rfl
  g19 := by kernel_rfl
  t80 := Tryd.underlying40
  a80 := Tryd.isAgg40
  z80 := Tryd.sizeOf40
  v80 := Tryd.zeroValue40
  i0 := by kernel_rfl
  i2 := by kernel_rfl
  i3 := by kernel_rfl
  i4 := by kernel_rfl
  i5 := by kernel_rfl
  i9 := by kernel_rfl
  i20 := by kernel_rfl
  i37 := by kernel_rfl
  i46 := by kernel_rfl
  i51 := by kernel_rfl
  i53 := by kernel_rfl
  i75 := by kernel_rfl
  i80 := by kernel_rfl
  i127 := by kernel_rfl
  i143 := by kernel_rfl
  i145 := by kernel_rfl
  i167 := by kernel_rfl
  i168 := by kernel_rfl
  i171 := by kernel_rfl
  i173 := by kernel_rfl
  i210 := by kernel_rfl
  i212 := by kernel_rfl
  i232 := by kernel_rfl
  i233 := by kernel_rfl
  m15 := by kernel_rfl
  m16 := by kernel_rfl
  m17 := by kernel_rfl
  m18 := by kernel_rfl
  m19 := by kernel_rfl
  c0 := by kernel_rfl
  c2 := by kernel_rfl
  c3 := by kernel_rfl
  c4 := by kernel_rfl
  c5 := by kernel_rfl
  c9 := by kernel_rfl
  c20 := by kernel_rfl
  c37 := by kernel_rfl
  c46 := by kernel_rfl
  c51 := by kernel_rfl
  c53 := by kernel_rfl
  c75 := by kernel_rfl
  c80 := by kernel_rfl
  c127 := by kernel_rfl
  c143 := by kernel_rfl
  c145 := by kernel_rfl
  c167 := by kernel_rfl
  c168 := by kernel_rfl
  c171 := by kernel_rfl
  c173 := by kernel_rfl
  c210 := by kernel_rfl
  c212 := by kernel_rfl
  c213 := by kernel_rfl
  c232 := by kernel_rfl
  c233 := by kernel_rfl }

/-- the library's variables, as they are laid -/
structure Vars (w : World) : Prop where
  u8 : U8 w
  syn : ∃ te pe, w.cell? ⟨2, 0, none⟩ = some (.iface te pe)
theorem Vars.below {w w' : World} (h : Vars w) (hb : Below w.heap.size w w') : Vars w' := by
  refine ⟨h.u8.below hb, ?_⟩
  obtain ⟨te, pe, hc⟩ := h.syn
  exact ⟨te, pe, (hb.cell (World.block_lt_of_cell? w _ hc)).trans hc⟩
def SomeErr (w : World) (e : Ending) (w' : World) : Prop := (∃ p, e = .returned (.iface 75 p)) ∧ Below w.heap.size w w'
theorem toErr_any (fn s : ByteArray) (base bits : Int) (w : World) (hlim : s.size ≤ 281474976710656) (hv : Vars w) :
    Calls Tryd.prog 34 #[.string fn, .string s, .int .i64 base, .int .i64 bits, .iface 73 (.int .i64 2)] w (SomeErr w) := by
  obtain ⟨te, pe, hc⟩ := hv.syn
  exact (Any.strconv_toError_syntax sh_laysC245 fn s base bits _ w hlim hc (.inr ⟨te, pe, rfl⟩)).mono fun e w' ⟨N, h1, _, _, h4⟩ => ⟨⟨_, h1⟩, h4⟩
theorem lower_any (c : Nat) (hc : c < 256) (w : World) : Calls Tryd.prog 35 #[.int .u8 (c : Int)] w fun e w' => e = .returned (.int .u8 (lowN c : Nat)) ∧ w' = w := by
  have h : bits .or .u8 (c : Int) 32 = ((lowN c : Nat) : Int) := u8_or_nat c 32 hc (by omega)
  go_enter Tryd.func35, Tryd.ntmps35
  go_wp2
  go_ret
  exact ⟨rfl, rfl⟩
theorem lowN_lt (c : Nat) (hc : c < 256) : lowN c < 256 := by unfold lowN; exact Nat.or_lt_two_pow (n := 8) hc (by omega)
def pint (c : UInt8) : Value := match hexV c.toNat with | some v => .tuple #[.int .u64 (v : Nat), .nilIface] | none => .tuple #[.int .u64 0, .iface 73 (.int .i64 2)]
set_option maxRecDepth 100000 in
set_option maxHeartbeats 4000000 in
theorem iparse_any (s : ByteArray) (c : UInt8) (hs : s.data.toList = [c]) (w : World) :
    Calls Tryd.prog 33 #[.string s, .int .i64 16, .int .i64 8] w fun e w' => e = .returned (pint c) ∧ Below w.heap.size w w' := by
  have hcv := fun w => run_bytes_of_string (P := Tryd.prog) w 9 37 5 s Tryd.underlying9 Tryd.underlying37 Tryd.underlying5
  have hne : s.toList = [c] := by rw [Lib.toList_data, hs]
  obtain ⟨n, hn⟩ : ∃ n, c.toNat = n := ⟨_, rfl⟩
  have hlt : n < 256 := by rw [← hn]; exact c.toNat_lt
  have hsz : s.size = 1 := by rw [Lib.size_eq, hs]; rfl
  have hrow : ∀ cap, (bytesRow s cap)[0]? = some (.int .u8 (n : Int)) := by
    intro cap
    have h1 : s.data = #[c] := by
      have := congrArg List.toArray hs
      simpa using this
    unfold bytesRow
    rw [h1, ← hn]
    rw [Array.getElem?_append_left (by simp)]
    simp
  have HR := Lib.hid hrow
  have hhex := hex_digit ⟨n, hlt⟩
  simp only at hhex
  have HX := Lib.hid hhex
  have HN := Lib.hid hn
  clear hrow hhex hn hs
  have hll := lowN_lt n hlt
  go_enter Tryd.func33, Tryd.ntmps33
  go_wp2_with fail
  obtain ⟨cap, hcap⟩ : ∃ cap, grownCap w 1 0 5 = cap := ⟨_, rfl⟩
  obtain ⟨W, hW⟩ : ∃ W, (w.alloc (.cells (bytesRow s cap) 5 ((bytesRow s cap).size, (bytesRow s cap).size + 1))).drew = W := ⟨_, rfl⟩
  have hc0 : W.cell? ⟨w.heap.size, 0, none⟩ = some (.int .u8 (n : Int)) := by
    rw [← hW]
    show (w.alloc _).cell? ⟨w.heap.size, 0, none⟩ = _
    rw [cell_of_row _ _ 0 _ _ _ (heap_alloc_new w _)]
    exact HR.out cap
  have hbel : Below w.heap.size w W := by rw [← hW]; exact ((Below.refl _ w).alloc (Nat.le_refl _) _).drew
  have HBEL := Lib.hid hbel
  rw [hcap, hW]
  clear hcv hcap hW hbel
  go_loop [12, 13, 101] (fun q12 q13 q => q12 = .bool false ∧ ((q13 = .int .u64 0 ∧ q = .int .i64 0) ∨ (q = .int .i64 1 ∧ ∃ v : Nat, q13 = .int .u64 (v : Nat) ∧ Hid (hexV c.toNat = some v)))) (fun _ _ q => (1 - intOf q).toNat)
  case atStart => exact ⟨rfl, .inl ⟨rfl, rfl⟩⟩
  case round =>
    obtain ⟨rfl, (⟨rfl, rfl⟩ | ⟨rfl, v, rfl, HV⟩)⟩ := hrel
    · by_cases c1 : 48 ≤ n ∧ n ≤ 57
      · obtain ⟨c11, c12⟩ := c1
        have HV : Hid (hexV c.toNat = some (n - 48)) := Lib.hid (by rw [HN.out, HX.out, if_pos ⟨c11, c12⟩])
        have hne95 : ((n : Int) == 95) = false := by simp; omega
        go_wp2_with fail
        go_round
        case rel => exact ⟨rfl, .inr ⟨rfl, n - 48, by congr 1; omega, HV⟩⟩
        case measure => simp [intOf]
      · obtain ⟨m, hm⟩ : ∃ m, lowN n = m := ⟨_, rfl⟩
        have HM := Lib.hid hm
        have hmx : m < 256 := by rw [← hm]; exact hll
        have hlow : ∀ w, Calls Tryd.prog 35 #[.int .u8 (n : Int)] w fun e w' => e = .returned (.int .u8 (m : Nat)) ∧ w' = w := fun w => by rw [← hm]; exact lower_any n hlt w
        have HLOW := Lib.hid hlow
        clear hm hll hlow
        by_cases c2 : 97 ≤ m ∧ m ≤ 102
        · obtain ⟨c21, c22⟩ := c2
          have HV : Hid (hexV c.toNat = some (m - 97 + 10)) := Lib.hid (by rw [HN.out, HX.out, HM.out, if_neg c1, if_pos ⟨c21, by omega, by omega⟩])
          have c3 : n < 48 ∨ 57 < n ∧ n < 95 ∨ n = 95 ∨ 95 < n := by omega
          clear c1
          rcases c3 with c3 | ⟨c3, c4⟩ | rfl | c3
          all_goals
            go_wp2_with (go_at_call 35; refine (HLOW.out _).mono ?_; rintro e w' ⟨rfl, rfl⟩)
            go_round
            case rel => exact ⟨rfl, .inr ⟨rfl, m - 97 + 10, by congr 1; omega, HV⟩⟩
            case measure => simp [intOf]
        · have HV : Hid (hexV c.toNat = none) := Lib.hid (by rw [HN.out, HX.out, HM.out, if_neg c1, if_neg (by omega)])
          have c3 : n < 48 ∨ 57 < n ∧ n < 95 ∨ n = 95 ∨ 95 < n := by omega
          have c5 : m < 97 ∨ 102 < m ∧ m ≤ 122 ∨ 122 < m := by omega
          clear c1 c2
          rcases c3 with c3 | ⟨c3, c4⟩ | rfl | c3
          all_goals
            rcases c5 with c5 | ⟨c5, c6⟩ | c5
            all_goals
              go_wp2_with (go_at_call 35; refine (HLOW.out _).mono ?_; rintro e w' ⟨rfl, rfl⟩)
              go_ret2
              refine ⟨?_, HBEL.out⟩
              unfold pint
              rw [HV.out]
              rfl
    · go_wp2_with fail
      go_ret2
      refine ⟨?_, HBEL.out⟩
      unfold pint
      rw [HV.out]
      rfl
end Go.Proofs.YtffamppgnooaeaaDoor
