/- Words for memory: a slice that reads as a list of cells, its laws; byte slices. No program is named here. -/
import Derived.WalkKit
import Derived.Lib.Hide
import Derived.Maps.AppendAt
import Derived.Deep.AppendLies
import Derived.Deep.Draws
namespace Go.Proofs.YtmljdppdaaoehaaGreatDoor
open Go.RowKit

theorem block_of_add (a : Addr) (n : Nat) : (a.add n).block = a.block := by unfold Addr.add; split <;> rfl
theorem add_of_add (a : Addr) (i j : Nat) : (a.add i).add j = a.add (i + j) := by
  unfold Addr.add
  by_cases hi : i = 0 <;> by_cases hj : j = 0 <;> simp [hi, hj, Nat.add_assoc]
theorem add_plain (b o j : Nat) : (⟨b, o, none⟩ : Addr).add j = ⟨b, o + j, none⟩ := by
  unfold Addr.add; split <;> simp_all

/-- The slice (A, n, c) reads as the cells xs, sz cells an element. -/
structure Rd (w : World) (sz : Nat) (A : Option Addr) (n c : Nat) (xs : List Value) : Prop where
  len : xs.length = n * sz
  cap : n ≤ c
  max : c ≤ maxLen
  at_ : ∀ (j : Nat) (u : Value), xs[j]? = some u → ∃ ad, A = some ad ∧ w.cell? (ad.add j) = some u

section
variable {w w' : World} {sz n c : Nat} {A : Option Addr} {xs : List Value}

theorem Rd.keep (h : Rd w sz A n c xs) (hk : ∀ p : Addr, p.block < w.heap.size → w'.cell? p = w.cell? p) : Rd w' sz A n c xs :=
  ⟨h.len, h.cap, h.max, fun j u hu => by
    obtain ⟨ad, e, hc⟩ := h.at_ j u hu
    exact ⟨ad, e, (hk _ (World.block_lt_of_cell? w _ hc)).trans hc⟩⟩
theorem Rd.below (h : Rd w sz A n c xs) (hb : Below w.heap.size w w') : Rd w' sz A n c xs := h.keep fun _ hp => hb.cell hp
theorem Rd.drew (h : Rd w sz A n c xs) : Rd w.drew sz A n c xs := h.keep fun _ _ => rfl
theorem Rd.drewN (h : Rd w sz A n c xs) (k : Nat) : Rd (w.drewN k) sz A n c xs := h.keep fun _ _ => rfl
theorem Rd.alloc (h : Rd w sz A n c xs) (o : Obj) : Rd (w.alloc o) sz A n c xs := h.keep fun p hp => World.cell?_alloc_lt w o p hp
theorem Rd.nil (w : World) (sz : Nat) : Rd w sz none 0 0 [] := ⟨by simp, Nat.le_refl _, by simp [maxLen], by simp⟩
theorem Rd.addr (h : Rd w sz A n c xs) (hn : 0 < n) (hs : 0 < sz) : ∃ ad, A = some ad ∧ ∀ j u, xs[j]? = some u → w.cell? (ad.add j) = some u := by
  have hl : 0 < xs.length := by rw [h.len]; exact Nat.mul_pos hn hs
  obtain ⟨ad, rfl, _⟩ := h.at_ 0 _ (List.getElem?_eq_getElem hl)
  exact ⟨ad, rfl, fun j u hu => by obtain ⟨_, e, hc⟩ := h.at_ j u hu; injection e with e; exact e ▸ hc⟩
theorem Rd.get {ad : Addr} (h : Rd w sz (some ad) n c xs) {j : Nat} {u : Value} (hu : xs[j]? = some u) : w.cell? (ad.add j) = some u := by
  obtain ⟨_, e, hc⟩ := h.at_ j u hu; injection e with e; exact e ▸ hc
theorem Rd.lt {ad : Addr} (h : Rd w sz (some ad) n c xs) (hn : 0 < xs.length) : ad.block < w.heap.size := by
  have := World.block_lt_of_cell? w _ (h.get (List.getElem?_eq_getElem hn))
  rwa [block_of_add] at this
/-- s[k:m] with the capacity cut at x -/
theorem Rd.cut (h : Rd w sz A n c xs) {k m x : Nat} (hkm : k ≤ m) (hm : m ≤ n) (hx : m ≤ x) (hxc : x ≤ c) :
    Rd w sz (if x = k then A else A.map (·.add (k * sz))) (m - k) (x - k) ((xs.drop (k * sz)).take ((m - k) * sz)) := by
  refine ⟨?_, by omega, by have := h.max; omega, fun j u hu => ?_⟩
  · rw [List.length_take, List.length_drop, h.len, ← Nat.sub_mul]; exact Nat.min_eq_left (Nat.mul_le_mul_right _ (by omega))
  · have hj : j < (m - k) * sz := by
      rcases Nat.lt_or_ge j ((m - k) * sz) with hj | hj
      · exact hj
      · rw [List.getElem?_take, if_neg (by omega)] at hu; cases hu
    rw [List.getElem?_take_of_lt hj, List.getElem?_drop] at hu
    obtain ⟨ad, rfl, hc⟩ := h.at_ _ u hu
    rw [if_neg (by rintro rfl; have : m - x = 0 := by omega
                   simp [this] at hj)]
    exact ⟨ad.add (k * sz), rfl, by rw [add_of_add]; exact hc⟩
theorem Rd.of_own {base : Nat} {e : TypeId} (h : w.ownsRow base e sz (.slice A n c) n xs) : Rd w sz A n c xs := by
  obtain ⟨hl, h2⟩ := h
  rcases h2 with ⟨hv, rfl⟩ | ⟨g, cap, cur, hv, hb, hg, hn, hm, hcs, ht⟩
  · injection hv with h1 h2 h3; subst h1 h3
    have : xs = [] := List.eq_nil_of_length_eq_zero (by simpa using hl)
    subst this
    exact Rd.nil w sz
  · injection hv with h1 h2 h3; subst h1 h3
    refine ⟨hl, hn, hm, fun j u hu => ⟨_, rfl, ?_⟩⟩
    rw [add_plain, Nat.zero_add, cell_of_row w g j cur e (0, 0) hg]
    rw [← ht] at hu
    have hj : j < n * sz := by
      rcases Nat.lt_or_ge j (n * sz) with hj | hj
      · exact hj
      · rw [List.getElem?_take, if_neg (by omega)] at hu; cases hu
    rw [List.getElem?_take_of_lt hj] at hu
    simpa using hu
end

theorem Rd.lit (w : World) (sz n : Nat) (cs : Array Value) (t : TypeId) (fr : Nat × Nat) (h : cs.size = n * sz) (hm : n ≤ maxLen) : Rd (w.alloc (.cells cs t fr)) sz (some ⟨w.heap.size, 0, none⟩) n n cs.toList :=
  ⟨by simpa using h, Nat.le_refl _, hm, fun j u hu => ⟨_, rfl, by rw [add_plain, Nat.zero_add, cell_of_row _ _ j cs t fr (heap_alloc_new w _)]; simpa using hu⟩⟩

/-- bytes as cells -/
def bv (l : List UInt8) : List Value := l.map fun b => .int .u8 (b.toNat : Int)
@[simp] theorem bv_nil : bv [] = [] := rfl
@[simp] theorem bv_length (l : List UInt8) : (bv l).length = l.length := by simp [bv]
theorem bv_append (a b : List UInt8) : bv (a ++ b) = bv a ++ bv b := by simp [bv]
theorem bv_get (l : List UInt8) (j : Nat) (h : j < l.length) : (bv l)[j]? = some (.int .u8 (l[j].toNat : Int)) := by simp [bv, h]
theorem bv_take (l : List UInt8) (k : Nat) : (bv l).take k = bv (l.take k) := by simp [bv]
theorem bv_drop (l : List UInt8) (k : Nat) : (bv l).drop k = bv (l.drop k) := by simp [bv]
theorem bv_one (l : List UInt8) : ∀ u ∈ bv l, u.oneCell' = true := by
  intro u hu; simp only [bv, List.mem_map] at hu; obtain ⟨b, _, rfl⟩ := hu; rfl
theorem bv_inj : ∀ {a b : List UInt8}, bv a = bv b → a = b
  | [], [], _ => rfl
  | [], _ :: _, h => by simp [bv] at h
  | _ :: _, [], h => by simp [bv] at h
  | x :: a, y :: b, h => by
    simp only [bv, List.map_cons, List.cons.injEq, Value.int.injEq, true_and] at h
    rw [UInt8.toNat_inj.1 (by omega : x.toNat = y.toNat), bv_inj (a := a) (b := b) h.2]

theorem Rd.one (w : World) (t : TypeId) (x : Int) (b : UInt8) (h : x = (b.toNat : Int)) : Rd (w.alloc (.cells #[.int .u8 x] t)) 1 (some ⟨w.heap.size, 0, none⟩) 1 1 (bv [b]) := by
  subst h
  exact Rd.lit w 1 1 #[.int .u8 (b.toNat : Int)] t (0, 0) rfl (by simp [maxLen])
theorem own_new {w : World} {base : Nat} {e : TypeId} {sz n m c : Nat} {A : Option Addr} {xs : List Value} (h : w.ownsRow base e sz (.slice A m c) n xs) : ∀ ad, A = some ad → base ≤ ad.block := by
  rintro ad rfl
  exact (h.lt ad.block rfl).1
theorem own_le {w : World} {base base' : Nat} {e : TypeId} {sz n : Nat} {v : Value} {xs : List Value} (h : w.ownsRow base e sz v n xs) (hb : base' ≤ base) : w.ownsRow base' e sz v n xs := by
  obtain ⟨h1, h2⟩ := h
  refine ⟨h1, ?_⟩
  rcases h2 with h2 | ⟨g, cap, cur, hv, hg, rest⟩
  · exact .inl h2
  · exact .inr ⟨g, cap, cur, hv, by omega, rest⟩
/-- rows of different element types lie apart -/
theorem own_ne {w : World} {base base' : Nat} {e e' : TypeId} {sz sz' n n' : Nat} {v v' : Value} {xs xs' : List Value} (h : w.ownsRow base e sz v n xs) (h' : w.ownsRow base' e' sz' v' n' xs') (hne : e ≠ e') : v.ownBlock = none ∨ v.ownBlock ≠ v'.ownBlock := by
  rcases h.2 with ⟨rfl, _⟩ | ⟨g, cap, cur, rfl, _, hg, _⟩
  · exact .inl rfl
  · rcases h'.2 with ⟨rfl, _⟩ | ⟨g', cap', cur', rfl, _, hg', _⟩
    · right; simp [Value.ownBlock]
    · right
      intro he
      simp [Value.ownBlock] at he
      subst he
      rw [hg] at hg'
      injection hg' with hg'
      injection hg' with _ ht
      exact hne ht
theorem own_drew {w : World} {base : Nat} {e : TypeId} {sz n : Nat} {v : Value} {xs : List Value} (h : w.ownsRow base e sz v n xs) : w.drew.ownsRow base e sz v n xs := h
/-- an append to a row of the call's own turns nothing below -/
theorem below_app {B : Nat} {a w w' : World} {e : TypeId} {sz n : Nat} {v : Value} {xs : List Value} (h : Below B a w) (hown : w.ownsRow B e sz v n xs) (hg : w.grownBy w' v.ownBlock) (hB : B ≤ w.heap.size) : Below B a w' :=
  h.grown hg hB (fun k hk => (hown.lt k hk).1)
theorem Rd.blen {w : World} {A : Option Addr} {n c : Nat} {l : List UInt8} (h : Rd w 1 A n c (bv l)) : l.length = n := by have := h.len; simpa using this
theorem Rd.byte {w : World} {ad : Addr} {n c : Nat} {l : List UInt8} (h : Rd w 1 (some ad) n c (bv l)) {j : Nat} (hj : j < l.length) :
    w.cell? (ad.add j) = some (.int .u8 (l[j].toNat : Int)) := h.get (bv_get l j hj)
theorem Rd.bcut {w : World} {A : Option Addr} {n c : Nat} {l : List UInt8} (h : Rd w 1 A n c (bv l)) {k m x : Nat} (hkm : k ≤ m) (hm : m ≤ n) (hx : m ≤ x) (hxc : x ≤ c) :
    Rd w 1 (if x = k then A else A.map (·.add (k * 1))) (m - k) (x - k) (bv ((l.drop k).take (m - k))) := by
  have := h.cut hkm hm hx hxc
  simpa [bv_take, bv_drop] using this

section
variable {P : Program} (w : World)
/-- string(b) -/
theorem run_str {A : Option Addr} {n c : Nat} {l : List UInt8} (src e dst : TypeId) (hs : P.underlying src = some (.slice e)) (he : P.underlying e = some (.int .u8)) (hd : P.underlying dst = some .string)
    (h : Rd w 1 A n c (bv l)) : (convert src dst (.slice A n c)).run P w = .ok (.string ⟨l.toArray⟩) w := by
  have hl := h.blen
  rcases Nat.eq_zero_or_pos n with h0 | h0
  · subst h0
    have : l = [] := List.eq_nil_of_length_eq_zero hl
    subst this
    cases A with
    | none => rw [run_convert_bytes_nil w src e hs he _ _ dst hd]; rfl
    | some ad =>
      have hld : (loadCells ad 0).run P w = .ok (([] : List Int).map (Value.int .u8)).toArray w := run_loadCells_list (P := P) w ad [] (by simp)
      rw [run_convert_bytes_string w src dst e _ 0 c hs he hd, run_bytesToString w _ 0 c [] hld]
      rfl
  · obtain ⟨ad, rfl, hc⟩ := h.addr h0 (by omega)
    have hld : (loadCells ad n).run P w = .ok ((l.map fun b => (b.toNat : Int)).map (Value.int .u8)).toArray w := by
      have := run_loadCells_list (P := P) w ad (bv l) hc
      rw [bv_length, hl] at this
      simpa [bv, Function.comp_def] using this
    rw [run_convert_bytes_string w src dst e _ n c hs he hd, run_bytesToString w _ n c _ hld, foldl_push_bytes]
    simp [ByteArray.empty, ByteArray.emptyWithCapacity, Function.comp_def]
    rfl

theorem run_append_of_nil (base : Nat) (t ty e : TypeId) (i : TypeInfo) (size : Nat) (ht : P.underlying t = some (.slice e)) (hi : P.info? e = some i)
    (v : Value) (n : Nat) (xs : List Value) (hown : w.ownsRow base e size v n xs) (c : Nat) : (Builtin.append_ #[t, t] ty #[v, .slice none 0 c]).run P w = .ok v w := by
  rcases hown.2 with ⟨rfl, rfl⟩ | ⟨g, cap, cur, rfl, _, _, hnc, _⟩
  · simp [Builtin.append_, run_underlying ht, sizeOf, typeInfo, hi, Builtin.lenOf, Builtin.firstCells]
  · simp [Builtin.append_, run_underlying ht, sizeOf, typeInfo, hi, Builtin.lenOf, Builtin.firstCells, hnc, storeCells]

theorem own_form {w : World} {base : Nat} {e : TypeId} {size : Nat} {v : Value} {n : Nat} {xs : List Value} (h : w.ownsRow base e size v n xs) : ∃ A c, v = .slice A n c := by
  rcases h.2 with ⟨rfl, rfl⟩ | ⟨g, cap, cur, rfl, _⟩
  · exact ⟨_, _, rfl⟩
  · exact ⟨_, _, rfl⟩

/-- append(s, xs...) onto a row of the call's own, whatever the source -/
theorem run_app (base : Nat) (t ty e : TypeId) (i : TypeInfo) (z : Value) (size bytes : Nat) (ht : P.underlying t = some (.slice e)) (hi : P.info? e = some i) (hz : i.zero = some z)
    (hsize : i.size = size) (hby : i.bytes = bytes) (hzs : z.cells.size = size) (hsz : 0 < size)
    (A0 : Option Addr) (c0 n : Nat) (xs : List Value) (hown : w.ownsRow base e size (.slice A0 n c0) n xs)
    (A : Option Addr) (m c : Nat) (news : List Value) (hr : Rd w size A m c news) (h1 : ∀ u ∈ news, u.oneCell' = true)
    (h63 : n + m ≤ maxLen) (hbytes : (n + m) * bytes ≤ 140737488355328) (hbase : base ≤ w.heap.size) :
    ∃ A' c' w', (Builtin.append_ #[t, t] ty #[.slice A0 n c0, .slice A m c]).run P w = .ok (.slice A' (n + m) c') w' ∧ w'.ownsRow base e size (.slice A' (n + m) c') (n + m) (xs ++ news) ∧
      w.grownBy w' (Value.slice A0 n c0).ownBlock ∧ (A' = A0 ∨ A' = some ⟨w.heap.size, 0, none⟩) ∧ (A' = none ↔ A0 = none ∧ m = 0) := by
  have key : ∀ ad, A = some ad → ∃ A' c' w', (Builtin.append_ #[t, t] ty #[.slice A0 n c0, .slice A m c]).run P w = .ok (.slice A' (n + m) c') w' ∧ w'.ownsRow base e size (.slice A' (n + m) c') (n + m) (xs ++ news) ∧
      w.grownBy w' (Value.slice A0 n c0).ownBlock ∧ (A' = A0 ∨ A' = some ⟨w.heap.size, 0, none⟩) ∧ (A' = none ↔ A0 = none ∧ m = 0) := by
    rintro ad rfl
    obtain ⟨v', w', hrun, h2, h3, h4, h5⟩ := run_append_own_at (P := P) w base t ty e i z size bytes ht hi hz hsize hby hzs hsz _ n xs hown ad m c news hr.len (fun j u hu => hr.get hu) h1 h63 hbytes hbase
    obtain ⟨A', c', rfl⟩ := own_form h2
    refine ⟨A', c', w', hrun, h2, h3, ?_, ?_⟩
    · rcases hown.2 with ⟨e0, e1⟩ | ⟨g0, cap0, cur0, hv0, _, _, _, _⟩ <;> rcases h2.2 with ⟨e2, e3⟩ | ⟨g, cap, cur, hv, _⟩
      · injection e0 with e0 _ _; injection e2 with e2 _ _; exact .inl (e2.trans e0.symm)
      · injection hv with hv _ _
        rcases h5 with h5 | h5
        · injection e0 with e0 _ _; subst e0; rw [hv] at h5; simp [Value.ownBlock] at h5
        · rw [hv] at h5; simp [Value.ownBlock] at h5; right; rw [hv, h5]
      · injection e2 with e2 _ _; injection hv0 with hv0 _ _
        rw [e2, hv0] at h5; simp [Value.ownBlock] at h5
      · injection hv with hv _ _; injection hv0 with hv0 _ _
        rw [hv, hv0] at h5; simp [Value.ownBlock] at h5
        rcases h5 with h5 | h5
        · left; rw [hv, hv0, h5]
        · right; rw [hv, h5]
    · constructor
      · intro e0
        subst e0
        rcases h2.2 with ⟨e2, e3⟩ | ⟨g, cap, cur, hv, _⟩
        · have hn : n = 0 := by omega
          have hm : m = 0 := by omega
          refine ⟨?_, hm⟩
          rcases hown.2 with ⟨e0, e1⟩ | ⟨g0, cap0, cur0, hv0, _⟩
          · injection e0
          · injection hv0 with hv0 _ _
            have hh := h4
            subst hn hm
            rw [e2] at hh
            have hc := hh.1 rfl
            have := hc.1
            rw [hv0] at this
            injection this with this _ _
            cases this
        · injection hv with hv _ _; cases hv
      · rintro ⟨e0, e1⟩
        subst e0 e1
        rcases hown.2 with ⟨e0, e1⟩ | ⟨g0, cap0, cur0, hv0, _⟩
        · have := h4.2 ⟨e0, rfl⟩
          injection this
        · injection hv0 with hv0 _ _; cases hv0
  cases hA : A with
  | some ad => rw [← hA]; exact key ad hA
  | none =>
    subst hA
    have hm : m = 0 := by
      rcases Nat.eq_zero_or_pos m with h0 | h0
      · exact h0
      · obtain ⟨ad, h, _⟩ := hr.addr h0 hsz
        cases h
    subst hm
    have hn : news = [] := List.eq_nil_of_length_eq_zero (by simpa using hr.len)
    subst hn
    exact ⟨A0, c0, w, run_append_of_nil w base t ty e i size ht hi _ n xs hown c, by simpa using hown, ⟨rfl, rfl, rfl, Nat.le_refl _, fun _ _ _ => rfl⟩, .inl rfl, by simp⟩

/-- the walk's arm for append(s, xs...) onto a row of the call's own -/
theorem wpList_app {ops : Array Oper} {rest : List Oper} {o : Oper} {a : Act} {Q : Exit → Act → World → Prop} (hw : Region.wanted o (yielded ops a.tmps) = true) (s x : Operand) (t : TypeId)
    (ho : o.op = .call { callee := .builtin .append, args := #[s, x], argTypes := #[t, t] })
    (base : Nat) (e : TypeId) (i : TypeInfo) (z : Value) (size bytes : Nat) (ht : P.underlying t = some (.slice e)) (hi : P.info? e = some i) (hz : i.zero = some z)
    (hsize : i.size = size) (hby : i.bytes = bytes) (hzs : z.cells.size = size) (hsz : 0 < size)
    (A0 : Option Addr) (c0 n : Nat) (xs : List Value) (hs : a.eval s = .slice A0 n c0) (hown : w.ownsRow base e size (.slice A0 n c0) n xs)
    (A : Option Addr) (m c : Nat) (news : List Value) (hx : a.eval x = .slice A m c) (hr : Rd w size A m c news) (h1 : ∀ u ∈ news, u.oneCell' = true)
    (hbytes : (n + m) * bytes ≤ 140737488355328) (h63 : n + m ≤ 140737488355328) (hbase : base ≤ w.heap.size)
    (h : ∀ A' c' w', w'.ownsRow base e size (.slice A' (n + m) c') (n + m) (xs ++ news) → w.grownBy w' (Value.slice A0 n c0).ownBlock → (A' = A0 ∨ A' = some ⟨w.heap.size, 0, none⟩) → (A' = none ↔ A0 = none ∧ m = 0) →
      wpList P ops Q rest (a.put o.dst (.slice A' (n + m) c')) w') : wpList P ops Q (o :: rest) a w := by
  obtain ⟨A', c', w', hrun, h2, h3, h4, h5⟩ := run_app (P := P) w base t o.type e i z size bytes ht hi hz hsize hby hzs hsz A0 c0 n xs hown A m c news hr h1 (by simp only [maxLen]; omega) hbytes hbase
  refine wpList_step fun K hK => ?_
  rw [if_pos hw]
  unfold Oper.wp execOp
  simp only [ho, resolve, invoke, builtin, Sem.run_bind, Sem.run_pure, Result.andThen_ok, List.map_toArray, List.map_cons, List.map_nil, hs, hx, hrun]
  exact hK _ _ (h A' c' w' h2 h3 h4 h5)

/-- s[k:], the model's if under one name -/
theorem run_slice_from {t e : TypeId} {A : Option Addr} {n c k sz : Nat} (ht : P.underlying t = some (.slice e)) (hs : (P.info? e).map (·.size) = some sz) (hk : k ≤ n) (kd : IntKind) :
    (Instr.slice t (.slice A n c) (some (.int kd k)) none none).run P w = .ok (.slice (if c = k then A else A.map (·.add (k * sz))) (n - k) (c - k)) w := by
  obtain ⟨i, hi, rfl⟩ : ∃ i, P.info? e = some i ∧ i.size = sz := by
    cases h : P.info? e with
    | none => rw [h] at hs; cases hs
    | some i => rw [h] at hs; simp at hs; exact ⟨i, rfl, hs⟩
  simp [Instr.slice, run_underlying ht, Instr.sliceBounds, run_sliceBound, sizeOf, typeInfo, hi, hk]
theorem run_slice_from' {t e : TypeId} {A : Option Addr} {n c k sz : Nat} {x : Int} (hx : x = (k : Int)) (ht : P.underlying t = some (.slice e)) (hs : (P.info? e).map (·.size) = some sz) (hk : k ≤ n) (kd : IntKind) :
    (Instr.slice t (.slice A n c) (some (.int kd x)) none none).run P w = .ok (.slice (if c = k then A else A.map (·.add (k * sz))) (n - k) (c - k)) w := by
  subst hx; exact run_slice_from w ht hs hk kd
/-- s[:m] -/
theorem run_slice_to {t e : TypeId} {A : Option Addr} {n c m sz : Nat} {x : Int} (hx : x = (m : Int)) (ht : P.underlying t = some (.slice e)) (hs : (P.info? e).map (·.size) = some sz) (hm : m ≤ c) (kd : IntKind) :
    (Instr.slice t (.slice A n c) none (some (.int kd x)) none).run P w = .ok (.slice A m c) w := by
  subst hx
  obtain ⟨i, hi, rfl⟩ : ∃ i, P.info? e = some i ∧ i.size = sz := by
    cases h : P.info? e with
    | none => rw [h] at hs; cases hs
    | some i => rw [h] at hs; simp at hs; exact ⟨i, rfl, hs⟩
  cases A <;> simp [Instr.slice, run_underlying ht, Instr.sliceBounds, run_sliceBound, sizeOf, typeInfo, hi, hm, Addr.add]
end
end Go.Proofs.YtmljdppdaaoehaaGreatDoor
