/- Trees of data in memory: what a value of slices, structs, numbers and texts holds, as a tree; that it stays; how it is opened. No program is named here. -/
import Derived.Test.YtmljdppdaaoehaaGreatDoorMem
import Derived.Deep.Slices
import Derived.Lib.SmallJoins
namespace Go.Proofs.YtmljdppdaaoehaaGreatDoor
open Go.RowKit Go.ChangeShapes Go.WideShapes Go.ChangeAt
set_option linter.unusedVariables false
set_option linter.unusedSimpArgs false

/-- a datum's tree: a cell; a slice of n elements (sz cells, b bytes each), its cells' trees one behind the other -/
inductive Tr where
  | leaf (v : Value)
  | sl (sz b n : Nat) (ts : List Tr)

def okLeaf : Value → Prop
  | .int k z => (Lit.int k z).wf = true
  | .string s => s.size ≤ 140737488351232
  | _ => True

mutual
/-- the cell v reads as the tree; all blocks that are read meet S -/
def Tr.at (S : Nat → Prop) (w : World) : Tr → Value → Prop
  | .leaf u, v => v = u ∧ okLeaf u
  | .sl sz b n ts, v => ∃ A c vs, v = .slice A n c ∧ Rd w sz A n c vs ∧ (0 < sz ∧ n * b ≤ 140737488351232) ∧ (∀ ad, A = some ad → 0 < n → S ad.block) ∧ Trs.at S w ts vs
def Trs.at (S : Nat → Prop) (w : World) : List Tr → List Value → Prop
  | [], vs => vs = []
  | t :: ts, vs => ∃ v vs', vs = v :: vs' ∧ t.at S w v ∧ Trs.at S w ts vs'
end

section
variable {S S' : Nat → Prop} {w w' : World}

mutual
theorem Tr.at.keep (hk : ∀ p : Addr, p.block < w.heap.size → S p.block → w'.cell? p = w.cell? p) (hS : ∀ k, S k → S' k) : ∀ (t : Tr) (v : Value), t.at S w v → t.at S' w' v
  | .leaf u, v, h => by simp only [Tr.at] at h ⊢; exact h
  | .sl sz b n ts, v, h => by
    simp only [Tr.at] at h ⊢
    obtain ⟨A, c, vs, rfl, hr, hb, hs, ht⟩ := h
    refine ⟨A, c, vs, rfl, ⟨hr.len, hr.cap, hr.max, fun j u hu => ?_⟩, hb, fun ad e h0 => hS _ (hs ad e h0), Trs.at.keep hk hS ts vs ht⟩
    obtain ⟨ad, e, hc⟩ := hr.at_ j u hu
    have hn : 0 < n := by
      rcases Nat.eq_zero_or_pos n with h0 | h0
      · have := hr.len; rw [h0, Nat.zero_mul] at this
        rw [List.eq_nil_of_length_eq_zero this] at hu; cases hu
      · exact h0
    exact ⟨ad, e, (hk _ (World.block_lt_of_cell? w _ hc) (by rw [block_of_add]; exact hs ad e hn)).trans hc⟩
theorem Trs.at.keep (hk : ∀ p : Addr, p.block < w.heap.size → S p.block → w'.cell? p = w.cell? p) (hS : ∀ k, S k → S' k) : ∀ (ts : List Tr) (vs : List Value), Trs.at S w ts vs → Trs.at S' w' ts vs
  | [], vs, h => by simp only [Trs.at] at h ⊢; exact h
  | t :: ts, vs, h => by
    simp only [Trs.at] at h ⊢
    obtain ⟨v, vs', rfl, h1, h2⟩ := h
    exact ⟨v, vs', rfl, Tr.at.keep hk hS t v h1, Trs.at.keep hk hS ts vs' h2⟩
end
theorem Trs.at.below {ts : List Tr} {vs : List Value} (h : Trs.at S w ts vs) (hb : Below w.heap.size w w') : Trs.at S w' ts vs := Trs.at.keep (fun _ hp _ => hb.cell hp) (fun _ h => h) ts vs h
theorem Trs.at.alloc {ts : List Tr} {vs : List Value} (h : Trs.at S w ts vs) (o : Obj) : Trs.at S (w.alloc o) ts vs := Trs.at.keep (fun p hp _ => World.cell?_alloc_lt w o p hp) (fun _ h => h) ts vs h
theorem Trs.at.drewN {ts : List Tr} {vs : List Value} (h : Trs.at S w ts vs) (k : Nat) : Trs.at S (w.drewN k) ts vs := Trs.at.keep (w := w) (w' := w.drewN k) (fun _ _ _ => rfl) (fun _ h => h) ts vs h
theorem Trs.at.only {F : Nat → Prop} {ts : List Tr} {vs : List Value} (h : Trs.at S w ts vs) (ho : Only F w w') (hF : ∀ k, S k → ¬ F k) : Trs.at S w' ts vs :=
  Trs.at.keep (fun p hp hs => by
    have := ho.block p.block hp (hF _ hs)
    unfold World.cell?; rw [this]) (fun _ h => h) ts vs h
theorem Trs.at.mono {ts : List Tr} {vs : List Value} (h : Trs.at S w ts vs) (hS : ∀ k, S k → S' k) : Trs.at S' w ts vs := Trs.at.keep (w' := w) (fun _ _ _ => rfl) hS ts vs h
theorem Trs.at.len : ∀ {ts : List Tr} {vs : List Value}, Trs.at S w ts vs → vs.length = ts.length
  | [], vs, h => by simp only [Trs.at] at h; subst h; rfl
  | t :: ts, vs, h => by
    simp only [Trs.at] at h
    obtain ⟨v, vs', rfl, _, h2⟩ := h
    simp [Trs.at.len h2]
theorem Trs.at.app : ∀ {ts us : List Tr} {vs : List Value}, Trs.at S w (ts ++ us) vs ↔ ∃ a b, vs = a ++ b ∧ Trs.at S w ts a ∧ Trs.at S w us b
  | [], us, vs => by
    constructor
    · intro h; exact ⟨[], vs, rfl, by simp only [Trs.at], h⟩
    · rintro ⟨a, b, rfl, h1, h2⟩
      simp only [Trs.at] at h1; subst h1; exact h2
  | t :: ts, us, vs => by
    constructor
    · intro h
      simp only [List.cons_append, Trs.at] at h
      obtain ⟨v, vs', rfl, h1, h2⟩ := h
      obtain ⟨a, b, rfl, h3, h4⟩ := Trs.at.app.1 h2
      exact ⟨v :: a, b, rfl, by simp only [Trs.at]; exact ⟨v, a, rfl, h1, h3⟩, h4⟩
    · rintro ⟨a, b, rfl, h1, h2⟩
      simp only [Trs.at] at h1
      obtain ⟨v, a', rfl, h3, h4⟩ := h1
      simp only [List.cons_append, Trs.at]
      exact ⟨v, a' ++ b, rfl, h3, Trs.at.app.2 ⟨a', b, rfl, h4, h2⟩⟩

/-- the rows of a slice of elements of sz cells each -/
theorem Trs.at.elem {α : Type} {tr : α → List Tr} {sz : Nat} (hsz : ∀ a, (tr a).length = sz) : ∀ {l : List α} {vs : List Value}, Trs.at S w (l.flatMap tr) vs → ∀ (i : Nat) (x : α), l[i]? = some x → Trs.at S w (tr x) ((vs.drop (i * sz)).take sz)
  | [], vs, _, i, x, hx => by simp at hx
  | y :: l, vs, h, i, x, hx => by
    rw [List.flatMap_cons] at h
    obtain ⟨a, b, rfl, h1, h2⟩ := Trs.at.app.1 h
    have ha : a.length = sz := by rw [h1.len, hsz]
    cases i with
    | zero =>
      simp at hx; subst hx
      simp only [Nat.zero_mul, List.drop_zero]
      rw [← ha, List.take_left]; exact h1
    | succ i =>
      have := Trs.at.elem hsz h2 i x (by simpa using hx)
      rwa [Nat.succ_mul, Nat.add_comm, ← List.drop_drop, ← ha, List.drop_left, ha]
theorem Trs.at.flat {α : Type} {tr : α → List Tr} {sz : Nat} (hsz : ∀ a, (tr a).length = sz) : ∀ {l : List α} {vs : List Value}, vs.length = l.length * sz → (∀ (i : Nat) (x : α), l[i]? = some x → Trs.at S w (tr x) ((vs.drop (i * sz)).take sz)) → Trs.at S w (l.flatMap tr) vs
  | [], vs, hl, _ => by simp at hl; subst hl; simp [Trs.at]
  | y :: l, vs, hl, h => by
    rw [List.flatMap_cons]
    refine Trs.at.app.2 ⟨vs.take sz, vs.drop sz, (List.take_append_drop _ _).symm, ?_, ?_⟩
    · simpa using h 0 y rfl
    · refine Trs.at.flat hsz (by simp only [List.length_drop, hl, List.length_cons, Nat.succ_mul]; omega) fun i x hx => ?_
      have := h (i + 1) x (by simpa using hx)
      rwa [Nat.succ_mul, Nat.add_comm, ← List.drop_drop] at this

/-- the element i of a slice of elements of sz cells -/
theorem Rd.elem {α : Type} {tr : α → List Tr} {sz : Nat} (hsz : ∀ a, (tr a).length = sz) (h0 : 0 < sz) {A : Option Addr} {n c : Nat} {l : List α} {vs : List Value} (hr : Rd w sz A n c vs) (ht : Trs.at S w (l.flatMap tr) vs)
    {i : Nat} {x : α} (hx : l[i]? = some x) : ∃ ad cs, A = some ad ∧ Trs.at S w (tr x) cs ∧ cs.length = sz ∧ ∀ (j : Nat) (u : Value), cs[j]? = some u → w.cell? ((ad.add (i * sz)).add j) = some u := by
  have he := Trs.at.elem hsz ht i x hx
  have hlen := he.len
  rw [hsz] at hlen
  have hcell : ∀ (j : Nat) (u : Value), ((vs.drop (i * sz)).take sz)[j]? = some u → vs[i * sz + j]? = some u := fun j u hu => by
    rw [List.getElem?_take] at hu
    split at hu
    · rwa [List.getElem?_drop] at hu
    · cases hu
  obtain ⟨u0, hu0⟩ : ∃ u, ((vs.drop (i * sz)).take sz)[0]? = some u := ⟨_, List.getElem?_eq_getElem (by omega)⟩
  obtain ⟨ad, rfl, _⟩ := hr.at_ _ _ (hcell 0 u0 hu0)
  exact ⟨ad, _, rfl, he, hlen, fun j u hu => by rw [add_of_add]; exact hr.get (hcell j u hu)⟩

/-- a cell behind the first one of an element -/
theorem add_pos (a : Addr) {k : Nat} (hk : 0 < k) : a.add k = ⟨a.block, a.off + k, none⟩ := by unfold Addr.add; rw [if_neg (by omega)]

/-- the cells from an address on -/
def Cel (w : World) (a : Addr) (cs : List Value) : Prop := ∀ (j : Nat) (u : Value), cs[j]? = some u → w.cell? (if j = 0 then a else ⟨a.block, a.off + j, none⟩) = some u
theorem Cel.below {a : Addr} {cs : List Value} (h : Cel w a cs) (hb : Below w.heap.size w w') : Cel w' a cs := fun j u hu => by
  have := h j u hu
  rw [hb.cell (World.block_lt_of_cell? w _ this)]; exact this

/-- the slice (A, l.length, c) reads as the things l -/
structure Ls {α : Type} (S : Nat → Prop) (w : World) (sz b : Nat) (tr : α → List Tr) (A : Option Addr) (c : Nat) (l : List α) : Prop where
  sz0 : 0 < sz
  bytes : l.length * b ≤ 140737488351232
  cap : l.length ≤ c
  max : c ≤ maxLen
  blk : ∀ ad, A = some ad → 0 < l.length → S ad.block
  cells : ∃ vs, Rd w sz A l.length c vs ∧ Trs.at S w (l.flatMap tr) vs
section
variable {α : Type} {tr : α → List Tr} {sz b c : Nat} {A : Option Addr} {l : List α}
theorem at_sl {v : Value} : (Tr.sl sz b l.length (l.flatMap tr)).at S w v ↔ ∃ A c, v = .slice A l.length c ∧ Ls S w sz b tr A c l := by
  simp only [Tr.at]
  constructor
  · rintro ⟨A, c, vs, rfl, hr, ⟨h0, hb⟩, hs, ht⟩
    exact ⟨A, c, rfl, h0, hb, hr.cap, hr.max, hs, vs, hr, ht⟩
  · rintro ⟨A, c, rfl, h⟩
    obtain ⟨vs, hr, ht⟩ := h.cells
    exact ⟨A, c, vs, rfl, hr, ⟨h.sz0, h.bytes⟩, h.blk, ht⟩
theorem Ls.keep (h : Ls S w sz b tr A c l) (hk : ∀ p : Addr, p.block < w.heap.size → S p.block → w'.cell? p = w.cell? p) (hS : ∀ k, S k → S' k) : Ls S' w' sz b tr A c l := by
  have h1 : (Tr.sl sz b l.length (l.flatMap tr)).at S w (.slice A l.length c) := at_sl.2 ⟨A, c, rfl, h⟩
  obtain ⟨A', c', e, h2⟩ := at_sl.1 (Tr.at.keep hk hS _ _ h1)
  injection e with e1 _ e2
  rw [e1, e2]; exact h2
theorem Ls.below (h : Ls S w sz b tr A c l) (hb : Below w.heap.size w w') : Ls S w' sz b tr A c l := h.keep (fun _ hp _ => hb.cell hp) (fun _ h => h)
theorem Ls.alloc (h : Ls S w sz b tr A c l) (o : Obj) : Ls S (w.alloc o) sz b tr A c l := h.keep (fun p hp _ => World.cell?_alloc_lt w o p hp) (fun _ h => h)
theorem Ls.drewN (h : Ls S w sz b tr A c l) (k : Nat) : Ls S (w.drewN k) sz b tr A c l := h.keep (w := w) (w' := w.drewN k) (fun _ _ _ => rfl) (fun _ h => h)
theorem Ls.mono (h : Ls S w sz b tr A c l) (hS : ∀ k, S k → S' k) : Ls S' w sz b tr A c l := h.keep (w' := w) (fun _ _ _ => rfl) hS
theorem cell_only {F : Nat → Prop} (ho : Only F w w') {p : Addr} (hp : p.block < w.heap.size) (hF : ¬ F p.block) : w'.cell? p = w.cell? p := by
  have := ho.block p.block hp hF
  unfold World.cell?; rw [this]
theorem Ls.only {F : Nat → Prop} (h : Ls S w sz b tr A c l) (ho : Only F w w') (hF : ∀ k, S k → ¬ F k) : Ls S w' sz b tr A c l := h.keep (fun p hp hs => cell_only ho hp (hF _ hs)) (fun _ h => h)
theorem Ls.nil (S : Nat → Prop) (w : World) (sz b : Nat) (h : 0 < sz) (tr : α → List Tr) : Ls S w sz b tr none 0 [] := ⟨h, by simp, by simp, by simp [maxLen], by simp, [], Rd.nil _ _, by simp [Trs.at]⟩
theorem Ls.elem (hsz : ∀ a, (tr a).length = sz) (h : Ls S w sz b tr A c l) {i : Nat} {x : α} (hx : l[i]? = some x) : ∃ ad cs, A = some ad ∧ Trs.at S w (tr x) cs ∧ Cel w (ad.add (i * sz)) cs := by
  obtain ⟨vs, hr, ht⟩ := h.cells
  obtain ⟨ad, cs, h1, h2, h3, h4⟩ := Rd.elem hsz h.sz0 hr ht hx
  refine ⟨ad, cs, h1, h2, fun j u hu => ?_⟩
  have := h4 j u hu
  split
  · next hj => subst hj; simpa [Addr.add] using this
  · next hj => rw [← add_pos _ (by omega)]; exact this
theorem Ls.addr (hsz : ∀ a, (tr a).length = sz) (h : Ls S w sz b tr A c l) (h0 : 0 < l.length) : ∃ ad, A = some ad ∧ ad.block < w.heap.size := by
  obtain ⟨vs, hr, ht⟩ := h.cells
  obtain ⟨ad, rfl, _⟩ := hr.addr h0 h.sz0
  exact ⟨ad, rfl, hr.lt (by rw [hr.len]; exact Nat.mul_pos h0 h.sz0)⟩
end
mutual
/-- what is read lies in the memory that is there -/
theorem Tr.at.bound : ∀ (t : Tr) (v : Value), t.at S w v → t.at (fun k => S k ∧ k < w.heap.size) w v
  | .leaf u, v, h => by simp only [Tr.at] at h ⊢; exact h
  | .sl sz b n ts, v, h => by
    simp only [Tr.at] at h ⊢
    obtain ⟨A, c, vs, rfl, hr, ⟨h0, hb⟩, hs, ht⟩ := h
    exact ⟨A, c, vs, rfl, hr, ⟨h0, hb⟩, fun ad e hn => ⟨hs ad e hn, by subst e; exact hr.lt (by rw [hr.len]; exact Nat.mul_pos hn h0)⟩, Trs.at.bound ts vs ht⟩
theorem Trs.at.bound : ∀ (ts : List Tr) (vs : List Value), Trs.at S w ts vs → Trs.at (fun k => S k ∧ k < w.heap.size) w ts vs
  | [], vs, h => by simp only [Trs.at] at h ⊢; exact h
  | t :: ts, vs, h => by
    simp only [Trs.at] at h ⊢
    obtain ⟨v, vs', rfl, h1, h2⟩ := h
    exact ⟨v, vs', rfl, Tr.at.bound t v h1, Trs.at.bound ts vs' h2⟩
end
theorem Ls.bound {α : Type} {tr : α → List Tr} {sz b c : Nat} {A : Option Addr} {l : List α} (h : Ls S w sz b tr A c l) : Ls (fun k => S k ∧ k < w.heap.size) w sz b tr A c l := by
  obtain ⟨A', c', e, h2⟩ := at_sl.1 (Tr.at.bound _ _ (at_sl.2 ⟨A, c, rfl, h⟩))
  injection e with e1 _ e2
  rw [e1, e2]; exact h2
/-- texts, one cell each -/
def strTr (s : ByteArray) : List Tr := [.leaf (.string s)]
theorem strTr_len (s : ByteArray) : (strTr s).length = 1 := rfl
def sTr (l : List ByteArray) : Tr := .sl 1 16 l.length (l.flatMap strTr)
abbrev Ss (S : Nat → Prop) (w : World) (A : Option Addr) (c : Nat) (l : List ByteArray) : Prop := Ls S w 1 16 strTr A c l
theorem strs_at : ∀ {l : List ByteArray} {vs : List Value}, Trs.at S w (l.flatMap strTr) vs ↔ vs = l.map .string ∧ ∀ s ∈ l, s.size ≤ 140737488351232
  | [], vs => by simp [Trs.at]
  | s :: l, vs => by
    simp only [List.flatMap_cons, strTr, List.singleton_append, Trs.at, Tr.at, okLeaf, List.map_cons]
    constructor
    · rintro ⟨v, vs', rfl, ⟨rfl, h1⟩, h2⟩
      obtain ⟨rfl, h3⟩ := strs_at.1 h2
      exact ⟨rfl, fun x hx => (List.mem_cons.1 hx).elim (fun e => e ▸ h1) (fun hx => h3 x hx)⟩
    · rintro ⟨rfl, h⟩
      exact ⟨_, _, rfl, ⟨rfl, h s (by simp)⟩, strs_at.2 ⟨rfl, fun x hx => h x (by simp [hx])⟩⟩
theorem Ls.strs {A : Option Addr} {c : Nat} {l : List ByteArray} (h : Ss S w A c l) : Rd w 1 A l.length c (l.map .string) ∧ ∀ s ∈ l, s.size ≤ 140737488351232 := by
  obtain ⟨vs, hr, ht⟩ := h.cells
  obtain ⟨rfl, h2⟩ := strs_at.1 ht
  exact ⟨hr, h2⟩
theorem Ls.str {A : Option Addr} {c : Nat} {l : List ByteArray} (h : Ss S w A c l) {i : Nat} {s : ByteArray} (hs : l[i]? = some s) : ∃ ad, A = some ad ∧ w.cell? (ad.add i) = some (.string s) ∧ s.size ≤ 140737488351232 := by
  obtain ⟨hr, h2⟩ := h.strs
  obtain ⟨ad, rfl, hc⟩ := hr.at_ i (.string s) (by simp [hs])
  exact ⟨ad, rfl, hc, h2 s (List.mem_of_getElem? hs)⟩
theorem Ls.mk_strs {A : Option Addr} {c : Nat} {l : List ByteArray} (hr : Rd w 1 A l.length c (l.map .string)) (hl : l.length ≤ 8796093021952) (hs : ∀ s ∈ l, s.size ≤ 140737488351232) (hS : ∀ ad, A = some ad → 0 < l.length → S ad.block) : Ss S w A c l :=
  ⟨by omega, by omega, hr.cap, hr.max, hS, _, hr, strs_at.2 ⟨rfl, hs⟩⟩
end

/-! ### Opening -/

def FitsFs (F : TypeId → List Tr → Prop) : List Field → List Tr → Prop
  | [], ts => ts = []
  | f :: fs, ts => ∃ p r, ts = p ++ r ∧ F f.type p ∧ FitsFs F fs r
/-- the tree is one of type t -/
def Fits (P : Program) : Nat → TypeId → List Tr → Prop
  | 0, _, _ => False
  | n + 1, t, ts => match P.underlying t with
    | some .bool => ∃ b, ts = [.leaf (.bool b)]
    | some (.int k) => ∃ z, ts = [.leaf (.int k z)]
    | some .string => ∃ s, ts = [.leaf (.string s)]
    | some (.slice e) => ∃ l : List (List Tr), ts = [.sl (P.cellsOf e) (P.bytesOf e) l.length l.flatten] ∧ ∀ r ∈ l, Fits P n e r
    | some (.struct fs) => FitsFs (Fits P n) fs.toList ts
    | _ => False
def consecB (P : Program) : Nat → List Field → Option Nat
  | o, [] => some o
  | o, f :: fs => if f.offset == o then consecB P (o + P.cellsOf f.type) fs else none
def closedB (P : Program) (L : List TypeId) : Bool :=
  L.all fun t => match P.underlying t with
    | some .bool | some (.int _) | some .string => P.cellsOf t == 1
    | some (.slice e) => P.cellsOf t == 1 && L.contains e && decide (0 < P.cellsOf e)
    | some (.struct fs) => (consecB P 0 fs.toList == some (P.cellsOf t)) && fs.toList.all fun f => L.contains f.type
    | _ => false

section
variable {H : Type} {enc : TypeId × Value → H} {P : Program} {w : World} {base : Nat} {held : Bool} {S : Nat → Prop}
theorem wAll_mem {e : TypeId} : ∀ {es : List (DataW H)} {x : DataW H} {z : Nat}, x ∈ es → z ∈ x.weights P e → z ∈ DataW.weightsAll P e es
  | y :: es, x, z, hx, hz => by
    unfold DataW.weightsAll
    rw [List.mem_append]
    rcases List.mem_cons.1 hx with rfl | hx
    · exact .inl hz
    · exact .inr (wAll_mem hx hz)
theorem wEach_mem : ∀ {ts : List TypeId} {ds : List (DataW H)} {i : Nat} {t : TypeId} {d : DataW H} {z : Nat}, ts[i]? = some t → ds[i]? = some d → z ∈ d.weights P t → z ∈ DataW.weightsEach P ts ds
  | t' :: ts, d' :: ds, 0, t, d, z, ht, hd, hz => by
    simp at ht hd; subst ht hd
    unfold DataW.weightsEach; rw [List.mem_append]; exact .inl hz
  | t' :: ts, d' :: ds, i + 1, t, d, z, ht, hd, hz => by
    unfold DataW.weightsEach; rw [List.mem_append]; exact .inr (wEach_mem (i := i) (by simpa using ht) (by simpa using hd) hz)
  | [], _, i, t, d, z, ht, hd, hz => by simp at ht
  | _ :: _, [], i, t, d, z, ht, hd, hz => by simp at hd
theorem fits_fields {F : TypeId → List Tr → Prop} {T : Nat} {cs : List Value} : ∀ (fs : List Field) (o : Nat), consecB P o fs = some T → cs.length = T →
    (∀ f ∈ fs, ∃ p, F f.type p ∧ Trs.at S w p ((cs.drop f.offset).take (P.cellsOf f.type))) → ∃ ts, FitsFs F fs ts ∧ Trs.at S w ts (cs.drop o)
  | [], o, hc, hl, _ => by
    simp only [consecB, Option.some.injEq] at hc
    exact ⟨[], by simp only [FitsFs], by simp only [Trs.at]; exact List.drop_of_length_le (by omega)⟩
  | f :: fs, o, hc, hl, h => by
    simp only [consecB] at hc
    split at hc
    · next ho =>
      have ho : f.offset = o := by simpa using ho
      obtain ⟨r, h1, h2⟩ := fits_fields fs _ hc hl (fun g hg => h g (by simp [hg]))
      obtain ⟨p, h3, h4⟩ := h f (by simp)
      rw [ho] at h4
      refine ⟨p ++ r, ⟨p, r, rfl, h3, h1⟩, Trs.at.app.2 ⟨_, _, ?_, h4, h2⟩⟩
      rw [← List.drop_drop]; exact (List.take_append_drop _ _).symm
    · cases hc

theorem trod_fits {L : List TypeId} (hL : closedB P L = true) (hS : ∀ k, k < w.heap.size → S k) : ∀ (n : Nat) (t : TypeId) (cs : List Value) (x : DataW H × List MemPlace), L.contains t = true →
    DataW.trod enc P w base (fun _ => true) held n t cs = some x → (∀ z ∈ x.1.weights P t, z ≤ 140737488351232) → ∃ ts, Fits P n t ts ∧ Trs.at S w ts cs
  | 0, t, cs, x, _, h, _ => by simp [DataW.trod] at h
  | n + 1, t, cs, x, ht, h, hz => by
    have hc := List.all_eq_true.1 hL t (by simpa using ht)
    split at hc
    · next hu =>
      obtain ⟨b, rfl, _⟩ := DataW.trod_bool hu h
      exact ⟨[.leaf (.bool b)], by simp only [Fits, hu]; exact ⟨b, rfl⟩, by simp [Trs.at, Tr.at, okLeaf]⟩
    · next k hu =>
      obtain ⟨z, rfl, _, hw⟩ := DataW.trod_int hu h
      exact ⟨[.leaf (.int k z)], by simp only [Fits, hu]; exact ⟨z, rfl⟩, by simp [Trs.at, Tr.at, okLeaf, hw]⟩
    · next hu =>
      obtain ⟨s, rfl, rfl, hw⟩ := DataW.trod_string hu h
      refine ⟨[.leaf (.string s)], by simp only [Fits, hu]; exact ⟨s, rfl⟩, ?_⟩
      have := hz s.size (by simp [DataW.weights])
      simp [Trs.at, Tr.at, okLeaf, this]
    · next e hu =>
      simp only [Bool.and_eq_true, beq_iff_eq, decide_eq_true_eq] at hc
      obtain ⟨⟨hc1, hc2⟩, hc3⟩ := hc
      rcases DataW.trod_slice hu h with ⟨rfl, _⟩ | ⟨a, len, cap, elems, rest, n', hn, rfl, rfl, hb, hl, hm, hlen, hel, _, _⟩
      · refine ⟨[.sl (P.cellsOf e) (P.bytesOf e) 0 []], by simp only [Fits, hu]; exact ⟨[], by simp, by simp⟩, ?_⟩
        simp only [Trs.at, Tr.at]
        exact ⟨_, _, rfl, ⟨none, 0, [], rfl, Rd.nil _ _, ⟨hc3, by simp⟩, by simp, rfl⟩, rfl⟩
      · obtain rfl : n = n' := by omega
        have hw1 : (elems.length + rest.length) * P.bytesOf e ≤ 140737488351232 := hz _ (by simp [DataW.weights, hu])
        have key : ∀ i, i < len → ∃ (r : List Tr) (cs' : List Value), Fits P n e r ∧ Trs.at S w r cs' ∧ cs'.length = P.cellsOf e ∧ ∀ j, j < P.cellsOf e → w.cell? ((a.add (i * P.cellsOf e)).add j) = cs'[j]? := fun i hi => by
          have h1 := hel i hi
          rw [List.getElem?_eq_getElem (by omega)] at h1
          obtain ⟨cs', h2, h3⟩ := Option.bind_eq_some_iff.1 h1
          obtain ⟨_, h4, h5⟩ := World.cells?_some h2
          obtain ⟨r, h6, h7⟩ := trod_fits hL hS n e cs' _ hc2 h3 (fun z hz' => hz z (by
            simp only [DataW.weights, hu]
            refine List.mem_cons_of_mem _ (List.mem_append_left _ (wAll_mem ?_ hz'))
            exact List.mem_map.2 ⟨_, List.getElem_mem (h := by omega), rfl⟩))
          exact ⟨r, cs', h6, h7, h4, fun j hj => h5 j hj⟩
        obtain ⟨R, hR⟩ := Deep.choose_lt (α := List Tr × List Value) (n := len) (p := fun i rc => Fits P n e rc.1 ∧ Trs.at S w rc.1 rc.2 ∧ rc.2.length = P.cellsOf e ∧ ∀ j, j < P.cellsOf e → w.cell? ((a.add (i * P.cellsOf e)).add j) = rc.2[j]?) (fun i hi => by
          obtain ⟨r, c, h1⟩ := key i hi; exact ⟨(r, c), h1⟩)
        have hvl : ∀ m, m ≤ len → (((List.range m).map fun i => (R i).2).flatten).length = m * P.cellsOf e := by
          intro m
          induction m with
          | zero => intro _; simp
          | succ m ih => intro hm'; rw [List.range_succ]; simp only [List.map_append, List.flatten_append, List.length_append, List.map_cons, List.map_nil, List.flatten_cons, List.flatten_nil, List.append_nil]; rw [ih (by omega), (hR m (by omega)).2.2.1, Nat.succ_mul]
        have hvg : ∀ m, m ≤ len → ∀ (j : Nat) (u : Value), (((List.range m).map fun i => (R i).2).flatten)[j]? = some u → w.cell? (a.add j) = some u := by
          intro m
          induction m with
          | zero => intro _ j u hu'; simp at hu'
          | succ m ih =>
            intro hm' j u hu'
            rw [List.range_succ] at hu'
            simp only [List.map_append, List.flatten_append, List.map_cons, List.map_nil, List.flatten_cons, List.flatten_nil, List.append_nil] at hu'
            rcases Nat.lt_or_ge j (((List.range m).map fun i => (R i).2).flatten).length with hj | hj
            · rw [List.getElem?_append_left hj] at hu'; exact ih (by omega) j u hu'
            · rw [List.getElem?_append_right hj, hvl m (by omega)] at hu'
              rw [hvl m (by omega)] at hj
              obtain ⟨_, _, h3, h4⟩ := hR m (by omega)
              have hlt : j - m * P.cellsOf e < (R m).2.length := by
                rcases Nat.lt_or_ge (j - m * P.cellsOf e) (R m).2.length with h | h
                · exact h
                · rw [List.getElem?_eq_none h] at hu'; cases hu'
              have h5 := h4 (j - m * P.cellsOf e) (by omega)
              rw [add_of_add, show m * P.cellsOf e + (j - m * P.cellsOf e) = j by omega] at h5
              exact h5.trans hu'
        refine ⟨[.sl (P.cellsOf e) (P.bytesOf e) len (((List.range len).map fun i => (R i).1).flatten)], ?_, ?_⟩
        · simp only [Fits, hu]
          refine ⟨(List.range len).map fun i => (R i).1, by simp, fun r hr => ?_⟩
          simp only [List.mem_map, List.mem_range] at hr
          obtain ⟨i, hi, rfl⟩ := hr
          exact (hR i hi).1
        · have hat : ∀ m, m ≤ len → Trs.at S w (((List.range m).map fun i => (R i).1).flatten) (((List.range m).map fun i => (R i).2).flatten) := by
            intro m
            induction m with
            | zero => intro _; simp [Trs.at]
            | succ m ih =>
              intro hm'
              rw [List.range_succ]
              simp only [List.map_append, List.flatten_append, List.map_cons, List.map_nil, List.flatten_cons, List.flatten_nil, List.append_nil]
              exact Trs.at.app.2 ⟨_, _, rfl, ih (by omega), (hR m (by omega)).2.1⟩
          have hw2 : len * P.bytesOf e ≤ 140737488351232 := Nat.le_trans (Nat.mul_le_mul_right _ (by omega)) hw1
          simp only [Trs.at, Tr.at]
          refine ⟨_, _, rfl, ⟨some a, cap, ((List.range len).map fun i => (R i).2).flatten, rfl, ⟨hvl len (Nat.le_refl _), hl, hm, fun j u hu' => ⟨a, rfl, hvg len (Nat.le_refl _) j u hu'⟩⟩, ⟨hc3, hw2⟩, ?_, hat len (Nat.le_refl _)⟩, rfl⟩
          rintro ad e0 h0
          injection e0 with e0
          subst e0
          obtain ⟨_, _, h3, h4⟩ := hR 0 h0
          have h5 := h4 0 hc3
          rw [List.getElem?_eq_getElem (by omega)] at h5
          have := World.block_lt_of_cell? w _ h5
          rw [block_of_add, block_of_add] at this
          exact hS _ this
    · next fs hu =>
      simp only [Bool.and_eq_true, beq_iff_eq] at hc
      obtain ⟨hc1, hc2⟩ := hc
      obtain ⟨xs, n', hn, rfl, hlen, hxl, hf⟩ := DataW.trod_struct hu h
      obtain rfl : n = n' := by omega
      obtain ⟨ts, h1, h2⟩ := fits_fields (F := Fits P n) (S := S) (w := w) fs.toList 0 hc1 hlen (fun f hf' => by
        obtain ⟨i, hi⟩ := List.mem_iff_getElem?.1 hf'
        have hi' : fs[i]? = some f := by simpa using hi
        have h3 := hf i f hi'
        have hil : i < fs.size := (Array.getElem?_eq_some_iff.1 hi').1
        rw [List.getElem?_eq_getElem (by omega)] at h3
        exact trod_fits hL hS n f.type _ _ (List.all_eq_true.1 hc2 f hf') h3 (fun z hz' => hz z (by
          simp only [DataW.weights, hu]
          exact wEach_mem (i := i) (t := f.type) (d := (xs[i]'(by omega)).1) (by simp [hi']) (by rw [List.getElem?_map, List.getElem?_eq_getElem (by omega)]; rfl) hz')))
      exact ⟨ts, by simp only [Fits, hu]; exact h1, by simpa using h2⟩
    · cases hc
end
end Go.Proofs.YtmljdppdaaoehaaGreatDoor
