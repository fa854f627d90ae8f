/- The program's data as Lean's own: values, expressions, conditions, templates; their trees; that what comes in is one of them. -/
import Derived.Test.YtmljdppdaaoehaaGreatDoorTr
import Derived.Test.YtmljdppdaaoehaaGreatDoorProg
import Derived.KernelRfl
namespace Go.Proofs.YtmljdppdaaoehaaGreatDoor
open Go.RowKit Go.ChangeShapes Go.WideShapes Go.ChangeAt
set_option linter.unusedVariables false
set_option linter.unusedSimpArgs false

structure Vl where
  kind : Int
  bool : Bool
  num : Int
  text : ByteArray
  list : List Vl
  keys : List ByteArray
structure Ex where
  kind : Int
  text : ByteArray
  num : Int
  name : ByteArray
  attr : ByteArray
  l : List Ex
structure Cd where
  name : ByteArray
  kind : Int
  a : Ex
  b : Ex
  l : List Cd
structure Gv where
  name : ByteArray
  unknown : Bool
  v : Vl
structure Pm where
  name : ByteArray
  number : Bool
  has : Bool
  dflt : Vl
  allowed : List Vl
structure Pr where
  name : ByteArray
  e : Ex
structure Ou where
  name : ByteArray
  cond : ByteArray
  e : Ex
mutual
structure Rs where
  id : ByteArray
  type : ByteArray
  cond : ByteArray
  props : List Pr
  depends : List ByteArray
  retain : Bool
  inner : List Tm
structure Tm where
  params : List Pm
  conds : List Cd
  res : List Rs
  outs : List Ou
end
abbrev lS (s : ByteArray) : Tr := .leaf (.string s)
abbrev lB (b : Bool) : Tr := .leaf (.bool b)
abbrev lI (z : Int) : Tr := .leaf (.int .i64 z)
abbrev lK (z : Int) : Tr := .leaf (.int .i8 z)

mutual
def Vl.tr : Vl → List Tr
  | ⟨k, b, n, t, l, ks⟩ => [lK k, lB b, lI n, lS t, .sl 6 80 l.length (Vl.trs l), sTr ks]
def Vl.trs : List Vl → List Tr
  | [] => []
  | v :: r => v.tr ++ Vl.trs r
end
mutual
def Ex.tr : Ex → List Tr
  | ⟨k, t, n, nm, a, l⟩ => [lK k, lS t, lI n, lS nm, lS a, .sl 6 88 l.length (Ex.trs l)]
def Ex.trs : List Ex → List Tr
  | [] => []
  | v :: r => v.tr ++ Ex.trs r
end
mutual
def Cd.tr : Cd → List Tr
  | ⟨n, k, a, b, l⟩ => lS n :: lK k :: (a.tr ++ (b.tr ++ [.sl 15 224 l.length (Cd.trs l)]))
def Cd.trs : List Cd → List Tr
  | [] => []
  | v :: r => v.tr ++ Cd.trs r
end
theorem Vl.trs_eq : ∀ l, Vl.trs l = l.flatMap Vl.tr
  | [] => rfl
  | v :: r => by rw [Vl.trs, Vl.trs_eq r]; rfl
theorem Ex.trs_eq : ∀ l, Ex.trs l = l.flatMap Ex.tr
  | [] => rfl
  | v :: r => by rw [Ex.trs, Ex.trs_eq r]; rfl
theorem Cd.trs_eq : ∀ l, Cd.trs l = l.flatMap Cd.tr
  | [] => rfl
  | v :: r => by rw [Cd.trs, Cd.trs_eq r]; rfl
def Gv.tr (g : Gv) : List Tr := lS g.name :: lB g.unknown :: g.v.tr
def Pm.tr (p : Pm) : List Tr := lS p.name :: lB p.number :: lB p.has :: (p.dflt.tr ++ [.sl 6 80 p.allowed.length (p.allowed.flatMap Vl.tr)])
def Pr.tr (p : Pr) : List Tr := lS p.name :: p.e.tr
def Ou.tr (p : Ou) : List Tr := lS p.name :: lS p.cond :: p.e.tr
mutual
def Rs.tr : Rs → List Tr
  | ⟨i, t, c, ps, ds, r, l⟩ => [lS i, lS t, lS c, .sl 7 104 ps.length (ps.flatMap Pr.tr), sTr ds, lB r, .sl 4 96 l.length (Tm.trs l)]
def Rs.trs : List Rs → List Tr
  | [] => []
  | v :: r => v.tr ++ Rs.trs r
def Tm.tr : Tm → List Tr
  | ⟨ps, cs, rs, os⟩ => [.sl 10 128 ps.length (ps.flatMap Pm.tr), .sl 15 224 cs.length (cs.flatMap Cd.tr), .sl 7 128 rs.length (Rs.trs rs), .sl 8 120 os.length (os.flatMap Ou.tr)]
def Tm.trs : List Tm → List Tr
  | [] => []
  | v :: r => v.tr ++ Tm.trs r
end
theorem Rs.trs_eq : ∀ l, Rs.trs l = l.flatMap Rs.tr
  | [] => rfl
  | v :: r => by rw [Rs.trs, Rs.trs_eq r]; rfl
theorem Tm.trs_eq : ∀ l, Tm.trs l = l.flatMap Tm.tr
  | [] => rfl
  | v :: r => by rw [Tm.trs, Tm.trs_eq r]; rfl
theorem Vl.trlen (v : Vl) : v.tr.length = 6 := by cases v; rfl
theorem Ex.trlen (v : Ex) : v.tr.length = 6 := by cases v; rfl
theorem Cd.trlen (v : Cd) : v.tr.length = 15 := by cases v; simp [Cd.tr, Ex.trlen]
theorem Gv.trlen (v : Gv) : v.tr.length = 8 := by cases v; simp [Gv.tr, Vl.trlen]
theorem Pm.trlen (v : Pm) : v.tr.length = 10 := by cases v; simp [Pm.tr, Vl.trlen]
theorem Pr.trlen (v : Pr) : v.tr.length = 7 := by cases v; simp [Pr.tr, Ex.trlen]
theorem Ou.trlen (v : Ou) : v.tr.length = 8 := by cases v; simp [Ou.tr, Ex.trlen]
theorem Rs.trlen (v : Rs) : v.tr.length = 7 := by cases v; rfl
theorem Tm.trlen (v : Tm) : v.tr.length = 4 := by cases v; rfl

/-! ### What fits -/
section
variable {P : Program} {n : Nat} {t e : TypeId} {ts : List Tr} {k : IntKind} {fs : Array Field}
theorem fits_bool (hu : P.underlying t = some .bool) (h : Fits P n t ts) : ∃ b, ts = [.leaf (.bool b)] := by
  cases n with
  | zero => simp [Fits] at h
  | succ n => simpa only [Fits, hu] using h
theorem fits_int (hu : P.underlying t = some (.int k)) (h : Fits P n t ts) : ∃ z, ts = [.leaf (.int k z)] := by
  cases n with
  | zero => simp [Fits] at h
  | succ n => simpa only [Fits, hu] using h
theorem fits_string (hu : P.underlying t = some .string) (h : Fits P n t ts) : ∃ s, ts = [.leaf (.string s)] := by
  cases n with
  | zero => simp [Fits] at h
  | succ n => simpa only [Fits, hu] using h
theorem fits_slice (hu : P.underlying t = some (.slice e)) (h : Fits P n t ts) : ∃ (m : Nat) (l : List (List Tr)), n = m + 1 ∧ ts = [.sl (P.cellsOf e) (P.bytesOf e) l.length l.flatten] ∧ ∀ r ∈ l, Fits P m e r := by
  cases n with
  | zero => simp [Fits] at h
  | succ n => 
    simp only [Fits, hu] at h
    obtain ⟨l, h1, h2⟩ := h
    exact ⟨n, l, rfl, h1, h2⟩
theorem fits_struct (hu : P.underlying t = some (.struct fs)) (h : Fits P n t ts) : ∃ m, n = m + 1 ∧ FitsFs (Fits P m) fs.toList ts := by
  cases n with
  | zero => simp [Fits] at h
  | succ n => 
    simp only [Fits, hu] at h
    exact ⟨n, rfl, h⟩
/-- a slice of things that are known -/
theorem fits_rows {α : Type} {tr : α → List Tr} {sz b : Nat} (hu : P.underlying t = some (.slice e)) (hc : P.cellsOf e = sz) (hb : P.bytesOf e = b) (h : Fits P n t ts) (hel : ∀ m r, m < n → Fits P m e r → ∃ a, r = tr a) :
    ∃ l : List α, ts = [.sl sz b l.length (l.flatMap tr)] := by
  obtain ⟨m, l, hn, rfl, hl⟩ := fits_slice hu h
  subst hc hb
  have key : ∀ l : List (List Tr), (∀ r ∈ l, Fits P m e r) → ∃ l' : List α, l = l'.map tr := by
    intro l
    induction l with
    | nil => intro _; exact ⟨[], rfl⟩
    | cons r l ih =>
      intro h
      obtain ⟨l', rfl⟩ := ih (fun x hx => h x (by simp [hx]))
      obtain ⟨a, rfl⟩ := hel m r (by omega) (h r (by simp))
      exact ⟨a :: l', rfl⟩
  obtain ⟨l', rfl⟩ := key l hl
  exact ⟨l', by rw [List.length_map, List.flatMap_def]⟩
end
theorem fits_strs {n : Nat} {ts : List Tr} (h : Fits Tryz.prog n 35 ts) : ∃ l : List ByteArray, ts = [sTr l] := by
  obtain ⟨l, rfl⟩ := fits_rows (tr := strTr) Tryz.underlying35 (show Tryz.prog.cellsOf 9 = 1 by kernel_rfl) (show Tryz.prog.bytesOf 9 = 16 by kernel_rfl) h (fun m r _ hr => fits_string Tryz.underlying9 hr)
  exact ⟨l, rfl⟩
theorem fits_value : ∀ (n : Nat) (ts : List Tr), Fits Tryz.prog n 37 ts → ∃ v : Vl, ts = v.tr := by
  intro n
  induction n using Nat.strongRecOn with
  | _ n ih =>
    intro ts h
    obtain ⟨m, rfl, p0, r0, rfl, h0, p1, r1, rfl, h1, p2, r2, rfl, h2, p3, r3, rfl, h3, p4, r4, rfl, h4, p5, r5, rfl, h5, rfl⟩ := fits_struct Tryz.underlying37 h
    obtain ⟨k, rfl⟩ := fits_int Tryz.underlying24 h0
    obtain ⟨b, rfl⟩ := fits_bool Tryz.underlying4 h1
    obtain ⟨z, rfl⟩ := fits_int Tryz.underlying3 h2
    obtain ⟨s, rfl⟩ := fits_string Tryz.underlying9 h3
    obtain ⟨l, rfl⟩ := fits_rows (tr := Vl.tr) Tryz.underlying34 (show Tryz.prog.cellsOf 37 = 6 by kernel_rfl) (show Tryz.prog.bytesOf 37 = 80 by kernel_rfl) h4 (fun m' r hm hr => ih m' (by omega) r hr)
    obtain ⟨ks, rfl⟩ := fits_strs h5
    exact ⟨⟨k, b, z, s, l, ks⟩, by simp [Vl.tr, Vl.trs_eq]⟩
theorem fits_expr : ∀ (n : Nat) (ts : List Tr), Fits Tryz.prog n 27 ts → ∃ v : Ex, ts = v.tr := by
  intro n
  induction n using Nat.strongRecOn with
  | _ n ih =>
    intro ts h
    obtain ⟨m, rfl, p0, r0, rfl, h0, p1, r1, rfl, h1, p2, r2, rfl, h2, p3, r3, rfl, h3, p4, r4, rfl, h4, p5, r5, rfl, h5, rfl⟩ := fits_struct Tryz.underlying27 h
    obtain ⟨k, rfl⟩ := fits_int Tryz.underlying24 h0
    obtain ⟨s1, rfl⟩ := fits_string Tryz.underlying9 h1
    obtain ⟨z, rfl⟩ := fits_int Tryz.underlying3 h2
    obtain ⟨s2, rfl⟩ := fits_string Tryz.underlying9 h3
    obtain ⟨s3, rfl⟩ := fits_string Tryz.underlying9 h4
    obtain ⟨l, rfl⟩ := fits_rows (tr := Ex.tr) Tryz.underlying25 (show Tryz.prog.cellsOf 27 = 6 by kernel_rfl) (show Tryz.prog.bytesOf 27 = 88 by kernel_rfl) h5 (fun m' r hm hr => ih m' (by omega) r hr)
    exact ⟨⟨k, s1, z, s2, s3, l⟩, by simp [Ex.tr, Ex.trs_eq]⟩
theorem fits_cond : ∀ (n : Nat) (ts : List Tr), Fits Tryz.prog n 46 ts → ∃ v : Cd, ts = v.tr := by
  intro n
  induction n using Nat.strongRecOn with
  | _ n ih =>
    intro ts h
    obtain ⟨m, rfl, p0, r0, rfl, h0, p1, r1, rfl, h1, p2, r2, rfl, h2, p3, r3, rfl, h3, p4, r4, rfl, h4, rfl⟩ := fits_struct Tryz.underlying46 h
    obtain ⟨s, rfl⟩ := fits_string Tryz.underlying9 h0
    obtain ⟨k, rfl⟩ := fits_int Tryz.underlying24 h1
    obtain ⟨a, rfl⟩ := fits_expr _ _ h2
    obtain ⟨b, rfl⟩ := fits_expr _ _ h3
    obtain ⟨l, rfl⟩ := fits_rows (tr := Cd.tr) Tryz.underlying22 (show Tryz.prog.cellsOf 46 = 15 by kernel_rfl) (show Tryz.prog.bytesOf 46 = 224 by kernel_rfl) h4 (fun m' r hm hr => ih m' (by omega) r hr)
    exact ⟨⟨s, k, a, b, l⟩, by simp [Cd.tr, Cd.trs_eq]⟩
theorem fits_given {n : Nat} {ts : List Tr} (h : Fits Tryz.prog n 39 ts) : ∃ v : Gv, ts = v.tr := by
  obtain ⟨m, rfl, p0, r0, rfl, h0, p1, r1, rfl, h1, p2, r2, rfl, h2, rfl⟩ := fits_struct Tryz.underlying39 h
  obtain ⟨s, rfl⟩ := fits_string Tryz.underlying9 h0
  obtain ⟨b, rfl⟩ := fits_bool Tryz.underlying4 h1
  obtain ⟨v, rfl⟩ := fits_value _ _ h2
  exact ⟨⟨s, b, v⟩, by simp [Gv.tr]⟩
theorem fits_givens {n : Nat} {ts : List Tr} (h : Fits Tryz.prog n 23 ts) : ∃ l : List Gv, ts = [.sl 8 104 l.length (l.flatMap Gv.tr)] :=
  fits_rows (tr := Gv.tr) Tryz.underlying23 (show Tryz.prog.cellsOf 39 = 8 by kernel_rfl) (show Tryz.prog.bytesOf 39 = 104 by kernel_rfl) h (fun m r _ hr => fits_given hr)
theorem fits_conds {n : Nat} {ts : List Tr} (h : Fits Tryz.prog n 22 ts) : ∃ l : List Cd, ts = [.sl 15 224 l.length (l.flatMap Cd.tr)] :=
  fits_rows (tr := Cd.tr) Tryz.underlying22 (show Tryz.prog.cellsOf 46 = 15 by kernel_rfl) (show Tryz.prog.bytesOf 46 = 224 by kernel_rfl) h (fun m r _ hr => fits_cond _ _ hr)
end Go.Proofs.YtmljdppdaaoehaaGreatDoor
