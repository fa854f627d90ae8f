/- The program's data as Lean's own: values, expressions, conditions, templates; their trees; that what comes in is one of them. -/
import Derived.Test.YtgdfkbalnpfdgaaGreatDoorProg
import Derived.KernelRfl
import Derived.Test.YtgdfkbalnpfdgaaGreatDoorTr
namespace Go.Proofs.YtgdfkbalnpfdgaaGreatDoor
open Go.RowKit Go.ChangeShapes Go.WideShapes Go.ChangeAt
set_option linter.unusedVariables false
set_option linter.unusedSimpArgs false
structure Vl where
 kind : Int
 bool : Bool
 num : Int
 text : ByteArray
 list : List Vl
 keys : List ByteArray
structure Ex where
 kind : Int
 text : ByteArray
 num : Int
 name : ByteArray
 attr : ByteArray
 l : List Ex
structure Cd where
 name : ByteArray
 kind : Int
 a : Ex
 b : Ex
 l : List Cd
structure Gv where
 name : ByteArray
 unknown : Bool
 v : Vl
structure Pm where
 name : ByteArray
 number : Bool
 has : Bool
 dflt : Vl
 allowed : List Vl
structure Pr where
 name : ByteArray
 e : Ex
structure Ou where
 name : ByteArray
 cond : ByteArray
 e : Ex
mutual
structure Rs where
 id : ByteArray
 type : ByteArray
 cond : ByteArray
 props : List Pr
 depends : List ByteArray
 retain : Bool
 inner : List Tm
structure Tm where
 params : List Pm
 conds : List Cd
 res : List Rs
 outs : List Ou
end
abbrev lS (s : ByteArray) : Tr := .leaf (.string s)
abbrev lB (b : Bool) : Tr := .leaf (.bool b)
abbrev lI (z : Int) : Tr := .leaf (.int .i64 z)
abbrev lK (z : Int) : Tr := .leaf (.int .i8 z)
mutual
def Vl.tr : Vl → List Tr
 | ⟨k, b, n, t, l, ks⟩ => [lK k, lB b, lI n, lS t, .sl 6 80 l.length (Vl.trs l), sTr ks]
def Vl.trs : List Vl → List Tr
 | [] => []
 | v :: r => v.tr ++ Vl.trs r
end
mutual
def Ex.tr : Ex → List Tr
 | ⟨k, t, n, nm, a, l⟩ => [lK k, lS t, lI n, lS nm, lS a, .sl 6 88 l.length (Ex.trs l)]
def Ex.trs : List Ex → List Tr
 | [] => []
 | v :: r => v.tr ++ Ex.trs r
end
mutual
def Cd.tr : Cd → List Tr
 | ⟨n, k, a, b, l⟩ => lS n :: lK k :: (a.tr ++ (b.tr ++ [.sl 15 224 l.length (Cd.trs l)]))
def Cd.trs : List Cd → List Tr
 | [] => []
 | v :: r => v.tr ++ Cd.trs r
end
theorem Vl.trs_eq : ∀ l, Vl.trs l = l.flatMap Vl.tr
 | [] => rfl
 | v :: r => by rw [Vl.trs, Vl.trs_eq r]; rfl
theorem Ex.trs_eq : ∀ l, Ex.trs l = l.flatMap Ex.tr
 | [] => rfl
 | v :: r => by rw [Ex.trs, Ex.trs_eq r]; rfl
theorem Cd.trs_eq : ∀ l, Cd.trs l = l.flatMap Cd.tr
 | [] => rfl
 | v :: r => by rw [Cd.trs, Cd.trs_eq r]; rfl
def Gv.tr (g : Gv) : List Tr := lS g.name :: lB g.unknown :: g.v.tr
def Pm.tr (p : Pm) : List Tr := lS p.name :: lB p.number :: lB p.has :: (p.dflt.tr ++ [.sl 6 80 p.allowed.length (p.allowed.flatMap Vl.tr)])
def Pr.tr (p : Pr) : List Tr := lS p.name :: p.e.tr
def Ou.tr (p : Ou) : List Tr := lS p.name :: lS p.cond :: p.e.tr
mutual
def Rs.tr : Rs → List Tr
 | ⟨i, t, c, ps, ds, r, l⟩ => [lS i, lS t, lS c, .sl 7 104 ps.length (ps.flatMap Pr.tr), sTr ds, lB r, .sl 4 96 l.length (Tm.trs l)]
def Rs.trs : List Rs → List Tr
 | [] => []
 | v :: r => v.tr ++ Rs.trs r
def Tm.tr : Tm → List Tr
 | ⟨ps, cs, rs, os⟩ => [.sl 10 128 ps.length (ps.flatMap Pm.tr), .sl 15 224 cs.length (cs.flatMap Cd.tr), .sl 7 128 rs.length (Rs.trs rs), .sl 8 120 os.length (os.flatMap Ou.tr)]
def Tm.trs : List Tm → List Tr
 | [] => []
 | v :: r => v.tr ++ Tm.trs r
end
theorem Rs.trs_eq : ∀ l, Rs.trs l = l.flatMap Rs.tr
 | [] => rfl
 | v :: r => by rw [Rs.trs, Rs.trs_eq r]; rfl
theorem Tm.trs_eq : ∀ l, Tm.trs l = l.flatMap Tm.tr
 | [] => rfl
 | v :: r => by rw [Tm.trs, Tm.trs_eq r]; rfl
theorem Vl.trlen (v : Vl) : v.tr.length = 6 := by cases v; rfl
theorem Ex.trlen (v : Ex) : v.tr.length = 6 := by cases v; rfl
theorem Cd.trlen (v : Cd) : v.tr.length = 15 := by cases v; simp [Cd.tr, Ex.trlen]
theorem Gv.trlen (v : Gv) : v.tr.length = 8 := by cases v; simp [Gv.tr, Vl.trlen]
theorem Pm.trlen (v : Pm) : v.tr.length = 10 := by cases v; simp [Pm.tr, Vl.trlen]
theorem Pr.trlen (v : Pr) : v.tr.length = 7 := by cases v; simp [Pr.tr, Ex.trlen]
theorem Ou.trlen (v : Ou) : v.tr.length = 8 := by cases v; simp [Ou.tr, Ex.trlen]
theorem Rs.trlen (v : Rs) : v.tr.length = 7 := by cases v; rfl
theorem Tm.trlen (v : Tm) : v.tr.length = 4 := by cases v; rfl
section
variable {P : Program} {n : Nat} {t e : TypeId} {ts : List Tr} {k : IntKind} {fs : Array Field}
theorem fits_int (hu : P.underlying t = some (.int k)) (h : Fits P n t ts) : ∃ z, ts = [.leaf (.int k z)] := by
 cases n with
 | zero => simp [Fits] at h
 | succ n => simpa only [Fits, hu] using h
theorem fits_slice (hu : P.underlying t = some (.slice e)) (h : Fits P n t ts) : ∃ (m : Nat) (l : List (List Tr)), n = m + 1 ∧ ts = [.sl (P.cellsOf e) (P.bytesOf e) l.length l.flatten] ∧ ∀ r ∈ l, Fits P m e r := by
 cases n with
 | zero => simp [Fits] at h
 | succ n =>
   simp only [Fits, hu] at h
   obtain ⟨l, h1, h2⟩ := h
   exact ⟨n, l, rfl, h1, h2⟩
theorem fits_rows {α : Type} {tr : α → List Tr} {sz b : Nat} (hu : P.underlying t = some (.slice e)) (hc : P.cellsOf e = sz) (hb : P.bytesOf e = b) (h : Fits P n t ts) (hel : ∀ m r, m < n → Fits P m e r → ∃ a, r = tr a) :
 ∃ l : List α, ts = [.sl sz b l.length (l.flatMap tr)] := by
 obtain ⟨m, l, hn, rfl, hl⟩ := fits_slice hu h
 subst hc hb
 have key : ∀ l : List (List Tr), (∀ r ∈ l, Fits P m e r) → ∃ l' : List α, l = l'.map tr := by
  intro l
  induction l with
  | nil => intro _; exact ⟨[], rfl⟩
  | cons r l ih =>
    intro h
    obtain ⟨l', rfl⟩ := ih (fun x hx => h x (by simp [hx]))
    obtain ⟨a, rfl⟩ := hel m r (by omega) (h r (by simp))
    exact ⟨a :: l', rfl⟩
 obtain ⟨l', rfl⟩ := key l hl
 exact ⟨l', by rw [List.length_map, List.flatMap_def]⟩
end
end Go.Proofs.YtgdfkbalnpfdgaaGreatDoor
