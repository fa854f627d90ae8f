/- Part of the proof. -/
import Derived.Test.YtgdfkbalnpfdgaaGreatDoorTr
import Derived.Deep.LoopGhost
set_option maxRecDepth 100000
set_option maxHeartbeats 4000000
set_option linter.unusedVariables false
set_option linter.unusedSimpArgs false
namespace Go.Proofs.YtgdfkbalnpfdgaaGreatDoor
open Go.RowKit Go.ChangeShapes Go.WideShapes Go.ChangeAt
section
variable {S:Nat→Prop} {w:World}
theorem cel2 {a:Addr} {c0 c1:Value} (h:Cel w a [c0,c1]):w.cell? a=some c0∧w.cell? ⟨a.block,a.off+1,none⟩=some c1 :=
 ⟨h 0 _ rfl,h 1 _ rfl⟩
theorem cel4 {a:Addr} {c0 c1 c2 c3:Value} (h:Cel w a [c0,c1,c2,c3]):w.cell? a=some c0∧w.cell? ⟨a.block,a.off+1,none⟩=some c1∧w.cell? ⟨a.block,a.off+2,none⟩=some c2∧w.cell? ⟨a.block,a.off+3,none⟩=some c3 :=
 ⟨h 0 _ rfl,h 1 _ rfl,h 2 _ rfl,h 3 _ rfl⟩
theorem cel6 {a:Addr} {c0 c1 c2 c3 c4 c5:Value} (h:Cel w a [c0,c1,c2,c3,c4,c5]):w.cell? a=some c0∧w.cell? ⟨a.block,a.off+1,none⟩=some c1∧w.cell? ⟨a.block,a.off+2,none⟩=some c2∧w.cell? ⟨a.block,a.off+3,none⟩=some c3∧w.cell? ⟨a.block,a.off+4,none⟩=some c4∧w.cell? ⟨a.block,a.off+5,none⟩=some c5 :=
 ⟨h 0 _ rfl,h 1 _ rfl,h 2 _ rfl,h 3 _ rfl,h 4 _ rfl,h 5 _ rfl⟩
theorem cel7 {a:Addr} {c0 c1 c2 c3 c4 c5 c6:Value} (h:Cel w a [c0,c1,c2,c3,c4,c5,c6]):w.cell? a=some c0∧w.cell? ⟨a.block,a.off+1,none⟩=some c1∧w.cell? ⟨a.block,a.off+2,none⟩=some c2∧w.cell? ⟨a.block,a.off+3,none⟩=some c3∧w.cell? ⟨a.block,a.off+4,none⟩=some c4∧w.cell? ⟨a.block,a.off+5,none⟩=some c5∧w.cell? ⟨a.block,a.off+6,none⟩=some c6 :=
 ⟨h 0 _ rfl,h 1 _ rfl,h 2 _ rfl,h 3 _ rfl,h 4 _ rfl,h 5 _ rfl,h 6 _ rfl⟩
theorem cel8 {a:Addr} {c0 c1 c2 c3 c4 c5 c6 c7:Value} (h:Cel w a [c0,c1,c2,c3,c4,c5,c6,c7]):w.cell? a=some c0∧w.cell? ⟨a.block,a.off+1,none⟩=some c1∧w.cell? ⟨a.block,a.off+2,none⟩=some c2∧w.cell? ⟨a.block,a.off+3,none⟩=some c3∧w.cell? ⟨a.block,a.off+4,none⟩=some c4∧w.cell? ⟨a.block,a.off+5,none⟩=some c5∧w.cell? ⟨a.block,a.off+6,none⟩=some c6∧w.cell? ⟨a.block,a.off+7,none⟩=some c7 :=
 ⟨h 0 _ rfl,h 1 _ rfl,h 2 _ rfl,h 3 _ rfl,h 4 _ rfl,h 5 _ rfl,h 6 _ rfl,h 7 _ rfl⟩
theorem cel10 {a:Addr} {c0 c1 c2 c3 c4 c5 c6 c7 c8 c9:Value} (h:Cel w a [c0,c1,c2,c3,c4,c5,c6,c7,c8,c9]):w.cell? a=some c0∧w.cell? ⟨a.block,a.off+1,none⟩=some c1∧w.cell? ⟨a.block,a.off+2,none⟩=some c2∧w.cell? ⟨a.block,a.off+3,none⟩=some c3∧w.cell? ⟨a.block,a.off+4,none⟩=some c4∧w.cell? ⟨a.block,a.off+5,none⟩=some c5∧w.cell? ⟨a.block,a.off+6,none⟩=some c6∧w.cell? ⟨a.block,a.off+7,none⟩=some c7∧w.cell? ⟨a.block,a.off+8,none⟩=some c8∧w.cell? ⟨a.block,a.off+9,none⟩=some c9 :=
 ⟨h 0 _ rfl,h 1 _ rfl,h 2 _ rfl,h 3 _ rfl,h 4 _ rfl,h 5 _ rfl,h 6 _ rfl,h 7 _ rfl,h 8 _ rfl,h 9 _ rfl⟩
theorem cel11 {a:Addr} {c0 c1 c2 c3 c4 c5 c6 c7 c8 c9 c10:Value} (h:Cel w a [c0,c1,c2,c3,c4,c5,c6,c7,c8,c9,c10]):w.cell? a=some c0∧w.cell? ⟨a.block,a.off+1,none⟩=some c1∧w.cell? ⟨a.block,a.off+2,none⟩=some c2∧w.cell? ⟨a.block,a.off+3,none⟩=some c3∧w.cell? ⟨a.block,a.off+4,none⟩=some c4∧w.cell? ⟨a.block,a.off+5,none⟩=some c5∧w.cell? ⟨a.block,a.off+6,none⟩=some c6∧w.cell? ⟨a.block,a.off+7,none⟩=some c7∧w.cell? ⟨a.block,a.off+8,none⟩=some c8∧w.cell? ⟨a.block,a.off+9,none⟩=some c9∧w.cell? ⟨a.block,a.off+10,none⟩=some c10 :=
 ⟨h 0 _ rfl,h 1 _ rfl,h 2 _ rfl,h 3 _ rfl,h 4 _ rfl,h 5 _ rfl,h 6 _ rfl,h 7 _ rfl,h 8 _ rfl,h 9 _ rfl,h 10 _ rfl⟩
theorem cel15 {a:Addr} {c0 c1 c2 c3 c4 c5 c6 c7 c8 c9 c10 c11 c12 c13 c14:Value} (h:Cel w a [c0,c1,c2,c3,c4,c5,c6,c7,c8,c9,c10,c11,c12,c13,c14]):w.cell? a=some c0∧w.cell? ⟨a.block,a.off+1,none⟩=some c1∧w.cell? ⟨a.block,a.off+2,none⟩=some c2∧w.cell? ⟨a.block,a.off+3,none⟩=some c3∧w.cell? ⟨a.block,a.off+4,none⟩=some c4∧w.cell? ⟨a.block,a.off+5,none⟩=some c5∧w.cell? ⟨a.block,a.off+6,none⟩=some c6∧w.cell? ⟨a.block,a.off+7,none⟩=some c7∧w.cell? ⟨a.block,a.off+8,none⟩=some c8∧w.cell? ⟨a.block,a.off+9,none⟩=some c9∧w.cell? ⟨a.block,a.off+10,none⟩=some c10∧w.cell? ⟨a.block,a.off+11,none⟩=some c11∧w.cell? ⟨a.block,a.off+12,none⟩=some c12∧w.cell? ⟨a.block,a.off+13,none⟩=some c13∧w.cell? ⟨a.block,a.off+14,none⟩=some c14 :=
 ⟨h 0 _ rfl,h 1 _ rfl,h 2 _ rfl,h 3 _ rfl,h 4 _ rfl,h 5 _ rfl,h 6 _ rfl,h 7 _ rfl,h 8 _ rfl,h 9 _ rfl,h 10 _ rfl,h 11 _ rfl,h 12 _ rfl,h 13 _ rfl,h 14 _ rfl⟩
theorem blk1 {q:Nat} {t:TypeId} {c0:Value} (h:Blk w q #[c0] t):w.cell? ⟨q,0,none⟩=some c0 :=
 h.cell 0 rfl
theorem blk2 {q:Nat} {t:TypeId} {c0 c1:Value} (h:Blk w q #[c0,c1] t):w.cell? ⟨q,0,none⟩=some c0∧w.cell? ⟨q,1,none⟩=some c1 :=
 ⟨h.cell 0 rfl,h.cell 1 rfl⟩
theorem blk3 {q:Nat} {t:TypeId} {c0 c1 c2:Value} (h:Blk w q #[c0,c1,c2] t):w.cell? ⟨q,0,none⟩=some c0∧w.cell? ⟨q,1,none⟩=some c1∧w.cell? ⟨q,2,none⟩=some c2 :=
 ⟨h.cell 0 rfl,h.cell 1 rfl,h.cell 2 rfl⟩
theorem blk4 {q:Nat} {t:TypeId} {c0 c1 c2 c3:Value} (h:Blk w q #[c0,c1,c2,c3] t):w.cell? ⟨q,0,none⟩=some c0∧w.cell? ⟨q,1,none⟩=some c1∧w.cell? ⟨q,2,none⟩=some c2∧w.cell? ⟨q,3,none⟩=some c3 :=
 ⟨h.cell 0 rfl,h.cell 1 rfl,h.cell 2 rfl,h.cell 3 rfl⟩
theorem blk6 {q:Nat} {t:TypeId} {c0 c1 c2 c3 c4 c5:Value} (h:Blk w q #[c0,c1,c2,c3,c4,c5] t):w.cell? ⟨q,0,none⟩=some c0∧w.cell? ⟨q,1,none⟩=some c1∧w.cell? ⟨q,2,none⟩=some c2∧w.cell? ⟨q,3,none⟩=some c3∧w.cell? ⟨q,4,none⟩=some c4∧w.cell? ⟨q,5,none⟩=some c5 :=
 ⟨h.cell 0 rfl,h.cell 1 rfl,h.cell 2 rfl,h.cell 3 rfl,h.cell 4 rfl,h.cell 5 rfl⟩
theorem blk7 {q:Nat} {t:TypeId} {c0 c1 c2 c3 c4 c5 c6:Value} (h:Blk w q #[c0,c1,c2,c3,c4,c5,c6] t):w.cell? ⟨q,0,none⟩=some c0∧w.cell? ⟨q,1,none⟩=some c1∧w.cell? ⟨q,2,none⟩=some c2∧w.cell? ⟨q,3,none⟩=some c3∧w.cell? ⟨q,4,none⟩=some c4∧w.cell? ⟨q,5,none⟩=some c5∧w.cell? ⟨q,6,none⟩=some c6 :=
 ⟨h.cell 0 rfl,h.cell 1 rfl,h.cell 2 rfl,h.cell 3 rfl,h.cell 4 rfl,h.cell 5 rfl,h.cell 6 rfl⟩
theorem blk8 {q:Nat} {t:TypeId} {c0 c1 c2 c3 c4 c5 c6 c7:Value} (h:Blk w q #[c0,c1,c2,c3,c4,c5,c6,c7] t):w.cell? ⟨q,0,none⟩=some c0∧w.cell? ⟨q,1,none⟩=some c1∧w.cell? ⟨q,2,none⟩=some c2∧w.cell? ⟨q,3,none⟩=some c3∧w.cell? ⟨q,4,none⟩=some c4∧w.cell? ⟨q,5,none⟩=some c5∧w.cell? ⟨q,6,none⟩=some c6∧w.cell? ⟨q,7,none⟩=some c7 :=
 ⟨h.cell 0 rfl,h.cell 1 rfl,h.cell 2 rfl,h.cell 3 rfl,h.cell 4 rfl,h.cell 5 rfl,h.cell 6 rfl,h.cell 7 rfl⟩
theorem blk10 {q:Nat} {t:TypeId} {c0 c1 c2 c3 c4 c5 c6 c7 c8 c9:Value} (h:Blk w q #[c0,c1,c2,c3,c4,c5,c6,c7,c8,c9] t):w.cell? ⟨q,0,none⟩=some c0∧w.cell? ⟨q,1,none⟩=some c1∧w.cell? ⟨q,2,none⟩=some c2∧w.cell? ⟨q,3,none⟩=some c3∧w.cell? ⟨q,4,none⟩=some c4∧w.cell? ⟨q,5,none⟩=some c5∧w.cell? ⟨q,6,none⟩=some c6∧w.cell? ⟨q,7,none⟩=some c7∧w.cell? ⟨q,8,none⟩=some c8∧w.cell? ⟨q,9,none⟩=some c9 :=
 ⟨h.cell 0 rfl,h.cell 1 rfl,h.cell 2 rfl,h.cell 3 rfl,h.cell 4 rfl,h.cell 5 rfl,h.cell 6 rfl,h.cell 7 rfl,h.cell 8 rfl,h.cell 9 rfl⟩
theorem blk11 {q:Nat} {t:TypeId} {c0 c1 c2 c3 c4 c5 c6 c7 c8 c9 c10:Value} (h:Blk w q #[c0,c1,c2,c3,c4,c5,c6,c7,c8,c9,c10] t):w.cell? ⟨q,0,none⟩=some c0∧w.cell? ⟨q,1,none⟩=some c1∧w.cell? ⟨q,2,none⟩=some c2∧w.cell? ⟨q,3,none⟩=some c3∧w.cell? ⟨q,4,none⟩=some c4∧w.cell? ⟨q,5,none⟩=some c5∧w.cell? ⟨q,6,none⟩=some c6∧w.cell? ⟨q,7,none⟩=some c7∧w.cell? ⟨q,8,none⟩=some c8∧w.cell? ⟨q,9,none⟩=some c9∧w.cell? ⟨q,10,none⟩=some c10 :=
 ⟨h.cell 0 rfl,h.cell 1 rfl,h.cell 2 rfl,h.cell 3 rfl,h.cell 4 rfl,h.cell 5 rfl,h.cell 6 rfl,h.cell 7 rfl,h.cell 8 rfl,h.cell 9 rfl,h.cell 10 rfl⟩
theorem blk15 {q:Nat} {t:TypeId} {c0 c1 c2 c3 c4 c5 c6 c7 c8 c9 c10 c11 c12 c13 c14:Value} (h:Blk w q #[c0,c1,c2,c3,c4,c5,c6,c7,c8,c9,c10,c11,c12,c13,c14] t):w.cell? ⟨q,0,none⟩=some c0∧w.cell? ⟨q,1,none⟩=some c1∧w.cell? ⟨q,2,none⟩=some c2∧w.cell? ⟨q,3,none⟩=some c3∧w.cell? ⟨q,4,none⟩=some c4∧w.cell? ⟨q,5,none⟩=some c5∧w.cell? ⟨q,6,none⟩=some c6∧w.cell? ⟨q,7,none⟩=some c7∧w.cell? ⟨q,8,none⟩=some c8∧w.cell? ⟨q,9,none⟩=some c9∧w.cell? ⟨q,10,none⟩=some c10∧w.cell? ⟨q,11,none⟩=some c11∧w.cell? ⟨q,12,none⟩=some c12∧w.cell? ⟨q,13,none⟩=some c13∧w.cell? ⟨q,14,none⟩=some c14 :=
 ⟨h.cell 0 rfl,h.cell 1 rfl,h.cell 2 rfl,h.cell 3 rfl,h.cell 4 rfl,h.cell 5 rfl,h.cell 6 rfl,h.cell 7 rfl,h.cell 8 rfl,h.cell 9 rfl,h.cell 10 rfl,h.cell 11 rfl,h.cell 12 rfl,h.cell 13 rfl,h.cell 14 rfl⟩
theorem at_nil {cs:List Value}:Trs.at S w [] cs↔cs=[]:=by simp only[Trs.at]
theorem at_leaf {u:Value} {ts:List Tr} {cs:List Value}:Trs.at S w (.leaf u::ts) cs↔∃ cs',cs=u::cs'∧okLeaf u∧Trs.at S w ts cs':=by
 simp only[Trs.at,Tr.at]
 constructor
 ·rintro⟨v,vs,rfl,⟨rfl,h1⟩,h2⟩;exact⟨vs,rfl,h1,h2⟩
 ·rintro⟨vs,rfl,h1,h2⟩;exact⟨u,vs,rfl,⟨rfl,h1⟩,h2⟩
theorem at_row {α:Type} {tr:α→List Tr} {sz b:Nat} {l:List α} {ts:List Tr} {cs:List Value}:Trs.at S w (.sl sz b l.length (l.flatMap tr)::ts) cs↔∃ A c cs',cs=.slice A l.length c::cs'∧Ls S w sz b tr A c l∧Trs.at S w ts cs':=by
 simp only[Trs.at]
 constructor
 ·rintro⟨v,vs,rfl,h1,h2⟩
  obtain⟨A,c,rfl,h3⟩:=at_sl.1 h1
  exact⟨A,c,vs,rfl,h3,h2⟩
 ·rintro⟨A,c,vs,rfl,h1,h2⟩;exact⟨_,vs,rfl,at_sl.2 ⟨A,c,rfl,h1⟩,h2⟩
theorem at_str {l:List ByteArray} {ts:List Tr} {cs:List Value}:Trs.at S w (sTr l::ts) cs↔∃ A c cs',cs=.slice A l.length c::cs'∧Ss S w A c l∧Trs.at S w ts cs':=at_row
theorem wf_i8 {x:Int} (h:(Lit.int .i8 x).wf=true):-128≤x∧x≤127:=by
 simp[Lit.wf,IntKind.min,IntKind.max,IntKind.bits,IntKind.signed] at h;omega
theorem Vl.at_iff {v:Vl} {cs:List Value}:Trs.at S w v.tr cs↔∃ A c B d,cs=[.int .i8 v.kind,.bool v.bool,.int .i64 v.num,.string v.text,.slice A v.list.length c,.slice B v.keys.length d] ∧
 (Lit.int .i8 v.kind).wf=true∧(Lit.int .i64 v.num).wf=true∧v.text.size≤140737488351232∧Ls S w 6 80 Vl.tr A c v.list∧Ss S w B d v.keys:=by
 obtain⟨k,b,n,t,l,ks⟩:=v
 simp only[Vl.tr,Vl.trs_eq]
 constructor
 ·intro h
  obtain⟨_,rfl,h0,h⟩:=at_leaf.1 h
  obtain⟨_,rfl,_,h⟩:=at_leaf.1 h
  obtain⟨_,rfl,h2,h⟩:=at_leaf.1 h
  obtain⟨_,rfl,h3,h⟩:=at_leaf.1 h
  obtain⟨A,c,_,rfl,h4,h⟩:=at_row.1 h
  obtain⟨B,d,_,rfl,h5,h⟩:=at_str.1 h
  obtain rfl:=at_nil.1 h
  exact⟨A,c,B,d,rfl,h0,h2,h3,h4,h5⟩
 ·rintro⟨A,c,B,d,rfl,h0,h2,h3,h4,h5⟩
  exact at_leaf.2 ⟨_,rfl,h0,at_leaf.2 ⟨_,rfl,trivial,at_leaf.2 ⟨_,rfl,h2,at_leaf.2 ⟨_,rfl,h3,at_row.2 ⟨_,_,_,rfl,h4,at_str.2 ⟨_,_,_,rfl,h5,at_nil.2 rfl⟩⟩⟩⟩⟩⟩
theorem Ex.at_iff {v:Ex} {cs:List Value}:Trs.at S w v.tr cs↔∃ A c,cs=[.int .i8 v.kind,.string v.text,.int .i64 v.num,.string v.name,.string v.attr,.slice A v.l.length c] ∧
 (Lit.int .i8 v.kind).wf=true∧(Lit.int .i64 v.num).wf=true∧v.text.size≤140737488351232∧v.name.size≤140737488351232∧v.attr.size≤140737488351232∧Ls S w 6 88 Ex.tr A c v.l:=by
 obtain⟨k,t,n,nm,a,l⟩:=v
 simp only[Ex.tr,Ex.trs_eq]
 constructor
 ·intro h
  obtain⟨_,rfl,h0,h⟩:=at_leaf.1 h
  obtain⟨_,rfl,h1,h⟩:=at_leaf.1 h
  obtain⟨_,rfl,h2,h⟩:=at_leaf.1 h
  obtain⟨_,rfl,h3,h⟩:=at_leaf.1 h
  obtain⟨_,rfl,h4,h⟩:=at_leaf.1 h
  obtain⟨A,c,_,rfl,h5,h⟩:=at_row.1 h
  obtain rfl:=at_nil.1 h
  exact⟨A,c,rfl,h0,h2,h1,h3,h4,h5⟩
 ·rintro⟨A,c,rfl,h0,h2,h1,h3,h4,h5⟩
  exact at_leaf.2 ⟨_,rfl,h0,at_leaf.2 ⟨_,rfl,h1,at_leaf.2 ⟨_,rfl,h2,at_leaf.2 ⟨_,rfl,h3,at_leaf.2 ⟨_,rfl,h4,at_row.2 ⟨_,_,_,rfl,h5,at_nil.2 rfl⟩⟩⟩⟩⟩⟩
theorem Cd.at_iff {v:Cd} {cs:List Value}:Trs.at S w v.tr cs↔∃ xs ys A c,cs=.string v.name::.int .i8 v.kind::(xs++(ys++[.slice A v.l.length c])) ∧
 v.name.size≤140737488351232∧(Lit.int .i8 v.kind).wf=true∧Trs.at S w v.a.tr xs∧Trs.at S w v.b.tr ys∧Ls S w 15 224 Cd.tr A c v.l:=by
 obtain⟨n,k,a,b,l⟩:=v
 simp only[Cd.tr,Cd.trs_eq]
 constructor
 ·intro h
  obtain⟨_,rfl,h0,h⟩:=at_leaf.1 h
  obtain⟨_,rfl,h1,h⟩:=at_leaf.1 h
  obtain⟨xs,_,rfl,h2,h⟩:=Trs.at.app.1 h
  obtain⟨ys,_,rfl,h3,h⟩:=Trs.at.app.1 h
  obtain⟨A,c,_,rfl,h4,h⟩:=at_row.1 h
  obtain rfl:=at_nil.1 h
  exact⟨xs,ys,A,c,rfl,h0,h1,h2,h3,h4⟩
 ·rintro⟨xs,ys,A,c,rfl,h0,h1,h2,h3,h4⟩
  exact at_leaf.2 ⟨_,rfl,h0,at_leaf.2 ⟨_,rfl,h1,Trs.at.app.2 ⟨_,_,rfl,h2,Trs.at.app.2 ⟨_,_,rfl,h3,at_row.2 ⟨_,_,_,rfl,h4,at_nil.2 rfl⟩⟩⟩⟩⟩
theorem Gv.at_iff {v:Gv} {cs:List Value}:Trs.at S w v.tr cs↔∃ vs,cs=.string v.name::.bool v.unknown::vs∧v.name.size≤140737488351232∧Trs.at S w v.v.tr vs:=by
 unfold Gv.tr
 constructor
 ·intro h
  obtain⟨_,rfl,h0,h⟩:=at_leaf.1 h
  obtain⟨_,rfl,_,h⟩:=at_leaf.1 h
  exact⟨_,rfl,h0,h⟩
 ·rintro⟨vs,rfl,h0,h⟩
  exact at_leaf.2 ⟨_,rfl,h0,at_leaf.2 ⟨_,rfl,trivial,h⟩⟩
theorem Pm.at_iff {v:Pm} {cs:List Value}:Trs.at S w v.tr cs↔∃ vs A c,cs=.string v.name::.bool v.number::.bool v.has::(vs++[.slice A v.allowed.length c])∧v.name.size≤140737488351232∧Trs.at S w v.dflt.tr vs∧Ls S w 6 80 Vl.tr A c v.allowed:=by
 unfold Pm.tr
 constructor
 ·intro h
  obtain⟨_,rfl,h0,h⟩:=at_leaf.1 h
  obtain⟨_,rfl,_,h⟩:=at_leaf.1 h
  obtain⟨_,rfl,_,h⟩:=at_leaf.1 h
  obtain⟨vs,_,rfl,h1,h⟩:=Trs.at.app.1 h
  obtain⟨A,c,_,rfl,h2,h⟩:=at_row.1 h
  obtain rfl:=at_nil.1 h
  exact⟨_,_,_,rfl,h0,h1,h2⟩
 ·rintro⟨vs,A,c,rfl,h0,h1,h2⟩
  exact at_leaf.2 ⟨_,rfl,h0,at_leaf.2 ⟨_,rfl,trivial,at_leaf.2 ⟨_,rfl,trivial,Trs.at.app.2 ⟨_,_,rfl,h1,at_row.2 ⟨_,_,_,rfl,h2,at_nil.2 rfl⟩⟩⟩⟩⟩
theorem Pr.at_iff {v:Pr} {cs:List Value}:Trs.at S w v.tr cs↔∃ vs,cs=.string v.name::vs∧v.name.size≤140737488351232∧Trs.at S w v.e.tr vs:=by
 unfold Pr.tr
 constructor
 ·intro h
  obtain⟨_,rfl,h0,h⟩:=at_leaf.1 h
  exact⟨_,rfl,h0,h⟩
 ·rintro⟨vs,rfl,h0,h⟩
  exact at_leaf.2 ⟨_,rfl,h0,h⟩
theorem Ou.at_iff {v:Ou} {cs:List Value}:Trs.at S w v.tr cs↔∃ vs,cs=.string v.name::.string v.cond::vs∧v.name.size≤140737488351232∧v.cond.size≤140737488351232∧Trs.at S w v.e.tr vs:=by
 unfold Ou.tr
 constructor
 ·intro h
  obtain⟨_,rfl,h0,h⟩:=at_leaf.1 h
  obtain⟨_,rfl,h1,h⟩:=at_leaf.1 h
  exact⟨_,rfl,h0,h1,h⟩
 ·rintro⟨vs,rfl,h0,h1,h⟩
  exact at_leaf.2 ⟨_,rfl,h0,at_leaf.2 ⟨_,rfl,h1,h⟩⟩
theorem Rs.at_iff {v:Rs} {cs:List Value}:Trs.at S w v.tr cs↔∃ A a B b C c,cs=[.string v.id,.string v.type,.string v.cond,.slice A v.props.length a,.slice B v.depends.length b,.bool v.retain,.slice C v.inner.length c] ∧
 v.id.size≤140737488351232∧v.type.size≤140737488351232∧v.cond.size≤140737488351232∧Ls S w 7 104 Pr.tr A a v.props∧Ss S w B b v.depends∧Ls S w 4 96 Tm.tr C c v.inner:=by
 obtain⟨i,t,c,ps,ds,r,l⟩:=v
 simp only[Rs.tr,Tm.trs_eq]
 constructor
 ·intro h
  obtain⟨_,rfl,h0,h⟩:=at_leaf.1 h
  obtain⟨_,rfl,h1,h⟩:=at_leaf.1 h
  obtain⟨_,rfl,h2,h⟩:=at_leaf.1 h
  obtain⟨A,a,_,rfl,h3,h⟩:=at_row.1 h
  obtain⟨B,b,_,rfl,h4,h⟩:=at_str.1 h
  obtain⟨_,rfl,_,h⟩:=at_leaf.1 h
  obtain⟨C,c',_,rfl,h5,h⟩:=at_row.1 h
  obtain rfl:=at_nil.1 h
  exact⟨A,a,B,b,C,c',rfl,h0,h1,h2,h3,h4,h5⟩
 ·rintro⟨A,a,B,b,C,c',rfl,h0,h1,h2,h3,h4,h5⟩
  exact at_leaf.2 ⟨_,rfl,h0,at_leaf.2 ⟨_,rfl,h1,at_leaf.2 ⟨_,rfl,h2,at_row.2 ⟨_,_,_,rfl,h3,at_str.2 ⟨_,_,_,rfl,h4,at_leaf.2 ⟨_,rfl,trivial,at_row.2 ⟨_,_,_,rfl,h5,at_nil.2 rfl⟩⟩⟩⟩⟩⟩⟩
theorem Tm.at_iff {v:Tm} {cs:List Value}:Trs.at S w v.tr cs↔∃ A a B b C c D d,cs=[.slice A v.params.length a,.slice B v.conds.length b,.slice C v.res.length c,.slice D v.outs.length d] ∧
 Ls S w 10 128 Pm.tr A a v.params∧Ls S w 15 224 Cd.tr B b v.conds∧Ls S w 7 128 Rs.tr C c v.res∧Ls S w 8 120 Ou.tr D d v.outs:=by
 obtain⟨ps,cs',rs,os⟩:=v
 simp only[Tm.tr,Rs.trs_eq]
 constructor
 ·intro h
  obtain⟨A,a,_,rfl,h0,h⟩:=at_row.1 h
  obtain⟨B,b,_,rfl,h1,h⟩:=at_row.1 h
  obtain⟨C,c,_,rfl,h2,h⟩:=at_row.1 h
  obtain⟨D,d,_,rfl,h3,h⟩:=at_row.1 h
  obtain rfl:=at_nil.1 h
  exact⟨A,a,B,b,C,c,D,d,rfl,h0,h1,h2,h3⟩
 ·rintro⟨A,a,B,b,C,c,D,d,rfl,h0,h1,h2,h3⟩
  exact at_row.2 ⟨_,_,_,rfl,h0,at_row.2 ⟨_,_,_,rfl,h1,at_row.2 ⟨_,_,_,rfl,h2,at_row.2 ⟨_,_,_,rfl,h3,at_nil.2 rfl⟩⟩⟩⟩
end
section
variable {H:Type} {enc:TypeId × Value→H} {w:World} {base:Nat} {held:Bool}
theorem closed_tmpl:closedB Tryz.prog [27,22,138,102,104,63,9,4,45,3,23,141,46,48,24,66,62,96,64,25,118]=true:=by kernel_rfl
theorem open_tmpl {r:Reach} {b0:Nat} {v:Value} {d:DataW H} {p:List MemPlace} (hv:Value.okWide Tryz.prog w r b0 27 v) (h:DataW.Trod enc Tryz.prog w base (fun _=>true) held 27 v d p) (hw:∀ z∈d.weights Tryz.prog 27,z≤reachBytes) :
 ∃ cs:Array Value,v=.agg cs∧∃ t:Tm,Trs.at (fun k=>k<w.heap.size) w t.tr cs.toList:=by
 obtain⟨cs,rfl,hsz⟩:=okWide_struct Tryz.underlying27 hv
 obtain⟨fuel,hf⟩:=h
 obtain⟨ts,h1,h2⟩:=trod_fits closed_tmpl (fun _ h=>h) fuel _ _ _ rfl hf hw
 obtain⟨t,rfl⟩:=fits_template _ _ h1
 exact⟨cs,rfl,t,by simpa [Value.cells] using h2⟩
end
end Go.Proofs.YtgdfkbalnpfdgaaGreatDoor
namespace Go.Proofs.YtgdfkbalnpfdgaaGreatDoor
def efold {α:Type} (f:α→Nat):Nat→List α→Nat
 | n,[]=>n
 | n,x::r=>if n≤10000 then efold f (n+f x) r else n
section
variable {α:Type} {f:α→Nat}
theorem efold_nil (n:Nat):efold f n []=n:=rfl
theorem efold_stop {n:Nat} {l:List α} (h:10000<n):efold f n l=n:=by
 cases l with
 | nil=>rfl
 | cons x r=>simp only[efold];rw[if_neg (by omega)]
theorem efold_go {n:Nat} {x:α} {l:List α} (h:n≤10000):efold f n (x::l)=efold f (n+f x) l:=by simp only[efold];rw[if_pos h]
theorem efold_le {B:Nat}:∀ (l:List α) (n M:Nat),(∀ x∈l,f x≤B)→n≤M→10000+B≤M→efold f n l≤M
 | [],n,M,_,h,_=>h
 | x::l,n,M,hf,h,hM=>by
   simp only[efold]
   split
   ·have:=hf x (by simp)
    exact efold_le l _ M (fun y hy=>hf y (by simp[hy])) (by omega) hM
   ·exact h
theorem efold_ge:∀ (l:List α) (n:Nat),n≤efold f n l
 | [],n=>Nat.le_refl _
 | x::l,n=>by
   simp only[efold]
   split
   ·have:=efold_ge l (n+f x);omega
   ·exact Nat.le_refl _
theorem efold_sum:∀ (l:List α) (n:Nat),efold f n l≤10000→efold f n l=n+(l.map f).sum
 | [],n,_=>by simp[efold]
 | x::l,n,h=>by
   simp only[efold] at h ⊢
   split at h
   ·next h1 =>
    rw[if_pos h1,efold_sum l _ h]
    simp;omega
   ·omega
end
def vW:Nat→Vl→Nat
 | 0,_=>10000
 | k+1,v=>if 3000<v.list.length∨3000<v.keys.length then 10000 else efold (vW k) (1+min v.text.size 10000+(v.keys.map fun s=>min s.size 10000).sum) v.list
theorem sum_min_le {α:Type} (f:α→Nat) (B:Nat):∀ l:List α,((l.map fun s=>min (f s) B).sum)≤l.length*B
 | []=>by simp
 | x::l=>by
   have:=sum_min_le f B l
   simp only[List.map_cons,List.sum_cons,List.length_cons,Nat.succ_mul]
   have:=Nat.min_le_right (f x) B
   omega
theorem vW_le:∀ (k:Nat) (v:Vl),vW k v≤30010001+10000*k
 | 0,v=>by simp[vW]
 | k+1,v=>by
   simp only[vW]
   split
   ·omega
   ·next h =>
    have h1:=sum_min_le (fun s:ByteArray=>s.size) 10000 v.keys
    have h2:v.keys.length*10000≤30000000:=by omega
    refine efold_le (B:=30010001+10000*k) _ _ _ (fun x _=>vW_le k x) ?_ (by omega)
    have:=Nat.min_le_right v.text.size 10000
    omega
def vGreat (v:Vl):Bool:=decide (5000<vW 30 v)
def xW:Nat→Ex→Nat
 | 0,_=>10000
 | k+1,x=>if 500<x.l.length then 10000 else efold (xW k) (1+min (x.text.size+x.name.size+x.attr.size) 10000) x.l
theorem xW_le:∀ (k:Nat) (x:Ex),xW k x≤10001+10000*k
 | 0,v=>by simp[xW]
 | k+1,v=>by
   simp only[xW]
   split
   ·omega
   ·next h =>
    refine efold_le (B:=10001+10000*k) _ _ _ (fun x _=>xW_le k x) ?_ (by omega)
    have:=Nat.min_le_right (v.text.size+v.name.size+v.attr.size) 10000
    omega
def xGreat (x:Ex):Bool:=decide (3000<xW 30 x)
mutual
def Ex.parts:Ex→Nat
 | ⟨_,t,_,n,_,l⟩=>1+t.size+n.size+Ex.partsL l
def Ex.partsL:List Ex→Nat
 | []=>0
 | x::r=>x.parts+Ex.partsL r
end
theorem Ex.parts_eq (x:Ex):x.parts=1+x.text.size+x.name.size+Ex.partsL x.l:=by cases x;rfl
theorem Ex.partsL_eq:∀ l,Ex.partsL l=(l.map Ex.parts).sum
 | []=>rfl
 | x::r=>by rw[Ex.partsL,Ex.partsL_eq r];rfl
theorem parts_le:∀ (k:Nat) (x:Ex),xW k x≤9999→x.parts≤xW k x∧x.l.length≤500∧x.text.size+x.name.size≤9999
 | 0,x,h=>by simp[xW] at h
 | k+1,x,h=>by
   simp only[xW] at h ⊢
   split at h
   ·omega
   ·next hl =>
    rw[if_neg hl]
    have h1:=efold_ge (f:=xW k) x.l (1+min (x.text.size+x.name.size+x.attr.size) 10000)
    have h2:=efold_sum (f:=xW k) x.l (1+min (x.text.size+x.name.size+x.attr.size) 10000) (by omega)
    rw[h2] at h ⊢
    have h3:(x.l.map Ex.parts).sum≤(x.l.map (xW k)).sum:=by
     have:∀ l:List Ex,(l.map (xW k)).sum≤9999→(l.map Ex.parts).sum≤(l.map (xW k)).sum:=by
      intro l
      induction l with
      | nil=>intro _;simp
      | cons y l ih =>
        intro hs
        simp only[List.map_cons,List.sum_cons] at hs ⊢
        have:=parts_le k y (by omega)
        have:=ih (by omega)
        omega
     exact this _ (by omega)
    rw[Ex.parts_eq,Ex.partsL_eq]
    have h4:=@Nat.min_def (x.text.size+x.name.size+x.attr.size) 10000
    split at h4<;>exact⟨by omega,by omega,by omega⟩
def eW (x:Ex):Nat:=if 50<x.l.length then 10000 else 1+min (x.text.size+x.name.size+x.attr.size) 10000+(x.l.map fun y=>1+y.l.length*10000).sum
def cW:Nat→Cd→Nat
 | 0,_=>10000
 | k+1,c=>if 200<c.l.length then 10000 else efold (cW k) (1+min c.name.size 10000+eW c.a+eW c.b) c.l
def csGo:Nat→List Cd→Bool
 | n,[]=>false
 | n,c::r=>if 5000<n+cW 20 c then true else csGo (n+cW 20 c) r
def csGreat (l:List Cd):Bool:=decide (40<l.length)||csGo 0 l
def gsGreat (l:List Gv):Bool:=decide (60<l.length)||l.any fun g=>decide (200<g.name.size)||vGreat g.v
def pmGreat (p:Pm):Bool:=vGreat p.dflt||decide (40<p.allowed.length)||decide (400<p.name.size)||p.allowed.any vGreat
def pmsGreat (l:List Pm):Bool:=decide (40<l.length)||l.any pmGreat
def prGo:Nat→List Pr→Option Nat
 | n,[]=>some n
 | n,p::r=>if xGreat p.e then none else prGo (n+(min p.name.size 10000+p.e.parts)) r
def ouGo:Nat→List Ou→Nat
 | n,[]=>n
 | n,o::r=>if xGreat o.e then 10000 else ouGo (n+(min (o.name.size+o.cond.size) 10000+o.e.parts)) r
def rsGo (f:Tm→Nat) (os:List Ou):Nat→List Rs→Nat
 | n,[]=>ouGo n os
 | n,r::rs =>
   if 60<r.props.length∨60<r.depends.length∨3<r.inner.length then 10000 else
   match prGo (n+(1+min (r.id.size+r.type.size+r.cond.size) 10000)) r.props with
   | none=>10000
   | some m =>
     if 10000<efold f (m+(r.depends.map fun s=>min s.size 10000).sum) r.inner then efold f (m+(r.depends.map fun s=>min s.size 10000).sum) r.inner
     else rsGo f os (efold f (m+(r.depends.map fun s=>min s.size 10000).sum) r.inner) rs
def tW:Nat→Tm→Nat
 | 0,_=>10000
 | k+1,t=>if 60<t.params.length∨40<t.conds.length∨60<t.res.length∨60<t.outs.length∨pmsGreat t.params=true∨csGreat t.conds=true then 10000
   else rsGo (tW k) t.outs (1+t.params.length) t.res
def tGreat (t:Tm) (l:List Gv):Bool:=decide (3000<tW 8 t)||gsGreat l
def Tm.ok:Nat→Tm→Prop
 | 0,_=>False
 | k+1,t=>t.res.length≤60∧∀ r∈t.res,r.props.length≤60∧r.depends.length≤60∧r.inner.length≤3∧r.id.size+r.type.size+r.cond.size≤3000∧(∀ d∈r.depends,d.size≤3000)∧∀ t'∈r.inner,Tm.ok k t'
theorem prGo_ge:∀ (l:List Pr) (n m:Nat),prGo n l=some m→n≤m
 | [],n,m,h=>by simp[prGo] at h;omega
 | p::r,n,m,h=>by
   simp only[prGo] at h
   split at h
   ·cases h
   ·have:=prGo_ge r _ m h;omega
theorem sum_mem_le {α:Type} {f:α→Nat}:∀ {l:List α} {x:α},x∈l→f x≤(l.map f).sum
 | y::l,x,h=>by
   simp only[List.map_cons,List.sum_cons]
   rcases List.mem_cons.1 h with rfl | h
   ·omega
   ·have:=sum_mem_le (f:=f) h;omega
theorem rsGo_ge (f:Tm→Nat) (os:List Ou):∀ (l:List Rs) (n:Nat),rsGo f os n l≤3000→n≤3000
 | [],n,h=>by
   simp only[rsGo] at h
   have:∀ (os:List Ou) (n:Nat),ouGo n os≤3000→n≤3000:=by
    intro os
    induction os with
    | nil=>intro n h;exact h
    | cons o r ih =>
      intro n h
      simp only[ouGo] at h
      split at h
      ·omega
      ·have:=ih _ h;omega
   exact this os n h
 | r::rs,n,h=>by
   simp only[rsGo] at h
   split at h
   ·omega
   ·split at h
    ·omega
    ·next m hm =>
     have h1:=prGo_ge _ _ _ hm
     split at h
     ·omega
     ·have h2:=rsGo_ge f os rs _ h
      have h3:=efold_ge (f:=f) r.inner (m+(r.depends.map fun s=>min s.size 10000).sum)
      omega
theorem tW_ok:∀ (k:Nat) (t:Tm),tW k t≤3000→t.ok k
 | 0,t,h=>by simp[tW] at h
 | k+1,t,h=>by
   simp only[tW] at h
   split at h
   ·omega
   ·next hg =>
    refine⟨by omega,?_⟩
    have key:∀ (l:List Rs) (n:Nat),rsGo (tW k) t.outs n l≤3000→∀ r∈l,r.props.length≤60∧r.depends.length≤60∧r.inner.length≤3∧r.id.size+r.type.size+r.cond.size≤3000∧(∀ d∈r.depends,d.size≤3000)∧∀ t'∈r.inner,Tm.ok k t':=by
     intro l
     induction l with
     | nil=>intro n _ r hr;cases hr
     | cons r rs ih =>
       intro n h r' hr'
       simp only[rsGo] at h
       split at h
       ·omega
       ·next hl =>
        split at h
        ·omega
        ·next m hm =>
         have h1:=prGo_ge _ _ _ hm
         split at h
         ·omega
         ·have h2:=rsGo_ge (tW k) t.outs rs _ h
          rcases List.mem_cons.1 hr' with rfl | hr'
          ·have h3:=efold_ge (f:=tW k) r'.inner (m+(r'.depends.map fun s=>min s.size 10000).sum)
           have h4:=efold_sum (f:=tW k) r'.inner (m+(r'.depends.map fun s=>min s.size 10000).sum) (by omega)
           have h5:=@Nat.min_def (r'.id.size+r'.type.size+r'.cond.size) 10000
           refine⟨by omega,by omega,by omega,by split at h5<;>omega,fun d hd=>?_,fun t' ht'=>?_⟩
           ·have h6:=sum_mem_le (f:=fun s:ByteArray=>min s.size 10000) hd
            have h7:=@Nat.min_def d.size 10000
            split at h7<;>omega
           ·have h6:=sum_mem_le (f:=tW k) ht'
            exact tW_ok k t' (by omega)
          ·exact ih _ h r' hr'
    exact key _ _ h
end Go.Proofs.YtgdfkbalnpfdgaaGreatDoor
namespace Go.Proofs.YtgdfkbalnpfdgaaGreatDoor
open Go.RowKit
def NatOut (n:Nat) (w:World) (e:Ending) (w':World):Prop:=e=.returned (.int .i64 (n:Nat))∧Below w.heap.size w w'
def BoolOut (b:Bool) (w:World) (e:Ending) (w':World):Prop:=e=.returned (.bool b)∧Below w.heap.size w w'
def mins (l:List ByteArray):Nat:=(l.map fun s=>min s.size 10000).sum
theorem mins_drop {l:List ByteArray} {i:Nat} {s:ByteArray} (h:l[i]?=some s):mins (l.drop i)=min s.size 10000+mins (l.drop (i+1)):=by
 have hi:=(List.getElem?_eq_some_iff.1 h).1
 rw[List.drop_eq_getElem_cons hi,(List.getElem?_eq_some_iff.1 h).2]
 simp[mins]
theorem mins_le (l:List ByteArray):mins l≤l.length*10000:=sum_min_le _ _ _
theorem drop_cons {α:Type} {l:List α} {i:Nat} {x:α} (h:l[i]?=some x):l.drop i=x::l.drop (i+1):=by
 have hi:=(List.getElem?_eq_some_iff.1 h).1
 rw[List.drop_eq_getElem_cons hi,(List.getElem?_eq_some_iff.1 h).2]
theorem get_lt {α:Type} {l:List α} {i:Nat} (h:i<l.length):∃ x,l[i]?=some x:=⟨_,List.getElem?_eq_getElem h⟩
theorem run_min {P:Program} {w:World} {ts:Array TypeId} {t:TypeId} {a b:Int} {n:Int} (h:min a b=n):(Builtin.min_ ts t #[.int .i64 a,.int .i64 b]).run P w=.ok (.int .i64 n) w:=by
 subst h
 simp only[Builtin.min_,List.foldlM,Builtin.min2]
 by_cases hab:a≤b
 ·simp[Builtin.min2];split<;>omega
 ·simp[Builtin.min2];split<;>omega
theorem vweight_any (S:Nat→Prop):∀ (k:Nat) (v:Vl) (cs:List Value) (w:World),k≤40→Trs.at S w v.tr cs →
 Calls Tryz.prog 57 #[.agg cs.toArray,.int .i64 (k:Nat)] w (NatOut (vW k v) w)
 | 0,v,cs,w,hk,hv=>by
   obtain⟨A,c,B,d,rfl,_⟩:=Vl.at_iff.1 hv
   clear hv
   go_enter Tryz.func57,Tryz.ntmps57
   go_wp2_with fail
   go_ret
   exact⟨rfl,(Below.refl _ w).alloc (Nat.le_refl _) _⟩
 | k+1,v,cs,w,hk,hv=>by
   obtain⟨A,c,B,d,rfl,-,-,ht,hl,hks⟩:=Vl.at_iff.1 hv
   clear hv
   have hlb:=hl.bytes
   have hkb:=hks.bytes
   have hlc:=hl.cap
   have hkc:=hks.cap
   have HL:=Hd hl
   have HK:=Hd hks
   clear hl hks
   have hk0:((k:Int)+1==0)=false:=by simp;omega
   have hk9:IntKind.i64.wrap ((k:Int)+1-1)=(k:Int):=by rw[IntWalk.i64_in _ (by omega)];omega
   have hbw:=vW_le (k+1) v
   by_cases h1:3000<v.list.length
   ·have HV:Hid (vW (k+1) v=10000):=Hd (by simp only[vW];rw[if_pos (.inl h1)])
    go_enter Tryz.func57,Tryz.ntmps57
    go_wp2_with fail
    all_goals
     go_ret
     exact⟨by rw[HV.out];rfl,(Below.refl _ w).alloc (Nat.le_refl _) _⟩
   by_cases h2:3000<v.keys.length
   ·have HV:Hid (vW (k+1) v=10000):=Hd (by simp only[vW];rw[if_pos (.inr h2)])
    go_enter Tryz.func57,Tryz.ntmps57
    go_wp2_with fail
    all_goals
     go_ret
     exact⟨by rw[HV.out];rfl,(Below.refl _ w).alloc (Nat.le_refl _) _⟩
   have HV:Hid (vW (k+1) v=efold (vW k) (1+min v.text.size 10000+mins v.keys) v.list):=Hd (by simp only[vW];rw[if_neg (by omega)];rfl)
   have hmk:=mins_le v.keys
   have hmt:1+min v.text.size 10000+mins v.keys≤30010001:=by omega
   have HW:Hid (∀ x,vW k x≤30010001+10000*k):=Hd (vW_le k)
   have HB0:Hid (Blk (w.alloc (.cells #[.int .i8 v.kind,.bool v.bool,.int .i64 v.num,.string v.text,.slice A v.list.length c,.slice B v.keys.length d] 104)) w.heap.size #[.int .i8 v.kind,.bool v.bool,.int .i64 v.num,.string v.text,.slice A v.list.length c,.slice B v.keys.length d] 104):=Hd (Blk.new w _ _)
   have HW0:Hid (Below w.heap.size w (w.alloc (.cells #[.int .i8 v.kind,.bool v.bool,.int .i64 v.num,.string v.text,.slice A v.list.length c,.slice B v.keys.length d] 104))):=Hd ((Below.refl _ w).alloc (Nat.le_refl _) _)
   obtain⟨t0,ht0⟩:∃ t0,t0=min v.text.size 10000:=⟨_,rfl⟩
   rw[←ht0] at hmt HV
   have hmin:min ((v.text.size:Nat):Int) 10000=(t0:Int):=by omega
   have ht1:t0≤10000:=by omega
   go_enter Tryz.func57,Tryz.ntmps57
   have hmn:∀ w',(Builtin.min_ #[3,3] 3 #[.int .i64 (v.text.size:Nat),.int .i64 10000]).run Tryz.prog w'=.ok (.int .i64 (t0:Nat)) w':=fun w'=>run_min hmin
   clear ht0
   go_wp2_with fail
   clear hmin hmn ht1
   go_loopg [5,6] v.keys.length (fun g n i wr=>∃ j m:Nat,j+g=v.keys.length∧i=.int .i64 (j:Nat)∧n=.int .i64 (m:Nat)∧m≤30010001∧Hid (m+mins (v.keys.drop j)=1+t0+mins v.keys)∧Hid (Blk wr w.heap.size #[.int .i8 v.kind,.bool v.bool,.int .i64 v.num,.string v.text,.slice A v.list.length c,.slice B v.keys.length d] 104)∧Hid (Below w.heap.size w wr))
   case atStart=>exact⟨0,1+t0,by omega,rfl,by go_num,by omega,Hd (by simp),HB0,HW0⟩
   obtain⟨j,m,hj,rfl,rfl,hm,HM,HB,HW1⟩:=hrel
   have b4:wr.cell? ⟨w.heap.size,4,none⟩=some (.slice A v.list.length c):=HB.out.cell 4 rfl
   have b5:wr.cell? ⟨w.heap.size,5,none⟩=some (.slice B v.keys.length d):=HB.out.cell 5 rfl
   cases gk with
   | zero =>
     have hjj:¬((j:Int)<(v.keys.length:Int)):=by omega
     have HV2:Hid (vW (k+1) v=efold (vW k) m v.list):=Hd (by
      rw[HV.out]
      have:=HM.out
      rw[List.drop_of_length_le (by omega)] at this
      rw[←this];simp[mins])
     clear HM hj
     go_wp2_with fail
     go_loopg [5,7] v.list.length (fun g n i wr=>∃ j m:Nat,j+g=v.list.length∧i=.int .i64 (j:Nat)∧n=.int .i64 (m:Nat)∧m≤30010001+10000*(k+1)∧Hid (vW (k+1) v=efold (vW k) m (v.list.drop j))∧Hid (Blk wr w.heap.size #[.int .i8 v.kind,.bool v.bool,.int .i64 v.num,.string v.text,.slice A v.list.length c,.slice B v.keys.length d] 104)∧Hid (Below w.heap.size w wr))
     case atStart=>exact⟨0,m,by omega,rfl,rfl,by omega,HV2,HB,HW1⟩
     obtain⟨j,m,hj,rfl,rfl,hm,HV3,HB2,HW2⟩:=hrel
     have b4:wr.cell? ⟨w.heap.size,4,none⟩=some (.slice A v.list.length c):=HB2.out.cell 4 rfl
     by_cases hm1:10000<m
     ·have hm2:¬((m:Int)≤10000):=by omega
      have HR:Hid (vW (k+1) v=m):=Hd (by rw[HV3.out,efold_stop hm1])
      go_wp2_with fail
      all_goals
       go_ret
       exact⟨by rw[HR.out];rfl,HW2.out⟩
     have hm2:(m:Int)≤10000:=by omega
     cases gk with
     | zero =>
       have hjj:¬((j:Int)<(v.list.length:Int)):=by omega
       have HR:Hid (vW (k+1) v=m):=Hd (by rw[HV3.out,List.drop_of_length_le (by omega)];rfl)
       go_wp2_with fail
       all_goals
        go_ret
        exact⟨by rw[HR.out];rfl,HW2.out⟩
     | succ g =>
       have hjj:(j:Int)<(v.list.length:Int):=by omega
       obtain⟨x,hx⟩:=get_lt (l:=v.list) (i:=j) (by omega)
       have hd:=drop_cons hx
       obtain⟨ad,cs,rfl,hxt,hxc⟩:=(HL.out.below HW2.out).elem Vl.trlen hx
       have HX:=Hd hxt
       obtain⟨A2,c2,B2,d2,rfl,-,-,-,-,-⟩:=Vl.at_iff.1 hxt
       obtain⟨e0,e1,e2,e3,e4,e5⟩:=cel6 hxc
       have HV4:Hid (vW (k+1) v=efold (vW k) (m+vW k x) (v.list.drop (j+1))):=Hd (by rw[HV3.out,hd,efold_go (by omega)])
       have hxw:=HW.out x
       clear hx hd hxt hxc
       go_wp2_with fail
       refine(vweight_any S k x _ wr (by omega) HX.out).mono ?_
       rintro e w2 ⟨rfl,hb⟩
       have HB3:=Hd (HB2.out.below hb)
       have HW3:=Hd (HW2.out.trans (hb.mono HW2.out.size))
       clear hb
       go_wp2_with fail
       go_roundg g
       case measure=>omega
       case rel=>exact⟨j+1,m+vW k x,by omega,by go_num,by go_num,by omega,HV4,HB3,HW3⟩
   | succ g =>
     have hjj:(j:Int)<(v.keys.length:Int):=by omega
     obtain⟨s,hs⟩:=get_lt (l:=v.keys) (i:=j) (by omega)
     have hd:=mins_drop hs
     obtain⟨ad,rfl,hsc,hsz⟩:=(HK.out.below HW1.out).str hs
     have HM2:Hid (m+min s.size 10000+mins (v.keys.drop (j+1))=1+t0+mins v.keys):=Hd (by have:=HM.out;omega)
     have hm2:m+min s.size 10000≤30010001:=by have:=HM2.out;omega
     clear hs hd
     obtain⟨s0,hs0⟩:∃ s0,s0=min s.size 10000:=⟨_,rfl⟩
     rw[←hs0] at HM2 hm2
     have hmn:∀ w',(Builtin.min_ #[3,3] 3 #[.int .i64 (s.size:Nat),.int .i64 10000]).run Tryz.prog w'=.ok (.int .i64 (s0:Nat)) w':=fun w'=>run_min (by omega)
     clear hs0
     go_wp2_with fail
     go_roundg g
     case measure=>omega
     case rel=>exact⟨j+1,m+s0,by omega,by go_num,by go_num,by omega,by rw[Nat.add_assoc] at HM2 ⊢;exact HM2,HB,HW1⟩
end Go.Proofs.YtgdfkbalnpfdgaaGreatDoor
namespace Go.Proofs.YtgdfkbalnpfdgaaGreatDoor
open Go.RowKit
theorem vgreat_any (S:Nat→Prop) (v:Vl) (cs:List Value) (w:World) (hv:Trs.at S w v.tr cs) :
 Calls Tryz.prog 44 #[.agg cs.toArray] w (BoolOut (vGreat v) w):=by
 have HV:=Hd hv
 obtain⟨A,c,B,d,rfl,-,-,ht,hl,hks⟩:=Vl.at_iff.1 hv
 clear hv hl hks
 have hb:=vW_le 30 v
 go_enter Tryz.func44,Tryz.ntmps44
 go_wp2_with fail
 refine(vweight_any S 30 v _ _ (by omega) (HV.out.alloc _)).mono ?_
 rintro e w2 ⟨rfl,hb⟩
 have HB:=Hd (((Below.refl _ w).alloc (Nat.le_refl _) _).trans (hb.mono (by simp)))
 clear hb
 go_wp2_with fail
 go_ret
 exact⟨by rw[show vGreat v=decide ((5000:Int)<((vW 30 v:Nat):Int)) from decide_eq_decide.2 (by omega)];rfl,HB.out⟩
theorem xweight_any (S:Nat→Prop):∀ (k:Nat) (v:Ex) (cs:List Value) (w:World),k≤40→Trs.at S w v.tr cs →
 Calls Tryz.prog 39 #[.agg cs.toArray,.int .i64 (k:Nat)] w (NatOut (xW k v) w)
 | 0,v,cs,w,hk,hv=>by
   obtain⟨A,c,rfl,_⟩:=Ex.at_iff.1 hv
   clear hv
   go_enter Tryz.func39,Tryz.ntmps39
   go_wp2_with fail
   go_ret
   exact⟨rfl,(Below.refl _ w).alloc (Nat.le_refl _) _⟩
 | k+1,v,cs,w,hk,hv=>by
   obtain⟨A,c,rfl,-,-,ht1,ht2,ht3,hl⟩:=Ex.at_iff.1 hv
   clear hv
   have hlb:=hl.bytes
   have hlc:=hl.cap
   have HL:=Hd hl
   clear hl
   have hk0:((k:Int)+1==0)=false:=by simp;omega
   have hk9:IntKind.i64.wrap ((k:Int)+1-1)=(k:Int):=by rw[IntWalk.i64_in _ (by omega)];omega
   have hbw:=xW_le (k+1) v
   by_cases h1:500<v.l.length
   ·have HV:Hid (xW (k+1) v=10000):=Hd (by simp only[xW];rw[if_pos h1])
    go_enter Tryz.func39,Tryz.ntmps39
    go_wp2_with fail
    all_goals
     go_ret
     exact⟨by rw[HV.out];rfl,(Below.refl _ w).alloc (Nat.le_refl _) _⟩
   have HV:Hid (xW (k+1) v=efold (xW k) (1+min (v.text.size+v.name.size+v.attr.size) 10000) v.l):=Hd (by simp only[xW];rw[if_neg h1])
   have HW:Hid (∀ x,xW k x≤10001+10000*k):=Hd (xW_le k)
   have HB0:Hid (Blk (w.alloc (.cells #[.int .i8 v.kind,.string v.text,.int .i64 v.num,.string v.name,.string v.attr,.slice A v.l.length c] 48)) w.heap.size #[.int .i8 v.kind,.string v.text,.int .i64 v.num,.string v.name,.string v.attr,.slice A v.l.length c] 48):=Hd (Blk.new w _ _)
   have HW0:Hid (Below w.heap.size w (w.alloc (.cells #[.int .i8 v.kind,.string v.text,.int .i64 v.num,.string v.name,.string v.attr,.slice A v.l.length c] 48))):=Hd ((Below.refl _ w).alloc (Nat.le_refl _) _)
   obtain⟨t0,ht0⟩:∃ t0,t0=min (v.text.size+v.name.size+v.attr.size) 10000:=⟨_,rfl⟩
   rw[←ht0] at HV
   have hmin:min ((v.text.size:Int)+(v.name.size:Int)+(v.attr.size:Int)) 10000=(t0:Int):=by omega
   have ht4:t0≤10000:=by omega
   go_enter Tryz.func39,Tryz.ntmps39
   have hmn:∀ w',(Builtin.min_ #[3,3] 3 #[.int .i64 ((v.text.size:Int)+(v.name.size:Int)+(v.attr.size:Int)),.int .i64 10000]).run Tryz.prog w'=.ok (.int .i64 (t0:Nat)) w':=fun w'=>run_min hmin
   clear ht0
   go_wp2_with fail
   clear hmin hmn
   go_loopg [5,6] v.l.length (fun g n i wr=>∃ j m:Nat,j+g=v.l.length∧i=.int .i64 (j:Nat)∧n=.int .i64 (m:Nat)∧m≤10001+10000*(k+1)∧Hid (xW (k+1) v=efold (xW k) m (v.l.drop j))∧Hid (Blk wr w.heap.size #[.int .i8 v.kind,.string v.text,.int .i64 v.num,.string v.name,.string v.attr,.slice A v.l.length c] 48)∧Hid (Below w.heap.size w wr))
   case atStart=>exact⟨0,1+t0,by omega,rfl,by go_num,by omega,HV,HB0,HW0⟩
   obtain⟨j,m,hj,rfl,rfl,hm,HV3,HB2,HW2⟩:=hrel
   have b4:wr.cell? ⟨w.heap.size,5,none⟩=some (.slice A v.l.length c):=HB2.out.cell 5 rfl
   by_cases hm1:10000<m
   ·have hm2:¬((m:Int)≤10000):=by omega
    have HR:Hid (xW (k+1) v=m):=Hd (by rw[HV3.out,efold_stop hm1])
    go_wp2_with fail
    all_goals
     go_ret
     exact⟨by rw[HR.out];rfl,HW2.out⟩
   have hm2:(m:Int)≤10000:=by omega
   cases gk with
   | zero =>
     have hjj:¬((j:Int)<(v.l.length:Int)):=by omega
     have HR:Hid (xW (k+1) v=m):=Hd (by rw[HV3.out,List.drop_of_length_le (by omega)];rfl)
     go_wp2_with fail
     all_goals
      go_ret
      exact⟨by rw[HR.out];rfl,HW2.out⟩
   | succ g =>
     have hjj:(j:Int)<(v.l.length:Int):=by omega
     obtain⟨x,hx⟩:=get_lt (l:=v.l) (i:=j) (by omega)
     have hd:=drop_cons hx
     obtain⟨ad,cs,rfl,hxt,hxc⟩:=(HL.out.below HW2.out).elem Ex.trlen hx
     have HX:=Hd hxt
     obtain⟨A2,c2,rfl,-,-,-,-,-,-⟩:=Ex.at_iff.1 hxt
     obtain⟨e0,e1,e2,e3,e4,e5⟩:=cel6 hxc
     have HV4:Hid (xW (k+1) v=efold (xW k) (m+xW k x) (v.l.drop (j+1))):=Hd (by rw[HV3.out,hd,efold_go (by omega)])
     have hxw:=HW.out x
     clear hx hd hxt hxc
     go_wp2_with fail
     refine(xweight_any S k x _ wr (by omega) HX.out).mono ?_
     rintro e w2 ⟨rfl,hb⟩
     have HB3:=Hd (HB2.out.below hb)
     have HW3:=Hd (HW2.out.trans (hb.mono HW2.out.size))
     clear hb
     go_wp2_with fail
     go_roundg g
     case measure=>omega
     case rel=>exact⟨j+1,m+xW k x,by omega,by go_num,by go_num,by omega,HV4,HB3,HW3⟩
theorem xgreat_any (S:Nat→Prop) (v:Ex) (cs:List Value) (w:World) (hv:Trs.at S w v.tr cs) :
 Calls Tryz.prog 12 #[.agg cs.toArray] w (BoolOut (xGreat v) w):=by
 have HV:=Hd hv
 obtain⟨A,c,rfl,-,-,ht1,ht2,ht3,hl⟩:=Ex.at_iff.1 hv
 clear hv hl
 have hb:=xW_le 30 v
 go_enter Tryz.func12,Tryz.ntmps12
 go_wp2_with fail
 refine(xweight_any S 30 v _ _ (by omega) (HV.out.alloc _)).mono ?_
 rintro e w2 ⟨rfl,hb⟩
 have HB:=Hd (((Below.refl _ w).alloc (Nat.le_refl _) _).trans (hb.mono (by simp)))
 clear hb
 go_wp2_with fail
 go_ret
 exact⟨by rw[show xGreat v=decide ((3000:Int)<((xW 30 v:Nat):Int)) from decide_eq_decide.2 (by omega)];rfl,HB.out⟩
theorem partsL_drop {l:List Ex} {i:Nat} {s:Ex} (h:l[i]?=some s):Ex.partsL (l.drop i)=s.parts+Ex.partsL (l.drop (i+1)):=by rw[drop_cons h];rfl
theorem parts_any (S:Nat→Prop):∀ (k:Nat) (v:Ex) (cs:List Value) (w:World),xW k v≤9999→Trs.at S w v.tr cs →
 Calls Tryz.prog 43 #[.agg cs.toArray] w (NatOut v.parts w)
 | 0,v,cs,w,hk,hv=>by simp[xW] at hk
 | k+1,v,cs,w,hk,hv=>by
   obtain⟨A,c,rfl,-,-,ht1,ht2,ht3,hl⟩:=Ex.at_iff.1 hv
   clear hv
   have hlc:=hl.cap
   have HL:=Hd hl
   clear hl
   have hp:=parts_le (k+1) v hk
   have hpe:=v.parts_eq
   have HKX:Hid (∀ x∈v.l,xW k x≤9999):=Hd (by
    simp only[xW] at hk
    split at hk
    ·omega
    ·intro x hx
     have h2:=efold_sum (f:=xW k) v.l _ (Nat.le_trans hk (by omega))
     have:=sum_mem_le (f:=xW k) hx
     omega)
   have h0:v.parts≤9999:=by omega
   have h1:v.l.length≤500:=hp.2.1
   have HP:Hid (v.parts=1+v.text.size+v.name.size+Ex.partsL (v.l.drop 0)):=Hd hpe
   have HB0:Hid (Blk (w.alloc (.cells #[.int .i8 v.kind,.string v.text,.int .i64 v.num,.string v.name,.string v.attr,.slice A v.l.length c] 48)) w.heap.size #[.int .i8 v.kind,.string v.text,.int .i64 v.num,.string v.name,.string v.attr,.slice A v.l.length c] 48):=Hd (Blk.new w _ _)
   have HW0:Hid (Below w.heap.size w (w.alloc (.cells #[.int .i8 v.kind,.string v.text,.int .i64 v.num,.string v.name,.string v.attr,.slice A v.l.length c] 48))):=Hd ((Below.refl _ w).alloc (Nat.le_refl _) _)
   clear hp hpe hk
   go_enter Tryz.func43,Tryz.ntmps43
   go_wp2_with fail
   go_loopg [3,4] v.l.length (fun g n i wr=>∃ j m:Nat,j+g=v.l.length∧i=.int .i64 (j:Nat)∧n=.int .i64 (m:Nat)∧m≤9999∧Hid (v.parts=m+Ex.partsL (v.l.drop j))∧Hid (Blk wr w.heap.size #[.int .i8 v.kind,.string v.text,.int .i64 v.num,.string v.name,.string v.attr,.slice A v.l.length c] 48)∧Hid (Below w.heap.size w wr))
   case atStart=>exact⟨0,1+v.text.size+v.name.size,by omega,rfl,by go_num,by have:=HP.out;omega,HP,HB0,HW0⟩
   obtain⟨j,m,hj,rfl,rfl,hm,HV3,HB2,HW2⟩:=hrel
   have b4:wr.cell? ⟨w.heap.size,5,none⟩=some (.slice A v.l.length c):=HB2.out.cell 5 rfl
   cases gk with
   | zero =>
     have hjj:¬((j:Int)<(v.l.length:Int)):=by omega
     have HR:Hid (v.parts=m):=Hd (by rw[HV3.out,List.drop_of_length_le (by omega)];rfl)
     go_wp2_with fail
     go_ret
     exact⟨by rw[HR.out];rfl,HW2.out⟩
   | succ g =>
     have hjj:(j:Int)<(v.l.length:Int):=by omega
     obtain⟨x,hx⟩:=get_lt (l:=v.l) (i:=j) (by omega)
     have hd:=partsL_drop hx
     obtain⟨ad,cs,rfl,hxt,hxc⟩:=(HL.out.below HW2.out).elem Ex.trlen hx
     have HX:=Hd hxt
     obtain⟨A2,c2,rfl,-,-,-,-,-,-⟩:=Ex.at_iff.1 hxt
     obtain⟨e0,e1,e2,e3,e4,e5⟩:=cel6 hxc
     have HV4:Hid (v.parts=m+x.parts+Ex.partsL (v.l.drop (j+1))):=Hd (by rw[HV3.out,hd,Nat.add_assoc])
     have hm4:m+x.parts≤9999:=by have:=HV4.out;omega
     have HXK:=Hd (HKX.out x (List.mem_of_getElem? hx))
     clear hx hd hxt hxc
     go_wp2_with fail
     refine(parts_any S k x _ wr HXK.out HX.out).mono ?_
     rintro e w2 ⟨rfl,hb⟩
     have HB3:=Hd (HB2.out.below hb)
     have HW3:=Hd (HW2.out.trans (hb.mono HW2.out.size))
     clear hb
     go_wp2_with fail
     go_roundg g
     case measure=>omega
     case rel=>exact⟨j+1,m+x.parts,by omega,by go_num,by go_num,by omega,HV4,HB3,HW3⟩
def eS (l:List Ex):Nat:=(l.map fun y=>1+y.l.length*10000).sum
theorem eS_drop {l:List Ex} {i:Nat} {s:Ex} (h:l[i]?=some s):eS (l.drop i)=(1+s.l.length*10000)+eS (l.drop (i+1)):=by rw[drop_cons h];simp[eS]
def ExprOut (n:Nat) (w:World) (e:Ending) (w':World):Prop:=e=.returned (.int .i64 (n:Nat))∧n≤1000000000000000000∧Below w.heap.size w w'
theorem exprs_any (S:Nat→Prop) (v:Ex) (cs:List Value) (w:World) (hv:Trs.at S w v.tr cs) :
 Calls Tryz.prog 74 #[.agg cs.toArray] w (ExprOut (eW v) w):=by
 obtain⟨A,c,rfl,-,-,ht1,ht2,ht3,hl⟩:=Ex.at_iff.1 hv
 clear hv
 have hlb:=hl.bytes
 have hlc:=hl.cap
 have HL:=Hd hl
 clear hl
 by_cases h1:50<v.l.length
 ·have HV:Hid (eW v=10000):=Hd (by unfold eW;rw[if_pos h1])
  go_enter Tryz.func74,Tryz.ntmps74
  go_wp2_with fail
  go_ret
  exact⟨by rw[HV.out];rfl,by rw[HV.out];omega,(Below.refl _ w).alloc (Nat.le_refl _) _⟩
 have HV:Hid (eW v=1+min (v.text.size+v.name.size+v.attr.size) 10000+eS (v.l.drop 0)):=Hd (by unfold eW;rw[if_neg h1];rfl)
 have HB0:Hid (Blk (w.alloc (.cells #[.int .i8 v.kind,.string v.text,.int .i64 v.num,.string v.name,.string v.attr,.slice A v.l.length c] 48)) w.heap.size #[.int .i8 v.kind,.string v.text,.int .i64 v.num,.string v.name,.string v.attr,.slice A v.l.length c] 48):=Hd (Blk.new w _ _)
 have HW0:Hid (Below w.heap.size w (w.alloc (.cells #[.int .i8 v.kind,.string v.text,.int .i64 v.num,.string v.name,.string v.attr,.slice A v.l.length c] 48))):=Hd ((Below.refl _ w).alloc (Nat.le_refl _) _)
 obtain⟨t0,ht0⟩:∃ t0,t0=min (v.text.size+v.name.size+v.attr.size) 10000:=⟨_,rfl⟩
 rw[←ht0] at HV
 have hmin:min ((v.text.size:Int)+(v.name.size:Int)+(v.attr.size:Int)) 10000=(t0:Int):=by omega
 have ht4:t0≤10000:=by omega
 go_enter Tryz.func74,Tryz.ntmps74
 have hmn:∀ w',(Builtin.min_ #[3,3] 3 #[.int .i64 ((v.text.size:Int)+(v.name.size:Int)+(v.attr.size:Int)),.int .i64 10000]).run Tryz.prog w'=.ok (.int .i64 (t0:Nat)) w':=fun w'=>run_min hmin
 clear ht0
 go_wp2_with fail
 clear hmin hmn
 go_loopg [3,4] v.l.length (fun g n i wr=>∃ j m:Nat,j+g=v.l.length∧i=.int .i64 (j:Nat)∧n=.int .i64 (m:Nat)∧m≤10001+j*16000000000000001∧Hid (eW v=m+eS (v.l.drop j))∧wr=w.alloc (.cells #[.int .i8 v.kind,.string v.text,.int .i64 v.num,.string v.name,.string v.attr,.slice A v.l.length c] 48))
 case atStart=>exact⟨0,1+t0,by omega,rfl,by go_num,by omega,HV,rfl⟩
 obtain⟨j,m,hj,rfl,rfl,hm,HV3,rfl⟩:=hrel
 have hj5:j≤50:=by omega
 have hm5:m≤900000000000000000:=by omega
 cases gk with
 | zero =>
   have hjj:¬((j:Int)<(v.l.length:Int)):=by omega
   have HR:Hid (eW v=m):=Hd (by rw[HV3.out,List.drop_of_length_le (by omega)];rfl)
   go_wp2_with fail
   go_ret
   exact⟨by rw[HR.out];rfl,by rw[HR.out];omega,HW0.out⟩
 | succ g =>
   have hjj:(j:Int)<(v.l.length:Int):=by omega
   obtain⟨x,hx⟩:=get_lt (l:=v.l) (i:=j) (by omega)
   have hd:=eS_drop hx
   obtain⟨ad,cs,rfl,hxt,hxc⟩:=(HL.out.below HW0.out).elem Ex.trlen hx
   obtain⟨A2,c2,rfl,-,-,-,-,-,hxl⟩:=Ex.at_iff.1 hxt
   have hxb:=hxl.bytes
   obtain⟨e0,e1,e2,e3,e4,e5⟩:=cel6 hxc
   have HV4:Hid (eW v=m+(1+x.l.length*10000)+eS (v.l.drop (j+1))):=Hd (by rw[HV3.out,hd];omega)
   have hx1:x.l.length≤1600000000000:=by omega
   clear hx hd hxt hxc e0 e1 e2 e3 e4 hxl hxb
   go_wp2_with fail
   go_roundg g
   case measure=>omega
   case rel=>exact⟨j+1,m+(1+x.l.length*10000),by omega,by go_num,by go_num,by omega,HV4,rfl⟩
end Go.Proofs.YtgdfkbalnpfdgaaGreatDoor
