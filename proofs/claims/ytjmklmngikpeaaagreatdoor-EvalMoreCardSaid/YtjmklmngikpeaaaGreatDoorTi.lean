/- Part of the proof. -/
import Derived.Test.YtjmklmngikpeaaaGreatDoorTr
import Derived.Deep.LoopGhost
set_option maxRecDepth 100000
set_option maxHeartbeats 4000000
set_option linter.unusedVariables false
set_option linter.unusedSimpArgs false
namespace Go.Proofs.YtjmklmngikpeaaaGreatDoor
open Go.RowKit Go.ChangeShapes Go.WideShapes Go.ChangeAt
variable {a:Addr}{x:Int}{l:List ByteArray}{ts:List Tr}{cs:List Value}{i n q:Nat}{α:Type}{t:TypeId}{c0 c1 c10 c11 c12 c13 c14 c2 c3 c4 c5 c6 c7 c8 c9:Value}
section
variable {S:Nat->Prop} {w:World}
theorem S9 (h:i7 w a [c0,c1]):w.cell? a=some c0/\w.cell? ⟨a.block,a.off+1,none⟩=some c1 :=
 ⟨h 0 _ rfl,h 1 _ rfl⟩
theorem DI (h:i7 w a [c0,c1,c2,c3]):w.cell? a=some c0/\w.cell? ⟨a.block,a.off+1,none⟩=some c1/\w.cell? ⟨a.block,a.off+2,none⟩=some c2/\w.cell? ⟨a.block,a.off+3,none⟩=some c3 :=
 ⟨h 0 _ rfl,h 1 _ rfl,h 2 _ rfl,h 3 _ rfl⟩
theorem iA (h:i7 w a [c0,c1,c2,c3,c4,c5]):w.cell? a=some c0/\w.cell? ⟨a.block,a.off+1,none⟩=some c1/\w.cell? ⟨a.block,a.off+2,none⟩=some c2/\w.cell? ⟨a.block,a.off+3,none⟩=some c3/\w.cell? ⟨a.block,a.off+4,none⟩=some c4/\w.cell? ⟨a.block,a.off+5,none⟩=some c5 :=
 ⟨h 0 _ rfl,h 1 _ rfl,h 2 _ rfl,h 3 _ rfl,h 4 _ rfl,h 5 _ rfl⟩
theorem lO (h:i7 w a [c0,c1,c2,c3,c4,c5,c6]):w.cell? a=some c0/\w.cell? ⟨a.block,a.off+1,none⟩=some c1/\w.cell? ⟨a.block,a.off+2,none⟩=some c2/\w.cell? ⟨a.block,a.off+3,none⟩=some c3/\w.cell? ⟨a.block,a.off+4,none⟩=some c4/\w.cell? ⟨a.block,a.off+5,none⟩=some c5/\w.cell? ⟨a.block,a.off+6,none⟩=some c6 :=
 ⟨h 0 _ rfl,h 1 _ rfl,h 2 _ rfl,h 3 _ rfl,h 4 _ rfl,h 5 _ rfl,h 6 _ rfl⟩
theorem l8 (h:i7 w a [c0,c1,c2,c3,c4,c5,c6,c7]):w.cell? a=some c0/\w.cell? ⟨a.block,a.off+1,none⟩=some c1/\w.cell? ⟨a.block,a.off+2,none⟩=some c2/\w.cell? ⟨a.block,a.off+3,none⟩=some c3/\w.cell? ⟨a.block,a.off+4,none⟩=some c4/\w.cell? ⟨a.block,a.off+5,none⟩=some c5/\w.cell? ⟨a.block,a.off+6,none⟩=some c6/\w.cell? ⟨a.block,a.off+7,none⟩=some c7 :=
 ⟨h 0 _ rfl,h 1 _ rfl,h 2 _ rfl,h 3 _ rfl,h 4 _ rfl,h 5 _ rfl,h 6 _ rfl,h 7 _ rfl⟩
theorem BB (h:i7 w a [c0,c1,c2,c3,c4,c5,c6,c7,c8,c9]):w.cell? a=some c0/\w.cell? ⟨a.block,a.off+1,none⟩=some c1/\w.cell? ⟨a.block,a.off+2,none⟩=some c2/\w.cell? ⟨a.block,a.off+3,none⟩=some c3/\w.cell? ⟨a.block,a.off+4,none⟩=some c4/\w.cell? ⟨a.block,a.off+5,none⟩=some c5/\w.cell? ⟨a.block,a.off+6,none⟩=some c6/\w.cell? ⟨a.block,a.off+7,none⟩=some c7/\w.cell? ⟨a.block,a.off+8,none⟩=some c8/\w.cell? ⟨a.block,a.off+9,none⟩=some c9 :=
 ⟨h 0 _ rfl,h 1 _ rfl,h 2 _ rfl,h 3 _ rfl,h 4 _ rfl,h 5 _ rfl,h 6 _ rfl,h 7 _ rfl,h 8 _ rfl,h 9 _ rfl⟩
theorem EW (h:i7 w a [c0,c1,c2,c3,c4,c5,c6,c7,c8,c9,c10]):w.cell? a=some c0/\w.cell? ⟨a.block,a.off+1,none⟩=some c1/\w.cell? ⟨a.block,a.off+2,none⟩=some c2/\w.cell? ⟨a.block,a.off+3,none⟩=some c3/\w.cell? ⟨a.block,a.off+4,none⟩=some c4/\w.cell? ⟨a.block,a.off+5,none⟩=some c5/\w.cell? ⟨a.block,a.off+6,none⟩=some c6/\w.cell? ⟨a.block,a.off+7,none⟩=some c7/\w.cell? ⟨a.block,a.off+8,none⟩=some c8/\w.cell? ⟨a.block,a.off+9,none⟩=some c9/\w.cell? ⟨a.block,a.off+10,none⟩=some c10 :=
 ⟨h 0 _ rfl,h 1 _ rfl,h 2 _ rfl,h 3 _ rfl,h 4 _ rfl,h 5 _ rfl,h 6 _ rfl,h 7 _ rfl,h 8 _ rfl,h 9 _ rfl,h 10 _ rfl⟩
theorem gP (h:i7 w a [c0,c1,c2,c3,c4,c5,c6,c7,c8,c9,c10,c11,c12,c13,c14]):w.cell? a=some c0/\w.cell? ⟨a.block,a.off+1,none⟩=some c1/\w.cell? ⟨a.block,a.off+2,none⟩=some c2/\w.cell? ⟨a.block,a.off+3,none⟩=some c3/\w.cell? ⟨a.block,a.off+4,none⟩=some c4/\w.cell? ⟨a.block,a.off+5,none⟩=some c5/\w.cell? ⟨a.block,a.off+6,none⟩=some c6/\w.cell? ⟨a.block,a.off+7,none⟩=some c7/\w.cell? ⟨a.block,a.off+8,none⟩=some c8/\w.cell? ⟨a.block,a.off+9,none⟩=some c9/\w.cell? ⟨a.block,a.off+10,none⟩=some c10/\w.cell? ⟨a.block,a.off+11,none⟩=some c11/\w.cell? ⟨a.block,a.off+12,none⟩=some c12/\w.cell? ⟨a.block,a.off+13,none⟩=some c13/\w.cell? ⟨a.block,a.off+14,none⟩=some c14 :=
 ⟨h 0 _ rfl,h 1 _ rfl,h 2 _ rfl,h 3 _ rfl,h 4 _ rfl,h 5 _ rfl,h 6 _ rfl,h 7 _ rfl,h 8 _ rfl,h 9 _ rfl,h 10 _ rfl,h 11 _ rfl,h 12 _ rfl,h 13 _ rfl,h 14 _ rfl⟩
theorem i9 (h:Blk w q #[c0] t):w.cell? ⟨q,0,none⟩=some c0 :=
 h.cell 0 rfl
theorem gO (h:Blk w q #[c0,c1] t):w.cell? ⟨q,0,none⟩=some c0/\w.cell? ⟨q,1,none⟩=some c1 :=
 ⟨h.cell 0 rfl,h.cell 1 rfl⟩
theorem G9 (h:Blk w q #[c0,c1,c2] t):w.cell? ⟨q,0,none⟩=some c0/\w.cell? ⟨q,1,none⟩=some c1/\w.cell? ⟨q,2,none⟩=some c2 :=
 ⟨h.cell 0 rfl,h.cell 1 rfl,h.cell 2 rfl⟩
theorem j1 (h:Blk w q #[c0,c1,c2,c3] t):w.cell? ⟨q,0,none⟩=some c0/\w.cell? ⟨q,1,none⟩=some c1/\w.cell? ⟨q,2,none⟩=some c2/\w.cell? ⟨q,3,none⟩=some c3 :=
 ⟨h.cell 0 rfl,h.cell 1 rfl,h.cell 2 rfl,h.cell 3 rfl⟩
theorem gH (h:Blk w q #[c0,c1,c2,c3,c4,c5] t):w.cell? ⟨q,0,none⟩=some c0/\w.cell? ⟨q,1,none⟩=some c1/\w.cell? ⟨q,2,none⟩=some c2/\w.cell? ⟨q,3,none⟩=some c3/\w.cell? ⟨q,4,none⟩=some c4/\w.cell? ⟨q,5,none⟩=some c5 :=
 ⟨h.cell 0 rfl,h.cell 1 rfl,h.cell 2 rfl,h.cell 3 rfl,h.cell 4 rfl,h.cell 5 rfl⟩
theorem jV (h:Blk w q #[c0,c1,c2,c3,c4,c5,c6] t):w.cell? ⟨q,0,none⟩=some c0/\w.cell? ⟨q,1,none⟩=some c1/\w.cell? ⟨q,2,none⟩=some c2/\w.cell? ⟨q,3,none⟩=some c3/\w.cell? ⟨q,4,none⟩=some c4/\w.cell? ⟨q,5,none⟩=some c5/\w.cell? ⟨q,6,none⟩=some c6 :=
 ⟨h.cell 0 rfl,h.cell 1 rfl,h.cell 2 rfl,h.cell 3 rfl,h.cell 4 rfl,h.cell 5 rfl,h.cell 6 rfl⟩
theorem gI (h:Blk w q #[c0,c1,c2,c3,c4,c5,c6,c7] t):w.cell? ⟨q,0,none⟩=some c0/\w.cell? ⟨q,1,none⟩=some c1/\w.cell? ⟨q,2,none⟩=some c2/\w.cell? ⟨q,3,none⟩=some c3/\w.cell? ⟨q,4,none⟩=some c4/\w.cell? ⟨q,5,none⟩=some c5/\w.cell? ⟨q,6,none⟩=some c6/\w.cell? ⟨q,7,none⟩=some c7 :=
 ⟨h.cell 0 rfl,h.cell 1 rfl,h.cell 2 rfl,h.cell 3 rfl,h.cell 4 rfl,h.cell 5 rfl,h.cell 6 rfl,h.cell 7 rfl⟩
theorem iG (h:Blk w q #[c0,c1,c2,c3,c4,c5,c6,c7,c8,c9] t):w.cell? ⟨q,0,none⟩=some c0/\w.cell? ⟨q,1,none⟩=some c1/\w.cell? ⟨q,2,none⟩=some c2/\w.cell? ⟨q,3,none⟩=some c3/\w.cell? ⟨q,4,none⟩=some c4/\w.cell? ⟨q,5,none⟩=some c5/\w.cell? ⟨q,6,none⟩=some c6/\w.cell? ⟨q,7,none⟩=some c7/\w.cell? ⟨q,8,none⟩=some c8/\w.cell? ⟨q,9,none⟩=some c9 :=
 ⟨h.cell 0 rfl,h.cell 1 rfl,h.cell 2 rfl,h.cell 3 rfl,h.cell 4 rfl,h.cell 5 rfl,h.cell 6 rfl,h.cell 7 rfl,h.cell 8 rfl,h.cell 9 rfl⟩
theorem kO (h:Blk w q #[c0,c1,c2,c3,c4,c5,c6,c7,c8,c9,c10] t):w.cell? ⟨q,0,none⟩=some c0/\w.cell? ⟨q,1,none⟩=some c1/\w.cell? ⟨q,2,none⟩=some c2/\w.cell? ⟨q,3,none⟩=some c3/\w.cell? ⟨q,4,none⟩=some c4/\w.cell? ⟨q,5,none⟩=some c5/\w.cell? ⟨q,6,none⟩=some c6/\w.cell? ⟨q,7,none⟩=some c7/\w.cell? ⟨q,8,none⟩=some c8/\w.cell? ⟨q,9,none⟩=some c9/\w.cell? ⟨q,10,none⟩=some c10 :=
 ⟨h.cell 0 rfl,h.cell 1 rfl,h.cell 2 rfl,h.cell 3 rfl,h.cell 4 rfl,h.cell 5 rfl,h.cell 6 rfl,h.cell 7 rfl,h.cell 8 rfl,h.cell 9 rfl,h.cell 10 rfl⟩
theorem L4 (h:Blk w q #[c0,c1,c2,c3,c4,c5,c6,c7,c8,c9,c10,c11,c12,c13,c14] t):w.cell? ⟨q,0,none⟩=some c0/\w.cell? ⟨q,1,none⟩=some c1/\w.cell? ⟨q,2,none⟩=some c2/\w.cell? ⟨q,3,none⟩=some c3/\w.cell? ⟨q,4,none⟩=some c4/\w.cell? ⟨q,5,none⟩=some c5/\w.cell? ⟨q,6,none⟩=some c6/\w.cell? ⟨q,7,none⟩=some c7/\w.cell? ⟨q,8,none⟩=some c8/\w.cell? ⟨q,9,none⟩=some c9/\w.cell? ⟨q,10,none⟩=some c10/\w.cell? ⟨q,11,none⟩=some c11/\w.cell? ⟨q,12,none⟩=some c12/\w.cell? ⟨q,13,none⟩=some c13/\w.cell? ⟨q,14,none⟩=some c14 :=
 ⟨h.cell 0 rfl,h.cell 1 rfl,h.cell 2 rfl,h.cell 3 rfl,h.cell 4 rfl,h.cell 5 rfl,h.cell 6 rfl,h.cell 7 rfl,h.cell 8 rfl,h.cell 9 rfl,h.cell 10 rfl,h.cell 11 rfl,h.cell 12 rfl,h.cell 13 rfl,h.cell 14 rfl⟩
theorem gJ:Trs.at S w [] cs↔cs=[]:=by simp only[Trs.at]
theorem fQ {u:Value}:Trs.at S w (.leaf u::ts) cs↔∃ cs',cs=u::cs'/\mD u/\Trs.at S w ts cs':=by
 simp only[Trs.at,Tr.at];constructor
 .rintro⟨v,vs,rfl,⟨rfl,h1⟩,h2⟩;exact⟨vs,rfl,h1,h2⟩
 rintro⟨vs,rfl,h1,h2⟩;exact⟨u,vs,rfl,⟨rfl,h1⟩,h2⟩
theorem gL {tr:α->List Tr} {sz b:Nat} {l:List α}:Trs.at S w (.sl sz b l.length (l.flatMap tr)::ts) cs↔∃ A c cs',cs=.slice A l.length c::cs'/\Ls S w sz b tr A c l/\Trs.at S w ts cs':=by
 simp only[Trs.at];constructor
 .rintro⟨v,vs,rfl,h1,h2⟩;obtain⟨A,c,rfl,h3⟩:=wX.1 h1;exact⟨A,c,vs,rfl,h3,h2⟩
 rintro⟨A,c,vs,rfl,h1,h2⟩;exact⟨_,vs,rfl,wX.2 ⟨A,c,rfl,h1⟩,h2⟩
theorem oW:Trs.at S w (sTr l::ts) cs↔∃ A c cs',cs=.slice A l.length c::cs'/\Ss S w A c l/\Trs.at S w ts cs':=gL
theorem IQ (h:(Lit.int .i8 x).wf=true):-128<=x/\x<=127:=by
 simp[Lit.wf,IntKind.min,IntKind.max,IntKind.bits,IntKind.signed] at h;omega
theorem sE (h:(Lit.int .i64 x).wf=true):-9223372036854775808<=x/\x<=9223372036854775807:=by
 simp[Lit.wf,IntKind.min,IntKind.max,IntKind.bits,IntKind.signed] at h;omega
theorem Vl.at_iff {v:Vl}:Trs.at S w v.tr cs↔∃ A c B d,cs=[.int .i8 v.kind,.bool v.bool,.int .i64 v.num,.string v.text,.slice A v.list.length c,.slice B v.keys.length d] /\
 (Lit.int .i8 v.kind).wf=true/\(Lit.int .i64 v.num).wf=true/\v.text.size<=9007199254740992/\Ls S w 6 80 Vl.tr A c v.list/\Ss S w B d v.keys:=by
 obtain⟨k,b,n,t,l,ks⟩:=v;simp only[Vl.tr,Vl.trs_eq];constructor
 .intro h;obtain⟨_,rfl,h0,h⟩:=fQ.1 h;obtain⟨_,rfl,_,h⟩:=fQ.1 h;obtain⟨_,rfl,h2,h⟩:=fQ.1 h;obtain⟨_,rfl,h3,h⟩:=fQ.1 h;obtain⟨A,c,_,rfl,h4,h⟩:=gL.1 h;obtain⟨B,d,_,rfl,h5,h⟩:=oW.1 h;obtain rfl:=gJ.1 h;exact⟨A,c,B,d,rfl,h0,h2,h3,h4,h5⟩
 rintro⟨A,c,B,d,rfl,h0,h2,h3,h4,h5⟩;exact fQ.2 ⟨_,rfl,h0,fQ.2 ⟨_,rfl,trivial,fQ.2 ⟨_,rfl,h2,fQ.2 ⟨_,rfl,h3,gL.2 ⟨_,_,_,rfl,h4,oW.2 ⟨_,_,_,rfl,h5,gJ.2 rfl⟩⟩⟩⟩⟩⟩
theorem Ex.at_iff {v:Ex}:Trs.at S w v.tr cs↔∃ A c,cs=[.int .i8 v.kind,.string v.text,.int .i64 v.num,.string v.name,.string v.attr,.slice A v.l.length c] /\
 (Lit.int .i8 v.kind).wf=true/\(Lit.int .i64 v.num).wf=true/\v.text.size<=9007199254740992/\v.name.size<=9007199254740992/\v.attr.size<=9007199254740992/\Ls S w 6 88 Ex.tr A c v.l:=by
 obtain⟨k,t,n,nm,a,l⟩:=v;simp only[Ex.tr,Ex.trs_eq];constructor
 .intro h;obtain⟨_,rfl,h0,h⟩:=fQ.1 h;obtain⟨_,rfl,h1,h⟩:=fQ.1 h;obtain⟨_,rfl,h2,h⟩:=fQ.1 h;obtain⟨_,rfl,h3,h⟩:=fQ.1 h;obtain⟨_,rfl,h4,h⟩:=fQ.1 h;obtain⟨A,c,_,rfl,h5,h⟩:=gL.1 h;obtain rfl:=gJ.1 h;exact⟨A,c,rfl,h0,h2,h1,h3,h4,h5⟩
 rintro⟨A,c,rfl,h0,h2,h1,h3,h4,h5⟩;exact fQ.2 ⟨_,rfl,h0,fQ.2 ⟨_,rfl,h1,fQ.2 ⟨_,rfl,h2,fQ.2 ⟨_,rfl,h3,fQ.2 ⟨_,rfl,h4,gL.2 ⟨_,_,_,rfl,h5,gJ.2 rfl⟩⟩⟩⟩⟩⟩
theorem Cd.at_iff {v:Cd}:Trs.at S w v.tr cs↔∃ xs ys A c,cs=.string v.name::.int .i8 v.kind::(xs++(ys++[.slice A v.l.length c])) /\
 v.name.size<=9007199254740992/\(Lit.int .i8 v.kind).wf=true/\Trs.at S w v.a.tr xs/\Trs.at S w v.b.tr ys/\Ls S w 15 224 Cd.tr A c v.l:=by
 obtain⟨n,k,a,b,l⟩:=v;simp only[Cd.tr,Cd.trs_eq];constructor
 .intro h;obtain⟨_,rfl,h0,h⟩:=fQ.1 h;obtain⟨_,rfl,h1,h⟩:=fQ.1 h;obtain⟨xs,_,rfl,h2,h⟩:=Trs.at.app.1 h;obtain⟨ys,_,rfl,h3,h⟩:=Trs.at.app.1 h;obtain⟨A,c,_,rfl,h4,h⟩:=gL.1 h;obtain rfl:=gJ.1 h;exact⟨xs,ys,A,c,rfl,h0,h1,h2,h3,h4⟩
 rintro⟨xs,ys,A,c,rfl,h0,h1,h2,h3,h4⟩;exact fQ.2 ⟨_,rfl,h0,fQ.2 ⟨_,rfl,h1,Trs.at.app.2 ⟨_,_,rfl,h2,Trs.at.app.2 ⟨_,_,rfl,h3,gL.2 ⟨_,_,_,rfl,h4,gJ.2 rfl⟩⟩⟩⟩⟩
theorem Gv.at_iff {v:Gv}:Trs.at S w v.tr cs↔∃ vs,cs=.string v.name::.bool v.unknown::vs/\v.name.size<=9007199254740992/\Trs.at S w v.v.tr vs:=by
 unfold Gv.tr;constructor
 .intro h;obtain⟨_,rfl,h0,h⟩:=fQ.1 h;obtain⟨_,rfl,_,h⟩:=fQ.1 h;exact⟨_,rfl,h0,h⟩
 rintro⟨vs,rfl,h0,h⟩;exact fQ.2 ⟨_,rfl,h0,fQ.2 ⟨_,rfl,trivial,h⟩⟩
theorem Pm.at_iff {v:Pm}:Trs.at S w v.tr cs↔∃ vs A c,cs=.string v.name::.bool v.number::.bool v.has::(vs++[.slice A v.allowed.length c])/\v.name.size<=9007199254740992/\Trs.at S w v.dflt.tr vs/\Ls S w 6 80 Vl.tr A c v.allowed:=by
 unfold Pm.tr;constructor
 .intro h;obtain⟨_,rfl,h0,h⟩:=fQ.1 h;obtain⟨_,rfl,_,h⟩:=fQ.1 h;obtain⟨_,rfl,_,h⟩:=fQ.1 h;obtain⟨vs,_,rfl,h1,h⟩:=Trs.at.app.1 h;obtain⟨A,c,_,rfl,h2,h⟩:=gL.1 h;obtain rfl:=gJ.1 h;exact⟨_,_,_,rfl,h0,h1,h2⟩
 rintro⟨vs,A,c,rfl,h0,h1,h2⟩;exact fQ.2 ⟨_,rfl,h0,fQ.2 ⟨_,rfl,trivial,fQ.2 ⟨_,rfl,trivial,Trs.at.app.2 ⟨_,_,rfl,h1,gL.2 ⟨_,_,_,rfl,h2,gJ.2 rfl⟩⟩⟩⟩⟩
theorem Pr.at_iff {v:Pr}:Trs.at S w v.tr cs↔∃ vs,cs=.string v.name::vs/\v.name.size<=9007199254740992/\Trs.at S w v.e.tr vs:=by
 unfold Pr.tr;constructor
 .intro h;obtain⟨_,rfl,h0,h⟩:=fQ.1 h;exact⟨_,rfl,h0,h⟩
 rintro⟨vs,rfl,h0,h⟩;exact fQ.2 ⟨_,rfl,h0,h⟩
theorem Ou.at_iff {v:Ou}:Trs.at S w v.tr cs↔∃ vs,cs=.string v.name::.string v.cond::vs/\v.name.size<=9007199254740992/\v.cond.size<=9007199254740992/\Trs.at S w v.e.tr vs:=by
 unfold Ou.tr;constructor
 .intro h;obtain⟨_,rfl,h0,h⟩:=fQ.1 h;obtain⟨_,rfl,h1,h⟩:=fQ.1 h;exact⟨_,rfl,h0,h1,h⟩
 rintro⟨vs,rfl,h0,h1,h⟩;exact fQ.2 ⟨_,rfl,h0,fQ.2 ⟨_,rfl,h1,h⟩⟩
theorem Rs.at_iff {v:Rs}:Trs.at S w v.tr cs↔∃ A a B b C c,cs=[.string v.id,.string v.type,.string v.cond,.slice A v.props.length a,.slice B v.depends.length b,.bool v.retain,.slice C v.inner.length c] /\
 v.id.size<=9007199254740992/\v.type.size<=9007199254740992/\v.cond.size<=9007199254740992/\Ls S w 7 104 Pr.tr A a v.props/\Ss S w B b v.depends/\Ls S w 4 96 Tm.tr C c v.inner:=by
 obtain⟨i,t,c,ps,ds,r,l⟩:=v;simp only[Rs.tr,Tm.trs_eq];constructor
 .intro h;obtain⟨_,rfl,h0,h⟩:=fQ.1 h;obtain⟨_,rfl,h1,h⟩:=fQ.1 h;obtain⟨_,rfl,h2,h⟩:=fQ.1 h;obtain⟨A,a,_,rfl,h3,h⟩:=gL.1 h;obtain⟨B,b,_,rfl,h4,h⟩:=oW.1 h;obtain⟨_,rfl,_,h⟩:=fQ.1 h;obtain⟨C,c',_,rfl,h5,h⟩:=gL.1 h;obtain rfl:=gJ.1 h;exact⟨A,a,B,b,C,c',rfl,h0,h1,h2,h3,h4,h5⟩
 rintro⟨A,a,B,b,C,c',rfl,h0,h1,h2,h3,h4,h5⟩;exact fQ.2 ⟨_,rfl,h0,fQ.2 ⟨_,rfl,h1,fQ.2 ⟨_,rfl,h2,gL.2 ⟨_,_,_,rfl,h3,oW.2 ⟨_,_,_,rfl,h4,fQ.2 ⟨_,rfl,trivial,gL.2 ⟨_,_,_,rfl,h5,gJ.2 rfl⟩⟩⟩⟩⟩⟩⟩
theorem Tm.at_iff {v:Tm}:Trs.at S w v.tr cs↔∃ A a B b C c D d,cs=[.slice A v.params.length a,.slice B v.conds.length b,.slice C v.res.length c,.slice D v.outs.length d] /\
 Ls S w 10 128 Pm.tr A a v.params/\Ls S w 15 224 Cd.tr B b v.conds/\Ls S w 7 128 Rs.tr C c v.res/\Ls S w 8 120 Ou.tr D d v.outs:=by
 obtain⟨ps,cs',rs,os⟩:=v;simp only[Tm.tr,Rs.trs_eq];constructor
 .intro h;obtain⟨A,a,_,rfl,h0,h⟩:=gL.1 h;obtain⟨B,b,_,rfl,h1,h⟩:=gL.1 h;obtain⟨C,c,_,rfl,h2,h⟩:=gL.1 h;obtain⟨D,d,_,rfl,h3,h⟩:=gL.1 h;obtain rfl:=gJ.1 h;exact⟨A,a,B,b,C,c,D,d,rfl,h0,h1,h2,h3⟩
 rintro⟨A,a,B,b,C,c,D,d,rfl,h0,h1,h2,h3⟩;exact gL.2 ⟨_,_,_,rfl,h0,gL.2 ⟨_,_,_,rfl,h1,gL.2 ⟨_,_,_,rfl,h2,gL.2 ⟨_,_,_,rfl,h3,gJ.2 rfl⟩⟩⟩⟩
end
section
variable {H:Type} {enc:TypeId × Value->H} {w:World} {base:Nat} {held:Bool}
theorem AY:qE Tryz.prog [27,22,145,41,44,42,9,4,29,3,23,148,30,32,24,50,47,129,48,25,91]=true:=by kernel_rfl
end
def iK {α:Type} (f:α->Nat):Nat->List α->Nat
 | n,[]=>n
 | n,x::r=>if n<=10000 then iK f (n+f x) r else n
section
variable {α:Type} {f:α->Nat}
theorem uK {l:List α} (h:10000<n):iK f n l=n:=by
 cases l with
 | nil=>rfl
 | cons x r=>simp only[iK];rw[if_neg (by omega)]
theorem AR {x:α} {l:List α} (h:n<=10000):iK f n (x::l)=iK f (n+f x) l:=by simp only[iK];rw[if_pos h]
theorem uL {B:Nat}:∀ (l:List α) (n M:Nat),(∀ x∈l,f x<=B)->n<=M->10000+B<=M->iK f n l<=M
 | [],n,M,_,h,_=>h
 | x::l,n,M,hf,h,hM=>by
   simp only[iK];split
   .have:=hf x (by simp);exact uL l _ M (fun y hy=>hf y (by simp[hy])) (by omega) hM
   exact h
theorem uM:∀ (l:List α) (n:Nat),n<=iK f n l
 | [],n=>aA _
 | x::l,n=>by
   simp only[iK];split
   .have:=uM l (n+f x);omega
   exact aA _
theorem qX:∀ (l:List α) (n:Nat),iK f n l<=10000->iK f n l=n+(l.map f).sum
 | [],n,_=>by simp[iK]
 | x::l,n,h=>by
   simp only[iK] at h ⊢;split at h
   .next h1 =>
    rw[if_pos h1,qX l _ h];simp;omega
   omega
end
def vW:Nat->Vl->Nat
 | 0,_=>10000
 | k+1,v=>if 3000<v.list.length∨3000<v.keys.length then 10000 else iK (vW k) (1+min v.text.size 10000+(v.keys.map fun s=>min s.size 10000).sum) v.list
theorem oP {α:Type} (f:α->Nat) (B:Nat):∀ l:List α,((l.map fun s=>min (f s) B).sum)<=l.length*B
 | []=>by simp
 | x::l=>by
   have:=oP f B l;simp only[bY,List.sum_cons,aQ,fF];have:=Nat.min_le_right (f x) B;omega
theorem D4:∀ (k:Nat) (v:Vl),vW k v<=30010001+10000*k
 | 0,v=>by simp[vW]
 | k+1,v=>by
   simp only[vW];split
   .omega
   next h =>
   have h1:=oP (fun s:ByteArray=>s.size) 10000 v.keys;have h2:v.keys.length*10000<=30000000:=by omega
   refine uL (B:=30010001+10000*k) _ _ _ (fun x _=>D4 k x) ?_ (by omega);have:=Nat.min_le_right v.text.size 10000;omega
def iS (v:Vl):Bool:=decide (5000<vW 30 v)
def xW:Nat->Ex->Nat
 | 0,_=>10000
 | k+1,x=>if 500<x.l.length then 10000 else iK (xW k) (1+min (x.text.size+x.name.size+x.attr.size) 10000) x.l
theorem DZ:∀ (k:Nat) (x:Ex),xW k x<=10001+10000*k
 | 0,v=>by simp[xW]
 | k+1,v=>by
   simp only[xW];split
   .omega
   next h =>
   refine uL (B:=10001+10000*k) _ _ _ (fun x _=>DZ k x) ?_ (by omega);have:=Nat.min_le_right (v.text.size+v.name.size+v.attr.size) 10000;omega
def iL (x:Ex):Bool:=decide (3000<xW 30 x)
def eW (x:Ex):Nat:=if 50<x.l.length then 10000 else 1+min (x.text.size+x.name.size+x.attr.size) 10000+(x.l.map fun y=>1+y.l.length*10000).sum
def cW:Nat->Cd->Nat
 | 0,_=>10000
 | k+1,c=>if 200<c.l.length then 10000 else iK (cW k) (1+min c.name.size 10000+eW c.a+eW c.b) c.l
def Tm.ok:Nat->Tm->Prop
 | 0,_=>False
 | k+1,t=>t.res.length<=60/\∀ r∈t.res,r.props.length<=60/\r.depends.length<=60/\r.inner.length<=3/\r.id.size+r.type.size+r.cond.size<=3000/\(∀ d∈r.depends,d.size<=3000)/\∀ t'∈r.inner,Tm.ok k t'
theorem kE {α:Type} {f:α->Nat}:∀ {l:List α} {x:α},x∈l->f x<=(l.map f).sum
 | y::l,x,h=>by
   simp only[bY,List.sum_cons];rcases List.mem_cons.1 h with rfl | h
   .omega
   have:=kE (f:=f) h;omega
def MN (n:Nat) (w:World) (e:Ending) (w':World):Prop:=e=.returned (.int .i64 (n:Nat))/\Below w.heap.size w w'
def yC (b:Bool) (w:World) (e:Ending) (w':World):Prop:=e=.returned (.bool b)/\Below w.heap.size w w'
def tX (l:List ByteArray):Nat:=(l.map fun s=>min s.size 10000).sum
theorem GG {s:ByteArray} (h:l[i]?=some s):tX (l.drop i)=min s.size 10000+tX (l.drop (i+1)):=by
 have hi:=(List.getElem?_eq_some_iff.1 h).1;rw[List.drop_eq_getElem_cons hi,(List.getElem?_eq_some_iff.1 h).2];simp[tX]
theorem N4 (l:List ByteArray):tX l<=l.length*10000:=oP _ _ _
variable {l:List α}
theorem fS {x:α} (h:l[i]?=some x):l.drop i=x::l.drop (i+1):=by
 have hi:=(List.getElem?_eq_some_iff.1 h).1;rw[List.drop_eq_getElem_cons hi,(List.getElem?_eq_some_iff.1 h).2]
theorem fO (h:i<l.length):∃ x,l[i]?=some x:=⟨_,aM h⟩
theorem sJ {P:Program} {w:World} {ts:Array TypeId} {a b:Int} {n:Int} (h:min a b=n):(Builtin.min_ ts t #[.int .i64 a,.int .i64 b]).run P w=.ok (.int .i64 n) w:=by
 subst h;simp only[Builtin.min_,List.foldlM,Builtin.min2];by_cases hab:a<=b
 .simp[Builtin.min2];split<;>omega
 simp[Builtin.min2];split<;>omega
theorem vweight_any (S:Nat->Prop):∀ (k:Nat) (v:Vl) (cs:List Value) (w:World),k<=40->Trs.at S w v.tr cs ->
 Calls Tryz.prog 79 #[.agg cs.toArray,.int .i64 (k:Nat)] w (MN (vW k v) w)
 | 0,v,cs,w,hk,hv=>by
   obtain⟨A,c,B,d,rfl,_⟩:=Vl.at_iff.1 hv;clear hv;go_enter Tryz.func79,Tryz.ntmps79;go_wp2;go_ret;exact⟨rfl,(aB _ w).alloc (aA _) _⟩
 | k+1,v,cs,w,hk,hv=>by
   obtain⟨A,c,B,d,rfl,-,-,ht,hl,hks⟩:=Vl.at_iff.1 hv;clear hv;have hlb:=hl.bytes;have hkb:=hks.bytes;have hlc:=hl.cap;have hkc:=hks.cap;have HL:=Hd hl;have HK:=Hd hks;clear hl hks;have hk0:((k:Int)+1==0)=false:=by simp;omega
   have hk9:IntKind.i64.wrap ((k:Int)+1-1)=(k:Int):=by rw[IntWalk.i64_in _ (by omega)];omega
   have hbw:=D4 (k+1) v;by_cases h1:3000<v.list.length
   .have HV:Hid (vW (k+1) v=10000):=Hd (by simp only[vW];rw[if_pos (.inl h1)]);go_enter Tryz.func79,Tryz.ntmps79;go_wp2_with fail;all_goals
     go_ret
     exact⟨by rw[HV.o];rfl,(aB _ w).alloc (aA _) _⟩
   by_cases h2:3000<v.keys.length
   .have HV:Hid (vW (k+1) v=10000):=Hd (by simp only[vW];rw[if_pos (.inr h2)]);go_enter Tryz.func79,Tryz.ntmps79;go_wp2_with fail;all_goals
     go_ret
     exact⟨by rw[HV.o];rfl,(aB _ w).alloc (aA _) _⟩
   have HV:Hid (vW (k+1) v=iK (vW k) (1+min v.text.size 10000+tX v.keys) v.list):=Hd (by simp only[vW];rw[if_neg (by omega)];rfl);have hmk:=N4 v.keys;have hmt:1+min v.text.size 10000+tX v.keys<=30010001:=by omega
   have HW:Hid (∀ x,vW k x<=30010001+10000*k):=Hd (D4 k);have HB0:Hid (Blk (w.alloc (.cells (kV v A c B d) 44)) w.heap.size (kV v A c B d) 44):=Hd (aJ w _ _);have HW0:Hid (Below w.heap.size w (w.alloc (.cells (kV v A c B d) 44))):=Hd ((aB _ w).alloc (aA _) _);obtain⟨t0,ht0⟩:∃ t0,t0=min v.text.size 10000:=⟨_,rfl⟩;rw[<-ht0] at hmt HV;have hmin:min ((v.text.size:Nat):Int) 10000=(t0:Int):=by omega
   have ht1:t0<=10000:=by omega
   go_enter Tryz.func79,Tryz.ntmps79;have hmn:∀ w',(Builtin.min_ #[3,3] 3 #[.int .i64 (v.text.size:Nat),.int .i64 10000]).run Tryz.prog w'=.ok (.int .i64 (t0:Nat)) w':=fun w'=>sJ hmin
   clear ht0;go_wp2_with fail;clear hmin hmn ht1;go_loopg [5,6] v.keys.length (fun g n i wr=>∃ j m:Nat,j+g=v.keys.length/\i=.int .i64 (j:Nat)/\n=.int .i64 (m:Nat)/\m<=30010001/\Hid (m+tX (v.keys.drop j)=1+t0+tX v.keys)/\Hid (Blk wr w.heap.size (kV v A c B d) 44)/\Hid (Below w.heap.size w wr))
   case atStart=>exact⟨0,1+t0,by omega,rfl,by go_num,by omega,Hd (by simp),HB0,HW0⟩
   case round =>
    obtain⟨j,m,hj,rfl,rfl,hm,HM,HB,HW1⟩:=hrel;have b4:wr.cell? ⟨w.heap.size,4,none⟩=some (.slice A v.list.length c):=HB.o.cell 4 rfl;have b5:wr.cell? ⟨w.heap.size,5,none⟩=some (.slice B v.keys.length d):=HB.o.cell 5 rfl;cases gk with
    | zero =>
      have hjj:¬((j:Int)<(v.keys.length:Int)):=by omega
      have HV2:Hid (vW (k+1) v=iK (vW k) m v.list):=Hd (by
       rw[HV.o];have:=HM.o;rw[aP (by omega)] at this;rw[<-this];simp[tX])
      clear HM hj;go_wp2_with fail;go_loopg [5,7] v.list.length (fun g n i wr=>∃ j m:Nat,j+g=v.list.length/\i=.int .i64 (j:Nat)/\n=.int .i64 (m:Nat)/\m<=30010001+10000*(k+1)/\Hid (vW (k+1) v=iK (vW k) m (v.list.drop j))/\Hid (Blk wr w.heap.size (kV v A c B d) 44)/\Hid (Below w.heap.size w wr))
      case atStart=>exact⟨0,m,by omega,rfl,rfl,by omega,HV2,HB,HW1⟩
      case round =>
       obtain⟨j,m,hj,rfl,rfl,hm,HV3,HB2,HW2⟩:=hrel;have b4:wr.cell? ⟨w.heap.size,4,none⟩=some (.slice A v.list.length c):=HB2.o.cell 4 rfl;by_cases hm1:10000<m
       .have hm2:¬((m:Int)<=10000):=by omega
        have HR:Hid (vW (k+1) v=m):=Hd (by rw[HV3.o,uK hm1]);go_wp2_with fail;all_goals
         go_ret
         exact⟨by rw[HR.o];rfl,HW2.o⟩
       have hm2:(m:Int)<=10000:=by omega
       cases gk with
       | zero =>
         have hjj:¬((j:Int)<(v.list.length:Int)):=by omega
         have HR:Hid (vW (k+1) v=m):=Hd (by rw[HV3.o,aP (by omega)];rfl);go_wp2_with fail;all_goals
          go_ret
          exact⟨by rw[HR.o];rfl,HW2.o⟩
       | succ g =>
         have hjj:(j:Int)<(v.list.length:Int):=by omega
         obtain⟨x,hx⟩:=fO (l:=v.list) (i:=j) (by omega);have hd:=fS hx;obtain⟨ad,cs,rfl,hxt,hxc⟩:=(HL.o.below HW2.o).elem dK hx;have HX:=Hd hxt;obtain⟨A2,c2,B2,d2,rfl,-,-,-,-,-⟩:=Vl.at_iff.1 hxt;obtain⟨e0,e1,e2,e3,e4,e5⟩:=iA hxc;have HV4:Hid (vW (k+1) v=iK (vW k) (m+vW k x) (v.list.drop (j+1))):=Hd (by rw[HV3.o,hd,AR (by omega)]);have hxw:=HW.o x;clear hx hd hxt hxc;go_wp2_with fail;refine(vweight_any S k x _ wr (by omega) HX.o).mono ?_;rintro e w2 ⟨rfl,hb⟩;have HB3:=Hd (HB2.o.below hb);have HW3:=Hd (HW2.o.trans (hb.mono HW2.o.size));clear hb;go_wp2_with fail;go_roundg g
         case measure=>omega
         case rel=>exact⟨j+1,m+vW k x,by omega,by go_num,by go_num,by omega,HV4,HB3,HW3⟩
    | succ g =>
      have hjj:(j:Int)<(v.keys.length:Int):=by omega
      obtain⟨s,hs⟩:=fO (l:=v.keys) (i:=j) (by omega);have hd:=GG hs;obtain⟨ad,rfl,hsc,hsz⟩:=(HK.o.below HW1.o).str hs;have HM2:Hid (m+min s.size 10000+tX (v.keys.drop (j+1))=1+t0+tX v.keys):=Hd (by have:=HM.o;omega);have hm2:m+min s.size 10000<=30010001:=by have:=HM2.o;omega
      clear hs hd;obtain⟨s0,hs0⟩:∃ s0,s0=min s.size 10000:=⟨_,rfl⟩;rw[<-hs0] at HM2 hm2;have hmn:∀ w',(Builtin.min_ #[3,3] 3 #[.int .i64 (s.size:Nat),.int .i64 10000]).run Tryz.prog w'=.ok (.int .i64 (s0:Nat)) w':=fun w'=>sJ (by omega)
      clear hs0;go_wp2_with fail;go_roundg g
      case measure=>omega
      case rel=>exact⟨j+1,m+s0,by omega,by go_num,by go_num,by omega,by rw[Nat.add_assoc] at HM2 ⊢;exact HM2,HB,HW1⟩
theorem oM (S:Nat->Prop) (v:Vl) (cs:List Value) (w:World) (hv:Trs.at S w v.tr cs) :
 Calls Tryz.prog 37 #[.agg cs.toArray] w (yC (iS v) w):=by
 have HV:=Hd hv;obtain⟨A,c,B,d,rfl,-,-,ht,hl,hks⟩:=Vl.at_iff.1 hv;clear hv hl hks;have hb:=D4 30 v;go_enter Tryz.func37,Tryz.ntmps37;go_wp2_with fail;refine(vweight_any S 30 v _ _ (by omega) (HV.o.alloc _)).mono ?_;rintro e w2 ⟨rfl,hb⟩;have HB:=Hd (((aB _ w).alloc (aA _) _).trans (hb.mono (by simp)));clear hb;go_wp2;go_ret;exact⟨by rw[show iS v=decide ((5000:Int)<((vW 30 v:Nat):Int)) from decide_eq_decide.2 (by omega)];rfl,HB.o⟩
theorem xweight_any (S:Nat->Prop):∀ (k:Nat) (v:Ex) (cs:List Value) (w:World),k<=40->Trs.at S w v.tr cs ->
 Calls Tryz.prog 22 #[.agg cs.toArray,.int .i64 (k:Nat)] w (MN (xW k v) w)
 | 0,v,cs,w,hk,hv=>by
   obtain⟨A,c,rfl,_⟩:=Ex.at_iff.1 hv;clear hv;go_enter Tryz.func22,Tryz.ntmps22;go_wp2;go_ret;exact⟨rfl,(aB _ w).alloc (aA _) _⟩
 | k+1,v,cs,w,hk,hv=>by
   obtain⟨A,c,rfl,-,-,ht1,ht2,ht3,hl⟩:=Ex.at_iff.1 hv;clear hv;have hlb:=hl.bytes;have hlc:=hl.cap;have HL:=Hd hl;clear hl;have hk0:((k:Int)+1==0)=false:=by simp;omega
   have hk9:IntKind.i64.wrap ((k:Int)+1-1)=(k:Int):=by rw[IntWalk.i64_in _ (by omega)];omega
   have hbw:=DZ (k+1) v;by_cases h1:500<v.l.length
   .have HV:Hid (xW (k+1) v=10000):=Hd (by simp only[xW];rw[if_pos h1]);go_enter Tryz.func22,Tryz.ntmps22;go_wp2_with fail;all_goals
     go_ret
     exact⟨by rw[HV.o];rfl,(aB _ w).alloc (aA _) _⟩
   have HV:Hid (xW (k+1) v=iK (xW k) (1+min (v.text.size+v.name.size+v.attr.size) 10000) v.l):=Hd (by simp only[xW];rw[if_neg h1]);have HW:Hid (∀ x,xW k x<=10001+10000*k):=Hd (DZ k);have HB0:Hid (Blk (w.alloc (.cells (kX v A c) 32)) w.heap.size (kX v A c) 32):=Hd (aJ w _ _);have HW0:Hid (Below w.heap.size w (w.alloc (.cells (kX v A c) 32))):=Hd ((aB _ w).alloc (aA _) _);obtain⟨t0,ht0⟩:∃ t0,t0=min (v.text.size+v.name.size+v.attr.size) 10000:=⟨_,rfl⟩;rw[<-ht0] at HV;have hmin:min ((v.text.size:Int)+(v.name.size:Int)+(v.attr.size:Int)) 10000=(t0:Int):=by omega
   have ht4:t0<=10000:=by omega
   go_enter Tryz.func22,Tryz.ntmps22;have hmn:∀ w',(Builtin.min_ #[3,3] 3 #[.int .i64 ((v.text.size:Int)+(v.name.size:Int)+(v.attr.size:Int)),.int .i64 10000]).run Tryz.prog w'=.ok (.int .i64 (t0:Nat)) w':=fun w'=>sJ hmin
   clear ht0;go_wp2_with fail;clear hmin hmn;go_loopg [5,6] v.l.length (fun g n i wr=>∃ j m:Nat,j+g=v.l.length/\i=.int .i64 (j:Nat)/\n=.int .i64 (m:Nat)/\m<=10001+10000*(k+1)/\Hid (xW (k+1) v=iK (xW k) m (v.l.drop j))/\Hid (Blk wr w.heap.size (kX v A c) 32)/\Hid (Below w.heap.size w wr))
   case atStart=>exact⟨0,1+t0,by omega,rfl,by go_num,by omega,HV,HB0,HW0⟩
   case round =>
    obtain⟨j,m,hj,rfl,rfl,hm,HV3,HB2,HW2⟩:=hrel;have b4:wr.cell? ⟨w.heap.size,5,none⟩=some (.slice A v.l.length c):=HB2.o.cell 5 rfl;by_cases hm1:10000<m
    .have hm2:¬((m:Int)<=10000):=by omega
     have HR:Hid (xW (k+1) v=m):=Hd (by rw[HV3.o,uK hm1]);go_wp2_with fail;all_goals
      go_ret
      exact⟨by rw[HR.o];rfl,HW2.o⟩
    have hm2:(m:Int)<=10000:=by omega
    cases gk with
    | zero =>
      have hjj:¬((j:Int)<(v.l.length:Int)):=by omega
      have HR:Hid (xW (k+1) v=m):=Hd (by rw[HV3.o,aP (by omega)];rfl);go_wp2_with fail;all_goals
       go_ret
       exact⟨by rw[HR.o];rfl,HW2.o⟩
    | succ g =>
      have hjj:(j:Int)<(v.l.length:Int):=by omega
      obtain⟨x,hx⟩:=fO (l:=v.l) (i:=j) (by omega);have hd:=fS hx;obtain⟨ad,cs,rfl,hxt,hxc⟩:=(HL.o.below HW2.o).elem eB hx;have HX:=Hd hxt;obtain⟨A2,c2,rfl,-,-,-,-,-,-⟩:=Ex.at_iff.1 hxt;obtain⟨e0,e1,e2,e3,e4,e5⟩:=iA hxc;have HV4:Hid (xW (k+1) v=iK (xW k) (m+xW k x) (v.l.drop (j+1))):=Hd (by rw[HV3.o,hd,AR (by omega)]);have hxw:=HW.o x;clear hx hd hxt hxc;go_wp2_with fail;refine(xweight_any S k x _ wr (by omega) HX.o).mono ?_;rintro e w2 ⟨rfl,hb⟩;have HB3:=Hd (HB2.o.below hb);have HW3:=Hd (HW2.o.trans (hb.mono HW2.o.size));clear hb;go_wp2_with fail;go_roundg g
      case measure=>omega
      case rel=>exact⟨j+1,m+xW k x,by omega,by go_num,by go_num,by omega,HV4,HB3,HW3⟩
theorem kB (S:Nat->Prop) (v:Ex) (cs:List Value) (w:World) (hv:Trs.at S w v.tr cs) :
 Calls Tryz.prog 7 #[.agg cs.toArray] w (yC (iL v) w):=by
 have HV:=Hd hv;obtain⟨A,c,rfl,-,-,ht1,ht2,ht3,hl⟩:=Ex.at_iff.1 hv;clear hv hl;have hb:=DZ 30 v;go_enter Tryz.func7,Tryz.ntmps7;go_wp2_with fail;refine(xweight_any S 30 v _ _ (by omega) (HV.o.alloc _)).mono ?_;rintro e w2 ⟨rfl,hb⟩;have HB:=Hd (((aB _ w).alloc (aA _) _).trans (hb.mono (by simp)));clear hb;go_wp2;go_ret;exact⟨by rw[show iL v=decide ((3000:Int)<((xW 30 v:Nat):Int)) from decide_eq_decide.2 (by omega)];rfl,HB.o⟩
def eS (l:List Ex):Nat:=(l.map fun y=>1+y.l.length*10000).sum
