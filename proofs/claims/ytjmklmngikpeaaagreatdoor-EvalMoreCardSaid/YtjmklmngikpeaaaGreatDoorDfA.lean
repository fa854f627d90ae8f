/- Part of the proof. -/
import Derived.Test.YtjmklmngikpeaaaGreatDoorPnc
set_option maxRecDepth 100000
set_option maxHeartbeats 8000000
set_option linter.unusedVariables false
set_option linter.unusedSimpArgs false
namespace Go.Proofs.YtjmklmngikpeaaaGreatDoor
open Go.RowKit
variable {x:ByteArray}{nd':List Nd}{l:List Rs}{sc':List Sc}{cs:List Value}{c' j k m n z:Nat}{KN:Nd->Prop}{A':Option Addr}{r:Rs}{KS:Sc->Prop}{f:Tm->Nat × Nat}{α:Type}{w1 w2:World}
theorem tB (h:x=mB):(x.toList==[83,116,97,99,107])=true:=by rw[beq_iff_eq,Lib.toList_data,h];rfl
theorem sZ (h:x≠mB):(x.toList==[83,116,97,99,107])=false:=by
 rw[beq_eq_false_iff_ne];exact fun e=>h (kQ (by rw[<-Lib.toList_data,e];rfl))
def jU (f:Tm->Bool) (left:Nat) (r:Rs):Bool:=if fW r.type mB then (match r.inner with | [τ]=>decide (left≠0)&&f τ | _=>false) else r.inner.isEmpty
def xR:Nat->Tm->Bool
 | 0,t=>t.res.all (jU (fun _=>false) 0)
 | k+1,t=>t.res.all (jU (xR k) (k+1))
def ES:Nat->Tm->Bool
 | 0=>fun _=>false
 | k+1=>xR k
theorem DG (k:Nat) (t:Tm):xR k t=t.res.all (jU (ES k) k):=by cases k<;>rfl
theorem FK {l:List α} {p:α->Bool} {i:Nat} {x:α} (h:l[i]?=some x):(l.take (i+1)).all p=((l.take i).all p&&p x):=by rw[aT,h];simp
def MU (k:Nat):Prop:=∀ (S:Nat->Prop) (t:Tm) (cs:List Value) (w:World),Trs.at S w t.tr cs->Calls Tryz.prog 38 #[.agg cs.toArray,.int .i64 (k:Int)] w (BoolB (xR k t) w)
theorem wR (k:Nat) (hk9:k<=1000) (hI:∀ k',k=k'+1->MU k'):MU k:=by
 intro S t cs w h;obtain⟨A,a,B,b,C,c,D,d,rfl,h1,h2,h3,h4⟩:=Tm.at_iff.1 h;have hcap:=h3.cap;have hmax:=h3.max;unfold maxLen at hmax;obtain⟨W1,hW1⟩:∃ W1,W1=w.alloc (.cells (kT t A a B b C c D d) 27):=⟨_,rfl⟩;have hb1:Below w.heap.size w W1:=by rw[hW1];exact(aB _ w).alloc (aA _) _
 have hbk:Blk W1 w.heap.size (kT t A a B b C c D d) 27:=by rw[hW1];exact aJ w _ _
 have HB1:=Hd hb1;have HBK:=Hd hbk;have HW1:=Hd hW1;have H3:=Hd (h3.below hb1);have HI:=Hd hI;have HE:=Hd (DG k t);clear h h1 h2 h3 h4 hb1 hbk hW1 hI;go_enter Tryz.func38,Tryz.ntmps38;go_upto_region 1 with fail;rw[<-HW1.o];go_wp2_with fail;go_loopg [5] t.res.length (fun g i wr=>∃ j:Nat,j+g=t.res.length/\i=.int .i64 (j:Nat)/\Hid ((t.res.take j).all (jU (ES k) k)=true)/\Hid (Below W1.heap.size W1 wr))
 case atStart=>exact⟨0,by omega,rfl,Hd (by simp),Hd (aB _ _)⟩
 obtain⟨j,hj,rfl,HA,HB⟩:=hrel;rename World=>wo
 obtain⟨x0,x1,x2,x3⟩:=j1 (HBK.o.below HB.o);have HBW:=Hd (HB1.o.trans (HB.o.mono HB1.o.size));cases gk with
 | zero =>
   have hjj:¬((j:Int)<(t.res.length:Int)):=by omega
   have HT:Hid (xR k t=true):=Hd (by rw[HE.o];have:=HA.o;rwa [aN (by omega)] at this);go_wp2;go_ret;exact⟨by rw[HT.o];rfl,HBW.o⟩
 | succ g =>
   have hjj:(j:Int)<(t.res.length:Int):=by omega
   have hji:(0:Int)<=(j:Int)/\(j:Int)<(t.res.length:Int):=by omega
   obtain⟨r,hr⟩:=fO (l:=t.res) (i:=j) (by omega);have HTA:=Hd (FK (p:=jU (ES k) k) hr);have HNO:Hid (jU (ES k) k r=false->xR k t=false):=Hd (fun h=>by
    rw[HE.o,<-Bool.not_eq_true,fB];intro h2;have:=h2 r (aD hr);rw[h] at this;cases this)
   obtain⟨ad,cs,rfl,hrt,hrc⟩:=(H3.o.below HB.o).elem Rs.trlen hr;obtain⟨P1,p1,D1,d1,I1,i1,rfl,-,-,-,-,-,hin⟩:=Rs.at_iff.1 hrt;obtain⟨e0,e1,e2,e3,e4,e5,e6⟩:=lO hrc;obtain⟨W2,hW2⟩:∃ W2,W2=wo.alloc (.cells (kR r P1 p1 D1 d1 I1 i1) 50):=⟨_,rfl⟩;have hb2:Below wo.heap.size wo W2:=by rw[hW2];exact(aB _ wo).alloc (aA _) _
   have hbr:Blk W2 wo.heap.size (kR r P1 p1 D1 d1 I1 i1) 50:=by rw[hW2];exact aJ wo _ _
   obtain⟨y0,y1,y2,y3,y4,y5,y6⟩:=jV hbr;have HW2:=Hd hW2;have HB2:=Hd (HB.o.trans (hb2.mono HB.o.size));have HIN:=Hd (hin.below hb2);have hicap:=hin.cap;clear hr hrt hrc hin hW2 hb2 hbr;go_upto_region 5 with fail;rw[<-HW2.o];clear e0 e1 e2 e3 e4 e5 e6 x0 x1 x2 x3;by_cases hT:r.type=mB
   .have hT2:(!r.type.toList==[83,116,97,99,107])=false:=by rw[tB hT];rfl
    have HD1:Hid (jU (ES k) k r=match r.inner with | [τ]=>decide (k≠0)&&ES k τ | _=>false):=Hd (by unfold jU;rw[bEq_iff.2 hT];rfl);clear hT;by_cases hi1:r.inner.length=1
    .obtain⟨τ,hτ⟩:∃ τ,r.inner=[τ]:=by
      match hm:r.inner,hi1 with
      | [τ],_=>exact⟨τ,rfl⟩
     have HD2:Hid (jU (ES k) k r=(decide (k≠0)&&ES k τ)):=Hd (by rw[HD1.o,hτ]);have hl1:((r.inner.length:Int)!=1)=false:=by rw[hi1];rfl
     have hi0:(0:Int)<=(0:Int)/\(0:Int)<(r.inner.length:Int):=by omega
     obtain⟨adI,tcs,hI1,htt,htc⟩:=HIN.o.elem Tm.trlen (i:=0) (x:=τ) (by rw[hτ];rfl);subst hI1;rw[show adI.add (0*4)=adI by simp[Addr.add]] at htc;clear HD1 hi1 hτ;by_cases hk0:k=0
     .have HF:Hid (xR k t=false):=Hd (HNO.o (by rw[HD2.o,hk0];rfl));have hkk:((k:Int)==0)=true:=by rw[hk0];rfl
      clear hk0 htt htc;go_wp2;go_ret;exact⟨by rw[HF.o];rfl,HB1.o.trans (HB2.o.mono HB1.o.size)⟩
     obtain⟨k',hkk'⟩:∃ k',k=k'+1:=⟨k-1,by omega⟩;have hkk:((k:Int)==0)=false:=by simpa using hk0
     have hsub:IntKind.i64.wrap ((k:Int)-1)=(k':Int):=by rw[hkk',show (((k'+1:Nat):Int)-1)=(k':Int) by omega];rw[IntKind.wrap_i64];omega
     have HD3:Hid (jU (ES k) k r=xR k' τ):=Hd (by rw[HD2.o,hkk'];simp[ES]);have HCL:=Hd (HI.o k' hkk' S τ tcs W2 htt);obtain⟨M1,m1,M2,m2,M3,m3,M4,m4,rfl,-⟩:=Tm.at_iff.1 htt;obtain⟨z0,z1,z2,z3⟩:=DI htc;clear HD2 hk0 hkk' htt htc;cases hq:xR k' τ with
     | true =>
       rw[hq] at HCL HD3;have HA2:Hid ((t.res.take (j+1)).all (jU (ES k) k)=true):=Hd (by rw[HTA.o,HA.o,HD3.o];rfl);clear hq;go_wp2_with fail;refine HCL.o.mono ?_;rintro e w3 ⟨rfl,hb3⟩;have HB3:=Hd (HB2.o.trans (hb3.mono HB2.o.size));clear hb3;go_wp2_with fail;go_roundg g
       case measure=>omega
       case rel=>exact⟨j+1,by omega,by go_num,HA2,HB3⟩
     | false =>
       rw[hq] at HCL HD3;have HF:Hid (xR k t=false):=Hd (HNO.o HD3.o);clear hq;go_wp2_with fail;refine HCL.o.mono ?_;rintro e w3 ⟨rfl,hb3⟩;have HB3:=Hd (HB2.o.trans (hb3.mono HB2.o.size));clear hb3;go_wp2;go_ret;exact⟨by rw[HF.o];rfl,HB1.o.trans (HB3.o.mono HB1.o.size)⟩
    have HF:Hid (xR k t=false):=Hd (HNO.o (by
     rw[HD1.o];split
     .next e=>rw[e] at hi1;simp at hi1
     rfl))
    have hl1:((r.inner.length:Int)!=1)=true:=by simpa using fun h=>hi1 (by omega)
    clear hi1 HD1;go_wp2;go_ret;exact⟨by rw[HF.o];rfl,HB1.o.trans (HB2.o.mono HB1.o.size)⟩
   have hT2:(!r.type.toList==[83,116,97,99,107])=true:=by rw[sZ hT];rfl
   have HD1:Hid (jU (ES k) k r=r.inner.isEmpty):=Hd (by unfold jU;rw[bEq_ne hT];rfl);clear hT;by_cases hi0:0<r.inner.length
   .have hii:(0:Int)<(r.inner.length:Int):=by omega
    have HF:Hid (xR k t=false):=Hd (HNO.o (by rw[HD1.o];cases hr:r.inner with | nil=>rw[hr] at hi0;simp at hi0 | cons _ _=>rfl));clear hi0;go_wp2;go_ret;exact⟨by rw[HF.o];rfl,HB1.o.trans (HB2.o.mono HB1.o.size)⟩
   have hii:¬((0:Int)<(r.inner.length:Int)):=by omega
   have HA2:Hid ((t.res.take (j+1)).all (jU (ES k) k)=true):=Hd (by rw[HTA.o,HA.o,HD1.o];cases hr:r.inner with | nil=>rfl | cons _ _=>rw[hr] at hi0;simp at hi0);clear hi0;go_wp2_with fail;go_roundg g
   case measure=>omega
   case rel=>exact⟨j+1,by omega,by go_num,HA2,HB2⟩
theorem AT:∀ k,k<=1000->MU k
 | 0,h=>wR 0 h (fun k' e=>by omega)
 | k+1,h=>wR (k+1) h (fun k' e=>by
   have:k'=k:=by omega
   subst this;exact AT k' (by omega))
theorem rbare_any (A B C D:Option Addr) (n1 c1 n2 c2 n3 c3 n4 c4:Nat) (w:World):Calls Tryz.prog 40 #[.agg #[.slice A n1 c1,.slice B n2 c2,.slice C n3 c3,.slice D n4 c4]] w fun e w'=>e=.returned (.agg #[.slice A n1 c1,.slice B n2 c2,.slice none 0 0,.slice D n4 c4])/\Below w.heap.size w w':=by
 obtain⟨W3,hW3⟩:∃ W3,W3=(w.alloc (.cells #[.slice A n1 c1,.slice B n2 c2,.slice none 0 0,.slice D n4 c4] 27)).alloc (.cells #[.slice A n1 c1,.slice B n2 c2,.slice none 0 0,.slice D n4 c4] 27):=⟨_,rfl⟩;have hb:Below w.heap.size w W3:=by rw[hW3];exact((aB _ w).alloc (aA _) _).alloc (by simp) _
 have hr:Blk W3 (w.heap.size+1) #[.slice A n1 c1,.slice B n2 c2,.slice none 0 0,.slice D n4 c4] 27:=by
  rw[hW3];have:=aJ (w.alloc (.cells #[.slice A n1 c1,.slice B n2 c2,.slice none 0 0,.slice D n4 c4] 27)) #[.slice A n1 c1,.slice B n2 c2,.slice none 0 0,.slice D n4 c4] 27;rwa [show (w.alloc (.cells #[.slice A n1 c1,.slice B n2 c2,.slice none 0 0,.slice D n4 c4] 27)).heap.size=w.heap.size+1 by simp] at this
 obtain⟨z0,z1,z2,z3⟩:=j1 hr;have HW3:=Hd hW3;have HB:=Hd hb;clear hW3 hb hr;go_enter Tryz.func40,Tryz.ntmps40;go_wp2_with fail;rw[<-HW3.o];refine bodyPost_ret (v:=.agg #[.slice A n1 c1,.slice B n2 c2,.slice none 0 0,.slice D n4 c4]) (by simp[results,Tryz.results40,go_sem,z0,z1,z2,z3]) rfl ?_;exact⟨rfl,HB.o⟩
theorem JK (S:Nat->Prop) (A:Option Addr) (c:Nat) (l:List ByteArray) (x:ByteArray) (w:World) (h:Ss S w A c l) :
 Calls Tryz.prog 44 #[.slice A l.length c,.string x] w (BJ (l.any fun y=>fW y x) w):=by
 have hcap:=h.cap;have hmax:=h.max;unfold maxLen at hmax;have H:=Hd h;clear h;go_enter Tryz.func44,Tryz.ntmps44;go_wp2_with fail;go_loopg [5] l.length (fun g i wr=>∃ j:Nat,j+g=l.length/\i=.int .i64 (j:Nat)/\wr=w/\Hid ((l.take j).any (fun y=>fW y x)=false))
 case atStart=>exact⟨0,by omega,rfl,rfl,Hd (by simp)⟩
 obtain⟨j,hj,rfl,hw,HA⟩:=hrel;obtain rfl:=hw.symm;cases gk with
 | zero =>
   have hjj:¬((j:Int)<(l.length:Int)):=by omega
   have HE:Hid ((l.any fun y=>fW y x)=false):=Hd (by have:=HA.o;rwa [aN (by omega)] at this);go_wp2;go_ret;exact⟨by rw[HE.o];rfl,rfl⟩
 | succ g =>
   have hjj:(j:Int)<(l.length:Int):=by omega
   have hji:(0:Int)<=(j:Int)/\(j:Int)<(l.length:Int):=by omega
   obtain⟨y,hy⟩:=fO (l:=l) (i:=j) (by omega);have HTA:=Hd (FJ (p:=fun y=>fW y x) hy);have HM:=Hd (aD hy);obtain⟨ad,rfl,hc,-⟩:=H.out.str hy;clear hy;by_cases hq:y=x
   .have hqt:=yU hq;have HE:Hid ((l.any fun y=>fW y x)=true):=Hd (List.any_eq_true.2 ⟨y,HM.o,bEq_iff.2 hq⟩);clear hq;go_wp2;go_ret;exact⟨by rw[HE.o];rfl,rfl⟩
   have hqt:=vK hq;have HA2:Hid ((l.take (j+1)).any (fun y=>fW y x)=false):=Hd (by rw[HTA.o,HA.o,bEq_ne hq];rfl);clear hq;go_wp2_with fail;go_roundg g
   case measure=>omega
   case rel=>exact⟨j+1,by omega,by go_num,rfl,HA2⟩
def ML (e:Ending):Prop:=∃ b:Bool,e=.returned (.bool b)
theorem DM (s id:ByteArray) (w:World) (hs:s.size<=9500000000000000) (hi:id.size<=9500000000000000) :
 Calls Tryz.prog 80 #[.string s,.string id] w fun e w'=>ML e/\w'=w:=by
 by_cases h1:id.size+1<s.size
 .have d1:decide (id.size+1<s.size)=true:=decide_eq_true h1;have d2:decide ((id.size:Int)+1<(s.size:Int))=true:=decide_eq_true (by omega);have hsl:=oQ (P:=Tryz.prog) w 9 s Tryz.underlying9 .i64 id.size (id.size:Int) rfl (by omega);have hix:(0:Int)<=(id.size:Int)/\(id.size:Int)<(s.size:Int):=by omega
  by_cases h2:s.extract 0 id.size=id
  .have hb:=yU h2;clear h2 h1;go_enter Tryz.func80,Tryz.ntmps80;go_wp2;go_ret;exact⟨⟨_,rfl⟩,rfl⟩
  have hb:=vK h2;clear h2 h1;go_enter Tryz.func80,Tryz.ntmps80;go_wp2;go_ret;exact⟨⟨_,rfl⟩,rfl⟩
 have d1:decide (id.size+1<s.size)=false:=decide_eq_false h1;have d2:decide ((id.size:Int)+1<(s.size:Int))=false:=decide_eq_false (by omega);clear h1;go_enter Tryz.func80,Tryz.ntmps80;go_wp2;go_ret;exact⟨⟨_,rfl⟩,rfl⟩
theorem CS (S:Nat->Prop) (SA NA:Option Addr) (sn sC nC:Nat) (xs:List Nc) (x:ByteArray) (w:World) (h:Rd w 11 NA xs.length nC (xs.flatMap Nc.cs)) :
 Calls Tryz.prog 43 #[.agg #[.slice SA sn sC,.slice NA xs.length nC],.string x] w fun e w'=>ML e/\Below w.heap.size w w':=by
 have hcap:=h.cap;have hmax:=h.max;unfold maxLen at hmax;obtain⟨W1,hW1⟩:∃ W1,W1=w.alloc (.cells #[.slice SA sn sC,.slice NA xs.length nC] 36):=⟨_,rfl⟩;have hb1:Below w.heap.size w W1:=by rw[hW1];exact(aB _ w).alloc (aA _) _
 have hbk:Blk W1 w.heap.size #[.slice SA sn sC,.slice NA xs.length nC] 36:=by rw[hW1];exact aJ w _ _
 obtain⟨f0,f1⟩:=gO hbk;have HB1:=Hd hb1;have HW1:=Hd hW1;have H:=Hd (h.below hb1);clear h hb1 hbk hW1;go_enter Tryz.func43,Tryz.ntmps43;go_upto_region 1 with fail;rw[<-HW1.o];go_wp2_with fail;go_loopg [5] xs.length (fun g i wr=>∃ j:Nat,j+g=xs.length/\i=.int .i64 (j:Nat)/\wr=W1)
 case atStart=>exact⟨0,by omega,rfl,rfl⟩
 obtain⟨j,hj,rfl,hw⟩:=hrel;obtain rfl:=hw.symm;cases gk with
 | zero =>
   have hjj:¬((j:Int)<(xs.length:Int)):=by omega
   go_wp2;go_ret;exact⟨⟨_,rfl⟩,HB1.o⟩
 | succ g =>
   have hjj:(j:Int)<(xs.length:Int):=by omega
   have hji:(0:Int)<=(j:Int)/\(j:Int)<(xs.length:Int):=by omega
   obtain⟨y,hy⟩:=fO (l:=xs) (i:=j) (by omega);obtain⟨ad,rfl,hc⟩:=H.out.ncell hy;have e0:=hc 0 _ (show y.cs[0]?=some (.string y.id) from rfl);rw[if_pos rfl] at e0;clear hy hc;by_cases hq:y.id=x
   .have hqt:=yU hq;clear hq;go_wp2;go_ret;exact⟨⟨_,rfl⟩,HB1.o⟩
   have hqt:=vK hq;clear hq;go_wp2_with fail;go_roundg g
   case measure=>omega
   case rel=>exact⟨j+1,by omega,by go_num,rfl⟩
theorem CD (SA NA:Option Addr) (sn sC nC:Nat) (xs:List Nc) (x:ByteArray) (w:World) (h:Rd w 11 NA xs.length nC (xs.flatMap Nc.cs)) (hx:x.size<=9500000000000000) (hi:∀ y∈xs,y.id.size<=9500000000000000) (hn:xs.length<=1000000) :
 Calls Tryz.prog 42 #[.agg #[.slice SA sn sC,.slice NA xs.length nC],.string x] w fun e w'=>∃ (A:Option Addr) (c:Nat) (l:List Nat),e=.returned (.slice A l.length c)/\Ow w' w.heap.size 3 1 A l.length c (cN l)/\Below w.heap.size w w'/\l.length<=xs.length/\∀ k∈l,k<xs.length:=by
 have hcap:=h.cap;have hmax:=h.max;unfold maxLen at hmax;obtain⟨W1,hW1⟩:∃ W1,W1=w.alloc (.cells #[.slice SA sn sC,.slice NA xs.length nC] 36):=⟨_,rfl⟩;have hb1:Below w.heap.size w W1:=by rw[hW1];exact(aB _ w).alloc (aA _) _
 have hbk:Blk W1 w.heap.size #[.slice SA sn sC,.slice NA xs.length nC] 36:=by rw[hW1];exact aJ w _ _
 have HB1:=Hd hb1;have HW1:=Hd hW1;have HBK:=Hd hbk;have H:=Hd (h.below hb1);have HI:=Hd hi;have HLO:Hid (w.heap.size<=W1.heap.size):=Hd hb1.size;clear h hb1 hbk hW1 hi;go_enter Tryz.func42,Tryz.ntmps42;go_upto_region 1 with fail;rw[<-HW1.o];go_wp2_with fail;go_loopg [5,6] xs.length (fun g v i wr=>∃ (j:Nat) (A:Option Addr) (c:Nat) (l:List Nat),j+g=xs.length/\i=.int .i64 (j:Nat)/\v=.slice A l.length c/\Hid (l.length<=j)/\Hid (∀ k∈l,k<xs.length)/\Hid (Ow wr W1.heap.size 3 1 A l.length c (cN l))/\Hid (Below W1.heap.size W1 wr))
 case atStart=>exact⟨0,none,0,[],by omega,rfl,rfl,Hd (by simp),Hd (fun k hk=>by cases hk),Hd (dF _ _ _ _),Hd (aB _ _)⟩
 obtain⟨j,A,c,l,hj,rfl,rfl,HLJ,HLL,HO,HB⟩:=hrel;rename World=>wo
 obtain⟨f0,f1⟩:=gO (HBK.o.below HB.o);cases gk with
 | zero =>
   have hjj:¬((j:Int)<(xs.length:Int)):=by omega
   go_wp2;go_ret;exact⟨A,c,l,rfl,HO.o.le HLO.o,HB1.o.trans (HB.o.mono HB1.o.size),by have:=HLJ.o;omega,HLL.o⟩
 | succ g =>
   have hjj:(j:Int)<(xs.length:Int):=by omega
   have hji:(0:Int)<=(j:Int)/\(j:Int)<(xs.length:Int):=by omega
   obtain⟨y,hy⟩:=fO (l:=xs) (i:=j) (by omega);obtain⟨ad,rfl,hc⟩:=(H.out.below HB.o).ncell hy;have e0:=hc 0 _ (show y.cs[0]?=some (.string y.id) from rfl);rw[if_pos rfl] at e0;have HBG:=Hd (DM y.id x wo (HI.o y (aD hy)) hx);clear hy hc;go_wp2_with fail;refine HBG.o.mono ?_;rintro e w2 ⟨⟨b,rfl⟩,hw⟩;obtain rfl:=hw.symm;cases b with
   | false =>
     go_wp2_with fail;go_roundg g
     case measure=>omega
     case rel=>exact⟨j+1,A,c,l,by omega,by go_num,rfl,Hd (by have:=HLJ.o;omega),HLL,HO,HB⟩
   | true =>
     have hll:l.length<=1000000:=by have:=HLJ.o;omega
     have HRN:=Hd (cQ wo 1 1 #[.int .i64 (j:Int)] 3 (0,0) rfl (by simp[maxLen]));have hlo:W1.heap.size<=wo.heap.size:=HB.o.size;go_wp2_with (at_builtin;refine wpList_row info_int Tryz.underlying116 rfl (by omega) rfl (.tmp 22) (.tmp 24) rfl W1.heap.size A c l.length (cN l) rfl (HO.o.alloc _) (some ⟨wo.heap.size,0,none⟩) 1 1 [.int .i64 (j:Int)] rfl HRN.o (by simp[Value.oneCell']) (by omega) (by omega) (by simp;omega) ?_;intro A' c' w8 ho hg hat;have HO8:=Hd ho;have HG8:=Hd hg;clear ho hg hat);go_roundg g
     case measure=>omega
     case rel =>
      refine⟨j+1,A',c',l++[j],by omega,by go_num,by simp,Hd (by simp;exact HLJ.o),Hd (fun k hk=>?_),Hd (by have:=HO8.o;simpa [cN] using this),Hd ((HB.o.alloc hlo _).grown HG8.o (by simp;omega) (fun k hk=>(HO.o.lt hk).1))⟩;rcases List.mem_append.1 hk with hk | hk
      .exact HLL.o k hk
      rw[aR] at hk;subst hk;omega
def cnOne (f:Tm->Nat × Nat) (a:Nat × Nat) (r:Rs):Nat × Nat:=if fW r.type mB then (match r.inner with | [τ]=>(a.1+(f τ).1,a.2+(f τ).2) | _=>a) else (a.1+1,a.2)
def lF:Nat->Tm->Nat × Nat
 | 0,t=>t.res.foldl (cnOne (fun _=>(0,0))) (0,1)
 | k+1,t=>t.res.foldl (cnOne (lF k)) (0,1)
def xX:Nat->Tm->Nat × Nat
 | 0=>fun _=>(0,0)
 | k+1=>lF k
theorem LP (k:Nat) (t:Tm):lF k t=t.res.foldl (cnOne (xX k)) (0,1):=by cases k<;>rfl
theorem LQ (f:Tm->Nat × Nat) (a:Nat × Nat) (r:Rs):a.1<=(cnOne f a r).1/\a.2<=(cnOne f a r).2:=by
 unfold cnOne;split
 .split
  .exact⟨aU _ _,aU _ _⟩
  exact⟨aA _,aA _⟩
 exact⟨fI _,aA _⟩
theorem wU (f:Tm->Nat × Nat):∀ (l:List Rs) (a:Nat × Nat),a.1<=(l.foldl (cnOne f) a).1/\a.2<=(l.foldl (cnOne f) a).2
 | [],a=>⟨aA _,aA _⟩
 | r::l,a=>by
   have h1:=LQ f a r;have h2:=wU f l (cnOne f a r);exact⟨bB h1.1 h2.1,bB h1.2 h2.2⟩
theorem xV (h:l[j]?=some r):(l.take (j+1)).foldl (cnOne f) (0,1)=cnOne f ((l.take j).foldl (cnOne f) (0,1)) r:=by
 rw[aT,h,cA,cS];rfl
theorem nU:((l.take j).foldl (cnOne f) (0,1)).1<=(l.foldl (cnOne f) (0,1)).1/\((l.take j).foldl (cnOne f) (0,1)).2<=(l.foldl (cnOne f) (0,1)).2:=by
 have h:=wU f (l.drop j) ((l.take j).foldl (cnOne f) (0,1));rw[<-cS,cJ] at h;exact h
def DU (k:Nat):Prop:=∀ (S:Nat->Prop) (t:Tm) (cs:List Value) (w:World),xR k t=true->(lF k t).1<=1000000000->(lF k t).2<=1000000000->Trs.at S w t.tr cs ->
 Calls Tryz.prog 39 #[.agg cs.toArray] w fun e w'=>e=.returned (.tuple #[.int .i64 ((lF k t).1:Nat),.int .i64 ((lF k t).2:Nat)])/\Below w.heap.size w w'
theorem uN (k:Nat) (hI:∀ k',k=k'+1->DU k'):DU k:=by
 intro S t cs w hdp hn1 hn2 h;obtain⟨A,a,B,b,C,c,D,d,rfl,h1,h2,h3,h4⟩:=Tm.at_iff.1 h;have hcap:=h3.cap;have hmax:=h3.max;unfold maxLen at hmax;obtain⟨W1,hW1⟩:∃ W1,W1=w.alloc (.cells (kT t A a B b C c D d) 27):=⟨_,rfl⟩;have hb1:Below w.heap.size w W1:=by rw[hW1];exact(aB _ w).alloc (aA _) _
 have hbk:Blk W1 w.heap.size (kT t A a B b C c D d) 27:=by rw[hW1];exact aJ w _ _
 have HB1:=Hd hb1;have HBK:=Hd hbk;have HW1:=Hd hW1;have H3:=Hd (h3.below hb1);have HI:=Hd hI;have HE:=Hd (LP k t);have HDP:Hid (∀ r∈t.res,jU (ES k) k r=true):=Hd (by rw[DG,fB] at hdp;exact hdp);have HN:Hid (((t.res.foldl (cnOne (xX k)) (0,1)).1<=1000000000)/\(t.res.foldl (cnOne (xX k)) (0,1)).2<=1000000000):=Hd (by rw[<-HE.o];exact⟨hn1,hn2⟩);clear h h1 h2 h3 h4 hb1 hbk hW1 hI hdp hn1 hn2;go_enter Tryz.func39,Tryz.ntmps39;go_upto_region 1 with fail;rw[<-HW1.o];go_wp2_with fail;go_loopg [4,5,6] t.res.length (fun g x y i wr=>∃ (j p q:Nat),j+g=t.res.length/\x=.int .i64 (p:Nat)/\y=.int .i64 (q:Nat)/\i=.int .i64 (j:Nat)/\Hid ((t.res.take j).foldl (cnOne (xX k)) (0,1)=(p,q))/\Hid (Below W1.heap.size W1 wr))
 case atStart=>exact⟨0,0,1,by omega,rfl,rfl,rfl,Hd (by simp),Hd (aB _ _)⟩
 obtain⟨j,p,q,hj,rfl,rfl,rfl,HA,HB⟩:=hrel;rename World=>wo
 obtain⟨x0,x1,x2,x3⟩:=j1 (HBK.o.below HB.o);have HBW:=Hd (HB1.o.trans (HB.o.mono HB1.o.size));have hpq:p<=1000000000/\q<=1000000000:=by
  have h1:=nU (f:=xX k) (l:=t.res) (j:=j);rw[HA.o] at h1;have h2:=HN.o;exact⟨bB h1.1 h2.1,bB h1.2 h2.2⟩
 cases gk with
 | zero =>
   have hjj:¬((j:Int)<(t.res.length:Int)):=by omega
   have HT:Hid (lF k t=(p,q)):=Hd (by rw[HE.o];have:=HA.o;rwa [aN (by omega)] at this);go_wp2_with fail;refine bodyPost_ret (v:=.tuple #[.int .i64 (p:Int),.int .i64 (q:Int)]) (by simp[results,Tryz.results39,go_sem]) rfl ?_;rw[HT.o];exact⟨rfl,HBW.o⟩
 | succ g =>
   have hjj:(j:Int)<(t.res.length:Int):=by omega
   have hji:(0:Int)<=(j:Int)/\(j:Int)<(t.res.length:Int):=by omega
   obtain⟨r,hr⟩:=fO (l:=t.res) (i:=j) (by omega);have HTA:=Hd (xV (f:=xX k) hr);have hdr:=HDP.o r (aD hr);have hle:=nU (f:=xX k) (l:=t.res) (j:=j+1);rw[xV hr,HA.o] at hle;obtain⟨ad,cs,rfl,hrt,hrc⟩:=(H3.o.below HB.o).elem Rs.trlen hr;obtain⟨P1,p1,D1,d1,I1,i1,rfl,-,-,-,-,-,hin⟩:=Rs.at_iff.1 hrt;obtain⟨e0,e1,e2,e3,e4,e5,e6⟩:=lO hrc;have HIN:=Hd hin;clear hr hrt hrc hin;by_cases hT:r.type=mB
   .have hT1:=tB hT;unfold jU at hdr;rw[bEq_iff.2 hT,if_pos rfl] at hdr;have hcn:cnOne (xX k) (p,q) r=match r.inner with | [τ]=>(p+(xX k τ).1,q+(xX k τ).2) | _=>(p,q):=by unfold cnOne;rw[bEq_iff.2 hT];rfl
    obtain⟨τ,hτ⟩:∃ τ,r.inner=[τ]:=by
     split at hdr
     .next τ e=>exact⟨τ,e⟩
     cases hdr
    rw[hτ] at hdr hcn;simp only[bJ,decide_eq_true_eq] at hdr;obtain⟨k',hk'⟩:∃ k',k=k'+1:=⟨k-1,by have:=hdr.1;omega⟩;have hd2:xR k' τ=true:=by have:=hdr.2;rw[hk'] at this;exact this
    have hcf:xX k τ=lF k' τ:=by rw[hk'];rfl
    simp only at hcn;rw[hcf] at hcn;rw[hcn] at hle;obtain⟨adI,tcs,hI1,htt,htc⟩:=HIN.o.elem Tm.trlen (i:=0) (x:=τ) (by rw[hτ];rfl);subst hI1;rw[show adI.add (0*4)=adI by simp[Addr.add]] at htc;have hi0:(0:Int)<=(0:Int)/\(0:Int)<(r.inner.length:Int):=by rw[hτ];simp
    have hb1:(lF k' τ).1<=1000000000:=by have:=HN.o.1;have:=hle.1;simp only at this;omega
    have hb2:(lF k' τ).2<=1000000000:=by have:=HN.o.2;have:=hle.2;simp only at this;omega
    have HCL:=Hd (HI.o k' hk' S τ tcs wo hd2 hb1 hb2 htt);obtain⟨M1,m1,M2,m2,M3,m3,M4,m4,rfl,-⟩:=Tm.at_iff.1 htt;obtain⟨z0,z1,z2,z3⟩:=DI htc;have HA2:Hid ((t.res.take (j+1)).foldl (cnOne (xX k)) (0,1)=(p+(lF k' τ).1,q+(lF k' τ).2)):=Hd (by rw[HTA.o,HA.o];exact hcn);obtain⟨u,hu⟩:∃ u,u=(lF k' τ).1:=⟨_,rfl⟩;obtain⟨v,hv⟩:∃ v,v=(lF k' τ).2:=⟨_,rfl⟩;rw[<-hu,<-hv] at HCL HA2;rw[<-hu] at hb1;rw[<-hv] at hb2;have hsum:p+u<=1000000000/\q+v<=1000000000:=by
     have h1:=HN.o;have h2:=hle;simp only at h2;rw[<-hu,<-hv] at h2;omega
    clear hT hdr hcn hτ hk' hd2 hcf hle htt htc hu hv;go_wp2_with fail;refine HCL.o.mono ?_;rintro e w3 ⟨rfl,hb3⟩;have HB3:=Hd (HB.o.trans (hb3.mono HB.o.size));clear hb3 x0 x1 x2 x3 e0 e1 e2 e3 e4 e5 e6 z0 z1 z2 z3;go_wp2_with fail;go_roundg g
    case measure=>omega
    case rel=>exact⟨j+1,p+u,q+v,by omega,by go_num,by go_num,by go_num,HA2,HB3⟩
   have hT1:=sZ hT;have HA2:Hid ((t.res.take (j+1)).foldl (cnOne (xX k)) (0,1)=(p+1,q)):=Hd (by rw[HTA.o,HA.o];unfold cnOne;rw[bEq_ne hT];rfl);clear hT hdr hle;go_wp2_with fail;go_roundg g
   case measure=>omega
   case rel=>exact⟨j+1,p+1,q,by omega,by go_num,rfl,by go_num,HA2,HB⟩
theorem wS:∀ k,DU k
 | 0=>uN 0 (fun k' e=>by omega)
 | k+1=>uN (k+1) (fun k' e=>by
   have:k'=k:=by omega
   subst this;exact wS k')
structure Rz where
 A1:Option Addr
 c1:Nat
 x1:List Value
 A2:Option Addr
 c2:Nat
 x2:List Value
def Rz.mu (R:Rz) (q k:Nat):Prop:=k=q∨blk R.A1=some k∨blk R.A2=some k
structure Bz (B:Nat) (w:World) (q:Nat) (R:Rz) (sc:List Sc) (nd:List Nd):Prop where
 box:Blk w q #[.slice R.A1 sc.length R.c1,.slice R.A2 nd.length R.c2] 113
 hq:B<=q
 r1:Ow w B 89 7 R.A1 sc.length R.c1 R.x1
 r2:Ow w B 53 11 R.A2 nd.length R.c2 R.x2
 t1:Trs.at (Sf B (R.mu q) w) w (sc.flatMap Sc.tr) R.x1
 t2:Trs.at (Sf B (R.mu q) w) w (nd.flatMap Nd.tr) R.x2
section
variable {B q:Nat} {R:Rz} {sc:List Sc} {nd:List Nd} {w w':World}
theorem Bz.mu_lt (h:Bz B w q R sc nd) (hk:R.mu q k):B<=k/\k<w.heap.size:=by
 rcases hk with rfl | hk | hk
 .exact⟨h.hq,h.box.lt⟩
 .exact h.r1.lt hk
 exact h.r2.lt hk
theorem Bz.below (h:Bz B w q R sc nd) (hb:Below w.heap.size w w'):Bz B w' q R sc nd:=by
 have hg:lP (R.mu q) (R.mu q) w w':=bL hb;exact⟨h.box.below hb,h.hq,h.r1.below hb,h.r2.below hb,h.t1.go hg,h.t2.go hg⟩
theorem Bz.add1 (h:Bz B w q R sc nd) (hb:Below w.heap.size w w1) {n:Sc}
 (hn:Trs.at (Sf B (R.mu q) w1) w1 n.tr cs) (ho:Ow w2 B 89 7 A' (sc.length+1) c' (R.x1++cs)) (hg:w1.grownBy w2 (blk R.A1)) (hat:A'=R.A1∨A'=some ⟨w1.heap.size,0,none⟩) :
 ∃ R':Rz,Bz B (w2.setCell ⟨q,0,none⟩ (.slice A' (sc.length+1) c')) q R' (sc++[n]) nd/\lP (R.mu q) (R'.mu q) w (w2.setCell ⟨q,0,none⟩ (.slice A' (sc.length+1) c')):=by
 have h':=h.below hb;refine⟨{R with A1:=A',c1:=c',x1:=R.x1++cs},?_⟩;have hgo:lP (R.mu q) (Rz.mu {R with A1:=A',c1:=c',x1:=R.x1++cs} q) w1 (w2.setCell ⟨q,0,none⟩ (.slice A' (sc.length+1) c')) :=
  ⟨EH hg 0 _ (.inl rfl) (fun k hk=>.inr (.inl hk)),fun k hk hf=>by
    rcases hf with hf | hf | hf
    .exact .inl hf
    .exact .inr (.inl (mu_new hat hk hf))
    exact .inr (.inr hf)⟩
 have hbq:blk R.A1≠some q:=h'.r1.ne_blk h'.box (by decide);have hblk2:=h'.box.grown hg hbq;have hb2:blk R.A2=none∨blk R.A2≠blk R.A1:=h'.r2.ne h'.r1 (by decide);have k2:=(h'.r2.grown hg hb2).setOther ⟨q,0,none⟩ (.slice A' (sc.length+1) c') (h'.r2.ne_blk h'.box (by decide));have k1:=ho.setOther ⟨q,0,none⟩ (.slice A' (sc.length+1) c') (ho.ne_blk hblk2 (by decide));have s1:Trs.at (Sf B (Rz.mu {R with A1:=A',c1:=c',x1:=R.x1++cs} q) (w2.setCell ⟨q,0,none⟩ (.slice A' (sc.length+1) c'))) (w2.setCell ⟨q,0,none⟩ (.slice A' (sc.length+1) c')) ((sc++[n]).flatMap Sc.tr) (R.x1++cs):=by
  rw[bE];exact Trs.at.app.2 ⟨_,_,rfl,h'.t1.go hgo,by simpa using hn.go hgo⟩
 have s2:=h'.t2.go hgo;exact⟨⟨(hblk2.set 0 _).eq (by simp),h.hq,by rw[aS];exact k1,k2,s1,s2⟩,(bL hb).trans hgo⟩
theorem Bz.add2 (h:Bz B w q R sc nd) (hb:Below w.heap.size w w1) {n:Nd}
 (hn:Trs.at (Sf B (R.mu q) w1) w1 n.tr cs) (ho:Ow w2 B 53 11 A' (nd.length+1) c' (R.x2++cs)) (hg:w1.grownBy w2 (blk R.A2)) (hat:A'=R.A2∨A'=some ⟨w1.heap.size,0,none⟩) :
 ∃ R':Rz,Bz B (w2.setCell ⟨q,1,none⟩ (.slice A' (nd.length+1) c')) q R' sc (nd++[n])/\lP (R.mu q) (R'.mu q) w (w2.setCell ⟨q,1,none⟩ (.slice A' (nd.length+1) c')):=by
 have h':=h.below hb;refine⟨{R with A2:=A',c2:=c',x2:=R.x2++cs},?_⟩;have hgo:lP (R.mu q) (Rz.mu {R with A2:=A',c2:=c',x2:=R.x2++cs} q) w1 (w2.setCell ⟨q,1,none⟩ (.slice A' (nd.length+1) c')) :=
  ⟨EH hg 1 _ (.inl rfl) (fun k hk=>.inr (.inr hk)),fun k hk hf=>by
    rcases hf with hf | hf | hf
    .exact .inl hf
    .exact .inr (.inl hf)
    exact .inr (.inr (mu_new hat hk hf))⟩
 have hbq:blk R.A2≠some q:=h'.r2.ne_blk h'.box (by decide);have hblk2:=h'.box.grown hg hbq;have hb1:blk R.A1=none∨blk R.A1≠blk R.A2:=h'.r1.ne h'.r2 (by decide);have k1:=(h'.r1.grown hg hb1).setOther ⟨q,1,none⟩ (.slice A' (nd.length+1) c') (h'.r1.ne_blk h'.box (by decide));have k2:=ho.setOther ⟨q,1,none⟩ (.slice A' (nd.length+1) c') (ho.ne_blk hblk2 (by decide));have s2:Trs.at (Sf B (Rz.mu {R with A2:=A',c2:=c',x2:=R.x2++cs} q) (w2.setCell ⟨q,1,none⟩ (.slice A' (nd.length+1) c'))) (w2.setCell ⟨q,1,none⟩ (.slice A' (nd.length+1) c')) ((nd++[n]).flatMap Nd.tr) (R.x2++cs):=by
  rw[bE];exact Trs.at.app.2 ⟨_,_,rfl,h'.t2.go hgo,by simpa using hn.go hgo⟩
 have s1:=h'.t1.go hgo;exact⟨⟨(hblk2.set 1 _).eq (by simp),h.hq,k1,by rw[aS];exact k2,s1,s2⟩,(bL hb).trans hgo⟩
theorem Bz.pre (h:Bz B w q R sc nd) {i:Nat} {c:Sc} (hc:sc[i]?=some c):∃ ad,R.A1=some ad/\w.cell? ⟨(ad.add (i*7)).block,(ad.add (i*7)).off+1,none⟩=some (.string c.pre)/\i<sc.length:=by
 obtain⟨ad,cs,hA,hcs,hlen,hcel⟩:=Rd.elem dS (by omega) h.r1.rd h.t1 hc;obtain⟨ts,A,cc,rfl,-⟩:=Sc.at_iff.1 hcs;refine⟨ad,hA,?_,(List.getElem?_eq_some_iff.1 hc).1⟩;have:=hcel 1 _ rfl;rwa [nW _ (by omega)] at this
end
def rZ (r:Rs):Prop:=r.id.size+r.type.size+r.cond.size<=450000000000000/\r.depends.length<=60/\∀ d∈r.depends,d.size<=450000000000000
def rK (KN:Nd->Prop) (d:Nat) (z:Nat) (pre:ByteArray) (r:Rs):Prop:=∀ gs af,(pre++r.id).size<=3000000000000000->gs.length<=d+(if fW r.cond ByteArray.empty=true then 0 else 1)->af.length<=60*(d+1)->(∀ a∈af,a.size<=9000000000000000)->KN ⟨pre++r.id,(z:Int),r,gs,af⟩
def IC (KS:Sc->Prop) (KN:Nd->Prop):Nat->Nat->Nat->ByteArray->Tm->Prop
 | 0,d,z,pre,t=>t.res.length<=60/\∀ r∈t.res,rZ r/\rK KN d z pre r
 | k+1,d,z,pre,t=>t.res.length<=60/\∀ r∈t.res,(rZ r/\rK KN d z pre r) /\
     ∀ τ∈r.inner,(∀ z pre,pre.size<=6000000000000000->KS ⟨z,pre,jK τ,r.props⟩)/\∀ z':Nat,IC KS KN k (d+1) z' (pre++r.id++oJ) τ
theorem IC.res {KS:Sc->Prop} {KN:Nd->Prop} {k d z:Nat} {pre:ByteArray} {t:Tm} (h:IC KS KN k d z pre t):t.res.length<=60/\∀ r∈t.res,rZ r/\rK KN d z pre r:=by
 cases k with
 | zero=>exact h
 | succ k=>exact⟨h.1,fun r hr=>(h.2 r hr).1⟩
theorem IC.inner {d:Nat} {pre:ByteArray} {t:Tm} (h:IC KS KN (k+1) d z pre t) (hr:r∈t.res) {τ:Tm} (hτ:τ∈r.inner):(∀ z pre,pre.size<=6000000000000000->KS ⟨z,pre,jK τ,r.props⟩)/\∀ z':Nat,IC KS KN k (d+1) z' (pre++r.id++oJ) τ:=(h.2 r hr).2 τ hτ
def qC (n:Nat) (g:Gd):Prop:=g.name.size<=3000000000000000/\0<=g.scope/\g.scope<(n:Int)
structure PutR (KS:Sc->Prop) (KN:Nd->Prop) (sc sc':List Sc) (nd nd':List Nd) (n m:Nat):Prop where
 sc:∃ ls,sc'=sc++ls/\ls.length+1=m/\∀ c∈ls,KS c/\c.pre.size<=6000000000000000
 nd:∃ ln,nd'=nd++ln/\ln.length=n/\∀ x∈ln,KN x
theorem PutR.nil (KS:Sc->Prop) (KN:Nd->Prop) (sc:List Sc) (nd:List Nd):PutR KS KN sc sc nd nd 0 1:=⟨⟨[],by simp,rfl,fun _ h=>by cases h⟩,⟨[],by simp,rfl,fun _ h=>by cases h⟩⟩
theorem PutR.node {sc:List Sc} {nd:List Nd} (h:PutR KS KN sc sc' nd nd' n m) {x:Nd} (hx:KN x):PutR KS KN sc sc' nd (nd'++[x]) (n+1) m:=by
 obtain⟨h1,ln,rfl,h2,h3⟩:=h;refine⟨h1,ln++[x],by simp,by simp[h2],fun y hy=>?_⟩;rcases List.mem_append.1 hy with hy | hy
 .exact h3 y hy
 rw[aR] at hy;subst hy;exact hx
theorem PutR.scope {sc:List Sc} {nd:List Nd} (h:PutR KS KN sc sc' nd nd' n m) {x:Sc} (hx:KS x/\x.pre.size<=6000000000000000):PutR KS KN sc (sc'++[x]) nd nd' n (m+1):=by
 obtain⟨⟨ls,rfl,h2,h3⟩,h1⟩:=h;refine⟨⟨ls++[x],by simp,by simp[<-h2],fun y hy=>?_⟩,h1⟩;rcases List.mem_append.1 hy with hy | hy
 .exact h3 y hy
 rw[aR] at hy;subst hy;exact hx
theorem PutR.then {sc sc'':List Sc} {nd nd'':List Nd} {n' m':Nat} (h:PutR KS KN sc sc' nd nd' n m) (h':PutR KS KN sc' sc'' nd' nd'' n' m'):PutR KS KN sc sc'' nd nd'' (n+n') (m+m'-1):=by
 obtain⟨⟨ls,rfl,h2,h3⟩,ln,rfl,h4,h5⟩:=h;obtain⟨⟨ls',rfl,k2,k3⟩,ln',rfl,k4,k5⟩:=h';refine⟨⟨ls++ls',by simp,by simp;omega,fun y hy=>?_⟩,ln++ln',by simp,by simp;omega,fun y hy=>?_⟩
 .rcases List.mem_append.1 hy with hy | hy
  .exact h3 y hy
  exact k3 y hy
 rcases List.mem_append.1 hy with hy | hy
 .exact h5 y hy
 exact k5 y hy
theorem PutR.pre {KS:Sc->Prop} {KN:Nd->Prop} {sc sc':List Sc} {nd nd':List Nd} {n m:Nat} (h:PutR KS KN sc sc' nd nd' n m) (hp:∀ c∈sc,c.pre.size<=6000000000000000):∀ c∈sc',c.pre.size<=6000000000000000:=by
 obtain⟨⟨ls,rfl,h2,h3⟩,-⟩:=h;intro c hc;rcases List.mem_append.1 hc with hc | hc
 .exact hp c hc
 exact(h3 c hc).2
theorem PutR.at {sc:List Sc} {nd:List Nd} (h:PutR KS KN sc sc' nd nd' n m) {c:Sc} (hc:sc[z]?=some c):sc'[z]?=some c:=by
 obtain⟨⟨ls,rfl,h2,h3⟩,-⟩:=h;rw[bZ (List.getElem?_eq_some_iff.1 hc).1];exact hc
def MM (KS:Sc->Prop) (KN:Nd->Prop) (B q k:Nat):Prop:=∀ (d:Nat) (t:Tm) (cs:List Value) (z:Nat) (c0:Sc) (G:Option Addr) (gc:Nat) (gs:List Gd) (E:Option Addr) (ec:Nat) (es:List Gd) (R:Rz) (sc:List Sc) (nd:List Nd) (w:World),
 k+d<=4->IC KS KN k d z c0.pre t->xR k t=true->(lF k t).2+sc.length<=1000000->(lF k t).1+nd.length<=1000000->Bz B w q R sc nd->Trs.at (Sf B (R.mu q) w) w t.tr cs ->
 sc[z]?=some c0->c0.pre.size<=450300000000000*d->(∀ c∈sc,c.pre.size<=6000000000000000)->gs.length<=d->(∀ g∈gs,qC sc.length g)->es.length<=60*d->(∀ g∈es,qC sc.length g) ->
 Ls (Sf B (R.mu q) w) w 2 24 Gd.tr G gc gs->Ls (Sf B (R.mu q) w) w 2 24 Gd.tr E ec es ->
 Calls Tryz.prog 41 #[.pointer (some ⟨q,0,none⟩),.agg cs.toArray,.int .i64 (z:Int),.slice G gs.length gc,.slice E es.length ec] w
  fun e w'=>e=.returned (.tuple #[])/\∃ (R':Rz) (sc':List Sc) (nd':List Nd),Bz B w' q R' sc' nd'/\lP (R.mu q) (R'.mu q) w w'/\PutR KS KN sc sc' nd nd' (lF k t).1 (lF k t).2
