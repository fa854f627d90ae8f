/- Part of the proof. -/
import Derived.Test.YtjmklmngikpeaaaGreatDoorExA
import Derived.Test.YtjmklmngikpeaaaGreatDoorEx7
import Derived.Sort.Walk0
import Derived.Lib.AppendStr
import Derived.Shelf.Unicode.ValidAny
import Derived.Test.YtjmklmngikpeaaaGreatDoorRows
import Derived.ProofKit
import Derived.PinnedBridge
import Derived.Lib.LaidU8T
import Derived.Lay
import Derived.LaidOnce
set_option maxRecDepth 100000
set_option maxHeartbeats 16000000
set_option linter.unusedVariables false
set_option linter.unusedSimpArgs false
namespace Go.Proofs.YtjmklmngikpeaaaGreatDoor
open Go.RowKit Go.Maps
variable {a b x:Ex}{H:Type}{t:TypeId}
section
variable {S:Nat->Prop} {w:World}
theorem sN (h0:x.l=[]) (h1:(Lit.int .i8 x.kind).wf=true) (h2:(Lit.int .i64 x.num).wf=true) (h3:x.text.size<=9007199254740992) (h4:x.name.size<=9007199254740992) (h5:x.attr.size<=9007199254740992) :
 Trs.at S w x.tr [.int .i8 x.kind,.string x.text,.int .i64 x.num,.string x.name,.string x.attr,.slice none 0 0] :=
 Ex.at_iff.2 ⟨none,0,by rw[h0];rfl,h1,h2,h3,h4,h5,by rw[h0];exact cF _ _ _ _ (by omega) _⟩
theorem IP:Trs.at S w QE.tr [.int .i8 3,.string ⟨#[]⟩,.int .i64 0,.string ⟨#[65]⟩,.string ⟨#[]⟩,.slice none 0 0]:=sN (x:=QE) rfl (by decide) (by decide) (by decide) (by decide) (by decide)
theorem QB:Trs.at S w SS.tr [.int .i8 0,.string ⟨#[120,45]⟩,.int .i64 0,.string ⟨#[]⟩,.string ⟨#[]⟩,.slice none 0 0]:=sN (x:=SS) rfl (by decide) (by decide) (by decide) (by decide) (by decide)
theorem QD:Trs.at S w ST.tr [.int .i8 0,.string ⟨#[98]⟩,.int .i64 0,.string ⟨#[]⟩,.string ⟨#[]⟩,.slice none 0 0]:=sN (x:=ST) rfl (by decide) (by decide) (by decide) (by decide) (by decide)
theorem QC:Trs.at S w BN.tr [.int .i8 1,.string ⟨#[]⟩,.int .i64 0,.string ⟨#[]⟩,.string ⟨#[]⟩,.slice none 0 0]:=sN (x:=BN) rfl (by decide) (by decide) (by decide) (by decide) (by decide)
theorem T4 {ca cb:List Value} {W:World} {q:Nat} {cs:Array Value} (hk:Blk W q cs t) (hc:cs.toList=ca++cb) (hs:cs.size=12) (ha:Trs.at (fun k=>k<W.heap.size) W a.tr ca) (hb:Trs.at (fun k=>k<W.heap.size) W b.tr cb):Ls (fun k=>k<W.heap.size) W 6 88 Ex.tr (some ⟨q,0,none⟩) 2 [a,b] :=
 ⟨by omega,by simp,by simp,by unfold maxLen;omega,fun ad e _=>by injection e with e;subst e;exact hk.lt,cs.toList,⟨by simpa using hs,by simp,by unfold maxLen;omega,fun j u hu=>⟨_,rfl,by
   have h:=hk.cell j (v:=u) (by simpa using hu);unfold Addr.add;split
   .next h0=>subst h0;exact h
   .simpa using h⟩⟩,by
   simp only[aW,bW,bQ];rw[hc];exact Trs.at.app.2 ⟨_,_,rfl,ha,hb⟩⟩
end
theorem sT (h:x=QE∨x=SS∨x=ST∨x=BN):exOk x/\exTx x:=by
 rcases h with rfl | rfl | rfl | rfl<;>exact⟨.mk (by decide) (by decide) (by decide) (fun y hy=>by cases hy),.mk (by decide) (by decide) (fun y hy=>by cases hy)⟩
theorem BT (hl:x.l=[a,b]) (h1:x.text.size<=9000) (h2:x.name.size<=1000000) (h3:x.attr.size<=1000000) (ha:exOk a/\exTx a) (hb:exOk b/\exTx b):exOk x/\exTx x:=by
 have hm:∀ y∈x.l,exOk y/\exTx y:=fun y hy=>by
  rw[hl] at hy;simp at hy;rcases hy with rfl | rfl
  .exact ha
  exact hb
 exact⟨.mk h2 h3 (by rw[hl];simp) (fun y hy=>(hm y hy).1),.mk h1 (by rw[hl];simp) (fun y hy=>(hm y hy).2)⟩
theorem P7:I5 FA:=⟨by decide,by decide,by decide,by decide,fun c hc=>(by cases hc),fun p hp=>(by cases hp),fun a ha=>(by cases ha),fun o ho=>(by cases ho)⟩
theorem P8 {n:Nd} (h:MX n):Q0 n:=by
 obtain⟨h1,h2,h3,h4⟩:=h;refine⟨by rw[h1];decide,by rw[h4];simp,by rw[h3];decide,fun p hp=>?_⟩;rw[h3] at hp;cases hp
theorem PM {K:List Cd->List Gv->Nat} (hK:SP K) (SA NA:Option Addr) (sC nC:Nat) (n:Nd) (hn:MX n) (x:Ex) (xcs:List Value) (g:Gv) (w:World) (hV:j4 w) (hsc:Ls (fun k=>k<w.heap.size) w 7 144 Sc.tr SA sC [FA]) (hnd:Ls (fun k=>k<w.heap.size) w 11 200 Nd.tr NA nC [n]) (hx:exOk x/\exTx x) (hT:Trs.at (fun k=>k<w.heap.size) w x.tr xcs)
 (hg:∀ M,iJ K [FA] [n] [] [] (M+4) 0 x=(g,0)):Calls Tryz.prog 10 #[.agg #[.slice SA 1 sC,.slice NA 1 nC],.slice none 0 0,.slice none 0 0,.int .i64 0,.agg xcs.toArray] w (nH (g,0) w):=by
 have h:=wQ K hK SA NA sC nC [FA] [n] none none 0 0 [] [] 0 x xcs w hV hsc hnd (by simp) (by simp) (fun s hs=>by rw[aR] at hs;subst hs;exact⟨P7,by decide⟩) (fun y hy=>by rw[aR] at hy;subst hy;exact P8 hn) (cF _ _ _ _ (by omega) _) (by simp) (fun g hg=>by cases hg) (cF _ _ _ _ (by omega) _) (by simp) (fun g hg=>by cases hg) hx hT
  (oT (xC n) iX x+4) (fun O P=>bB (eK rfl) (aU _ 4))
 rw[hg] at h;exact h
theorem yN (w:World) (hV:j4 w):Calls Tryz.prog 8 #[] w (BoolB true w):=by
 obtain⟨K,hK⟩:=LM;obtain⟨W1,hW1⟩:∃ W1,W1=w.alloc (.cells zH 50):=⟨_,rfl⟩;have hb1:Below w.heap.size w W1:=by rw[hW1];exact(aB _ w).alloc (aA _) _
 have hr:Trs.at (fun k=>k<W1.heap.size) W1 vF.tr zH.toList:=Rs.at_iff.2 ⟨none,0,none,0,none,0,rfl,by decide,by decide,by decide,cF _ _ _ _ (by omega) _,cF _ _ _ _ (by omega) _,cF _ _ _ _ (by omega) _⟩;have ht:Trs.at (fun k=>k<W1.heap.size) W1 SL.tr #[.slice none 0 0,.slice none 0 0,.slice (some ⟨w.heap.size,0,none⟩) 1 1,.slice none 0 0].toList:=Tm.at_iff.2 ⟨none,0,none,0,some ⟨w.heap.size,0,none⟩,1,none,0,rfl,cF _ _ _ _ (by omega) _,cF _ _ _ _ (by omega) _,⟨by omega,by decide,by decide,by unfold maxLen;omega,fun ad e _=>by injection e with e;subst e;rw[hW1];simp,zH.toList,by rw[hW1];exact cQ w 7 1 zH _ (0,0) rfl (by unfold maxLen;omega),by
  show Trs.at _ _ (([vF]:List Rs).flatMap Rs.tr) _
  simp only[aW,bW,bQ];exact hr⟩,cF _ _ _ _ (by omega) _⟩
 have hfl:=vO (fun s=>s=FA) UO MX (fun n hn=>⟨by rw[hn.1.1];decide,hn.2⟩) (fun n af hn _=>⟨hn.1.1,hn.1.2.1,hn.1.2.2.1,hn.1.2.2.2⟩) (fun k=>k<W1.heap.size) SL #[.slice none 0 0,.slice none 0 0,.slice (some ⟨w.heap.size,0,none⟩) 1 1,.slice none 0 0].toList W1 TV rfl ht (fun k hk=>hk);rw[aV] at hfl;have HFL:=Hd hfl;have HB1:=Hd hb1;have HW1:=Hd hW1;have HV:=Hd hV;have HK:=Hd hK;clear hb1 hr ht hfl hW1 hV hK;go_enter Tryz.func8,Tryz.ntmps8;go_wp2_with fail;rw[<-HW1.o];refine HFL.o.mono ?_;rintro e w2 ⟨hb2,m,SA,NA,sC,nC,sc,nd,rfl,hls,hln,hf,hfit⟩;obtain rfl:m=0:=hfit P9;obtain⟨-,-,f3,f4,f5,f6⟩:=hf rfl;obtain⟨s0,hs0⟩:∃ s0,sc=[s0]:=List.length_eq_one_iff.1 f5;obtain⟨n0,hn0⟩:∃ n0,nd=[n0]:=List.length_eq_one_iff.1 f6;subst hs0 hn0;obtain rfl:s0=FA:=(f3 s0 (.head _)).1;have hn:MX n0:=f4 n0 (.head _);obtain⟨W4,hW4⟩:∃ W4,W4=(w2.alloc (.cells #[.slice SA 1 sC,.slice NA 1 nC] 36)).alloc (.cells #[.int .i8 3,.string ⟨#[]⟩,.int .i64 0,.string ⟨#[65]⟩,.string ⟨#[]⟩,.slice none 0 0] 32):=⟨_,rfl⟩;have hb24:Below w2.heap.size w2 W4:=by rw[hW4];exact((aB _ w2).alloc (aA _) _).alloc (by simp) _
 have kf:Blk W4 w2.heap.size #[.slice SA 1 sC,.slice NA 1 nC] 36:=by rw[hW4];exact(aJ w2 _ _).alloc _
 have ka:Blk W4 (w2.heap.size+1) #[.int .i8 3,.string ⟨#[]⟩,.int .i64 0,.string ⟨#[65]⟩,.string ⟨#[]⟩,.slice none 0 0] 32:=by rw[hW4];exact PV (by simp)
 obtain⟨W5,hW5⟩:∃ W5,W5=W4.alloc (.cells #[.int .i8 0,.string ⟨#[120,45]⟩,.int .i64 0,.string ⟨#[]⟩,.string ⟨#[]⟩,.slice none 0 0,.int .i8 3,.string ⟨#[]⟩,.int .i64 0,.string ⟨#[65]⟩,.string ⟨#[]⟩,.slice none 0 0] 32):=⟨_,rfl⟩;have hb45:Below W4.heap.size W4 W5:=by rw[hW5];exact(aB _ W4).alloc (aA _) _
 have k5:Blk W5 W4.heap.size #[.int .i8 0,.string ⟨#[120,45]⟩,.int .i64 0,.string ⟨#[]⟩,.string ⟨#[]⟩,.slice none 0 0,.int .i8 3,.string ⟨#[]⟩,.int .i64 0,.string ⟨#[65]⟩,.string ⟨#[]⟩,.slice none 0 0] 32:=by rw[hW5];exact aJ _ _ _
 have hb25:=hb24.trans (hb45.mono hb24.size);have hb05:=(HB1.o.trans (hb2.mono HB1.o.size)).trans (hb25.mono (HB1.o.trans (hb2.mono HB1.o.size)).size);have hsz:∀ (W:World),Below w2.heap.size w2 W->∀ k,k<w2.heap.size->k<W.heap.size:=fun W h k hk=>aO hk h.size
 have he1:=PM HK.o SA NA sC nC n0 hn UP [.int .i8 5,.string ⟨#[]⟩,.int .i64 0,.string ⟨#[]⟩,.string ⟨#[]⟩,.slice (some ⟨W4.heap.size,0,none⟩) 2 2] ⟨ByteArray.empty,true,gV⟩ W5 (HV.o.below hb05) ((hls.below hb25).mono (hsz _ hb25)) ((hln.below hb25).mono (hsz _ hb25))
  (BT (a:=SS) (b:=QE) rfl (by decide) (by decide) (by decide) (sT (by simp)) (sT (by simp)))
  (Ex.at_iff.2 ⟨_,2,rfl,by decide,by decide,by decide,by decide,by decide,T4 k5 rfl rfl QB IP⟩) (fun M=>SR hn M)
 have HE1:Hid (Calls Tryz.prog 10 #[.agg #[.slice SA 1 sC,.slice NA 1 nC],.slice none 0 0,.slice none 0 0,.int .i64 0,.agg #[.int .i8 5,.string ⟨#[]⟩,.int .i64 0,.string ⟨#[]⟩,.string ⟨#[]⟩,.slice (some ⟨W4.heap.size,0,none⟩) 2 2]] W5 (nH (⟨ByteArray.empty,true,gV⟩,0) W5)):=Hd he1;have HN:=Hd hn;have HB2:=Hd (HB1.o.trans (hb2.mono HB1.o.size));have HB25:=Hd hb25;have HLS:=Hd hls;have HLN:=Hd hln;have HKF:=Hd (kf.below hb45);have HKA:=Hd (ka.below hb45);have HW4:=Hd hW4;have HW5:=Hd hW5;obtain⟨x0,x1⟩:=gO kf;obtain⟨a0,a1,a2,a3,a4,a5⟩:=gH ka;clear hf hfit f3 f4 f5 f6 hn hb24 kf ka hb45 k5 hb25 hb05 hsz he1 hb2 hls hln hW4 hW5;go_upto_region 3 with fail;rw[<-HW4.o];go_wp2_with fail;rw[<-HW5.o];refine HE1.o.mono ?_;rintro e w6 ⟨cs,rfl,hg,hb6⟩;obtain⟨g1,hg1⟩:∃ g1:Gv,g1=⟨ByteArray.empty,true,gV⟩:=⟨_,rfl⟩;have hg:Trs.at (fun k=>k<w6.heap.size) w6 g1.tr cs:=by rw[hg1];exact hg
 have hu1:g1.unknown=true:=by rw[hg1]
 obtain⟨GA,GB,gc,gd,rfl,-⟩:=fX hg;unfold kG;rw[hu1];obtain⟨W7,hW7⟩:∃ W7,W7=w6.alloc (.cells #[.string g1.name,.bool true,.int .i8 g1.v.kind,.bool g1.v.bool,.int .i64 g1.v.num,.string g1.v.text,.slice GA g1.v.list.length gc,.slice GB g1.v.keys.length gd] 46):=⟨_,rfl⟩;have hb67:Below w6.heap.size w6 W7:=by rw[hW7];exact(aB _ w6).alloc (aA _) _
 have k7:Blk W7 w6.heap.size #[.string g1.name,.bool true,.int .i8 g1.v.kind,.bool g1.v.bool,.int .i64 g1.v.num,.string g1.v.text,.slice GA g1.v.list.length gc,.slice GB g1.v.keys.length gd] 46:=by rw[hW7];exact aJ _ _ _
 have hb57:=hb6.trans (hb67.mono hb6.size);have kf7:=HKF.o.below hb57;have ka7:=HKA.o.below hb57;obtain⟨W9,hW9⟩:∃ W9,W9=(W7.alloc (.cells #[.int .i8 0,.string ⟨#[98]⟩,.int .i64 0,.string ⟨#[]⟩,.string ⟨#[]⟩,.slice none 0 0,.int .i8 3,.string ⟨#[]⟩,.int .i64 0,.string ⟨#[65]⟩,.string ⟨#[]⟩,.slice none 0 0] 32)).alloc (.cells #[.int .i8 1,.string ⟨#[]⟩,.int .i64 0,.string ⟨#[]⟩,.string ⟨#[]⟩,.slice none 0 0,.int .i8 2,.string ⟨#[]⟩,.int .i64 0,.string ⟨#[]⟩,.string ⟨#[]⟩,.slice (some ⟨W7.heap.size,0,none⟩) 2 2] 32):=⟨_,rfl⟩;have hb79:Below W7.heap.size W7 W9:=by rw[hW9];exact((aB _ W7).alloc (aA _) _).alloc (by simp) _
 have k8:Blk W9 W7.heap.size #[.int .i8 0,.string ⟨#[98]⟩,.int .i64 0,.string ⟨#[]⟩,.string ⟨#[]⟩,.slice none 0 0,.int .i8 3,.string ⟨#[]⟩,.int .i64 0,.string ⟨#[65]⟩,.string ⟨#[]⟩,.slice none 0 0] 32:=by rw[hW9];exact(aJ W7 _ _).alloc _
 have k9:Blk W9 (W7.heap.size+1) #[.int .i8 1,.string ⟨#[]⟩,.int .i64 0,.string ⟨#[]⟩,.string ⟨#[]⟩,.slice none 0 0,.int .i8 2,.string ⟨#[]⟩,.int .i64 0,.string ⟨#[]⟩,.string ⟨#[]⟩,.slice (some ⟨W7.heap.size,0,none⟩) 2 2] 32:=by rw[hW9];exact PV (by simp)
 have hb29:=(HB25.o.trans (hb57.mono HB25.o.size)).trans (hb79.mono (HB25.o.trans (hb57.mono HB25.o.size)).size);have hb09:=HB2.o.trans (hb29.mono HB2.o.size);have hsz:∀ (W:World),Below w2.heap.size w2 W->∀ k,k<w2.heap.size->k<W.heap.size:=fun W h k hk=>aO hk h.size
 have hL:Trs.at (fun k=>k<W9.heap.size) W9 IN.tr [.int .i8 2,.string ⟨#[]⟩,.int .i64 0,.string ⟨#[]⟩,.string ⟨#[]⟩,.slice (some ⟨W7.heap.size,0,none⟩) 2 2]:=Ex.at_iff.2 ⟨_,2,rfl,by decide,by decide,by decide,by decide,by decide,T4 k8 rfl rfl QD IP⟩;have he2:=PM HK.o SA NA sC nC n0 HN.o D0 [.int .i8 8,.string ⟨#[]⟩,.int .i64 0,.string ⟨#[]⟩,.string ⟨#[]⟩,.slice (some ⟨W7.heap.size+1,0,none⟩) 2 2] ⟨ByteArray.empty,false,jO ⟨#[98]⟩⟩ W9 (HV.o.below hb09) ((HLS.o.below hb29).mono (hsz _ hb29)) ((HLN.o.below hb29).mono (hsz _ hb29))
  (BT (a:=BN) (b:=IN) rfl (by decide) (by decide) (by decide) (sT (by simp)) (BT (a:=ST) (b:=QE) rfl (by decide) (by decide) (by decide) (sT (by simp)) (sT (by simp))))
  (Ex.at_iff.2 ⟨_,2,rfl,by decide,by decide,by decide,by decide,by decide,T4 k9 rfl rfl QC hL⟩) (fun M=>SQ HN.o M)
 have HE2:Hid (Calls Tryz.prog 10 #[.agg #[.slice SA 1 sC,.slice NA 1 nC],.slice none 0 0,.slice none 0 0,.int .i64 0,.agg #[.int .i8 8,.string ⟨#[]⟩,.int .i64 0,.string ⟨#[]⟩,.string ⟨#[]⟩,.slice (some ⟨W7.heap.size+1,0,none⟩) 2 2]] W9 (nH (⟨ByteArray.empty,false,jO ⟨#[98]⟩⟩,0) W9)):=Hd he2;have HK7:=Hd (k7.below hb79);have HB9:=Hd hb09;have HW7:=Hd hW7;have HW9:=Hd hW9;have hl7:=k7.lt;clear x0 x1 a0 a1 a2 a3 a4 a5;obtain⟨x0,x1⟩:=gO kf7;obtain⟨a0,a1,a2,a3,a4,a5⟩:=gH ka7;clear hg hg1 hu1 hb6 hb67 k7 hb57 kf7 ka7 hW7 hW9 hb79 k8 k9 hb29 hb09 hsz hL he2 HE1;go_upto_region 4 with fail;rw[<-HW7.o];go_wp2_with fail;rw[<-HW9.o];refine HE2.o.mono ?_;rintro e w10 ⟨cs,rfl,hg,hb10⟩;obtain⟨g2,hg2⟩:∃ g2:Gv,g2=⟨ByteArray.empty,false,jO ⟨#[98]⟩⟩:=⟨_,rfl⟩;have hg:Trs.at (fun k=>k<w10.heap.size) w10 g2.tr cs:=by rw[hg2];exact hg
 have hu2:g2.unknown=false:=by rw[hg2]
 have ht2:(g2.v.text.toList==[98])=true:=by
  rw[hg2];show ((⟨#[98]⟩:ByteArray).toList==[98])=true
  simp[go_sem]
 obtain⟨HA,HB,hc,hd,rfl,-⟩:=fX hg;unfold kG;rw[hu2];obtain⟨W11,hW11⟩:∃ W11,W11=w10.alloc (.cells #[.string g2.name,.bool false,.int .i8 g2.v.kind,.bool g2.v.bool,.int .i64 g2.v.num,.string g2.v.text,.slice HA g2.v.list.length hc,.slice HB g2.v.keys.length hd] 46):=⟨_,rfl⟩;have hb1011:Below w10.heap.size w10 W11:=by rw[hW11];exact(aB _ w10).alloc (aA _) _
 have k11:Blk W11 w10.heap.size #[.string g2.name,.bool false,.int .i8 g2.v.kind,.bool g2.v.bool,.int .i64 g2.v.num,.string g2.v.text,.slice HA g2.v.list.length hc,.slice HB g2.v.keys.length hd] 46:=by rw[hW11];exact aJ _ _ _
 have hb911:=hb10.trans (hb1011.mono hb10.size);have k7':=HK7.o.below hb911;have HB11:=Hd (HB9.o.trans (hb911.mono HB9.o.size));have HW11:=Hd hW11;clear x0 x1 a0 a1 a2 a3 a4 a5;obtain⟨z0,z1,z2,z3,z4,z5,z6,z7⟩:=gI k7';obtain⟨y0,y1,y2,y3,y4,y5,y6,y7⟩:=gI k11;clear hg hg2 hu2 hb10 hb1011 k11 hb911 k7' hW11 HE2;go_upto_region 5 with fail;rw[<-HW11.o];go_wp2;go_ret;exact⟨rfl,HB11.o⟩
theorem rtext_any (s:ByteArray) (w:World):Calls Tryz.prog 9 #[.string s] w (DQ #[.int .i8 3,.bool false,.int .i64 0,.string s,.slice none 0 0,.slice none 0 0] w):=by
 go_enter Tryz.func9,Tryz.ntmps9;go_wp2_with fail;exact bodyPost_ret (v:=.agg #[.int .i8 3,.bool false,.int .i64 0,.string s,.slice none 0 0,.slice none 0 0]) (by simp[results,Tryz.results9,go_sem]) rfl ⟨rfl,(aB _ w).alloc (aA _) _⟩
theorem kJ (ids:List Gv) (nd:List Nd):(iB ids nd).length=ids.length+nd.length:=by unfold iB;simp
structure PG (B:Nat) (S:Nat->Prop) (l:List Gv) (MA:Option Addr) (mc:Nat) (wr:World):Prop where
 ow:∃ xs,Ow wr B 46 8 MA l.length mc xs/\Trs.at S wr (l.flatMap Gv.tr) xs
theorem PG.below {B:Nat} {S:Nat->Prop} {l:List Gv} {MA:Option Addr} {mc:Nat} {wr w':World} (h:PG B S l MA mc wr) (hb:Below wr.heap.size wr w'):PG B S l MA mc w':=by
 obtain⟨xs,h1,h2⟩:=h.ow;exact⟨xs,h1.below hb,h2.below hb⟩
theorem PG.ls {B:Nat} {S:Nat->Prop} {l:List Gv} {MA:Option Addr} {mc:Nat} {wr:World} (h:PG B S l MA mc wr) (hl:l.length<=100) (hS:∀ k,S k->k<wr.heap.size):Ls (fun k=>k<wr.heap.size) wr 8 104 Gv.tr MA mc l:=by
 obtain⟨xs,h1,h2⟩:=h.ow;exact⟨by omega,by omega,h1.cap,h1.max,fun ad e _=>(h1.lt (g:=ad.block) (by rw[e];rfl)).2,xs,h1.rd,h2.mono hS⟩
theorem vA (w:World) (hV:j4 w) (tcs:Array Value) (t:Tm) (ht:Trs.at (fun k=>k<w.heap.size) w t.tr tcs.toList/\Trs.sm t.tr) (AA:Option Addr) (an ac:Nat) (args:List Gv) (han:an=args.length) (hag:Ls (fun k=>k<w.heap.size) w 8 104 Gv.tr AA ac args)
 (IA:Option Addr) (il ic:Nat) (ids:List Gv) (hil:il=ids.length) (hid:Ls (fun k=>k<w.heap.size) w 8 104 Gv.tr IA ic ids) (scope:Int) (hz1:-9223372036854775808<=scope) (hz2:scope<=9223372036854775807) (xcs:Array Value) (x:Ex) (hx:Trs.at (fun k=>k<w.heap.size) w x.tr xcs.toList) :
 Calls Tryz.prog 3 #[.agg tcs,.slice AA an ac,.slice IA il ic,.int .i64 scope,.agg xcs] w (BoolB true w):=by
 subst han hil;obtain⟨K,hK⟩:=LM;obtain⟨ht,hsm⟩:=ht;have ht0:=ht;have hx0:=hx;obtain⟨A,a,B,b,C,c,D,d,hte,-⟩:=Tm.at_iff.1 ht0;obtain⟨XA,xc,hxe,-⟩:=Ex.at_iff.1 hx0;obtain rfl:tcs=(kT t A a B b C c D d):=by cases tcs;simp at hte;rw[hte]
 obtain rfl:xcs=(kX x XA xc):=by cases xcs;simp at hxe;rw[hxe]
 obtain⟨W2,hW2⟩:∃ W2,W2=((w.alloc (.cells (kT t A a B b C c D d) 27)).alloc (.cells (kX x XA xc) 32)):=⟨_,rfl⟩;have hb2:Below w.heap.size w W2:=by rw[hW2];exact((aB _ w).alloc (aA _) _).alloc (by simp) _
 have kt:Blk W2 w.heap.size (kT t A a B b C c D d) 27:=by rw[hW2];exact(aJ w _ _).alloc _
 have kx:Blk W2 (w.heap.size+1) (kX x XA xc) 32:=by rw[hW2];exact PV (by simp)
 have hmd:=J2 (fun k=>k<w.heap.size) t _ AA IA ac ic args ids W2 (fun k hk=>aO hk hb2.size) (ht.below hb2) hsm (hag.below hb2) (hid.below hb2);rw[hte] at hmd;have HMD:Hid (Calls Tryz.prog 6 #[.agg (kT t A a B b C c D d),.slice AA args.length ac,.slice IA ids.length ic] W2 (MQ args ids W2)):=Hd hmd;have HWA:Hid (∀ w',Below w.heap.size w w'->Calls Tryz.prog 8 #[] w' (BoolB true w')):=Hd (fun w' hb=>yN w' (hV.below hb));have HV:=Hd hV;have HK:=Hd hK;have HX:=Hd hx;have HAG:=Hd hag;have HID:=Hd hid;have HB2:=Hd hb2;have HKX:=Hd kx;have HW2:=Hd hW2;have hacap:=hag.cap;have hicap:=hid.cap;obtain⟨x0,x1,x2,x3⟩:=j1 kt;clear hV hK ht ht0 hx hx0 hte hxe hsm hag hid hb2 kt kx hmd hW2;go_enter Tryz.func3,Tryz.ntmps3;go_upto_region 1 with fail;rw[<-HW2.o];go_wp2_with fail;refine HMD.o.mono ?_;rintro e w3 ⟨hb3,ok,SA,NA,sC,nC,sc,nd,rfl,hls,hln,hok⟩;obtain⟨W4,hW4⟩:∃ W4,W4=w3.alloc (.cells #[.slice SA sc.length sC,.slice NA nd.length nC] 36):=⟨_,rfl⟩;have hb34:Below w3.heap.size w3 W4:=by rw[hW4];exact(aB _ w3).alloc (aA _) _
 have k4:Blk W4 w3.heap.size #[.slice SA sc.length sC,.slice NA nd.length nC] 36:=by rw[hW4];exact aJ _ _ _
 have hb24:=hb3.trans (hb34.mono hb3.size);have HB4:=Hd (HB2.o.trans (hb24.mono HB2.o.size));have HX4:=Hd (HKX.o.below hb24);have HF4:=Hd k4;have HLS:Hid (Ls (fun k=>k<W4.heap.size) W4 7 144 Sc.tr SA sC sc):=Hd ((hls.below hb34).mono (fun k hk=>aO hk hb34.size));have HLN:Hid (Ls (fun k=>k<W4.heap.size) W4 11 200 Nd.tr NA nC nd):=Hd ((hln.below hb34).mono (fun k hk=>aO hk hb34.size));have HOK:=Hd hok;have HW4:=Hd hW4;have HXG:=Hd (kB (fun k=>k<w.heap.size) x _ W4 (HX.o.below HB4.o));clear hb3 hb34 k4 hb24 hls hln hok hW4 x0 x1 x2 x3;obtain⟨f0,f1⟩:=gO HF4.o;obtain⟨x0,x1,x2,x3,x4,x5⟩:=gH HX4.o;go_upto_region 2 with fail;rw[<-HW4.o];cases ok with
 | false =>
   go_wp2_with fail;refine(HWA.o W4 HB4.o).mono ?_;rintro e w5 ⟨rfl,hb⟩;have HB5:=Hd (HB4.o.trans (hb.mono HB4.o.size));clear hb;go_wp2;go_ret;exact⟨rfl,HB5.o⟩
 | true =>
   obtain⟨hga,hgi,hfk⟩:=HOK.o rfl;obtain⟨xg,hxg⟩:∃ xg,xg=iL x:=⟨_,rfl⟩;rw[<-hxg] at HXG;have HXE:=Hd hxg;have HGA:=Hd hga;have HGI:=Hd hgi;have HFK:=Hd hfk;clear hxg hga hgi hfk;cases xg with
   | true =>
     go_wp2_with fail;refine HXG.o.mono ?_;rintro e w5 ⟨rfl,hb⟩;have hb5:=HB4.o.trans (hb.mono HB4.o.size);have HB5:=Hd hb5;have HW5:=Hd (HWA.o w5 hb5);clear hb hb5;go_wp2_with fail;refine HW5.o.mono ?_;rintro e w6 ⟨rfl,hb⟩;have HB6:=Hd (HB5.o.trans (hb.mono HB5.o.size));clear hb;go_wp2;go_ret;exact⟨rfl,HB6.o⟩
   | false =>
     go_wp2_with fail;refine HXG.o.mono ?_;rintro e w5 ⟨rfl,hb⟩;have HB45:=Hd hb;have HB5:=Hd (HB4.o.trans (hb.mono HB4.o.size));have hi40:=HGI.o.1;have ha40:=HGA.o.1;have hn16:=HFK.o.nl;clear hb f0 f1 x0 x1 x2 x3 x4 x5;go_wp2_with fail;go_loopg [13,14] ids.length (fun g m i wr=>∃ (j:Nat) (MA:Option Addr) (mc:Nat),j+g=ids.length/\i=.int .i64 (j:Nat)/\m=.slice MA j mc/\Hid ((ids.take j).length=j)/\Hid (PG W4.heap.size (fun k=>k<w.heap.size) (ids.take j) MA mc wr)/\Hid (Below W4.heap.size W4 wr))
     case atStart=>exact⟨0,none,0,by omega,rfl,rfl,Hd (by simp),Hd ⟨[],dF _ _ _ _,by simp[Trs.at]⟩,HB45⟩
     obtain⟨j,MA,mc,hj,rfl,rfl,HLJ,HMO,HBR⟩:=hrel;rename World=>wr
     have HBW:=Hd (HB4.o.trans (HBR.o.mono HB4.o.size));cases gk with
     | succ g =>
       have hjj:(j:Int)<(ids.length:Int):=by omega
       have hji:(0:Int)<=(j:Int)/\(j:Int)<(ids.length:Int):=by omega
       obtain⟨y,hy⟩:=fO (l:=ids) (i:=j) (by omega);obtain⟨ad,cs,hA1,hyt,hyc⟩:=(HID.o.below HBW.o).elem dA hy;obtain⟨GA,GB,gc,gd,rfl,-,-⟩:=fX hyt;subst hA1;obtain⟨e0,e1,e2,e3,e4,e5,e6,e7⟩:=l8 hyc;have HTK:=Hd (iH hy);have HYT:=Hd hyt;clear hy hyt hyc;by_cases h14:14<y.v.text.size
       .have hi14:(14:Int)<(y.v.text.size:Int):=by omega
        have HW5:=Hd (HWA.o wr HBW.o);go_wp2_with fail;refine HW5.o.mono ?_;rintro e w6 ⟨rfl,hb⟩;have HB6:=Hd (HBW.o.trans (hb.mono HBW.o.size));clear hb;go_wp2;go_ret;exact⟨rfl,HB6.o⟩
       have hi14:¬((14:Int)<(y.v.text.size:Int)):=by omega
       obtain⟨xs,how,htr⟩:=HMO.o.ow;rw[HLJ.o] at how;have HOW:=Hd how;have HTR:=Hd htr;have HRN:=Hd (cQ wr 8 1 (kG y GA gc GB gd) 46 (0,0) rfl (by simp[maxLen]));have hlo:=HBR.o.size;clear how htr;go_wp2_with (at_builtin;refine wpList_row info_given Tryz.underlying28 rfl (by omega) rfl (.tmp 53) (.tmp 58) rfl W4.heap.size MA mc j xs rfl (HOW.o.alloc _) (some ⟨wr.heap.size,0,none⟩) 1 1 (kG y GA gc GB gd).toList rfl HRN.o (by simp[Value.oneCell']) (by omega) (by omega) (by simp;omega) ?_;intro A' c' w8 ho hg hat;have HO8:=Hd ho;have HG8:=Hd hg;clear ho hg hat);go_roundg g
       case measure=>omega
       case rel =>
        have hb8:Below W4.heap.size W4 w8:=(HBR.o.alloc hlo _).grown HG8.o (by simp;omega) (fun k hk=>(HOW.o.lt hk).1);have hon:fP (fun k=>some k=blk MA) wr w8:=((bG _ _).alloc _).grown HG8.o (fun g hg _=>hg.symm);have hlw:∀ k,k<w.heap.size->¬(some k=blk MA):=fun k hk e=>by have:=(HOW.o.lt e.symm).1;have:=HB4.o.size;omega
        refine⟨j+1,A',c',by omega,by go_num,rfl,Hd (by rw[HTK.o];simp[HLJ.o]),Hd ⟨xs++(kG y GA gc GB gd).toList,?_,?_⟩,Hd hb8⟩
        .rw[HTK.o,aS,HLJ.o];exact HO8.o
        rw[HTK.o,bE];refine Trs.at.app.2 ⟨_,_,rfl,HTR.o.only hon hlw,?_⟩;simp only[aW,bW,bQ];exact HYT.o.only hon hlw
     | zero =>
       have hjj:¬((j:Int)<(ids.length:Int)):=by omega
       have hje:j=ids.length:=by omega
       have HMO2:Hid (PG W4.heap.size (fun k=>k<w.heap.size) ids MA mc wr):=Hd (by
        have h:=HMO.o;rwa [aN (by omega)] at h)
       subst hje;go_wp2_with fail;clear HMO HLJ;go_loopg [13,15] nd.length (fun g m i wz=>∃ (j:Nat) (MA:Option Addr) (mc:Nat),j+g=nd.length/\i=.int .i64 (j:Nat)/\m=.slice MA (ids.length+j) mc/\Hid ((nd.take j).length=j)/\Hid (PG W4.heap.size (fun k=>k<w.heap.size) (iB ids (nd.take j)) MA mc wz)/\Hid (Below W4.heap.size W4 wz))
       case atStart=>exact⟨0,MA,mc,by omega,rfl,rfl,Hd (by simp),Hd (by simpa [iB] using HMO2.o),HBR⟩
       clear HMO2;obtain⟨j2,MA2,mc2,hj2,rfl,rfl,HLJ2,HMO3,HBZ⟩:=hrel;rename World=>wz
       obtain⟨f0,f1⟩:=gO (HF4.o.below HBZ.o);cases gk with
       | succ g =>
         have hjj2:(j2:Int)<(nd.length:Int):=by omega
         have hji2:(0:Int)<=(j2:Int)/\(j2:Int)<(nd.length:Int):=by omega
         obtain⟨n,hn⟩:=fO (l:=nd) (i:=j2) (by omega);obtain⟨ad,cs,hA1,hyt,hyc⟩:=(HLN.o.below HBZ.o).elem Nd.trlen hn;have had:ad.block<W4.heap.size:=HLN.o.blk ad hA1 (by omega);obtain⟨C1,C2,C3,C4,C5,q1,q2,q3,q4,q5,rfl,-⟩:=mE hyt;have e0:=hyc 0 _ rfl;rw[if_pos rfl] at e0;subst hA1;have HTK:=Hd (iH hn);have HNZ:=Hd ((HFK.o.nd n (aD hn)).1);have HE0:=Hd e0;have HF1:=Hd f1;have HAD:=Hd had;have HFL:=Hd HF4.o.lt;obtain⟨xs,how,htr⟩:=HMO3.o.ow;have hml:(iB ids (nd.take j2)).length=ids.length+j2:=by rw[kJ,HLJ2.o]
         rw[hml] at how;have HOW:=Hd how;have HTR:=Hd htr;have HDB:Hid (Below wz.heap.size wz wz.drew):=Hd (aB _ wz).drew;have hlo:=HBZ.o.size;clear hn hyt hyc had how htr hml;go_upto_region 14 with fail;refine cK 11 (fun w'=>w'.cell? ⟨w3.heap.size,1,none⟩=some (.slice (some ad) nd.length nC)/\w'.cell? (ad.add (j2*11))=some (.string n.id)) (by kernel_rfl) (by go_keep) (fun hH0=>?_);simp only[aQ,bC,aX,bA,aZ,Nat.reduceAdd];refine aL hH0 0 ?_;refine aL hH0 1 ?_;refine aL hH0 2 ?_;refine aL hH0 3 ?_;refine aL hH0 4 ?_;refine aL hH0 5 ?_;refine aL hH0 6 ?_;refine cT 7 fun K hK=>?_
         go_simp;go_at_call 9;(with_reducible refine(rtext_any ⟨#[112,55]⟩ wz.drew).mono ?_);rintro e w5 ⟨rfl,hb⟩;have hb5:=HDB.o.trans (hb.mono HDB.o.size);have HB5':=Hd hb5;have k0:=(hb5.cell (aF wz _ HF1.o)).trans HF1.o;have k1:=(hb5.cell (aF wz _ HE0.o)).trans HE0.o;have hs5:wz.heap.size<=w5.heap.size:=hb5.size;have HOW5:=Hd (HOW.o.below hb5);clear hb hb5;refine cM hK fun hH1=>?_
         clear hK K hH0;try simp only[Act.put,aE,aH,aI]
         refine aL hH1 8 ?_;refine cT 9 fun K hK=>?_
         go_simp;refine cM hK fun hH2=>?_
         clear hK K hH1;try simp only[Act.put,aE,aH,aI]
         refine cT 10 fun K hK=>?_
         refine jR info_given Tryz.underlying28 rfl (by omega) rfl (.tmp 67) (.tmp 76) rfl W4.heap.size MA2 mc2 (ids.length+j2) xs (by rfl) (HOW5.o.alloc _) (some ⟨w5.heap.size,0,none⟩) 1 1 #[.string n.id,.bool false,.int .i8 3,.bool false,.int .i64 0,.string ⟨#[112,55]⟩,.slice none 0 0,.slice none 0 0].toList (by rfl) (cQ w5 8 1 #[.string n.id,.bool false,.int .i8 3,.bool false,.int .i64 0,.string ⟨#[112,55]⟩,.slice none 0 0,.slice none 0 0] 46 (0,0) rfl (by simp[maxLen])) (by simp[Value.oneCell']) (by omega) (by omega) (by simp;omega) ?_;intro A6 c6 w6 ho6 hg6 hat6;have HO6:=Hd ho6;have hon:fP (fun k=>some k=blk MA2) wz w6:=((aK HB5'.o _).alloc _).grown hg6 (fun g hg _=>hg.symm);have HON:=Hd hon;have HG6:=Hd hg6;have m0:=(cell_only hon (aF wz _ HF1.o) (fun e=>by have h1:W4.heap.size<=w3.heap.size:=(HOW.o.lt e.symm).1;have:=HFL.o;omega)).trans HF1.o;have m1:=(cell_only hon (aF wz _ HE0.o) (fun e=>by have h1:W4.heap.size<=(ad.add (j2*11)).block:=(HOW.o.lt e.symm).1;have h2:=HAD.o;rw[show (ad.add (j2*11)).block=ad.block by unfold Addr.add;split<;>rfl] at h1;omega)).trans HE0.o;clear ho6 hg6 hat6 hon;refine cM hK fun hH3=>?_
         clear hK K hH2;try simp only[Act.put,aE,aH,aI]
         refine dY fun K hK=>?_
         go_simp;refine hK.out _ _ ?_;clear hK K hH3;clear k0 k1 m0 m1 f0 f1 e0;go_wp2_with fail;go_roundg g
         case measure=>omega
         case rel =>
          have hb6:Below W4.heap.size W4 w6:=HON.o.belowB HBZ.o (fun k hk=>by have:=(HOW.o.lt hk.symm).1;omega);have hlw:∀ k,k<w.heap.size->¬(some k=blk MA2):=fun k hk e=>by have:=(HOW.o.lt e.symm).1;have:=HB4.o.size;omega
          have hmm:iB ids (nd.take (j2+1))=iB ids (nd.take j2)++[⟨n.id,false,jO p7⟩]:=by rw[HTK.o];simp[iB]
          refine⟨j2+1,A6,c6,by omega,by go_num,rfl,Hd (by rw[HTK.o];simp[HLJ2.o]),Hd ⟨xs++#[.string n.id,.bool false,.int .i8 3,.bool false,.int .i64 0,.string ⟨#[112,55]⟩,.slice none 0 0,.slice none 0 0].toList,?_,?_⟩,Hd hb6⟩
          .rw[hmm,aS,kJ,HLJ2.o];exact HO6.o
          rw[hmm,bE];refine Trs.at.app.2 ⟨_,_,rfl,HTR.o.only HON.o hlw,?_⟩;simp only[aW,bW,bQ];exact Gv.at_iff.2 ⟨_,rfl,by have:=HNZ.o;show n.id.size<=_;omega,IT (by show p7.size<=_;decide)⟩
       | zero =>
         have hjj2:¬((j2:Int)<(nd.length:Int)):=by omega
         have hje:j2=nd.length:=by omega
         have HMO4:Hid (PG W4.heap.size (fun k=>k<w.heap.size) (iB ids nd) MA2 mc2 wz):=Hd (by
          have h:=HMO3.o;rwa [aN (by omega)] at h)
         subst hje;go_wp2_with fail;clear HMO3 HLJ2 f0 f1;go_loopg [16,17] args.length (fun g kn i wk=>∃ j:Nat,j+g=args.length/\i=.int .i64 (j:Nat)/\kn=.bool ((args.take j).all fun g=>!g.unknown)/\Hid (Below wz.heap.size wz wk))
         case atStart=>exact⟨0,by omega,rfl,rfl,Hd (aB _ _)⟩
         obtain⟨j3,hj3,rfl,rfl,HBK⟩:=hrel;rename World=>wk
         have HB4k:=Hd (HBZ.o.trans (HBK.o.mono HBZ.o.size));have HBWk:=Hd (HB4.o.trans (HB4k.o.mono HB4.o.size));cases gk with
         | succ g =>
           have hjj3:(j3:Int)<(args.length:Int):=by omega
           have hji3:(0:Int)<=(j3:Int)/\(j3:Int)<(args.length:Int):=by omega
           obtain⟨y,hy⟩:=fO (l:=args) (i:=j3) (by omega);obtain⟨ad,cs,hA1,hyt,hyc⟩:=(HAG.o.below HBWk.o).elem dA hy;obtain⟨GA,GB,gc,gd,rfl,-,-⟩:=fX hyt;subst hA1;obtain⟨e0,e1,e2,e3,e4,e5,e6,e7⟩:=l8 hyc;have HTK:=Hd (iH hy);obtain⟨b,hb⟩:∃ b,b=(args.take j3).all fun g=>!g.unknown:=⟨_,rfl⟩;obtain⟨u,hu⟩:∃ u,u=y.unknown:=⟨_,rfl⟩;have HAL:Hid (((args.take (j3+1)).all fun g=>!g.unknown)=(b&&!u)):=Hd (by rw[HTK.o,List.all_append,<-hb,hu];simp);rw[<-hb];rw[<-hu] at e1;clear hy hyt hyc hb hu;cases b with
           | false =>
             go_wp2_with fail;go_roundg g
             case measure=>omega
             case rel=>exact⟨j3+1,by omega,by go_num,by rw[HAL.o];rfl,HBK⟩
           | true =>
             cases u with
             | false =>
               go_wp2_with fail;go_roundg g
               case measure=>omega
               case rel=>exact⟨j3+1,by omega,by go_num,by rw[HAL.o];rfl,HBK⟩
             | true =>
               go_wp2_with fail;go_roundg g
               case measure=>omega
               case rel=>exact⟨j3+1,by omega,by go_num,by rw[HAL.o];rfl,HBK⟩
         | zero =>
           have hjj3:¬((j3:Int)<(args.length:Int)):=by omega
           have HAL:Hid (((args.take j3).all fun g=>!g.unknown)=args.all fun g=>!g.unknown):=Hd (by rw[aN (by omega)]);obtain⟨N,hNe⟩:∃ N,N=oT ⟨⟨sc,nd,[],[]⟩,[],fun _=>none,ByteArray.empty⟩ iX x:=⟨_,rfl⟩;have hxx:=(lR HXE.o.symm).1;have HEV:Hid (∀ (w':World) (LA:Option Addr) (lc:Nat) (l:List Gv),Below W4.heap.size W4 w'->Ls (fun k=>k<w'.heap.size) w' 8 104 Gv.tr LA lc l->l.length<=1000000->(∀ g∈l,g.name.size<=6000000000000000/\g.v.text.size<=5000) ->
            Calls Tryz.prog 10 #[.agg #[.slice SA sc.length sC,.slice NA nd.length nC],.slice AA args.length ac,.slice LA l.length lc,.int .i64 scope,.agg (kX x XA xc)] w' (nH (iJ K sc nd args l N scope x) w')):=Hd (fun w' LA lc l hb hl hll hlz=>by
            have hbw:=HB4.o.trans (hb.mono HB4.o.size)
            have hlt:∀ k,k<W4.heap.size->k<w'.heap.size:=fun k hk=>aO hk hb.size
            have hlw:∀ k,k<w.heap.size->k<w'.heap.size:=fun k hk=>aO hk hbw.size
            have h:=wQ K HK.o SA NA sC nC sc nd AA LA ac lc args l scope x _ w' (HV.o.below hbw) ((HLS.o.below hb).mono hlt) ((HLN.o.below hb).mono hlt) HFK.o.sl HFK.o.nl HFK.o.sc HFK.o.nd ((HAG.o.below hbw).mono hlw) (by omega) (fun g hg=>⟨pJ (HGA.o.2 g hg).1,by have:=j6 (HGA.o.2 g hg).1;omega⟩) hl hll hlz hxx ((HX.o.below hbw).mono hlw) N (fun O P=>by rw[hNe];exact eK rfl)
            exact h)
           have hans:=R7 (K:=K) (N:=N) (scope:=scope) HFK.o.sl HFK.o.nl HFK.o.sc (args:=args) (ids:=ids) (fun g hg=>⟨pJ (HGA.o.2 g hg).1,by have:=j6 (HGA.o.2 g hg).1;omega⟩) (fun g hg=>j6 (HGI.o.2 g hg).1) hxx.2;have he1:=HEV.o wk none 0 [] HB4k.o (cF _ _ _ _ (by omega) _) (by simp) (fun g hg=>by cases hg);have HE2:Hid (∀ w',Below wk.heap.size wk w'->Calls Tryz.prog 10 #[.agg #[.slice SA sc.length sC,.slice NA nd.length nC],.slice AA args.length ac,.slice IA ids.length ic,.int .i64 scope,.agg (kX x XA xc)] w' (nH (iJ K sc nd args ids N scope x) w')):=Hd (fun w' hb=>HEV.o w' IA ic ids (HB4k.o.trans (hb.mono HB4k.o.size)) ((HID.o.below (HBWk.o.trans (hb.mono HBWk.o.size))).mono (fun k hk=>aO hk (HBWk.o.trans (hb.mono HBWk.o.size)).size)) (by omega) (fun g hg=>⟨by have:=(HGI.o.2 g hg).2;omega,j6 (HGI.o.2 g hg).1⟩));have HE3:Hid (∀ w',Below wk.heap.size wk w'->Calls Tryz.prog 10 #[.agg #[.slice SA sc.length sC,.slice NA nd.length nC],.slice AA args.length ac,.slice MA2 (ids.length+nd.length) mc2,.int .i64 scope,.agg (kX x XA xc)] w' (nH (iJ K sc nd args (iB ids nd) N scope x) w')):=Hd (fun w' hb=>by
            have hbz:=HBK.o.trans (hb.mono HBK.o.size);have h:=HEV.o w' MA2 mc2 (iB ids nd) (HB4k.o.trans (hb.mono HB4k.o.size)) ((HMO4.o.below hbz).ls (by rw[kJ];omega) (fun k hk=>aO hk (HBWk.o.trans (hb.mono HBWk.o.size)).size)) (by rw[kJ];omega) (fun g hg=>by
             rcases List.mem_append.1 hg with hg | hg
             .exact⟨by have:=(HGI.o.2 g hg).2;omega,j6 (HGI.o.2 g hg).1⟩
             obtain⟨n,hn,rfl⟩:=List.mem_map.1 hg;exact⟨by have:=(HFK.o.nd n hn).1;show n.id.size<=_;omega,by show p7.size<=_;decide⟩)
            rw[kJ] at h;exact h)
           obtain⟨ra,hra⟩:∃ ra,ra=iJ K sc nd args [] N scope x:=⟨_,rfl⟩;obtain⟨rb,hrb⟩:∃ rb,rb=iJ K sc nd args ids N scope x:=⟨_,rfl⟩;obtain⟨rc,hrc⟩:∃ rc,rc=iJ K sc nd args (iB ids nd) N scope x:=⟨_,rfl⟩;rw[<-hra] at he1 hans;rw[<-hrb] at HE2 hans;rw[<-hrc] at HE3 hans;obtain⟨g1,n1⟩:=ra;obtain⟨g2,n2⟩:=rb;obtain⟨g3,n3⟩:=rc;obtain rfl:n1=n2:=hans.e1;obtain rfl:n1=n3:=hans.e2;have HAN:=Hd hans;have HE1:Hid (Calls Tryz.prog 10 #[.agg #[.slice SA sc.length sC,.slice NA nd.length nC],.slice AA args.length ac,.slice none 0 0,.int .i64 scope,.agg (kX x XA xc)] wk (nH (g1,n1) wk)):=Hd he1;obtain⟨kn,hkn⟩:∃ kn,kn=args.all fun g=>!g.unknown:=⟨_,rfl⟩;rw[HAL.o];rw[<-hkn] at HAN ⊢;obtain⟨f0,f1⟩:=gO (HF4.o.below HB4k.o);obtain⟨x0,x1,x2,x3,x4,x5⟩:=gH (HX4.o.below HB4k.o);clear he1 hans hra hrb hrc hNe hxx hkn HEV HAL;go_wp2_with fail;refine HE1.o.mono ?_;rintro e u1 ⟨cs1,rfl,hg1,hbu1⟩;have hg1:Trs.at (fun k=>k<u1.heap.size) u1 g1.tr cs1:=hg1;obtain⟨A1,B1,c1,d1,rfl,-⟩:=fX hg1;obtain⟨v1,hv1⟩:∃ v1,v1=u1.alloc (.cells (kG g1 A1 c1 B1 d1) 46):=⟨_,rfl⟩;have hb1v:Below u1.heap.size u1 v1:=by rw[hv1];exact(aB _ u1).alloc (aA _) _
           have kg1:Blk v1 u1.heap.size (kG g1 A1 c1 B1 d1) 46:=by rw[hv1];exact aJ _ _ _
           have hbk1:=hbu1.trans (hb1v.mono hbu1.size);have HBK1:=Hd hbk1;have HG1:=Hd kg1;have HT1:Hid (Trs.at (fun k=>k<v1.heap.size) v1 g1.tr (kG g1 A1 c1 B1 d1).toList):=Hd ((hg1.below hb1v).mono (fun k hk=>aO hk hb1v.size));have HV1:=Hd hv1;have HC2:Hid (Calls Tryz.prog 10 #[.agg #[.slice SA sc.length sC,.slice NA nd.length nC],.slice AA args.length ac,.slice IA ids.length ic,.int .i64 scope,.agg (kX x XA xc)] v1 (nH (g2,n1) v1)):=Hd (HE2.o v1 hbk1);clear f0 f1 x0 x1 x2 x3 x4 x5;obtain⟨f0,f1⟩:=gO ((HF4.o.below HB4k.o).below hbk1);obtain⟨x0,x1,x2,x3,x4,x5⟩:=gH ((HX4.o.below HB4k.o).below hbk1);clear hg1 hbu1 hb1v kg1 hbk1 hv1 HE1 HE2;go_upto_region 21 with fail;rw[<-HV1.o];go_wp2_with fail;refine HC2.o.mono ?_;rintro e u2 ⟨cs2,rfl,hg2,hbu2⟩;have hg2:Trs.at (fun k=>k<u2.heap.size) u2 g2.tr cs2:=hg2;obtain⟨A2,B2,c2,d2,rfl,-⟩:=fX hg2;obtain⟨v2,hv2⟩:∃ v2,v2=u2.alloc (.cells (kG g2 A2 c2 B2 d2) 46):=⟨_,rfl⟩;have hb2v:Below u2.heap.size u2 v2:=by rw[hv2];exact(aB _ u2).alloc (aA _) _
           have kg2:Blk v2 u2.heap.size (kG g2 A2 c2 B2 d2) 46:=by rw[hv2];exact aJ _ _ _
           have hb12:=hbu2.trans (hb2v.mono hbu2.size);have hbk2:=HBK1.o.trans (hb12.mono HBK1.o.size);have HBK2:=Hd hbk2;have HG1b:=Hd (HG1.o.below hb12);have HG2:=Hd kg2;have HT1b:Hid (Trs.at (fun k=>k<v2.heap.size) v2 g1.tr (kG g1 A1 c1 B1 d1).toList):=Hd ((HT1.o.below hb12).mono (fun k hk=>aO hk hb12.size));have HT2:Hid (Trs.at (fun k=>k<v2.heap.size) v2 g2.tr (kG g2 A2 c2 B2 d2).toList):=Hd ((hg2.below hb2v).mono (fun k hk=>aO hk hb2v.size));have HV2:=Hd hv2;have HC3:Hid (Calls Tryz.prog 10 #[.agg #[.slice SA sc.length sC,.slice NA nd.length nC],.slice AA args.length ac,.slice MA2 (ids.length+nd.length) mc2,.int .i64 scope,.agg (kX x XA xc)] v2 (nH (g3,n1) v2)):=Hd (HE3.o v2 hbk2);clear f0 f1 x0 x1 x2 x3 x4 x5;obtain⟨f0,f1⟩:=gO ((HF4.o.below HB4k.o).below hbk2);obtain⟨x0,x1,x2,x3,x4,x5⟩:=gH ((HX4.o.below HB4k.o).below hbk2);clear hg2 hbu2 hb2v kg2 hb12 hbk2 hv2 HE3 HC2 HG1 HT1;go_upto_region 22 with fail;rw[<-HV2.o];go_wp2_with fail;refine HC3.o.mono ?_;rintro e u3 ⟨cs3,rfl,hg3,hbu3⟩;have hg3:Trs.at (fun k=>k<u3.heap.size) u3 g3.tr cs3:=hg3;obtain⟨A3,B3,c3,d3,rfl,-⟩:=fX hg3;obtain⟨v3,hv3⟩:∃ v3,v3=u3.alloc (.cells (kG g3 A3 c3 B3 d3) 46):=⟨_,rfl⟩;have hb3v:Below u3.heap.size u3 v3:=by rw[hv3];exact(aB _ u3).alloc (aA _) _
           have kg3:Blk v3 u3.heap.size (kG g3 A3 c3 B3 d3) 46:=by rw[hv3];exact aJ _ _ _
           have hb23:=hbu3.trans (hb3v.mono hbu3.size);have hbk3:=HBK2.o.trans (hb23.mono HBK2.o.size);have HBW3:=Hd (HBWk.o.trans (hbk3.mono HBWk.o.size));have HG1c:=Hd (HG1b.o.below hb23);have HG2c:=Hd (HG2.o.below hb23);have HG3:=Hd kg3;have HT1c:Hid (Trs.at (fun k=>k<v3.heap.size) v3 g1.tr (kG g1 A1 c1 B1 d1).toList):=Hd ((HT1b.o.below hb23).mono (fun k hk=>aO hk hb23.size));have HT2c:Hid (Trs.at (fun k=>k<v3.heap.size) v3 g2.tr (kG g2 A2 c2 B2 d2).toList):=Hd ((HT2.o.below hb23).mono (fun k hk=>aO hk hb23.size));have HT3:Hid (Trs.at (fun k=>k<v3.heap.size) v3 g3.tr (kG g3 A3 c3 B3 d3).toList):=Hd ((hg3.below hb3v).mono (fun k hk=>aO hk hb3v.size));have HV3:=Hd hv3;clear f0 f1 x0 x1 x2 x3 x4 x5 hg3 hbu3 hb3v kg3 hb23 hbk3 hv3 HC3 HG1b HG2 HT1b HT2;have hnn:((n1:Int)!=(n1:Int))=false:=by simp
           go_upto_region 23 with fail;rw[<-HV3.o];by_cases h0:n1=0
           .have hn0:((n1:Int)!=0)=false:=by simp[h0]
            have HAB:Hid (g1.unknown=false->g2=g1):=Hd (HAN.o.ab h0);have HBC:Hid (g2.unknown=false->g3=g2):=Hd (HAN.o.bc h0);have HAL3:Hid (kn=true->g3.unknown=false):=Hd (HAN.o.all h0);have HD1:Hid (kC 2 g1.v):=Hd HAN.o.d1;have HD2:Hid (kC 2 g2.v):=Hd HAN.o.d2;go_upto_region 27 with fail;cases hu1:g1.unknown with
            | false =>
              obtain rfl:g2=g1:=HAB.o hu1;obtain rfl:g3=g2:=HBC.o hu1;unfold kG at HG1c HG2c HG3;rw[hu1] at HG1c HG2c HG3 HT1c HT2c HT3;have HO10:=xK 2 (fun k=>k<v3.heap.size) g3 _ _ v3 (fun k hk=>hk) HT1c.o HT2c.o HD1.o;rw[aV,aV] at HO10;have HO1:=Hd HO10;clear HO10;obtain⟨z0,z1,z2,z3,z4,z5,z6,z7⟩:=gI HG1c.o;obtain⟨y0,y1,y2,y3,y4,y5,y6,y7⟩:=gI HG2c.o;obtain⟨t0,t1,t2,t3,t4,t5,t6,t7⟩:=gI HG3.o;go_wp2_with fail;refine HO1.o.mono ?_;rintro e w5 ⟨rfl,hb⟩;have HB5':=Hd (HBW3.o.trans (hb.mono HBW3.o.size));have ha2:=(HT2c.o.below hb).mono (fun k hk=>aO hk hb.size);have ha3:=(HT3.o.below hb).mono (fun k hk=>aO hk hb.size);have HO20:=xK 2 (fun k=>k<w5.heap.size) g3 _ _ w5 (fun k hk=>hk) ha2 ha3 HD1.o;rw[aV,aV] at HO20;have HO2:=Hd HO20;clear HO20;clear z0 z1 z2 z3 z4 z5 z6 z7 y0 y1 y2 y3 y4 y5 y6 y7 t0 t1 t2 t3 t4 t5 t6 t7;obtain⟨y0,y1,y2,y3,y4,y5,y6,y7⟩:=gI (HG2c.o.below hb);obtain⟨t0,t1,t2,t3,t4,t5,t6,t7⟩:=gI (HG3.o.below hb);have HG3b:=Hd (HG3.o.below hb);clear hb ha2 ha3;go_wp2_with fail;refine HO2.o.mono ?_;rintro e w6 ⟨rfl,hb⟩;have HB6':=Hd (HB5'.o.trans (hb.mono HB5'.o.size));clear y0 y1 y2 y3 y4 y5 y6 y7 t0 t1 t2 t3 t4 t5 t6 t7;obtain⟨t0,t1,t2,t3,t4,t5,t6,t7⟩:=gI (HG3b.o.below hb);clear hb;have HW5:=Hd (HWA.o w6 HB6'.o);go_wp2_with fail;refine HW5.o.mono ?_;rintro e w9 ⟨rfl,hb⟩;have HB9:=Hd (HB6'.o.trans (hb.mono HB6'.o.size));clear hb;go_wp2;go_ret;exact⟨rfl,HB9.o⟩
            | true =>
              unfold kG at HG1c;rw[hu1] at HG1c HT1c;cases hu2:g2.unknown with
              | false =>
                obtain rfl:g3=g2:=HBC.o hu2;unfold kG at HG2c HG3;rw[hu2] at HG2c HG3 HT2c HT3;have HO20:=xK 2 (fun k=>k<v3.heap.size) g3 _ _ v3 (fun k hk=>hk) HT2c.o HT3.o HD2.o;rw[aV,aV] at HO20;have HO2:=Hd HO20;clear HO20;obtain⟨z0,z1,z2,z3,z4,z5,z6,z7⟩:=gI HG1c.o;obtain⟨y0,y1,y2,y3,y4,y5,y6,y7⟩:=gI HG2c.o;obtain⟨t0,t1,t2,t3,t4,t5,t6,t7⟩:=gI HG3.o;go_wp2_with fail;refine HO2.o.mono ?_;rintro e w6 ⟨rfl,hb⟩;have HB6':=Hd (HBW3.o.trans (hb.mono HBW3.o.size));clear z0 z1 z2 z3 z4 z5 z6 z7 y0 y1 y2 y3 y4 y5 y6 y7 t0 t1 t2 t3 t4 t5 t6 t7;obtain⟨t0,t1,t2,t3,t4,t5,t6,t7⟩:=gI (HG3.o.below hb);clear hb;have HW5:=Hd (HWA.o w6 HB6'.o);go_wp2_with fail;refine HW5.o.mono ?_;rintro e w9 ⟨rfl,hb⟩;have HB9:=Hd (HB6'.o.trans (hb.mono HB6'.o.size));clear hb;go_wp2;go_ret;exact⟨rfl,HB9.o⟩
              | true =>
                unfold kG at HG2c;rw[hu2] at HG2c HT2c;cases hu3:g3.unknown with
                | false =>
                  unfold kG at HG3;rw[hu3] at HG3 HT3;obtain⟨z0,z1,z2,z3,z4,z5,z6,z7⟩:=gI HG1c.o;obtain⟨y0,y1,y2,y3,y4,y5,y6,y7⟩:=gI HG2c.o;obtain⟨t0,t1,t2,t3,t4,t5,t6,t7⟩:=gI HG3.o;have HW5:=Hd (HWA.o v3 HBW3.o);go_wp2_with fail;refine HW5.o.mono ?_;rintro e w9 ⟨rfl,hb⟩;have HB9:=Hd (HBW3.o.trans (hb.mono HBW3.o.size));clear hb;go_wp2;go_ret;exact⟨rfl,HB9.o⟩
                | true =>
                  unfold kG at HG3;rw[hu3] at HG3 HT3;cases kn with
                  | true=>exact absurd (HAL3.o rfl) (by rw[hu3];decide)
                  | false =>
                    obtain⟨z0,z1,z2,z3,z4,z5,z6,z7⟩:=gI HG1c.o;obtain⟨y0,y1,y2,y3,y4,y5,y6,y7⟩:=gI HG2c.o;obtain⟨t0,t1,t2,t3,t4,t5,t6,t7⟩:=gI HG3.o;have HW5:=Hd (HWA.o v3 HBW3.o);go_wp2_with fail;refine HW5.o.mono ?_;rintro e w9 ⟨rfl,hb⟩;have HB9:=Hd (HBW3.o.trans (hb.mono HBW3.o.size));clear hb;go_wp2;go_ret;exact⟨rfl,HB9.o⟩
           have hn0:((n1:Int)!=0)=true:=by simpa using h0
           have HW5:=Hd (HWA.o v3 HBW3.o);go_wp2_with fail;refine HW5.o.mono ?_;rintro e w6 ⟨rfl,hb⟩;have HB6:=Hd (HBW3.o.trans (hb.mono HBW3.o.size));clear hb;go_wp2;go_ret;exact⟨rfl,HB6.o⟩
open Go.ChangeShapes Go.WideShapes Go.ChangeAt
theorem pI {enc:TypeId × Value->H} {w:World} {v:Value} {d:DataW H} {ps:List MemPlace} {P:Program} (h:DataW.Trod enc P w 0 (fun _=>true) true t v d ps):∀ x∈ps,x.block<w.heap.size:=by
 obtain⟨m,hm⟩:=h;exact DataW.trod_lt m _ _ _ hm
