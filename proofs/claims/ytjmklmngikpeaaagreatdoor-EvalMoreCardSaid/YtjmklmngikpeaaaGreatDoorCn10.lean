/- Part of the proof. -/
import Derived.Deep.DeepCutAuto
import Derived.Test.YtjmklmngikpeaaaGreatDoorCn8
set_option maxRecDepth 100000
set_option maxHeartbeats 8000000
set_option linter.unusedVariables false
set_option linter.unusedSimpArgs false
namespace Go.Proofs.YtjmklmngikpeaaaGreatDoor
open Go.RowKit
variable {c:Cd}{ns:List ByteArray}{l:List Cd}{e:Nat}{S:Nat->Prop}{a b:Option Nat}{w:World}
theorem q8 {a:Addr} {cs:List Value} (h:Trs.at S w c.tr cs) (hc:i7 w a cs) :
 ∃ A1 n1 B1 n2 L lc,i7 w a [.string c.name,.int .i8 c.kind,.int .i8 c.a.kind,.string c.a.text,.int .i64 c.a.num,.string c.a.name,.string c.a.attr,.slice A1 c.a.l.length n1,.int .i8 c.b.kind,.string c.b.text,.int .i64 c.b.num,.string c.b.name,.string c.b.attr,.slice B1 c.b.l.length n2,.slice L c.l.length lc] /\
   Ls S w 15 224 Cd.tr L lc c.l/\c.name.size<=9007199254740992/\c.a.text.size<=9007199254740992/\c.b.text.size<=9007199254740992/\Trs.at S w c.a.tr [.int .i8 c.a.kind,.string c.a.text,.int .i64 c.a.num,.string c.a.name,.string c.a.attr,.slice A1 c.a.l.length n1] /\
   Trs.at S w c.b.tr [.int .i8 c.b.kind,.string c.b.text,.int .i64 c.b.num,.string c.b.name,.string c.b.attr,.slice B1 c.b.l.length n2]:=by
 obtain⟨xs,ys,L,lc,rfl,hn,_,hxa,hxb,hl⟩:=Cd.at_iff.1 h
 obtain⟨A1,n1,rfl,_,_,ha,_⟩:=Ex.at_iff.1 hxa
 obtain⟨B1,n2,rfl,_,_,hb,_⟩:=Ex.at_iff.1 hxb
 exact⟨A1,n1,B1,n2,L,lc,hc,hl,hn,ha,hb,hxa,hxb⟩
def UG (k:Nat):Prop:=∀ (S:Nat->Prop) (c:Cd) (cs:List Value) (a:Addr) (w:World),j4 w->Trs.at S w c.tr cs->i7 w a cs->Calls Tryz.prog 163 #[.pointer (some a),.int .i64 (k:Int)] w (BoolB (fU k c) w)
def gM (k:Nat) (l:List Cd):Bool:=l.all fun p=>(decide (p.kind=4)||fW p.name ByteArray.empty)&&fU k p
def kK (c:Cd):Bool:=if c.kind=1∨c.kind=2 then decide (1<=c.l.length/\c.l.length<=4) else if c.kind=3 then decide (c.l.length=1) else false
theorem G6 (k:Nat) (c:Cd):fU (k+1) c=if c.kind=0 then decide (c.l.length=0)&&(gF c.a&&gF c.b)
 else if c.kind=4 then (gQ c.a&&gQ c.b)&&(decide (c.l.length=0)&&!fW c.name ByteArray.empty)
 else kK c&&(gQ c.a&&gQ c.b)&&gM k c.l:=rfl
theorem sh_zero:UG 0:=by
 intro S c cs a w hV htr hcel;obtain⟨A1,n1,B1,n2,L,lc,hcc,hls,hns,hta,htb,hxa,hxb⟩:=q8 htr hcel;have HCC:=Hd hcc;have HLS:=Hd hls;have hcap:=hls.cap;have hbyt:=hls.bytes;obtain⟨c0,c1,c2,c3,c4,c5,c6,c7,c8,c9,c10,c11,c12,c13,c14⟩:=gP hcc;have HNA:=Hd (lD c.a A1 n1 w);have HNB:=Hd (fun w'=>lD c.b B1 n2 w');obtain⟨nA,hnA⟩:∃ nA,nA=gQ c.a:=⟨_,rfl⟩;obtain⟨nB,hnB⟩:∃ nB,nB=gQ c.b:=⟨_,rfl⟩;rw[<-hnA] at HNA;rw[<-hnB] at HNB;clear htr hcel hcc hls hV hxa hxb hnA hnB hta htb;have hk0:((0:Nat):Int)=0:=rfl;rw[hk0];go_enter Tryz.func163,Tryz.ntmps163;go_wp2_with fail;refine HNA.o.mono ?_;rintro e w2 ⟨rfl,hb2⟩;have HB2:=Hd hb2;have d8:=(hb2.cell (aF w _ c8)).trans c8;have d9:=(hb2.cell (aF w _ c9)).trans c9;have d10:=(hb2.cell (aF w _ c10)).trans c10;have d11:=(hb2.cell (aF w _ c11)).trans c11;have d12:=(hb2.cell (aF w _ c12)).trans c12;have d13:=(hb2.cell (aF w _ c13)).trans c13;have d1:=(hb2.cell (aF w _ c1)).trans c1;clear hb2 HNA;cases nA with
 | false =>
   have HB3:=HB2;clear d1 d8 d9 d10 d11 d12 d13;obtain⟨d0,d1,d2,d3,d4,d5,d6,d7,d8,d9,d10,d11,d12,d13,d14⟩:=gP (HCC.o.below HB3.o);clear c0 c1 c2 c3 c4 c5 c6 c7 c8 c9 c10 c11 c12 c13 c14 HNB;by_cases h0:c.kind=0
   .have e0:(c.kind==0)=true:=by rw[h0];rfl
    skip;go_wp2;go_ret;exact⟨rfl,HB3.o⟩
   have e0:(c.kind==0)=false:=by simpa using h0
   by_cases h4:c.kind=4
   .have e4:(c.kind==4)=true:=by rw[h4];rfl
    skip;go_wp2;go_ret;exact⟨rfl,HB3.o⟩
   have e4:(c.kind==4)=false:=by simpa using h4
   by_cases h1:c.kind=1
   .have e1:(c.kind==1)=true:=by rw[h1];rfl
    skip;by_cases hm1:1<=c.l.length
    .have hm1i:(1:Int)<=(c.l.length:Int):=by omega
     by_cases hm2:(c.l.length:Int)<=4;all_goals
      go_wp2_with fail
      go_ret
      exact⟨rfl,HB3.o⟩
    have hm1i:¬((1:Int)<=(c.l.length:Int)):=by omega
    go_wp2;go_ret;exact⟨rfl,HB3.o⟩
   have e1:(c.kind==1)=false:=by simpa using h1
   by_cases h2:c.kind=2
   .have e2:(c.kind==2)=true:=by rw[h2];rfl
    skip;by_cases hm1:1<=c.l.length
    .have hm1i:(1:Int)<=(c.l.length:Int):=by omega
     by_cases hm2:(c.l.length:Int)<=4;all_goals
      go_wp2_with fail
      go_ret
      exact⟨rfl,HB3.o⟩
    have hm1i:¬((1:Int)<=(c.l.length:Int)):=by omega
    go_wp2;go_ret;exact⟨rfl,HB3.o⟩
   have e2:(c.kind==2)=false:=by simpa using h2
   by_cases h3:c.kind=3
   .have e3:(c.kind==3)=true:=by rw[h3];rfl
    skip;cases hm:((c.l.length:Int)==1);all_goals
     go_wp2_with fail
     go_ret
     exact⟨rfl,HB3.o⟩
   have e3:(c.kind==3)=false:=by simpa using h3
   go_wp2_with fail;all_goals
    go_ret
    exact⟨rfl,HB3.o⟩
 | true =>
   go_wp2_with fail;refine(HNB.o _).mono ?_;rintro e w3 ⟨rfl,hb3⟩;have HB3:=Hd (HB2.o.trans (hb3.mono HB2.o.size));clear d1 d8 d9 d10 d11 d12 d13 hb3;obtain⟨d0,d1,d2,d3,d4,d5,d6,d7,d8,d9,d10,d11,d12,d13,d14⟩:=gP (HCC.o.below HB3.o);clear c0 c1 c2 c3 c4 c5 c6 c7 c8 c9 c10 c11 c12 c13 c14 HNB;cases nB with
   | false =>
     by_cases h0:c.kind=0
     .have e0:(c.kind==0)=true:=by rw[h0];rfl
      skip;go_wp2;go_ret;exact⟨rfl,HB3.o⟩
     have e0:(c.kind==0)=false:=by simpa using h0
     by_cases h4:c.kind=4
     .have e4:(c.kind==4)=true:=by rw[h4];rfl
      skip;go_wp2;go_ret;exact⟨rfl,HB3.o⟩
     have e4:(c.kind==4)=false:=by simpa using h4
     by_cases h1:c.kind=1
     .have e1:(c.kind==1)=true:=by rw[h1];rfl
      skip;by_cases hm1:1<=c.l.length
      .have hm1i:(1:Int)<=(c.l.length:Int):=by omega
       by_cases hm2:(c.l.length:Int)<=4;all_goals
        go_wp2_with fail
        go_ret
        exact⟨rfl,HB3.o⟩
      have hm1i:¬((1:Int)<=(c.l.length:Int)):=by omega
      go_wp2;go_ret;exact⟨rfl,HB3.o⟩
     have e1:(c.kind==1)=false:=by simpa using h1
     by_cases h2:c.kind=2
     .have e2:(c.kind==2)=true:=by rw[h2];rfl
      skip;by_cases hm1:1<=c.l.length
      .have hm1i:(1:Int)<=(c.l.length:Int):=by omega
       by_cases hm2:(c.l.length:Int)<=4;all_goals
        go_wp2_with fail
        go_ret
        exact⟨rfl,HB3.o⟩
      have hm1i:¬((1:Int)<=(c.l.length:Int)):=by omega
      go_wp2;go_ret;exact⟨rfl,HB3.o⟩
     have e2:(c.kind==2)=false:=by simpa using h2
     by_cases h3:c.kind=3
     .have e3:(c.kind==3)=true:=by rw[h3];rfl
      skip;cases hm:((c.l.length:Int)==1);all_goals
       go_wp2_with fail
       go_ret
       exact⟨rfl,HB3.o⟩
     have e3:(c.kind==3)=false:=by simpa using h3
     go_wp2_with fail;all_goals
      go_ret
      exact⟨rfl,HB3.o⟩
   | true =>
     by_cases h0:c.kind=0
     .have e0:(c.kind==0)=true:=by rw[h0];rfl
      skip;go_wp2;go_ret;exact⟨rfl,HB3.o⟩
     have e0:(c.kind==0)=false:=by simpa using h0
     by_cases h4:c.kind=4
     .have e4:(c.kind==4)=true:=by rw[h4];rfl
      skip;go_wp2;go_ret;exact⟨rfl,HB3.o⟩
     have e4:(c.kind==4)=false:=by simpa using h4
     by_cases h1:c.kind=1
     .have e1:(c.kind==1)=true:=by rw[h1];rfl
      skip;by_cases hm1:1<=c.l.length
      .have hm1i:(1:Int)<=(c.l.length:Int):=by omega
       by_cases hm2:(c.l.length:Int)<=4;all_goals
        go_wp2_with fail
        go_ret
        exact⟨rfl,HB3.o⟩
      have hm1i:¬((1:Int)<=(c.l.length:Int)):=by omega
      go_wp2;go_ret;exact⟨rfl,HB3.o⟩
     have e1:(c.kind==1)=false:=by simpa using h1
     by_cases h2:c.kind=2
     .have e2:(c.kind==2)=true:=by rw[h2];rfl
      skip;by_cases hm1:1<=c.l.length
      .have hm1i:(1:Int)<=(c.l.length:Int):=by omega
       by_cases hm2:(c.l.length:Int)<=4;all_goals
        go_wp2_with fail
        go_ret
        exact⟨rfl,HB3.o⟩
      have hm1i:¬((1:Int)<=(c.l.length:Int)):=by omega
      go_wp2;go_ret;exact⟨rfl,HB3.o⟩
     have e2:(c.kind==2)=false:=by simpa using h2
     by_cases h3:c.kind=3
     .have e3:(c.kind==3)=true:=by rw[h3];rfl
      skip;cases hm:((c.l.length:Int)==1);all_goals
       go_wp2_with fail
       go_ret
       exact⟨rfl,HB3.o⟩
     have e3:(c.kind==3)=false:=by simpa using h3
     go_wp2_with fail;all_goals
      go_ret
      exact⟨rfl,HB3.o⟩
theorem NF (k:Nat) (hk:k<=100) (IH:UG k) (S:Nat->Prop) (c:Cd) (cs:List Value) (a:Addr) (w:World) (hV:j4 w) (htr:Trs.at S w c.tr cs) (hcel:i7 w a cs) :
 Calls Tryz.prog 163 #[.pointer (some a),.int .i64 ((k+1:Nat):Int)] w (BoolB (fU (k+1) c) w):=by
 obtain⟨A1,n1,B1,n2,L,lc,hcc,hls,hns,hta,htb,hxa,hxb⟩:=q8 htr hcel;have HCC:=Hd hcc;have HLS:=Hd hls;have HV:=Hd hV;have hcap:=hls.cap;have hbyt:=hls.bytes;have HE:=Hd (G6 k c);obtain⟨c0,c1,c2,c3,c4,c5,c6,c7,c8,c9,c10,c11,c12,c13,c14⟩:=gP hcc;have HNA:=Hd (lD c.a A1 n1 w);have HNB:=Hd (fun w'=>lD c.b B1 n2 w');have HPA:=Hd (fun (w':World) (hb:Below w.heap.size w w')=>qL c.a A1 n1 w' (HV.o.below hb) hta);have HPB:=Hd (fun (w':World) (hb:Below w.heap.size w w')=>qL c.b B1 n2 w' (HV.o.below hb) htb);obtain⟨nA,hnA⟩:∃ nA,nA=gQ c.a:=⟨_,rfl⟩;obtain⟨nB,hnB⟩:∃ nB,nB=gQ c.b:=⟨_,rfl⟩;rw[<-hnA] at HNA HE;rw[<-hnB] at HNB HE;clear htr hcel hcc hls hV hxa hxb hnA hnB hta htb;have hk0:((k+1:Nat):Int)=(k:Int)+1:=by omega
 rw[hk0];go_enter Tryz.func163,Tryz.ntmps163;go_wp2_with fail;refine HNA.o.mono ?_;rintro e w2 ⟨rfl,hb2⟩;have HB2:=Hd hb2;have d8:=(hb2.cell (aF w _ c8)).trans c8;have d9:=(hb2.cell (aF w _ c9)).trans c9;have d10:=(hb2.cell (aF w _ c10)).trans c10;have d11:=(hb2.cell (aF w _ c11)).trans c11;have d12:=(hb2.cell (aF w _ c12)).trans c12;have d13:=(hb2.cell (aF w _ c13)).trans c13;have d1:=(hb2.cell (aF w _ c1)).trans c1;clear hb2 HNA;cases nA with
 | false =>
   have HB3:=HB2;clear d1 d8 d9 d10 d11 d12 d13;obtain⟨d0,d1,d2,d3,d4,d5,d6,d7,d8,d9,d10,d11,d12,d13,d14⟩:=gP (HCC.o.below HB3.o);clear c0 c1 c2 c3 c4 c5 c6 c7 c8 c9 c10 c11 c12 c13 c14 HNB;simp only[Bool.false_and] at HE;go_upto_if 28 with (fail);by_cases h0:c.kind=0
   .have e0:(c.kind==0)=true:=by rw[h0];rfl
    have HR:Hid (fU (k+1) c=(decide (c.l.length=0)&&(gF c.a&&gF c.b))):=Hd (by rw[HE.o,if_pos h0]);obtain⟨pA,hpA⟩:∃ pA,pA=gF c.a:=⟨_,rfl⟩;obtain⟨pB,hpB⟩:∃ pB,pB=gF c.b:=⟨_,rfl⟩;rw[<-hpA] at HPA HR;rw[<-hpB] at HPB HR;clear hpA hpB h0 HE;rw[e0];by_cases hl:c.l.length=0
    .have hli:((c.l.length:Int)==0)=true:=by rw[beq_iff_eq];omega
     go_wp2_with fail;refine(HPA.o _ HB3.o).mono ?_;rintro e w4 ⟨rfl,hb4⟩;have HB4:=Hd (HB3.o.trans (hb4.mono HB3.o.size));clear hb4 d0 d1 d2 d3 d4 d5 d6 d7 d8 d9 d10 d11 d12 d13 d14;obtain⟨d0,d1,d2,d3,d4,d5,d6,d7,d8,d9,d10,d11,d12,d13,d14⟩:=gP (HCC.o.below HB4.o);cases pA with
     | false =>
       go_wp2;go_ret;exact⟨by rw[HR.o];simp,HB4.o⟩
     | true =>
       go_wp2_with fail;refine(HPB.o _ HB4.o).mono ?_;rintro e w5 ⟨rfl,hb5⟩;have HB5:=Hd (HB4.o.trans (hb5.mono HB4.o.size));clear hb5;go_wp2;go_ret;exact⟨by rw[HR.o,hl];simp,HB5.o⟩
    have hli:((c.l.length:Int)==0)=false:=by rw[beq_eq_false_iff_ne];omega
    go_wp2;go_ret;exact⟨by rw[HR.o,decide_eq_false hl];rfl,HB3.o⟩
   have e0:(c.kind==0)=false:=by simpa using h0
   rw[if_neg h0] at HE;clear HPA HPB;by_cases h4:c.kind=4
   .have e4:(c.kind==4)=true:=by rw[h4];rfl
    rw[if_pos h4] at HE;clear h0 h4;by_cases hl:c.l.length=0
    .have hli:((c.l.length:Int)==0)=true:=by rw[beq_iff_eq];omega
     by_cases hn:c.name=ByteArray.empty
     .have hE:c.name.toList=[]:=by rw[hn,Lib.toList_data];rfl
      have HPN:=Hd (bEq_iff.2 hn);clear hn;go_wp2;go_ret;exact⟨by rw[HE.o];first | rfl | (rw[HPN.o];simp),HB3.o⟩
     have hE:¬(c.name.toList=[]):=fun e=>hn (kQ (by rw[<-Lib.toList_data,e];rfl))
     have hE2:(!c.name.toList.isEmpty)=true:=by simpa using hE
     have HPN:=Hd (bEq_ne hn);clear hn;go_wp2;go_ret;exact⟨by rw[HE.o];first | rfl | (rw[HPN.o,hl];simp),HB3.o⟩
    have hli:((c.l.length:Int)==0)=false:=by rw[beq_eq_false_iff_ne];omega
    go_wp2;go_ret;exact⟨by rw[HE.o];first | rfl | (rw[decide_eq_false hl];simp),HB3.o⟩
   have e4:(c.kind==4)=false:=by simpa using h4
   rw[if_neg h4] at HE;by_cases h1:c.kind=1
   .have e1:(c.kind==1)=true:=by rw[h1];rfl
    clear h0 h4;have HRF:Hid (fU (k+1) c=false):=Hd (by rw[HE.o];simp);clear HE;go_wp2_with fail;all_goals
     go_ret
     exact⟨by rw[HRF.o];first | done | rfl,HB3.o⟩
   have e1:(c.kind==1)=false:=by simpa using h1
   by_cases h2:c.kind=2
   .have e2:(c.kind==2)=true:=by rw[h2];rfl
    clear h0 h4 h1;have HRF:Hid (fU (k+1) c=false):=Hd (by rw[HE.o];simp);clear HE;go_wp2_with fail;all_goals
     go_ret
     exact⟨by rw[HRF.o];first | done | rfl,HB3.o⟩
   have e2:(c.kind==2)=false:=by simpa using h2
   by_cases h3:c.kind=3
   .have e3:(c.kind==3)=true:=by rw[h3];rfl
    clear h0 h4;have HRF:Hid (fU (k+1) c=false):=Hd (by rw[HE.o];simp);clear HE;go_wp2_with fail;all_goals
     go_ret
     exact⟨by rw[HRF.o];first | done | rfl,HB3.o⟩
   have e3:(c.kind==3)=false:=by simpa using h3
   clear h0 h4;have HRF:Hid (fU (k+1) c=false):=Hd (by rw[HE.o];simp);clear HE;go_wp2_with fail;all_goals
    go_ret
    exact⟨by rw[HRF.o];first | done | rfl,HB3.o⟩
 | true =>
   go_wp2_with fail;refine(HNB.o _).mono ?_;rintro e w3 ⟨rfl,hb3⟩;have HB3:=Hd (HB2.o.trans (hb3.mono HB2.o.size));clear d1 d8 d9 d10 d11 d12 d13 hb3;obtain⟨d0,d1,d2,d3,d4,d5,d6,d7,d8,d9,d10,d11,d12,d13,d14⟩:=gP (HCC.o.below HB3.o);clear c0 c1 c2 c3 c4 c5 c6 c7 c8 c9 c10 c11 c12 c13 c14 HNB;cases nB with
   | false =>
     simp only[eE] at HE;go_upto_if 28 with (fail);by_cases h0:c.kind=0
     .have e0:(c.kind==0)=true:=by rw[h0];rfl
      have HR:Hid (fU (k+1) c=(decide (c.l.length=0)&&(gF c.a&&gF c.b))):=Hd (by rw[HE.o,if_pos h0]);obtain⟨pA,hpA⟩:∃ pA,pA=gF c.a:=⟨_,rfl⟩;obtain⟨pB,hpB⟩:∃ pB,pB=gF c.b:=⟨_,rfl⟩;rw[<-hpA] at HPA HR;rw[<-hpB] at HPB HR;clear hpA hpB h0 HE;rw[e0];by_cases hl:c.l.length=0
      .have hli:((c.l.length:Int)==0)=true:=by rw[beq_iff_eq];omega
       go_wp2_with fail;refine(HPA.o _ HB3.o).mono ?_;rintro e w4 ⟨rfl,hb4⟩;have HB4:=Hd (HB3.o.trans (hb4.mono HB3.o.size));clear hb4 d0 d1 d2 d3 d4 d5 d6 d7 d8 d9 d10 d11 d12 d13 d14;obtain⟨d0,d1,d2,d3,d4,d5,d6,d7,d8,d9,d10,d11,d12,d13,d14⟩:=gP (HCC.o.below HB4.o);cases pA with
       | false =>
         go_wp2;go_ret;exact⟨by rw[HR.o];simp,HB4.o⟩
       | true =>
         go_wp2_with fail;refine(HPB.o _ HB4.o).mono ?_;rintro e w5 ⟨rfl,hb5⟩;have HB5:=Hd (HB4.o.trans (hb5.mono HB4.o.size));clear hb5;go_wp2;go_ret;exact⟨by rw[HR.o,hl];simp,HB5.o⟩
      have hli:((c.l.length:Int)==0)=false:=by rw[beq_eq_false_iff_ne];omega
      go_wp2;go_ret;exact⟨by rw[HR.o,decide_eq_false hl];rfl,HB3.o⟩
     have e0:(c.kind==0)=false:=by simpa using h0
     rw[if_neg h0] at HE;clear HPA HPB;by_cases h4:c.kind=4
     .have e4:(c.kind==4)=true:=by rw[h4];rfl
      rw[if_pos h4] at HE;clear h0 h4;by_cases hl:c.l.length=0
      .have hli:((c.l.length:Int)==0)=true:=by rw[beq_iff_eq];omega
       by_cases hn:c.name=ByteArray.empty
       .have hE:c.name.toList=[]:=by rw[hn,Lib.toList_data];rfl
        have HPN:=Hd (bEq_iff.2 hn);clear hn;go_wp2;go_ret;exact⟨by rw[HE.o];first | rfl | (rw[HPN.o];simp),HB3.o⟩
       have hE:¬(c.name.toList=[]):=fun e=>hn (kQ (by rw[<-Lib.toList_data,e];rfl))
       have hE2:(!c.name.toList.isEmpty)=true:=by simpa using hE
       have HPN:=Hd (bEq_ne hn);clear hn;go_wp2;go_ret;exact⟨by rw[HE.o];first | rfl | (rw[HPN.o,hl];simp),HB3.o⟩
      have hli:((c.l.length:Int)==0)=false:=by rw[beq_eq_false_iff_ne];omega
      go_wp2;go_ret;exact⟨by rw[HE.o];first | rfl | (rw[decide_eq_false hl];simp),HB3.o⟩
     have e4:(c.kind==4)=false:=by simpa using h4
     rw[if_neg h4] at HE;by_cases h1:c.kind=1
     .have e1:(c.kind==1)=true:=by rw[h1];rfl
      clear h0 h4;have HRF:Hid (fU (k+1) c=false):=Hd (by rw[HE.o];simp);clear HE;go_wp2_with fail;all_goals
       go_ret
       exact⟨by rw[HRF.o];first | done | rfl,HB3.o⟩
     have e1:(c.kind==1)=false:=by simpa using h1
     by_cases h2:c.kind=2
     .have e2:(c.kind==2)=true:=by rw[h2];rfl
      clear h0 h4 h1;have HRF:Hid (fU (k+1) c=false):=Hd (by rw[HE.o];simp);clear HE;go_wp2_with fail;all_goals
       go_ret
       exact⟨by rw[HRF.o];first | done | rfl,HB3.o⟩
     have e2:(c.kind==2)=false:=by simpa using h2
     by_cases h3:c.kind=3
     .have e3:(c.kind==3)=true:=by rw[h3];rfl
      clear h0 h4;have HRF:Hid (fU (k+1) c=false):=Hd (by rw[HE.o];simp);clear HE;go_wp2_with fail;all_goals
       go_ret
       exact⟨by rw[HRF.o];first | done | rfl,HB3.o⟩
     have e3:(c.kind==3)=false:=by simpa using h3
     clear h0 h4;have HRF:Hid (fU (k+1) c=false):=Hd (by rw[HE.o];simp);clear HE;go_wp2_with fail;all_goals
      go_ret
      exact⟨by rw[HRF.o];first | done | rfl,HB3.o⟩
   | true =>
     simp only[eE] at HE;go_upto_if 28 with (fail);by_cases h0:c.kind=0
     .have e0:(c.kind==0)=true:=by rw[h0];rfl
      have HR:Hid (fU (k+1) c=(decide (c.l.length=0)&&(gF c.a&&gF c.b))):=Hd (by rw[HE.o,if_pos h0]);obtain⟨pA,hpA⟩:∃ pA,pA=gF c.a:=⟨_,rfl⟩;obtain⟨pB,hpB⟩:∃ pB,pB=gF c.b:=⟨_,rfl⟩;rw[<-hpA] at HPA HR;rw[<-hpB] at HPB HR;clear hpA hpB h0 HE;rw[e0];by_cases hl:c.l.length=0
      .have hli:((c.l.length:Int)==0)=true:=by rw[beq_iff_eq];omega
       go_wp2_with fail;refine(HPA.o _ HB3.o).mono ?_;rintro e w4 ⟨rfl,hb4⟩;have HB4:=Hd (HB3.o.trans (hb4.mono HB3.o.size));clear hb4 d0 d1 d2 d3 d4 d5 d6 d7 d8 d9 d10 d11 d12 d13 d14;obtain⟨d0,d1,d2,d3,d4,d5,d6,d7,d8,d9,d10,d11,d12,d13,d14⟩:=gP (HCC.o.below HB4.o);cases pA with
       | false =>
         go_wp2;go_ret;exact⟨by rw[HR.o];simp,HB4.o⟩
       | true =>
         go_wp2_with fail;refine(HPB.o _ HB4.o).mono ?_;rintro e w5 ⟨rfl,hb5⟩;have HB5:=Hd (HB4.o.trans (hb5.mono HB4.o.size));clear hb5;go_wp2;go_ret;exact⟨by rw[HR.o,hl];simp,HB5.o⟩
      have hli:((c.l.length:Int)==0)=false:=by rw[beq_eq_false_iff_ne];omega
      go_wp2;go_ret;exact⟨by rw[HR.o,decide_eq_false hl];rfl,HB3.o⟩
     have e0:(c.kind==0)=false:=by simpa using h0
     rw[if_neg h0] at HE;clear HPA HPB;by_cases h4:c.kind=4
     .have e4:(c.kind==4)=true:=by rw[h4];rfl
      rw[if_pos h4] at HE;clear h0 h4;by_cases hl:c.l.length=0
      .have hli:((c.l.length:Int)==0)=true:=by rw[beq_iff_eq];omega
       by_cases hn:c.name=ByteArray.empty
       .have hE:c.name.toList=[]:=by rw[hn,Lib.toList_data];rfl
        have HPN:=Hd (bEq_iff.2 hn);clear hn;go_wp2;go_ret;exact⟨by rw[HE.o];first | rfl | (rw[HPN.o];simp),HB3.o⟩
       have hE:¬(c.name.toList=[]):=fun e=>hn (kQ (by rw[<-Lib.toList_data,e];rfl))
       have hE2:(!c.name.toList.isEmpty)=true:=by simpa using hE
       have HPN:=Hd (bEq_ne hn);clear hn;go_wp2;go_ret;exact⟨by rw[HE.o];first | rfl | (rw[HPN.o,hl];simp),HB3.o⟩
      have hli:((c.l.length:Int)==0)=false:=by rw[beq_eq_false_iff_ne];omega
      go_wp2;go_ret;exact⟨by rw[HE.o];first | rfl | (rw[decide_eq_false hl];simp),HB3.o⟩
     have e4:(c.kind==4)=false:=by simpa using h4
     rw[if_neg h4] at HE;by_cases h1:c.kind=1
     .have e1:(c.kind==1)=true:=by rw[h1];rfl
      clear h0 h4;by_cases hm:1<=c.l.length/\c.l.length<=4
      .have hm1:(1:Int)<=(c.l.length:Int):=by omega
       have hm2:(c.l.length:Int)<=4:=by omega
       have hmay:kK c=true:=by unfold kK;rw[if_pos (by omega),decide_eq_true hm]
       have HR:Hid (fU (k+1) c=gM k c.l):=Hd (by rw[HE.o,hmay];simp);clear hmay HE hm;go_wp2_with fail;clear d0 d1 d2 d3 d4 d5 d6 d7 d8 d9 d10 d11 d12 d13 d14;go_loopg [116] c.l.length (fun g i wr=>∃ j:Nat,j+g=c.l.length/\i=.int .i64 (j:Nat)/\Hid (gM k (c.l.take j)=true)/\Hid (Below w.heap.size w wr))
       case atStart=>exact⟨0,by omega,rfl,Hd rfl,HB3⟩
       obtain⟨j,hj,rfl,HOKJ,HBJ⟩:=hrel;rename World=>wo
       cases gk with
       | zero =>
         have hjj:¬((j:Int)<(c.l.length:Int)):=by omega
         have HRT:Hid (fU (k+1) c=true):=Hd (by
          have:=HOKJ.o;rw[aN (by omega)] at this;rw[HR.o,this])
         go_wp2;go_ret;exact⟨by rw[HRT.o];first | done | rfl,HBJ.o⟩
       | succ g =>
         have hjj:(j:Int)<(c.l.length:Int):=by omega
         obtain⟨p,hp⟩:=fO (l:=c.l) (i:=j) (by omega);obtain⟨ad,pcs,rfl,hpt,hpc⟩:=(HLS.o.below HBJ.o).elem cY hp;obtain⟨_,_,q0,q1,_,_,_⟩:=nE hpt hpc;obtain⟨_,_,_,_,_,_,_,_,_,_,_,_,_,_,r14⟩:=gP (HCC.o.below HBJ.o);have HIH:=Hd (IH S p pcs (ad.add (j*15)) wo (HV.o.below HBJ.o) hpt hpc);have HTK:Hid (gM k (c.l.take (j+1))=(gM k (c.l.take j)&&((decide (p.kind=4)||fW p.name ByteArray.empty)&&fU k p))):=Hd (by
          unfold gM;rw[aT,hp,List.all_append];simp)
         have HNO:Hid (((decide (p.kind=4)||fW p.name ByteArray.empty)&&fU k p)=false->fU (k+1) c=false):=Hd (fun h=>by
          have:gM k c.l=false:=by
           unfold gM;rw[List.all_eq_false];exact⟨p,aD hp,by rw[h];simp⟩
          rw[HR.o,this])
         have hkw:IntKind.i64.wrap ((k:Int)+1-1)=(k:Int):=by rw[IntKind.wrap_i64];omega
         obtain⟨sb,hsb⟩:∃ sb,sb=fU k p:=⟨_,rfl⟩;rw[<-hsb] at HIH HTK HNO;clear hp hpt hpc hsb;by_cases hk4:p.kind=4
         .have ek4:(p.kind==4)=true:=by rw[hk4];rfl
          rw[hk4] at HTK HNO;skip;cases sb with
          | true =>
            go_wp2_with fail;refine HIH.o.mono ?_;rintro e w5 ⟨rfl,hb5⟩;have HB5:=Hd (HBJ.o.trans (hb5.mono HBJ.o.size));clear hb5;go_wp2_with fail;go_roundg g
            case measure=>omega
            case rel=>exact⟨j+1,by omega,by go_num,Hd (by rw[HTK.o,HOKJ.o];simp),HB5⟩
          | false =>
            have HRF:Hid (fU (k+1) c=false):=Hd (HNO.o (by simp));go_wp2_with fail;refine HIH.o.mono ?_;rintro e w5 ⟨rfl,hb5⟩;have HB5:=Hd (HBJ.o.trans (hb5.mono HBJ.o.size));clear hb5;go_wp2;go_ret;exact⟨by rw[HRF.o];first | done | rfl,HB5.o⟩
         have ek4:(p.kind==4)=false:=by simpa using hk4
         by_cases hpn:p.name=ByteArray.empty
         .have hE:p.name.toList=[]:=by rw[hpn,Lib.toList_data];rfl
          have HPN:=Hd (bEq_iff.2 hpn);clear hpn;cases sb with
          | true =>
            go_wp2_with fail;refine HIH.o.mono ?_;rintro e w5 ⟨rfl,hb5⟩;have HB5:=Hd (HBJ.o.trans (hb5.mono HBJ.o.size));clear hb5;go_wp2_with fail;go_roundg g
            case measure=>omega
            case rel=>exact⟨j+1,by omega,by go_num,Hd (by rw[HTK.o,HOKJ.o,HPN.o];simp),HB5⟩
          | false =>
            have HRF:Hid (fU (k+1) c=false):=Hd (HNO.o (by simp));go_wp2_with fail;refine HIH.o.mono ?_;rintro e w5 ⟨rfl,hb5⟩;have HB5:=Hd (HBJ.o.trans (hb5.mono HBJ.o.size));clear hb5;go_wp2;go_ret;exact⟨by rw[HRF.o];first | done | rfl,HB5.o⟩
         have hE:¬(p.name.toList=[]):=fun e=>hpn (kQ (by rw[<-Lib.toList_data,e];rfl))
         have hE2:(!p.name.toList.isEmpty)=true:=by simpa using hE
         have HRF:Hid (fU (k+1) c=false):=Hd (HNO.o (by rw[decide_eq_false hk4,bEq_ne hpn];rfl));clear hpn HIH;go_wp2;go_ret;exact⟨by rw[HRF.o];first | done | rfl,HBJ.o⟩
      have hmay:kK c=false:=by unfold kK;rw[if_pos (by omega),decide_eq_false hm]
      by_cases hm1:1<=c.l.length
      .have hm1i:(1:Int)<=(c.l.length:Int):=by omega
       have hm2:¬((c.l.length:Int)<=4):=by omega
       have HRF:Hid (fU (k+1) c=false):=Hd (by rw[HE.o,hmay];simp);clear hmay HE;go_wp2;go_ret;exact⟨by rw[HRF.o];first | done | rfl,HB3.o⟩
      have hm1i:¬((1:Int)<=(c.l.length:Int)):=by omega
      have HRF:Hid (fU (k+1) c=false):=Hd (by rw[HE.o,hmay];simp);clear hmay HE;go_wp2;go_ret;exact⟨by rw[HRF.o];first | done | rfl,HB3.o⟩
     have e1:(c.kind==1)=false:=by simpa using h1
     by_cases h2:c.kind=2
     .have e2:(c.kind==2)=true:=by rw[h2];rfl
      clear h0 h4 h1;by_cases hm:1<=c.l.length/\c.l.length<=4
      .have hm1:(1:Int)<=(c.l.length:Int):=by omega
       have hm2:(c.l.length:Int)<=4:=by omega
       have hmay:kK c=true:=by unfold kK;rw[if_pos (by omega),decide_eq_true hm]
       have HR:Hid (fU (k+1) c=gM k c.l):=Hd (by rw[HE.o,hmay];simp);clear hmay HE hm;go_wp2_with fail;clear d0 d1 d2 d3 d4 d5 d6 d7 d8 d9 d10 d11 d12 d13 d14;go_loopg [116] c.l.length (fun g i wr=>∃ j:Nat,j+g=c.l.length/\i=.int .i64 (j:Nat)/\Hid (gM k (c.l.take j)=true)/\Hid (Below w.heap.size w wr))
       case atStart=>exact⟨0,by omega,rfl,Hd rfl,HB3⟩
       obtain⟨j,hj,rfl,HOKJ,HBJ⟩:=hrel;rename World=>wo
       cases gk with
       | zero =>
         have hjj:¬((j:Int)<(c.l.length:Int)):=by omega
         have HRT:Hid (fU (k+1) c=true):=Hd (by
          have:=HOKJ.o;rw[aN (by omega)] at this;rw[HR.o,this])
         go_wp2;go_ret;exact⟨by rw[HRT.o];first | done | rfl,HBJ.o⟩
       | succ g =>
         have hjj:(j:Int)<(c.l.length:Int):=by omega
         obtain⟨p,hp⟩:=fO (l:=c.l) (i:=j) (by omega);obtain⟨ad,pcs,rfl,hpt,hpc⟩:=(HLS.o.below HBJ.o).elem cY hp;obtain⟨_,_,q0,q1,_,_,_⟩:=nE hpt hpc;obtain⟨_,_,_,_,_,_,_,_,_,_,_,_,_,_,r14⟩:=gP (HCC.o.below HBJ.o);have HIH:=Hd (IH S p pcs (ad.add (j*15)) wo (HV.o.below HBJ.o) hpt hpc);have HTK:Hid (gM k (c.l.take (j+1))=(gM k (c.l.take j)&&((decide (p.kind=4)||fW p.name ByteArray.empty)&&fU k p))):=Hd (by
          unfold gM;rw[aT,hp,List.all_append];simp)
         have HNO:Hid (((decide (p.kind=4)||fW p.name ByteArray.empty)&&fU k p)=false->fU (k+1) c=false):=Hd (fun h=>by
          have:gM k c.l=false:=by
           unfold gM;rw[List.all_eq_false];exact⟨p,aD hp,by rw[h];simp⟩
          rw[HR.o,this])
         have hkw:IntKind.i64.wrap ((k:Int)+1-1)=(k:Int):=by rw[IntKind.wrap_i64];omega
         obtain⟨sb,hsb⟩:∃ sb,sb=fU k p:=⟨_,rfl⟩;rw[<-hsb] at HIH HTK HNO;clear hp hpt hpc hsb;by_cases hk4:p.kind=4
         .have ek4:(p.kind==4)=true:=by rw[hk4];rfl
          rw[hk4] at HTK HNO;skip;cases sb with
          | true =>
            go_wp2_with fail;refine HIH.o.mono ?_;rintro e w5 ⟨rfl,hb5⟩;have HB5:=Hd (HBJ.o.trans (hb5.mono HBJ.o.size));clear hb5;go_wp2_with fail;go_roundg g
            case measure=>omega
            case rel=>exact⟨j+1,by omega,by go_num,Hd (by rw[HTK.o,HOKJ.o];simp),HB5⟩
          | false =>
            have HRF:Hid (fU (k+1) c=false):=Hd (HNO.o (by simp));go_wp2_with fail;refine HIH.o.mono ?_;rintro e w5 ⟨rfl,hb5⟩;have HB5:=Hd (HBJ.o.trans (hb5.mono HBJ.o.size));clear hb5;go_wp2;go_ret;exact⟨by rw[HRF.o];first | done | rfl,HB5.o⟩
         have ek4:(p.kind==4)=false:=by simpa using hk4
         by_cases hpn:p.name=ByteArray.empty
         .have hE:p.name.toList=[]:=by rw[hpn,Lib.toList_data];rfl
          have HPN:=Hd (bEq_iff.2 hpn);clear hpn;cases sb with
          | true =>
            go_wp2_with fail;refine HIH.o.mono ?_;rintro e w5 ⟨rfl,hb5⟩;have HB5:=Hd (HBJ.o.trans (hb5.mono HBJ.o.size));clear hb5;go_wp2_with fail;go_roundg g
            case measure=>omega
            case rel=>exact⟨j+1,by omega,by go_num,Hd (by rw[HTK.o,HOKJ.o,HPN.o];simp),HB5⟩
          | false =>
            have HRF:Hid (fU (k+1) c=false):=Hd (HNO.o (by simp));go_wp2_with fail;refine HIH.o.mono ?_;rintro e w5 ⟨rfl,hb5⟩;have HB5:=Hd (HBJ.o.trans (hb5.mono HBJ.o.size));clear hb5;go_wp2;go_ret;exact⟨by rw[HRF.o];first | done | rfl,HB5.o⟩
         have hE:¬(p.name.toList=[]):=fun e=>hpn (kQ (by rw[<-Lib.toList_data,e];rfl))
         have hE2:(!p.name.toList.isEmpty)=true:=by simpa using hE
         have HRF:Hid (fU (k+1) c=false):=Hd (HNO.o (by rw[decide_eq_false hk4,bEq_ne hpn];rfl));clear hpn HIH;go_wp2;go_ret;exact⟨by rw[HRF.o];first | done | rfl,HBJ.o⟩
      have hmay:kK c=false:=by unfold kK;rw[if_pos (by omega),decide_eq_false hm]
      by_cases hm1:1<=c.l.length
      .have hm1i:(1:Int)<=(c.l.length:Int):=by omega
       have hm2:¬((c.l.length:Int)<=4):=by omega
       have HRF:Hid (fU (k+1) c=false):=Hd (by rw[HE.o,hmay];simp);clear hmay HE;go_wp2;go_ret;exact⟨by rw[HRF.o];first | done | rfl,HB3.o⟩
      have hm1i:¬((1:Int)<=(c.l.length:Int)):=by omega
      have HRF:Hid (fU (k+1) c=false):=Hd (by rw[HE.o,hmay];simp);clear hmay HE;go_wp2;go_ret;exact⟨by rw[HRF.o];first | done | rfl,HB3.o⟩
     have e2:(c.kind==2)=false:=by simpa using h2
     by_cases h3:c.kind=3
     .have e3:(c.kind==3)=true:=by rw[h3];rfl
      clear h0 h4;by_cases hm:c.l.length=1
      .have hm1:((c.l.length:Int)==1)=true:=by rw[beq_iff_eq];omega
       have hmay:kK c=true:=by unfold kK;rw[if_neg (by omega),if_pos (by omega),decide_eq_true hm]
       have HR:Hid (fU (k+1) c=gM k c.l):=Hd (by rw[HE.o,hmay];simp);clear hmay HE;go_wp2_with fail;clear d0 d1 d2 d3 d4 d5 d6 d7 d8 d9 d10 d11 d12 d13 d14;go_loopg [116] c.l.length (fun g i wr=>∃ j:Nat,j+g=c.l.length/\i=.int .i64 (j:Nat)/\Hid (gM k (c.l.take j)=true)/\Hid (Below w.heap.size w wr))
       case atStart=>exact⟨0,by omega,rfl,Hd rfl,HB3⟩
       obtain⟨j,hj,rfl,HOKJ,HBJ⟩:=hrel;rename World=>wo
       cases gk with
       | zero =>
         have hjj:¬((j:Int)<(c.l.length:Int)):=by omega
         have HRT:Hid (fU (k+1) c=true):=Hd (by
          have:=HOKJ.o;rw[aN (by omega)] at this;rw[HR.o,this])
         go_wp2;go_ret;exact⟨by rw[HRT.o];first | done | rfl,HBJ.o⟩
       | succ g =>
         have hjj:(j:Int)<(c.l.length:Int):=by omega
         obtain⟨p,hp⟩:=fO (l:=c.l) (i:=j) (by omega);obtain⟨ad,pcs,rfl,hpt,hpc⟩:=(HLS.o.below HBJ.o).elem cY hp;obtain⟨_,_,q0,q1,_,_,_⟩:=nE hpt hpc;obtain⟨_,_,_,_,_,_,_,_,_,_,_,_,_,_,r14⟩:=gP (HCC.o.below HBJ.o);have HIH:=Hd (IH S p pcs (ad.add (j*15)) wo (HV.o.below HBJ.o) hpt hpc);have HTK:Hid (gM k (c.l.take (j+1))=(gM k (c.l.take j)&&((decide (p.kind=4)||fW p.name ByteArray.empty)&&fU k p))):=Hd (by
          unfold gM;rw[aT,hp,List.all_append];simp)
         have HNO:Hid (((decide (p.kind=4)||fW p.name ByteArray.empty)&&fU k p)=false->fU (k+1) c=false):=Hd (fun h=>by
          have:gM k c.l=false:=by
           unfold gM;rw[List.all_eq_false];exact⟨p,aD hp,by rw[h];simp⟩
          rw[HR.o,this])
         have hkw:IntKind.i64.wrap ((k:Int)+1-1)=(k:Int):=by rw[IntKind.wrap_i64];omega
         obtain⟨sb,hsb⟩:∃ sb,sb=fU k p:=⟨_,rfl⟩;rw[<-hsb] at HIH HTK HNO;clear hp hpt hpc hsb;by_cases hk4:p.kind=4
         .have ek4:(p.kind==4)=true:=by rw[hk4];rfl
          rw[hk4] at HTK HNO;skip;cases sb with
          | true =>
            go_wp2_with fail;refine HIH.o.mono ?_;rintro e w5 ⟨rfl,hb5⟩;have HB5:=Hd (HBJ.o.trans (hb5.mono HBJ.o.size));clear hb5;go_wp2_with fail;go_roundg g
            case measure=>omega
            case rel=>exact⟨j+1,by omega,by go_num,Hd (by rw[HTK.o,HOKJ.o];simp),HB5⟩
          | false =>
            have HRF:Hid (fU (k+1) c=false):=Hd (HNO.o (by simp));go_wp2_with fail;refine HIH.o.mono ?_;rintro e w5 ⟨rfl,hb5⟩;have HB5:=Hd (HBJ.o.trans (hb5.mono HBJ.o.size));clear hb5;go_wp2;go_ret;exact⟨by rw[HRF.o];first | done | rfl,HB5.o⟩
         have ek4:(p.kind==4)=false:=by simpa using hk4
         by_cases hpn:p.name=ByteArray.empty
         .have hE:p.name.toList=[]:=by rw[hpn,Lib.toList_data];rfl
          have HPN:=Hd (bEq_iff.2 hpn);clear hpn;cases sb with
          | true =>
            go_wp2_with fail;refine HIH.o.mono ?_;rintro e w5 ⟨rfl,hb5⟩;have HB5:=Hd (HBJ.o.trans (hb5.mono HBJ.o.size));clear hb5;go_wp2_with fail;go_roundg g
            case measure=>omega
            case rel=>exact⟨j+1,by omega,by go_num,Hd (by rw[HTK.o,HOKJ.o,HPN.o];simp),HB5⟩
          | false =>
            have HRF:Hid (fU (k+1) c=false):=Hd (HNO.o (by simp));go_wp2_with fail;refine HIH.o.mono ?_;rintro e w5 ⟨rfl,hb5⟩;have HB5:=Hd (HBJ.o.trans (hb5.mono HBJ.o.size));clear hb5;go_wp2;go_ret;exact⟨by rw[HRF.o];first | done | rfl,HB5.o⟩
         have hE:¬(p.name.toList=[]):=fun e=>hpn (kQ (by rw[<-Lib.toList_data,e];rfl))
         have hE2:(!p.name.toList.isEmpty)=true:=by simpa using hE
         have HRF:Hid (fU (k+1) c=false):=Hd (HNO.o (by rw[decide_eq_false hk4,bEq_ne hpn];rfl));clear hpn HIH;go_wp2;go_ret;exact⟨by rw[HRF.o];first | done | rfl,HBJ.o⟩
      have hm1:((c.l.length:Int)==1)=false:=by rw[beq_eq_false_iff_ne];omega
      have hmay:kK c=false:=by unfold kK;rw[if_neg (by omega),if_pos (by omega),decide_eq_false hm]
      have HRF:Hid (fU (k+1) c=false):=Hd (by rw[HE.o,hmay];simp);clear hmay HE;go_wp2;go_ret;exact⟨by rw[HRF.o];first | done | rfl,HB3.o⟩
     have e3:(c.kind==3)=false:=by simpa using h3
     clear h0 h4;have hmay:kK c=false:=by unfold kK;rw[if_neg (by omega),if_neg (by omega)]
     have HRF:Hid (fU (k+1) c=false):=Hd (by rw[HE.o,hmay];simp);clear hmay HE;go_wp2;go_ret;exact⟨by rw[HRF.o];first | done | rfl,HB3.o⟩
theorem FN:∀ k,k<=100->UG k:=by
 intro k;induction k with
 | zero=>intro _;exact sh_zero
 | succ k ih=>exact fun hk S c cs a w hV htr hcel=>NF k (by omega) (ih (by omega)) S c cs a w hV htr hcel
def SH (bx:Nat) (p:ByteArray->Bool) (N:List ByteArray) (w:World):Prop :=
 ∀ s∈N,∀ w',Below w.heap.size w w'->Calls Tryz.prog 166 #[.string s,.pointer (some ⟨bx,0,none⟩)] w' (BoolB (p s) w')
def qB (p:ByteArray->Bool) (O:List ByteArray):Int:=match O.findIdx? p with | some i=>(i:Int) | none=>-1
theorem FM (bx:Nat) (p:ByteArray->Bool) (A:Option Addr) (c:Nat) (O:List ByteArray) (w:World) (hr:Rd w 1 A O.length c (O.map .string)) (hO:O.length<=1000000) (hf:SH bx p O w) :
 Calls Tryz.prog 196 #[.slice A O.length c,.func (.func 166) #[] #[.pointer (some ⟨bx,0,none⟩)]] w fun e w'=>e=.returned (.int .i64 (qB p O))/\Below w.heap.size w w':=by
 have HR:=Hd hr;have hcap:=hr.cap;have HF:=Hd hf;clear hr hf;go_enter Tryz.func196,Tryz.ntmps196;go_wp2_with fail;go_loopg [8] O.length (fun g i wr=>∃ j:Nat,j+g=O.length/\i=.int .i64 (j:Nat)/\Hid ((O.take j).findIdx? p=none)/\Hid (Below w.heap.size w wr))
 case atStart=>exact⟨0,by omega,rfl,Hd (by simp),Hd (aB _ _)⟩
 obtain⟨j,hj,rfl,HN,HB⟩:=hrel;rename World=>wo
 cases gk with
 | zero =>
   have hjj:¬((j:Int)<(O.length:Int)):=by omega
   have HE:Hid (qB p O=-1):=Hd (by
    have:=HN.o;rw[aN (by omega)] at this;unfold qB;rw[this])
   go_wp2;go_ret;rw[HE.o];exact⟨rfl,HB.o⟩
 | succ g =>
   have hjj:(j:Int)<(O.length:Int):=by omega
   obtain⟨k,hk⟩:=fO (l:=O) (i:=j) (by omega);obtain⟨ad,rfl,hc⟩:=(HR.o.below HB.o).at_ j (.string k) (by simp[hk]);have HCL:=Hd (HF.o k (aD hk) wo HB.o);have HTK:Hid ((O.take (j+1)).findIdx? p=((O.take j).findIdx? p).or (if p k then some j else none)):=Hd (by
    rw[aT,hk,cO];congr 1;simp only[cA,dW,cH];split<;>simp<;>omega)
   have HFI:Hid (p k=true->O.findIdx? p=some j):=Hd (fun hp=>by
    have h1:=HTK.o;rw[HN.o,hp] at h1;rw[<-cJ (j+1) O,cO,h1];rfl)
   clear hk;cases hp:p k with
   | true =>
     rw[hp] at HCL;have HE:Hid (qB p O=(j:Int)):=Hd (by unfold qB;rw[HFI.o hp]);clear hp;go_wp2_with fail;refine HCL.o.mono ?_;rintro e w2 ⟨rfl,hb2⟩;have HB2:=Hd (HB.o.trans (hb2.mono HB.o.size));clear hb2;go_wp2;go_ret;rw[HE.o];exact⟨rfl,HB2.o⟩
   | false =>
     rw[hp] at HCL HTK;clear hp HFI;go_wp2_with fail;refine HCL.o.mono ?_;rintro e w2 ⟨rfl,hb2⟩;have HB2:=Hd (HB.o.trans (hb2.mono HB.o.size));clear hb2;go_wp2_with fail;go_roundg g
     case measure=>omega
     case rel=>exact⟨j+1,by omega,by go_num,Hd (by rw[HTK.o,HN.o];rfl),HB2⟩
theorem EK (p:ByteArray->Bool) (O:List ByteArray):decide (0<=qB p O)=O.any p:=by
 unfold qB;cases h:O.findIdx? p with
 | none =>
   rw[dC] at h;symm;simp only[show ¬((0:Int)<=-1) from by omega,decide_false];rw[eZ];intro x hx;rw[h x hx];simp
 | some i =>
   rw[eV] at h;obtain⟨hi,hp,_⟩:=h;simp only[show (0:Int)<=(i:Int) from by omega,decide_true];symm;rw[List.any_eq_true];exact⟨O[i],dJ hi,hp⟩
theorem B8 (bx:Nat) (p:ByteArray->Bool) (A:Option Addr) (c:Nat) (O:List ByteArray) (w:World) (hr:Rd w 1 A O.length c (O.map .string)) (hO:O.length<=1000000) (hf:SH bx p O w) :
 Calls Tryz.prog 164 #[.slice A O.length c,.func (.func 166) #[] #[.pointer (some ⟨bx,0,none⟩)]] w (BoolB (O.any p) w):=by
 have HI:=Hd (FM bx p A c O w hr hO hf);have HG:=Hd (EK p O);obtain⟨z,hz⟩:∃ z,z=qB p O:=⟨_,rfl⟩;rw[<-hz] at HI HG;clear hr hf hz;go_enter Tryz.func164,Tryz.ntmps164;go_wp2_with fail;refine HI.o.mono ?_;rintro e w2 ⟨rfl,hb2⟩;have HB2:=Hd hb2;clear hb2;go_wp2;go_ret;exact⟨by rw[<-HG.o];rfl,HB2.o⟩
theorem OX (S:Nat->Prop) (bx:Nat) (A:Option Addr) (c:Nat) (ns:List ByteArray) (s:ByteArray) (w:World) (hx:Blk w bx #[.slice A ns.length c] 42) (h:Ss S w A c ns) (hl:ns.length<=1000000) :
 Calls Tryz.prog 166 #[.string s,.pointer (some ⟨bx,0,none⟩)] w (BoolB (!jB s ns) w):=by
 have HC:=Hd (vM S A c ns s w h hl);have c0:=hx.cell 0 (v:=.slice A ns.length c) rfl;obtain⟨b,hb⟩:∃ b,b=jB s ns:=⟨_,rfl⟩;rw[<-hb] at HC ⊢;clear hx h hb;go_enter Tryz.func166,Tryz.ntmps166;go_wp2_with fail;refine HC.o.mono ?_;rintro e w2 ⟨rfl,rfl⟩;go_wp2;go_ret;exact⟨rfl,aB _ _⟩
theorem O9 {bx:Nat} {A:Option Addr} {c:Nat} (N:List ByteArray) (hx:Blk w bx #[.slice A ns.length c] 42) (h:Ss S w A c ns) (hl:ns.length<=1000000) :
 SH bx (fun s=>!jB s ns) N w:=fun s _ w' hb=>OX S bx A c ns s w' (hx.below hb) (h.below hb) hl
def lL (l:List Cd) (ns:List ByteArray) (c:Cd):Bool:=(uZ c).any (fun s=>!jB s ns)||(names c).any (fun s=>!(plAt l s).isSome)
def qZ (l:List Cd) (ns:List ByteArray) (i:Nat) (c:Cd):Option Nat :=
 if plAt l c.name≠some i then some 41 else if iI c.name=false then some 150 else if c.kind=4 then some 150 else if fU 6 c=false then some 150 else if lL l ns c=true then some 150 else none
def ckGo (l:List Cd) (ns:List ByteArray):Nat->List Cd->Option Nat
 | _,[]=>none
 | i,c::r=>(qZ l ns i c).or (ckGo l ns (i+1) r)
def csCheck (l:List Cd) (ns:List ByteArray):Nat:=if 6<l.length then 3 else match ckGo l ns 0 l with | some e=>e | none=>if l7 l=[] then 0 else 150
theorem G3 {j:Nat} (h:l[j]?=some c):ckGo l ns j (l.drop j)=(qZ l ns j c).or (ckGo l ns (j+1) (l.drop (j+1))):=by
 rw[fS h];rfl
theorem pP (h:a=some e):a.or b=some e:=by rw[h];rfl
theorem NX (h:a=none):a.or b=b:=by rw[h];rfl
theorem xS (hl:l.length<=6) (h:ckGo l ns 0 l=some e):csCheck l ns=e:=by
 unfold csCheck;rw[if_neg (by omega),h]
theorem xT (hl:l.length<=6) (h:ckGo l ns 0 l=none):csCheck l ns=if l7 l=[] then 0 else 150:=by
 unfold csCheck;rw[if_neg (by omega),h]
theorem JM (h:CsOk l) (hc:c∈l):(uZ c).length<=100000/\(names c).length<=100000:=by
 obtain⟨_,h1,h2⟩:=h c hc;have a1:=foldT_len (cPs 20 c) [];have a2:=foldT_len (cNm 20 c) [];unfold uZ names;simp only[bC] at a1 a2;exact⟨by omega,by omega⟩
theorem G5 (S:Nat->Prop) (A:Option Addr) (ac:Nat) (l:List Cd) (NA:Option Addr) (nc:Nat) (ns:List ByteArray) (w:World) (hV:j4 w) (hls:Ls S w 15 224 Cd.tr A ac l) (hns:Ss S w NA nc ns) (hnl:ns.length<=1000000) (hok:CsOk l) :
 Calls Tryz.prog 117 #[.slice A l.length ac,.slice NA ns.length nc] w fun e w'=>e=.returned (.int .i64 (csCheck l ns:Nat))/\Below w.heap.size w w':=by
 have hcap:=hls.cap;have hbyt:=hls.bytes;have hb0:Below w.heap.size w (w.alloc (.cells #[.slice NA ns.length nc] 42)):=(aB _ w).alloc (aA _) _;have hbx:Blk (w.alloc (.cells #[.slice NA ns.length nc] 42)) w.heap.size #[.slice NA ns.length nc] 42:=aJ w _ _;have HPL:Hid (Calls Tryz.prog 119 #[.slice A l.length ac] (w.alloc (.cells #[.slice NA ns.length nc] 42)) fun e w'=>e=.returned (.map (some (w.heap.size+1)))/\MP w' (w.heap.size+1) l.length (plAt l)/\Below w.heap.size w w'/\Blk w' w.heap.size #[.slice NA ns.length nc] 42) :=
  Hd ((oR S A ac l _ (hls.below hb0)).mono (by
   rintro e w' ⟨rfl,h1,h2⟩;exact⟨by simp,by simpa using h1,hb0.trans (h2.mono (by simp)),hbx.below h2⟩))
 have HLS:=Hd hls;have HNS:=Hd hns;have HOK:=Hd hok;have HV:=Hd hV;have HB0:=Hd hb0;have HC6:Hid (6<l.length->csCheck l ns=3):=Hd (fun h=>by unfold csCheck;rw[if_pos h]);have HCS:Hid (l.length<=6->∀ e,ckGo l ns 0 l=some e->csCheck l ns=e):=Hd (fun h e he=>xS h he);have HCN:Hid (l.length<=6->ckGo l ns 0 l=none->csCheck l ns=if l7 l=[] then 0 else 150):=Hd (fun h he=>xT h he);clear hb0 hbx hls hns hok hV;go_enter Tryz.func117,Tryz.ntmps117;by_cases hl6:(6:Int)<(l.length:Int)
 .have HR:=Hd (HC6.o (by omega));go_wp2;go_ret;exact⟨by rw[HR.o];first | done | rfl,HB0.o⟩
 have hl6n:l.length<=6:=by omega
 go_wp2_with fail;refine HPL.o.mono ?_;rintro e w2 ⟨rfl,hmp,hb2,hbx⟩;have HB2:=Hd hb2;have HMP:=Hd hmp;have HBX:=Hd hbx;have HLS2:=Hd (HLS.o.below hb2);have HNS2:=Hd (HNS.o.below hb2);have HV2:=Hd (HV.o.below hb2);have hw2:=hb2.size;clear hmp hb2 hbx HPL HLS HNS HV HB0 HC6;go_wp2_with fail;go_loopg [20] l.length (fun g i wr=>∃ j:Nat,j+g=l.length/\i=.int .i64 (j:Nat)/\Hid (ckGo l ns 0 l=ckGo l ns j (l.drop j))/\Hid (Below w2.heap.size w2 wr))
 case atStart=>exact⟨0,by omega,rfl,Hd rfl,Hd (aB _ _)⟩
 obtain⟨j,hj,rfl,HD,HB⟩:=hrel;rename World=>wo
 cases gk with
 | zero =>
   have hjj:¬((j:Int)<(l.length:Int)):=by omega
   have HE:Hid (csCheck l ns=if l7 l=[] then 0 else 150):=Hd (HCN.o hl6n (by rw[HD.o,aP (by omega)];rfl));have HCI:=Hd (LU S A ac l wo (HLS2.o.below HB.o) (by omega) HOK.o);obtain⟨C,hC⟩:∃ C,C=l7 l:=⟨_,rfl⟩;rw[<-hC] at HCI HE;clear hC;go_wp2_with fail;refine HCI.o.mono ?_;rintro e w3 ⟨CA,cc,rfl,hco,hcb,_⟩;have HB3:=Hd (HB2.o.trans ((HB.o.trans (hcb.mono HB.o.size)).mono hw2));clear hco hcb;cases C with
   | nil =>
     go_wp2;go_ret;exact⟨by rw[HE.o];first | done | rfl,HB3.o⟩
   | cons x r =>
     have hpos:(0:Int)<(((x::r).length:Nat):Int):=by simp
     have hpos2:(0:Int)<(r.length:Int)+1:=by omega
     go_wp2;go_ret;exact⟨by rw[HE.o];first | done | rfl,HB3.o⟩
 | succ g =>
   have hjj:(j:Int)<(l.length:Int):=by omega
   obtain⟨c,hc⟩:=fO (l:=l) (i:=j) (by omega);obtain⟨ad,cs,rfl,hct,hcc⟩:=(HLS2.o.below HB.o).elem cY hc;have hmem:=aD hc;obtain⟨hd,hln,hlp⟩:=HOK.o c hmem;obtain⟨hpl,hnml⟩:=JM HOK.o hmem;have HPM:Hid (∀ w',Below wo.heap.size wo w'->Calls Tryz.prog 165 #[.pointer (some (ad.add (j*15)))] w' (kY (uZ c) w')) :=
    Hd (fun w' hb=>CI S c cs _ w' hd (hct.below hb) (hcc.below hb) (by omega))
   have HSH:=Hd (FN 6 (by omega) S c cs (ad.add (j*15)) wo (HV2.o.below HB.o) hct hcc);have HNM0:Hid (∀ w',Below wo.heap.size wo w'->Calls Tryz.prog 168 #[.agg cs.toArray] w' (kY (names c) w')) :=
    Hd (fun w' hb=>wA S c cs.toArray w' hd (by simpa using hct.below hb) (by omega))
   obtain⟨xs,ys,L,lc,rfl,hns,_,hxa,hxb,_⟩:=Cd.at_iff.1 hct;obtain⟨A1,n1,rfl,_⟩:=iF hxa;obtain⟨B1,n2,rfl,_⟩:=iF hxb;have HNM:Hid (∀ w',Below wo.heap.size wo w'->Calls Tryz.prog 168 #[.agg (kD c A1 n1 B1 n2 L lc)] w' (kY (names c) w')):=Hd (fun w' hb=>by simpa using HNM0.o w' hb);have HCC:=Hd hcc;obtain⟨c0,c1,c2,c3,c4,c5,c6,c7,c8,c9,c10,c11,c12,c13,c14⟩:=gP hcc;obtain⟨q,hq⟩:=rI hc;have hlk:=(HMP.o.below HB.o).look (d:=c.name) (by unfold maxLen;omega);rw[hq] at hlk;have HQ:=Hd hq;have HDD:Hid (ckGo l ns 0 l=(qZ l ns j c).or (ckGo l ns (j+1) (l.drop (j+1)))):=Hd (by rw[HD.o,G3 hc]);have HBW:=Hd (HB2.o.trans (HB.o.mono hw2));clear hc hct hxa hxb hq hmem hd hln hlp HNM0 hcc HD;by_cases hqj:q=j
   .subst hqj;have hqi:¬((q:Int)≠(q:Int)):=by simp
    have HNA:=Hd (vN c.name wo (by omega));have HA0:Hid (qZ l ns q c=if iI c.name=false then some 150 else if c.kind=4 then some 150 else if fU 6 c=false then some 150 else if lL l ns c=true then some 150 else none):=Hd (by unfold qZ;rw[if_neg (by rw[HQ.o];simp)]);obtain⟨b1,hb1⟩:∃ b1,b1=iI c.name:=⟨_,rfl⟩;rw[<-hb1] at HNA HA0;clear hb1;cases b1 with
    | false =>
      have HR:=Hd (HCS.o hl6n 150 (by rw[HDD.o];exact pP (by rw[HA0.o];simp)));go_wp2_with fail;refine HNA.o.mono ?_;rintro e w3 ⟨rfl,rfl⟩;go_wp2;go_ret;exact⟨by rw[HR.o];first | done | rfl,HBW.o⟩
    | true =>
      by_cases h4:c.kind=4
      .have e4:(c.kind==4)=true:=by rw[h4];rfl
       have HR:=Hd (HCS.o hl6n 150 (by rw[HDD.o];exact pP (by rw[HA0.o,if_neg (by simp),if_pos h4])));clear h4;go_wp2_with fail;refine HNA.o.mono ?_;rintro e w3 ⟨rfl,rfl⟩;go_wp2;go_ret;exact⟨by rw[HR.o];first | done | rfl,HBW.o⟩
      have e4:(c.kind==4)=false:=by simpa using h4
      have HA1:Hid (qZ l ns q c=if fU 6 c=false then some 150 else if lL l ns c=true then some 150 else none):=Hd (by rw[HA0.o,if_neg (by simp),if_neg h4]);obtain⟨b2,hb2⟩:∃ b2,b2=fU 6 c:=⟨_,rfl⟩;rw[<-hb2] at HSH HA1;clear hb2 HA0 h4;cases b2 with
      | false =>
        have HR:=Hd (HCS.o hl6n 150 (by rw[HDD.o];exact pP (by rw[HA1.o];simp)));go_wp2_with fail;refine HNA.o.mono ?_;rintro e w3 ⟨rfl,rfl⟩;go_wp2_with fail;refine HSH.o.mono ?_;rintro e w4 ⟨rfl,hb4⟩;have HB4:=Hd (HBW.o.trans (hb4.mono HBW.o.size));clear hb4;go_wp2;go_ret;exact⟨by rw[HR.o];first | done | rfl,HB4.o⟩
      | true =>
        have HA2:Hid (qZ l ns q c=if lL l ns c=true then some 150 else none):=Hd (by rw[HA1.o];simp);have HLO:Hid (lL l ns c=((uZ c).any (fun s=>!jB s ns)||(names c).any (fun s=>!(plAt l s).isSome))):=Hd rfl;clear HA1;go_wp2_with fail;refine HNA.o.mono ?_;rintro e w3 ⟨rfl,rfl⟩;go_wp2_with fail;refine HSH.o.mono ?_;rintro e w4 ⟨rfl,hb4⟩;have HB4:=Hd hb4;have HPM4:=Hd (HPM.o w4 hb4);have hs4:=hb4.size;clear hb4 HSH HNA HPM hlk c0 c1 c2 c3 c4 c5 c6 c7 c8 c9 c10 c11 c12 c13 c14;go_wp2_with fail;refine HPM4.o.mono ?_;rintro e w5 ⟨PA,pc,rfl,hpo,hpb,_⟩;have hb5:=HB4.o.trans (hpb.mono hs4);have h25:=HB.o.trans (hb5.mono HB.o.size);have HCF:=Hd (B8 w.heap.size (fun s=>!jB s ns) PA pc (uZ c) w5 hpo.rd (by omega) (O9 (uZ c) (HBX.o.below h25) (HNS2.o.below h25) hnl));have HB5:=Hd hb5;have hs5:=hb5.size;obtain⟨z1,hz1⟩:∃ z1,z1=(uZ c).any (fun s=>!jB s ns):=⟨_,rfl⟩;rw[<-hz1] at HCF HLO;clear hpo hpb hb5 h25 HPM4 hz1;go_wp2_with fail;refine HCF.o.mono ?_;rintro e w6 ⟨rfl,hb6⟩;have hb6':=HB5.o.trans (hb6.mono hs5);have HB6:=Hd hb6';have HNM6:=Hd (HNM.o w6 hb6');obtain⟨c0,c1,c2,c3,c4,c5,c6,c7,c8,c9,c10,c11,c12,c13,c14⟩:=gP (HCC.o.below hb6');have hs6:=hb6'.size;clear hb6 hb6' HCF HNM;go_wp2_with fail;refine HNM6.o.mono ?_;rintro e w7 ⟨NN,nnc,rfl,hno,hnb,hnsz⟩;have hncap:=hno.cap;have HNO:=Hd hno;have HNSZ:=Hd hnsz;have hb7:=HB6.o.trans (hnb.mono hs6);have h27:=HB.o.trans (hb7.mono HB.o.size);have HB7:=Hd h27;have HMP7:=Hd (HMP.o.below h27);have hw7:=h27.size;obtain⟨N,hN⟩:∃ N,N=names c:=⟨_,rfl⟩;rw[<-hN] at HNO HNSZ HLO hnml hncap;rw[<-hN];clear hno hnb hnsz hb7 h27 hN HNM6 c0 c1 c2 c3 c4 c5 c6 c7 c8 c9 c10 c11 c12 c13 c14;go_wp2_with fail;go_loopg [59,8] N.length (fun g2 i v wr=>∃ (k:Nat) (bc:Bool),k+g2=N.length/\i=.int .i64 (k:Nat)/\v=.bool bc/\Hid (bc=(z1||(N.take k).any (fun s=>!(plAt l s).isSome)))/\Hid (Below w7.heap.size w7 wr))
        case atStart=>exact⟨0,z1,by omega,rfl,rfl,Hd (by simp),Hd (aB _ _)⟩
        obtain⟨k,bc,hk,rfl,rfl,HBC,HBK⟩:=hrel;rename World=>wi
        cases gk with
        | zero =>
          have hkk:¬((k:Int)<(N.length:Int)):=by omega
          have HLL:Hid (lL l ns c=bc):=Hd (by rw[HLO.o,HBC.o,aN (by omega)]);have HBI:=Hd (HB7.o.trans (HBK.o.mono hw7));cases bc with
          | true =>
            have HR:=Hd (HCS.o hl6n 150 (by rw[HDD.o];exact pP (by rw[HA2.o,HLL.o];simp)));go_wp2;go_ret;exact⟨by rw[HR.o];first | done | rfl,HB2.o.trans (HBI.o.mono hw2)⟩
          | false =>
            have HD2:Hid (ckGo l ns 0 l=ckGo l ns (q+1) (l.drop (q+1))):=Hd (by rw[HDD.o];exact NX (by rw[HA2.o,HLL.o];simp));go_wp2_with fail;go_roundg g
            case measure=>omega
            case rel=>exact⟨q+1,by omega,by go_num,HD2,HBI⟩
        | succ g2 =>
          have hkk:(k:Int)<(N.length:Int):=by omega
          obtain⟨s,hs⟩:=fO (l:=N) (i:=k) (by omega);obtain⟨na,rfl,hsc⟩:=(HNO.o.below HBK.o).rd.at_ k (.string s) (by simp[hs]);have hss:=HNSZ.o s (aD hs);have hlk:=(HMP7.o.below HBK.o).lookok (d:=s) (by unfold maxLen;omega);have HTK:Hid ((N.take (k+1)).any (fun s=>!(plAt l s).isSome)=((N.take k).any (fun s=>!(plAt l s).isSome)||!(plAt l s).isSome)):=Hd (by rw[aT,hs,List.any_append];simp);obtain⟨sm,hsm⟩:∃ sm,sm=(plAt l s).isSome:=⟨_,rfl⟩;rw[<-hsm] at hlk HTK;clear hs hsm;cases bc with
          | true =>
            go_wp2_with fail;go_roundg g2
            case measure=>omega
            case rel=>exact⟨k+1,true,by omega,by go_num,rfl,Hd (by rw[HTK.o,<-Bool.or_assoc,<-HBC.o];rfl),HBK⟩
          | false =>
            go_wp2_with fail;go_roundg g2
            case measure=>omega
            case rel=>exact⟨k+1,!sm,by omega,by go_num,rfl,Hd (by rw[HTK.o,<-Bool.or_assoc,<-HBC.o];rfl),HBK⟩
   have hqi:(q:Int)≠(j:Int):=by omega
   have hqb:((q:Int)==(j:Int))=false:=by rw[beq_eq_false_iff_ne];omega
   have HR:=Hd (HCS.o hl6n 41 (by rw[HDD.o];exact pP (by unfold qZ;rw[if_pos (by rw[HQ.o];simpa using hqj)])));go_wp2;go_ret;exact⟨by rw[HR.o];first | done | rfl,HBW.o⟩
