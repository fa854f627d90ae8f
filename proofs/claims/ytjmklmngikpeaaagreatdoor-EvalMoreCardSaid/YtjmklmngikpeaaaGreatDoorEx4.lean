/- Part of the proof. -/
import Derived.Test.YtjmklmngikpeaaaGreatDoorEq5
import Derived.Deep.CutRange
import Derived.Deep.QuietTactic
import Derived.BigQuiet
import Derived.StillTailTactics
set_option maxRecDepth 100000
set_option maxHeartbeats 16000000
set_option linter.unusedVariables false
set_option linter.unusedSimpArgs false
namespace Go.Proofs.YtjmklmngikpeaaaGreatDoor
open Go.RowKit Go.Lib
variable {k n:Nat}{α:Type}{l:List α}{x:α}
def UE (k:Nat):Prop:=∀ (S:Nat->Prop) (v:Vl) (ca cb:List Value) (w:World),kC k v->Trs.at S w v.tr ca->Trs.at S w v.tr cb->Calls Tryz.prog 34 #[.agg ca.toArray,.agg cb.toArray] w (BoolB true w)
theorem NE (k:Nat) (IH:UE k):UE (k+1):=by
 intro S v ca cb w hd hta htb;obtain⟨A1,n1,K1,m1,rfl,_,_,hx1,hl1,hk1⟩:=Vl.at_iff.1 hta;obtain⟨A2,n2,K2,m2,rfl,_,_,hx2,hl2,hk2⟩:=Vl.at_iff.1 htb;have hcap1:=hl1.cap;have hcap2:=hl2.cap;have hbyt1:=hl1.bytes;have hbyt2:=hl2.bytes;have hcap3:=hk1.cap;have hcap4:=hk2.cap;have hbyt3:=hk1.bytes;have HL1:=Hd hl1;have HL2:=Hd hl2;have HK1:=Hd hk1;have HK2:=Hd hk2;have HD:=Hd hd;have HIH:=Hd IH;have HB0:Hid (Below w.heap.size w ((w.alloc (.cells (kV v A1 n1 K1 m1) 44)).alloc (.cells (kV v A2 n2 K2 m2) 44))):=Hd (((aB _ w).alloc (aA _) _).alloc (by simp) _);have HXA:Hid (Blk ((w.alloc (.cells (kV v A1 n1 K1 m1) 44)).alloc (.cells (kV v A2 n2 K2 m2) 44)) w.heap.size (kV v A1 n1 K1 m1) 44):=Hd ((aJ _ _ _).alloc _);have HXB:Hid (Blk ((w.alloc (.cells (kV v A1 n1 K1 m1) 44)).alloc (.cells (kV v A2 n2 K2 m2) 44)) (w.heap.size+1) (kV v A2 n2 K2 m2) 44):=Hd (by
  have:=aJ (w.alloc (.cells (kV v A1 n1 K1 m1) 44)) (kV v A2 n2 K2 m2) 44;rwa [show (w.alloc (.cells (kV v A1 n1 K1 m1) 44)).heap.size=w.heap.size+1 by simp] at this)
 have e1:(v.kind !=v.kind)=false:=by simp
 have e2:(v.bool !=v.bool)=false:=by simp
 have e3:(v.num !=v.num)=false:=by simp
 have e4:(v.text.toList==v.text.toList)=true:=by simp
 have e5:((v.list.length:Int)!=(v.list.length:Int))=false:=by simp
 have e6:((v.keys.length:Int)!=(v.keys.length:Int))=false:=by simp
 clear hta htb hl1 hl2 hk1 hk2 hd IH;go_enter Tryz.func34,Tryz.ntmps34;go_wp2_with fail;clear e1 e2 e3 e4 e5 e6;go_loopg [5] v.keys.length (fun g i wr=>∃ j:Nat,j+g=v.keys.length/\i=.int .i64 (j:Nat)/\Hid (Below w.heap.size w wr)/\Hid (Blk wr w.heap.size (kV v A1 n1 K1 m1) 44)/\Hid (Blk wr (w.heap.size+1) (kV v A2 n2 K2 m2) 44))
 case atStart=>exact⟨0,by omega,rfl,HB0,HXA,HXB⟩
 clear HB0 HXA HXB;obtain⟨j,hj,rfl,HB,HXA,HXB⟩:=hrel;rename World=>wo
 obtain⟨c0,c1,c2,c3,c4,c5⟩:=gH HXA.o;obtain⟨d0,d1,d2,d3,d4,d5⟩:=gH HXB.o;cases gk with
 | succ g =>
   have hjj:(j:Int)<(v.keys.length:Int):=by omega
   have hj0:(0:Int)<=(j:Int)/\(j:Int)<(v.keys.length:Int):=by omega
   obtain⟨x,hx⟩:=fO (l:=v.keys) (i:=j) (by omega);obtain⟨na,rfl,hca,_⟩:=(HK1.o.below HB.o).str hx;obtain⟨nb,rfl,hcb,_⟩:=(HK2.o.below HB.o).str hx;have hE:(x.toList==x.toList)=true:=by simp
   clear hx;go_wp2_with fail;go_quiet (fail);go_wp2_with fail;go_roundg g
   case measure=>omega
   case rel=>exact⟨j+1,by omega,by go_num,Hd (HB.o.trans ((gC _ _).mono HB.o.size)),Hd (HXA.o.drewN _),Hd (HXB.o.drewN _)⟩
 | zero =>
   have hjj:¬((j:Int)<(v.keys.length:Int)):=by omega
   go_wp2_with fail;clear hjj hj c0 c1 c2 c3 c4 c5 d0 d1 d2 d3 d4 d5;go_loopg [6] v.list.length (fun g i wr=>∃ j:Nat,j+g=v.list.length/\i=.int .i64 (j:Nat)/\Hid (Below w.heap.size w wr)/\Hid (Blk wr w.heap.size (kV v A1 n1 K1 m1) 44)/\Hid (Blk wr (w.heap.size+1) (kV v A2 n2 K2 m2) 44))
   case atStart=>exact⟨0,by omega,rfl,HB,HXA,HXB⟩
   clear HB HXA HXB;obtain⟨j,hj,rfl,HB,HXA,HXB⟩:=hrel;rename World=>wo
   obtain⟨c0,c1,c2,c3,c4,c5⟩:=gH HXA.o;obtain⟨d0,d1,d2,d3,d4,d5⟩:=gH HXB.o;cases gk with
   | zero =>
     have hjj:¬((j:Int)<(v.list.length:Int)):=by omega
     go_wp2;go_ret;exact⟨rfl,HB.o⟩
   | succ g =>
     have hjj:(j:Int)<(v.list.length:Int):=by omega
     have hj0:(0:Int)<=(j:Int)/\(j:Int)<(v.list.length:Int):=by omega
     obtain⟨x,hx⟩:=fO (l:=v.list) (i:=j) (by omega);obtain⟨ad1,xs,rfl,hxt,hxc⟩:=(HL1.o.below HB.o).elem dK hx;obtain⟨ad2,ys,rfl,hyt,hyc⟩:=(HL2.o.below HB.o).elem dK hx;have HC:=Hd (HIH.o S x xs ys wo.drew (HD.o x (aD hx)) (hxt.drewN 1) (hyt.drewN 1));obtain⟨A3,n3,K3,m3,rfl,_⟩:=Vl.at_iff.1 hxt;obtain⟨A4,n4,K4,m4,rfl,_⟩:=Vl.at_iff.1 hyt;obtain⟨x0,x1,x2,x3,x4,x5⟩:=iA hxc;obtain⟨y0,y1,y2,y3,y4,y5⟩:=iA hyc;clear hx hxt hxc hyt hyc;go_wp2_with fail;go_still_tail 10,(by kernel_rfl);change wpList _ _ _ _ _ wo.drew;have HBW:=Hd HB.o.drew;have HXAW:=Hd HXA.o.drew;have HXBW:=Hd HXB.o.drew;generalize wo.drew=w5 at HC HBW HXAW HXBW ⊢;clear c0 c1 c2 c3 c4 c5 d0 d1 d2 d3 d4 d5 x0 x1 x2 x3 x4 x5 y0 y1 y2 y3 y4 y5 HB HXA HXB;go_wp2_with fail;refine HC.o.mono ?_;rintro e w6 ⟨rfl,hb6⟩;have HB6:=Hd (HBW.o.trans (hb6.mono HBW.o.size));have HXA6:=Hd (HXAW.o.below hb6);have HXB6:=Hd (HXBW.o.below hb6);clear hb6 HC HBW HXAW HXBW;go_wp2_with fail;go_roundg g
     case measure=>omega
     case rel=>exact⟨j+1,by omega,by go_num,HB6,HXA6,HXB6⟩
theorem QM (k:Nat):UE k:=by
 induction k with
 | zero=>exact fun _ _ _ _ _ h=>h.elim
 | succ k ih=>exact NE k ih
open Go.Maps
def cG (k:Nat) (v:Cd) (n:Nat):Prop:=v.deep k/\(cNm k v).length<=n/\(cPs k v).length<=2*n
def TJ (k:Nat) (v:Cd) (w:World) (e:Ending) (w':World):Prop:=∃ n:Nat,e=.returned (.int .i64 (n:Nat))/\1<=n/\n<=1048576+400*k/\Below w.heap.size w w'/\(n<400->cG k v n)
def RX (k:Nat) (l:List Cd) (n:Nat):Prop:=(∀ x∈l,x.deep k)/\(l.flatMap (cNm k)).length+1<=n/\(l.flatMap (cPs k)).length+2<=2*n
theorem RX.snoc {m:Nat} {l:List Cd} {x:Cd} (h:RX k l n) (hx:cG k x m):RX k (l++[x]) (n+m):=by
 obtain⟨h1,h2,h3⟩:=h;obtain⟨g1,g2,g3⟩:=hx;refine⟨fun y hy=>?_,?_,?_⟩
 .rcases List.mem_append.1 hy with hy | hy
  .exact h1 y hy
  rw[aR] at hy;subst hy;exact g1
 .rw[bE,aS,show ([x]:List Cd).flatMap _=_ from bQ _];omega
 rw[bE,aS,show ([x]:List Cd).flatMap _=_ from bQ _];omega
theorem yF (e:Ex):(xRef e).length<=1:=by unfold xRef;split<;>simp
theorem RX.fin {v:Cd} (h:RX k v.l n):cG (k+1) v n:=by
 obtain⟨h1,h2,h3⟩:=h;have ha:=yF v.a;have hb:=yF v.b;refine⟨h1,?_,?_⟩
 .simp only[cNm];split
  .simp;omega
  omega
 simp only[cPs];split
 .simp
 rw[aS];split
 .rw[aS];omega
 simp only[bC];omega
theorem yJ (S:Nat->Prop):∀ (k:Nat) (v:Cd) (cs:List Value) (w:World),k<=20->Trs.at S w v.tr cs ->
 Calls Tryz.prog 78 #[.agg cs.toArray,.int .i64 ((20-k:Nat):Int)] w (TJ k v w):=by
 intro k;induction k with
 | zero =>
   intro v cs w hk hv;obtain⟨xs,ys,A,c,rfl,-,-,hx,hy,-⟩:=Cd.at_iff.1 hv;obtain⟨A1,c1,rfl,-⟩:=Ex.at_iff.1 hx;obtain⟨A2,c2,rfl,-⟩:=Ex.at_iff.1 hy;clear hv hx hy;go_enter Tryz.func78,Tryz.ntmps78;go_wp2;go_ret;exact⟨1048576,rfl,by omega,by omega,(aB _ w).alloc (aA _) _,fun h=>by omega⟩
 | succ k ih =>
   intro v cs w hk hv;obtain⟨xs,ys,A,c,rfl,hn,-,hx,hy,hl⟩:=Cd.at_iff.1 hv;have HXA:=Hd hx;have HXB:=Hd hy;obtain⟨A1,c1,rfl,-⟩:=Ex.at_iff.1 hx;obtain⟨A2,c2,rfl,-⟩:=Ex.at_iff.1 hy;clear hv hx hy;obtain⟨d,hd⟩:∃ d:Nat,d=20-(k+1):=⟨_,rfl⟩;rw[<-hd];by_cases h13:12<d
   .have hi:(12:Int)<(d:Int):=by omega
    clear hl hd;go_enter Tryz.func78,Tryz.ntmps78;go_wp2;go_ret;exact⟨1048576,rfl,by omega,by omega,(aB _ w).alloc (aA _) _,fun h=>by omega⟩
   have hi:¬((12:Int)<(d:Int)):=by omega
   have hlb:=hl.bytes;have hlc:=hl.cap;have HL:=Hd hl;clear hl;obtain⟨d2,hd2⟩:∃ d2:Nat,d2=20-k:=⟨_,rfl⟩;rw[<-hd2] at ih;have hk9:IntKind.i64.wrap ((d:Int)+1)=(d2:Int):=by rw[IntWalk.i64_in _ (by omega)];omega
   clear hd hd2;obtain⟨W1,hW1⟩:∃ W1,W1=w.alloc (.cells (kD v A1 c1 A2 c2 A c) 148):=⟨_,rfl⟩;have hb1:Below w.heap.size w W1:=by rw[hW1];exact(aB _ w).alloc (aA _) _
   have hk1:Blk W1 w.heap.size (kD v A1 c1 A2 c2 A c) 148:=by rw[hW1];exact aJ _ _ _
   have HB1:=Hd hb1;have HK1:=Hd hk1;have HW1:=Hd hW1;have HIH:=Hd ih;obtain⟨b0,b1,b2,b3,b4,b5,b6,b7,b8,b9,b10,b11,b12,b13,b14⟩:=L4 hk1;clear hb1 hk1 hW1 ih;go_enter Tryz.func78,Tryz.ntmps78;go_upto_region 1 with fail;rw[<-HW1.o];by_cases h20:20<v.l.length
   .have hi20:(20:Int)<(v.l.length:Int):=by omega
    go_wp2;go_ret;exact⟨1048576,rfl,by omega,by omega,HB1.o,fun h=>by omega⟩
   have hi20:¬((20:Int)<(v.l.length:Int)):=by omega
   have HXG:=Hd (kB S v.a _ W1 (HXA.o.below HB1.o));obtain⟨ga,hga⟩:∃ ga,ga=iL v.a:=⟨_,rfl⟩;rw[<-hga] at HXG;clear hga;cases ga with
   | true =>
     go_wp2_with fail;refine HXG.o.mono ?_;rintro e w2 ⟨rfl,hb⟩;have HB2:=Hd (HB1.o.trans (hb.mono HB1.o.size));clear hb;go_wp2;go_ret;exact⟨1048576,rfl,by omega,by omega,HB2.o,fun h=>by omega⟩
   | false =>
     have HXG2:Hid (∀ w2,Below w.heap.size w w2->Calls Tryz.prog 7 #[.agg (kX v.b A2 c2)] w2 (yC (iL v.b) w2)):=Hd (fun w2 hb=>kB S v.b _ w2 (HXB.o.below hb));obtain⟨gb,hgb⟩:∃ gb,gb=iL v.b:=⟨_,rfl⟩;rw[<-hgb] at HXG2;clear hgb;go_wp2_with fail;refine HXG.o.mono ?_;rintro e w2 ⟨rfl,hb⟩;have hb2:=HB1.o.trans (hb.mono HB1.o.size);have HB2:=Hd hb2;have HY:=Hd (HXG2.o w2 hb2);have HK2:=Hd (HK1.o.below hb);clear b0 b1 b2 b3 b4 b5 b6 b7 b8 b9 b10 b11 b12 b13 b14 hb hb2;obtain⟨b0,b1,b2,b3,b4,b5,b6,b7,b8,b9,b10,b11,b12,b13,b14⟩:=L4 HK2.o;cases gb with
     | true =>
       go_wp2_with fail;refine HY.o.mono ?_;rintro e w3 ⟨rfl,hb⟩;have HB3:=Hd (HB2.o.trans (hb.mono HB2.o.size));clear hb;go_wp2;go_ret;exact⟨1048576,rfl,by omega,by omega,HB3.o,fun h=>by omega⟩
     | false =>
       go_wp2_with fail;refine HY.o.mono ?_;rintro e w3 ⟨rfl,hb⟩;have HB3:=Hd (HB2.o.trans (hb.mono HB2.o.size));have HK3:=Hd (HK2.o.below hb);clear b0 b1 b2 b3 b4 b5 b6 b7 b8 b9 b10 b11 b12 b13 b14 hb;go_wp2_with fail;go_loopg [5,6] v.l.length (fun g n i wr=>∃ j m:Nat,j+g=v.l.length/\i=.int .i64 (j:Nat)/\n=.int .i64 (m:Nat)/\1<=m/\m<=1048576+400*(k+1)/\Hid (m<400->RX k (v.l.take j) m)/\Hid (Blk wr w.heap.size (kD v A1 c1 A2 c2 A c) 148)/\Hid (Below w.heap.size w wr))
       case atStart=>exact⟨0,1,by omega,rfl,rfl,by omega,by omega,Hd (fun _=>⟨fun x hx=>by simp at hx,by simp,by simp⟩),HK3,HB3⟩
       obtain⟨j,m,hj,rfl,rfl,hm1,hm2,HC,HK4,HB4⟩:=hrel;have b14:wr.cell? ⟨w.heap.size,14,none⟩=some (.slice A v.l.length c):=HK4.o.cell 14 rfl;cases gk with
       | zero =>
         have hjj:¬((j:Int)<(v.l.length:Int)):=by omega
         have HR:Hid (m<400->cG (k+1) v m):=Hd (fun h=>by
          have:=HC.o h;rw[aN (by omega)] at this;exact this.fin)
         go_wp2;go_ret;exact⟨m,rfl,hm1,hm2,HB4.o,HR.o⟩
       | succ g =>
         have hjj:(j:Int)<(v.l.length:Int):=by omega
         by_cases hm4:m<400
         .have hmi:(m:Int)<400:=by omega
          have hji:(0:Int)<=(j:Int)/\(j:Int)<(v.l.length:Int):=by omega
          obtain⟨x,hx⟩:=fO (l:=v.l) (i:=j) (by omega);obtain⟨ad,cs,rfl,hxt,hxc⟩:=(HL.o.below HB4.o).elem cY hx;have HX:=Hd hxt;obtain⟨xs,ys,A5,c5,rfl,-,-,hxa,hxb,-⟩:=Cd.at_iff.1 hxt;obtain⟨A3,c3,rfl,-⟩:=Ex.at_iff.1 hxa;obtain⟨A4,c4,rfl,-⟩:=Ex.at_iff.1 hxb;obtain⟨e0,e1,e2,e3,e4,e5,e6,e7,e8,e9,e10,e11,e12,e13,e14⟩:=gP hxc;have HTK:Hid (v.l.take (j+1)=v.l.take j++[x]):=Hd (by rw[aT,hx];rfl);have HCL:=Hd (HIH.o x _ wr (by omega) HX.o);clear hx hxt hxc hxa hxb;go_wp2_with fail;refine HCL.o.mono ?_;rintro e w4 ⟨q,rfl,hq1,hq2,hb,hqg⟩;have HB5:=Hd (HB4.o.trans (hb.mono HB4.o.size));have HK5:=Hd (HK4.o.below hb);have HC2:Hid (m+q<400->RX k (v.l.take (j+1)) (m+q)):=Hd (fun h=>by
           rw[HTK.o];exact(HC.o (by omega)).snoc (hqg (by omega)))
          clear hb hqg;go_wp2_with fail;go_roundg g
          case measure=>omega
          case rel=>exact⟨j+1,m+q,by omega,by go_num,by go_num,by omega,by omega,HC2,HK5,HB5⟩
         have hmi:¬((m:Int)<400):=by omega
         go_wp2;go_ret;exact⟨m,rfl,hm1,hm2,HB4.o,fun h=>by omega⟩
def RB (l:List Gv):Prop:=l.length<=40/\∀ g∈l,iS g.v=false/\g.name.size<=400
def SF (l:List Gv) (w:World) (e:Ending) (w':World):Prop:=∃ b,e=.returned (.bool b)/\Below w.heap.size w w'/\(b=false->RB l)
theorem rO (S:Nat->Prop) (A:Option Addr) (c:Nat) (l:List Gv) (w:World) (hl:Ls S w 8 104 Gv.tr A c l) :
 Calls Tryz.prog 20 #[.slice A l.length c] w (SF l w):=by
 have HL:=Hd hl;have hcap:=hl.cap;have hbyt:=hl.bytes;clear hl;go_enter Tryz.func20,Tryz.ntmps20;go_wp2_with fail;go_loopg [3] l.length (fun g i wr=>∃ j:Nat,j+g=l.length/\i=.int .i64 (j:Nat)/\Hid (Below w.heap.size w wr)/\Hid (∀ x∈l.take j,iS x.v=false/\x.name.size<=400))
 case atStart=>exact⟨0,by omega,rfl,Hd (aB _ _),Hd (fun x hx=>by simp at hx)⟩
 obtain⟨j,hj,rfl,HB,HA⟩:=hrel;cases gk with
 | zero =>
   have hjj:¬((j:Int)<(l.length:Int)):=by omega
   have HA2:Hid (∀ x∈l,iS x.v=false/\x.name.size<=400):=Hd (by
    have:=HA.o;rwa [aN (by omega)] at this)
   by_cases h40:40<l.length
   .have hi40:(40:Int)<(l.length:Int):=by omega
    go_wp2;go_ret;exact⟨true,rfl,HB.o,fun h=>by cases h⟩
   have hi40:¬((40:Int)<(l.length:Int)):=by omega
   go_wp2;go_ret;exact⟨false,rfl,HB.o,fun _=>⟨by omega,HA2.o⟩⟩
 | succ g =>
   have hjj:(j:Int)<(l.length:Int):=by omega
   have hji:(0:Int)<=(j:Int)/\(j:Int)<(l.length:Int):=by omega
   by_cases h40:j<=40
   .have hi40:(j:Int)<=40:=by omega
    obtain⟨x,hx⟩:=fO (l:=l) (i:=j) (by omega);obtain⟨ad,cs,rfl,hxt,hxc⟩:=(HL.o.below HB.o).elem dA hx;obtain⟨vs,rfl,-,hv⟩:=Gv.at_iff.1 hxt;have hv':=hv;obtain⟨GA,gc,GB,gd,rfl,-⟩:=Vl.at_iff.1 hv';clear hv';obtain⟨e0,e1,e2,e3,e4,e5,e6,e7⟩:=l8 hxc;have HVG:=Hd (oM S x.v _ wr hv);have HTK:Hid (l.take (j+1)=l.take j++[x]):=Hd (by rw[aT,hx];rfl);obtain⟨vb,hvb⟩:∃ vb,vb=iS x.v:=⟨_,rfl⟩;rw[<-hvb] at HVG;have HEL:Hid (∀ w',Below wr.heap.size wr w'->w'.cell? (ad.add (j*8))=some (.string x.name)):=Hd (fun w' hb=>(hb.cell (aF wr _ e0)).trans e0);have HVB:=Hd hvb;clear hx hxt hxc hv hvb;go_wp2_with fail;refine HVG.o.mono ?_;rintro e w4 ⟨rfl,hb⟩;have HB4:=Hd (HB.o.trans (hb.mono HB.o.size));clear e0 e1 e2 e3 e4 e5 e6 e7;have e0:=HEL.o w4 hb;clear hb;cases vb with
    | true =>
      go_wp2;go_ret;exact⟨true,rfl,HB4.o,fun h=>by cases h⟩
    | false =>
      by_cases h4:400<x.name.size
      .have hi4:(400:Int)<(x.name.size:Int):=by omega
       go_wp2;go_ret;exact⟨true,rfl,HB4.o,fun h=>by cases h⟩
      have hi4:¬((400:Int)<(x.name.size:Int)):=by omega
      go_wp2_with fail;go_roundg g
      case measure=>omega
      case rel =>
       refine⟨j+1,by omega,by go_num,HB4,Hd ?_⟩;rw[HTK.o];intro y hy;rcases List.mem_append.1 hy with hy | hy
       .exact HA.o y hy
       rw[aR] at hy;subst hy;exact⟨HVB.o.symm,by omega⟩
   have hi40:¬((j:Int)<=40):=by omega
   have hi41:(40:Int)<(l.length:Int):=by omega
   go_wp2;go_ret;exact⟨true,rfl,HB.o,fun h=>by cases h⟩
def rG (r:Rs):Prop:=r.props.length<=60/\(∀ p∈r.props,iL p.e=false)/\r.depends.length<=60
def pG (p:Pm):Prop:=p.allowed.length<=60/\iS p.dflt=false/\∀ v∈p.allowed,iS v=false
def Tm.gw:Nat->Tm->Prop
 | 0,_=>False
 | k+1,t=>(t.params.length<=60/\∀ p∈t.params,pG p)/\(t.conds.length<=60/\CsOk t.conds)/\(t.outs.length<=60/\∀ o∈t.outs,iL o.e=false)/\t.res.length<=60/\∀ r∈t.res,rG r/\∀ t'∈r.inner,Tm.gw k t'
def wB:Nat->Nat
 | 0=>1048576
 | k+1=>100000000+4*wB k
theorem SU (h:k<=5):wB k<=1000000000000/\1048576<=wB k:=by
 have:k=0∨k=1∨k=2∨k=3∨k=4∨k=5:=by omega
 rcases this with rfl | rfl | rfl | rfl | rfl | rfl<;>decide
def MJ (k:Nat) (v:Tm) (w:World) (e:Ending) (w':World):Prop:=∃ n:Nat,e=.returned (.int .i64 (n:Nat))/\n<=wB k/\Below w.heap.size w w'/\(n<=400->v.gw k)
theorem iH {j:Nat} (h:l[j]?=some x):l.take (j+1)=l.take j++[x]:=by rw[aT,h];rfl
theorem kW {P:α->Prop} (h:∀ y∈l,P y) (hx:P x):∀ y∈l++[x],P y:=fun y hy=>by
 rcases List.mem_append.1 hy with hy | hy
 .exact h y hy
 rw[aR] at hy;subst hy;exact hx
def CdG (x:Cd):Prop:=x.deep 20/\(cNm 20 x).length<=100000/\(cPs 20 x).length<=100000
theorem yL (v:Tm) (cs:List Value) (S:Nat->Prop) (w:World) (hv:Trs.at S w v.tr cs) :
 Calls Tryz.prog 36 #[.agg cs.toArray,.int .i64 5] w (MJ 0 v w):=by
 obtain⟨A,a,B,b,C,c,D,d,rfl,hp,hc,hr,ho⟩:=Tm.at_iff.1 hv;have hpb:=hp.bytes;have hcb:=hc.bytes;have hrb:=hr.bytes;have hob:=ho.bytes;clear hv hp hc hr ho;have HB:Hid (Below w.heap.size w (w.alloc (.cells (kT v A a B b C c D d) 27))):=Hd ((aB _ w).alloc (aA _) _);go_enter Tryz.func36,Tryz.ntmps36;go_wp2;go_ret;exact⟨1048576,rfl,by unfold wB;omega,HB.o,fun h=>by omega⟩
def UC (S:Nat->Prop) (k:Nat):Prop:=∀ (v:Tm) (cs:List Value) (w:World),Trs.at S w v.tr cs->Calls Tryz.prog 36 #[.agg cs.toArray,.int .i64 ((5-k:Nat):Int)] w (MJ k v w)
theorem l9 {a b:Nat} (h:n=a+b) (h2:n<=9000000000000000000):IntKind.i64.wrap ((a:Int)+(b:Int))=(n:Int):=by rw[IntWalk.i64_in _ (by omega)];omega
theorem yK (S:Nat->Prop) (k:Nat) (hk:k<=4) (IH:UC S k):UC S (k+1):=by
 intro v cs w hv;obtain⟨A,a,B,b,C,c,D,d,rfl,hp,hc,hr,ho⟩:=Tm.at_iff.1 hv;clear hv;have hpb:=hp.bytes;have hcb:=hc.bytes;have hrb:=hr.bytes;have hob:=ho.bytes;have hpc:=hp.cap;have hcc:=hc.cap;have hrc:=hr.cap;have hoc:=ho.cap;have HP:=Hd hp;have HC:=Hd hc;have HRS:=Hd hr;have HO:=Hd ho;clear hp hc hr ho;obtain⟨dp,hd⟩:∃ dp:Nat,dp=5-(k+1):=⟨_,rfl⟩;obtain⟨d2,hd2⟩:∃ d2:Nat,d2=5-k:=⟨_,rfl⟩;have HIH:Hid (∀ (v:Tm) (cs:List Value) (w:World),Trs.at S w v.tr cs->Calls Tryz.prog 36 #[.agg cs.toArray,.int .i64 (d2:Int)] w (MJ k v w)):=Hd (by rw[hd2];exact IH);have hk9:IntKind.i64.wrap ((dp:Int)+1)=(d2:Int):=by rw[IntWalk.i64_in _ (by omega)];omega
 have hi4:¬((4:Int)<(dp:Int)):=by omega
 rw[<-hd];obtain⟨bk,hbk⟩:∃ bk,bk=wB k:=⟨_,rfl⟩;have hb5:=SU (k:=k) (by omega);rw[<-hbk] at hb5;have HBK:Hid (wB (k+1)=100000000+4*bk):=Hd (by rw[hbk];rfl);have HBK0:Hid (wB k=bk):=Hd hbk.symm;clear hd hd2 IH hbk;obtain⟨n1,hn1⟩:∃ n1,n1=v.params.length+v.conds.length:=⟨_,rfl⟩;obtain⟨n2,hn2⟩:∃ n2,n2=n1+v.res.length:=⟨_,rfl⟩;obtain⟨n0,hn0⟩:∃ n0,n0=n2+v.outs.length:=⟨_,rfl⟩;have hw1:=l9 hn1 (by omega);have hw2:=l9 hn2 (by omega);have hw3:=l9 hn0 (by omega);have hle:v.params.length<=n0/\v.conds.length<=n0/\v.res.length<=n0/\v.outs.length<=n0:=⟨by omega,by omega,by omega,by omega⟩
 clear hn1 hn2 hn0;obtain⟨W1,hW1⟩:∃ W1,W1=w.alloc (.cells (kT v A a B b C c D d) 27):=⟨_,rfl⟩;have hb1:Below w.heap.size w W1:=by rw[hW1];exact(aB _ w).alloc (aA _) _
 have hk1:Blk W1 w.heap.size (kT v A a B b C c D d) 27:=by rw[hW1];exact aJ _ _ _
 have HB1:=Hd hb1;have HK1:=Hd hk1;have HW1:=Hd hW1;obtain⟨b0,b1,b2,b3⟩:=j1 hk1;clear hb1 hk1 hW1;go_enter Tryz.func36,Tryz.ntmps36;go_upto_region 1 with fail;rw[<-HW1.o];by_cases h60:60<n0
 .have hi60:(60:Int)<(n0:Int):=by omega
  go_wp2;go_ret;exact⟨1048576,rfl,by rw[HBK.o];omega,HB1.o,fun h=>by omega⟩
 have hi60:¬((60:Int)<(n0:Int)):=by omega
 have HLE:=Hd hle;go_wp2_with fail;clear b0 b1 b2 b3 hw1 hw2 hw3 hi60;go_loopg [5,6] v.params.length (fun g n i wr=>∃ j m:Nat,j+g=v.params.length/\i=.int .i64 (j:Nat)/\n=.int .i64 (m:Nat)/\n0<=m/\m<=60+60*j/\Hid (∀ p∈v.params.take j,pG p)/\Hid (Blk wr w.heap.size (kT v A a B b C c D d) 27)/\Hid (Below w.heap.size w wr))
 case atStart=>exact⟨0,n0,by omega,rfl,rfl,aA _,by omega,Hd (fun p hp=>by simp at hp),HK1,HB1⟩
 obtain⟨j,m,hj,rfl,rfl,hm1,hm2,HPG,HK,HB⟩:=hrel;rename World=>wr
 obtain⟨b0,b1,b2,b3⟩:=j1 HK.o;cases gk with
 | succ g =>
   have hjj:(j:Int)<(v.params.length:Int):=by omega
   have hji:(0:Int)<=(j:Int)/\(j:Int)<(v.params.length:Int):=by omega
   obtain⟨x,hx⟩:=fO (l:=v.params) (i:=j) (by omega);obtain⟨ad,cs,rfl,hxt,hxc⟩:=(HP.o.below HB.o).elem Pm.trlen hx;obtain⟨vs,A5,c5,rfl,-,hxv,hxl⟩:=Pm.at_iff.1 hxt;have hxv':=hxv;obtain⟨A6,c6,A7,c7,rfl,-⟩:=Vl.at_iff.1 hxv';obtain⟨e0,e1,e2,e3,e4,e5,e6,e7,e8,e9⟩:=BB hxc;have HTK:=Hd (iH hx);have HEC:=Hd hxc;have hal:=hxl.bytes;have hac:=hxl.cap;have HXL:=Hd hxl;have HVG:=Hd (oM S x.dflt _ wr hxv);obtain⟨q1,hq1⟩:∃ q1,q1=m+x.allowed.length:=⟨_,rfl⟩;have hw1:=l9 hq1 (by omega);have HQ:=Hd hq1;clear hx hxt hxv hxv' hxc hxl hq1;by_cases ha:60<x.allowed.length
   .have hai:(60:Int)<(x.allowed.length:Int):=by omega
    go_wp2;go_ret;exact⟨1048576,rfl,by rw[HBK.o];omega,HB.o,fun h=>by omega⟩
   have hai:¬((60:Int)<(x.allowed.length:Int)):=by omega
   obtain⟨vb,hvb⟩:∃ vb,vb=iS x.dflt:=⟨_,rfl⟩;rw[<-hvb] at HVG;have HVB:=Hd hvb;clear hvb;cases vb with
   | true =>
     go_wp2_with fail;refine HVG.o.mono ?_;rintro e w4 ⟨rfl,hb⟩;have HB4:=Hd (HB.o.trans (hb.mono HB.o.size));clear hb;go_wp2;go_ret;exact⟨1048576,rfl,by rw[HBK.o];omega,HB4.o,fun h=>by omega⟩
   | false =>
     go_wp2_with fail;refine HVG.o.mono ?_;rintro e w4 ⟨rfl,hb⟩;have HB4:=Hd (HB.o.trans (hb.mono HB.o.size));have HB14:=Hd hb;clear hb b0 b1 b2 b3 e0 e1 e2 e3 e4 e5 e6 e7 e8 e9 hw1 hai;go_wp2_with fail;go_loopg [7] x.allowed.length (fun g i wz=>∃ i2:Nat,i2+g=x.allowed.length/\i=.int .i64 (i2:Nat)/\Hid (∀ u∈x.allowed.take i2,iS u=false)/\Hid (Below wr.heap.size wr wz))
     case atStart=>exact⟨0,by omega,rfl,Hd (fun p hp=>by simp at hp),HB14⟩
     obtain⟨i2,hj2,rfl,HA2,HBZ⟩:=hrel;rename World=>wz
     have HBZ0:=Hd (HB.o.trans (HBZ.o.mono HB.o.size));have HKZ:=Hd (HK.o.below HBZ.o);obtain⟨b0,b1,b2,b3⟩:=j1 HKZ.o;obtain⟨e0,e1,e2,e3,e4,e5,e6,e7,e8,e9⟩:=BB (HEC.o.below HBZ.o);cases gk with
     | zero =>
       have hjj2:¬((i2:Int)<(x.allowed.length:Int)):=by omega
       have HA3:Hid (∀ u∈x.allowed,iS u=false):=Hd (by
        have:=HA2.o;rwa [aN (by omega)] at this)
       go_wp2_with fail;go_roundg g
       case measure=>omega
       case rel =>
        have hq:=HQ.o;refine⟨j+1,q1,by omega,by go_num,rfl,by omega,by omega,Hd ?_,HKZ,HBZ0⟩;rw[HTK.o];exact kW HPG.o ⟨by omega,HVB.o.symm,HA3.o⟩
     | succ g2 =>
       have hjj2:(i2:Int)<(x.allowed.length:Int):=by omega
       have hji2:(0:Int)<=(i2:Int)/\(i2:Int)<(x.allowed.length:Int):=by omega
       obtain⟨u,hu⟩:=fO (l:=x.allowed) (i:=i2) (by omega);obtain⟨ad2,us,hA5,hut,huc⟩:=(HXL.o.below HBZ.o).elem dK hu;subst hA5;have hut':=hut;obtain⟨A8,c8,A9,c9,rfl,-⟩:=Vl.at_iff.1 hut';obtain⟨f0,f1,f2,f3,f4,f5⟩:=iA huc;have HTK2:=Hd (iH hu);have HVG2:=Hd (oM S u _ wz hut);obtain⟨ub,hub⟩:∃ ub,ub=iS u:=⟨_,rfl⟩;rw[<-hub] at HVG2;have HUB:=Hd hub;clear hub hu hut hut' huc;cases ub with
       | true =>
         go_wp2_with fail;refine HVG2.o.mono ?_;rintro e w5 ⟨rfl,hb⟩;have HB5:=Hd (HBZ0.o.trans (hb.mono HBZ0.o.size));clear hb;go_wp2;go_ret;exact⟨1048576,rfl,by rw[HBK.o];omega,HB5.o,fun h=>by omega⟩
       | false =>
         go_wp2_with fail;refine HVG2.o.mono ?_;rintro e w5 ⟨rfl,hb⟩;have HB5:=Hd (HBZ.o.trans (hb.mono HBZ.o.size));clear hb b0 b1 b2 b3 e0 e1 e2 e3 e4 e5 e6 e7 e8 e9 f0 f1 f2 f3 f4 f5;go_wp2_with fail;go_roundg g2
         case measure=>omega
         case rel =>
          refine⟨i2+1,by omega,by go_num,Hd ?_,HB5⟩;rw[HTK2.o];exact kW HA2.o HUB.o.symm
 | zero =>
   have hjj:¬((j:Int)<(v.params.length:Int)):=by omega
   have HPG2:Hid (∀ p∈v.params,pG p):=Hd (by
    have:=HPG.o;rwa [aN (by omega)] at this)
   have hm3:m<=3660:=by omega
   go_wp2_with fail;clear b0 b1 b2 b3 hjj;go_loopg [5,8] v.conds.length (fun g n i wr=>∃ j m:Nat,j+g=v.conds.length/\i=.int .i64 (j:Nat)/\n=.int .i64 (m:Nat)/\n0<=m/\m<=3660+1056576*j/\Hid (m<=400->∀ p∈v.conds.take j,CdG p)/\Hid (Blk wr w.heap.size (kT v A a B b C c D d) 27)/\Hid (Below w.heap.size w wr))
   case atStart=>exact⟨0,m,by omega,rfl,rfl,hm1,by omega,Hd (fun _ p hp=>by simp at hp),HK,HB⟩
   clear HPG HK HB;obtain⟨j,m,hj,rfl,rfl,hm1,hm2,HCG,HK,HB⟩:=hrel;rename World=>wr
   obtain⟨b0,b1,b2,b3⟩:=j1 HK.o;cases gk with
   | succ g =>
     have hjj:(j:Int)<(v.conds.length:Int):=by omega
     have hji:(0:Int)<=(j:Int)/\(j:Int)<(v.conds.length:Int):=by omega
     obtain⟨x,hx⟩:=fO (l:=v.conds) (i:=j) (by omega);obtain⟨ad,cs,rfl,hxt,hxc⟩:=(HC.o.below HB.o).elem cY hx;have HWC:=Hd (yJ S 20 x _ wr (aA _) hxt);obtain⟨xs,ys,A5,c5,rfl,-,-,hxa,hxb,-⟩:=Cd.at_iff.1 hxt;obtain⟨A3,c3,rfl,-⟩:=Ex.at_iff.1 hxa;obtain⟨A4,c4,rfl,-⟩:=Ex.at_iff.1 hxb;obtain⟨e0,e1,e2,e3,e4,e5,e6,e7,e8,e9,e10,e11,e12,e13,e14⟩:=gP hxc;have HTK:=Hd (iH hx);clear hx hxt hxc hxa hxb;go_wp2_with fail;refine HWC.o.mono ?_;rintro e w4 ⟨q,rfl,hq1,hq2,hb,hqg⟩;have HB4:=Hd (HB.o.trans (hb.mono HB.o.size));have HK4:=Hd (HK.o.below hb);have HC2:Hid (m+q<=400->∀ p∈v.conds.take (j+1),CdG p):=Hd (fun h=>by
      rw[HTK.o];have hl:=HLE.o.2.1;obtain⟨g1,g2,g3⟩:=hqg (by omega);exact kW (HCG.o (by omega)) ⟨g1,by omega,by omega⟩)
     obtain⟨q1,hq3⟩:∃ q1,q1=m+q:=⟨_,rfl⟩;have hw1:=l9 hq3 (by omega);rw[<-hq3] at HC2;have HQ:=Hd hq3;clear hb hqg hq3 b0 b1 b2 b3 e0 e1 e2 e3 e4 e5 e6 e7 e8 e9 e10 e11 e12 e13 e14;go_wp2_with fail;go_roundg g
     case measure=>omega
     case rel =>
      have hq:=HQ.o;exact⟨j+1,q1,by omega,by go_num,rfl,by omega,by omega,HC2,HK4,HB4⟩
   | zero =>
     have hjj:¬((j:Int)<(v.conds.length:Int)):=by omega
     have HCG2:Hid (m<=400->∀ p∈v.conds,CdG p):=Hd (by
      have:=HCG.o;rwa [aN (by omega)] at this)
     have hcl:v.conds.length<=60:=by have:=HLE.o.2.1;omega
     have hm3:m<=63398220:=by omega
     by_cases h4:m<4000
     .have hi40:(m:Int)<4000:=by omega
      go_wp2_with fail;clear b0 b1 b2 b3 hjj;go_loopg [9] v.outs.length (fun g i wr=>∃ j:Nat,j+g=v.outs.length/\i=.int .i64 (j:Nat)/\Hid (∀ p∈v.outs.take j,iL p.e=false)/\Hid (Blk wr w.heap.size (kT v A a B b C c D d) 27)/\Hid (Below w.heap.size w wr))
      case atStart=>exact⟨0,by omega,rfl,Hd (fun p hp=>by simp at hp),HK,HB⟩
      clear HCG HK HB;obtain⟨j,hj,rfl,HOG,HK,HB⟩:=hrel;rename World=>wr
      obtain⟨b0,b1,b2,b3⟩:=j1 HK.o;cases gk with
      | succ g =>
        have hjj:(j:Int)<(v.outs.length:Int):=by omega
        have hji:(0:Int)<=(j:Int)/\(j:Int)<(v.outs.length:Int):=by omega
        obtain⟨x,hx⟩:=fO (l:=v.outs) (i:=j) (by omega);obtain⟨ad,cs,rfl,hxt,hxc⟩:=(HO.o.below HB.o).elem Ou.trlen hx;obtain⟨vs,rfl,-,-,hxe⟩:=Ou.at_iff.1 hxt;have HXG:=Hd (kB S x.e _ wr hxe);obtain⟨A3,c3,rfl,-⟩:=Ex.at_iff.1 hxe;obtain⟨e0,e1,e2,e3,e4,e5,e6,e7⟩:=l8 hxc;have HTK:=Hd (iH hx);obtain⟨xb,hxb⟩:∃ xb,xb=iL x.e:=⟨_,rfl⟩;rw[<-hxb] at HXG;have HXB:=Hd hxb;clear hx hxt hxc hxe hxb;cases xb with
        | true =>
          go_wp2_with fail;refine HXG.o.mono ?_;rintro e w5 ⟨rfl,hb⟩;have HB5:=Hd (HB.o.trans (hb.mono HB.o.size));clear hb;go_wp2;go_ret;exact⟨1048576,rfl,by rw[HBK.o];omega,HB5.o,fun h=>by omega⟩
        | false =>
          go_wp2_with fail;refine HXG.o.mono ?_;rintro e w5 ⟨rfl,hb⟩;have HB5:=Hd (HB.o.trans (hb.mono HB.o.size));have HK5:=Hd (HK.o.below hb);clear hb b0 b1 b2 b3 e0 e1 e2 e3 e4 e5 e6 e7;go_wp2_with fail;go_roundg g
          case measure=>omega
          case rel =>
           refine⟨j+1,by omega,by go_num,Hd ?_,HK5,HB5⟩;rw[HTK.o];exact kW HOG.o HXB.o.symm
      | zero =>
        have hjj:¬((j:Int)<(v.outs.length:Int)):=by omega
        have HOG2:Hid (∀ p∈v.outs,iL p.e=false):=Hd (by
         have:=HOG.o;rwa [aN (by omega)] at this)
        go_wp2_with fail;clear b0 b1 b2 b3 hjj;go_loopg [5,10] v.res.length (fun g n i wr=>∃ j m2:Nat,j+g=v.res.length/\i=.int .i64 (j:Nat)/\n=.int .i64 (m2:Nat)/\m<=m2/\m2<=100000000+4*bk/\Hid (m2<=400->∀ r∈v.res.take j,rG r/\∀ t'∈r.inner,Tm.gw k t')/\Hid (Blk wr w.heap.size (kT v A a B b C c D d) 27)/\Hid (Below w.heap.size w wr))
        case atStart=>exact⟨0,m,by omega,rfl,rfl,aA _,by omega,Hd (fun _ p hp=>by simp at hp),HK,HB⟩
        clear HOG HK HB;obtain⟨j,m2,hj,rfl,rfl,hmm,hm4,HRG,HK,HB⟩:=hrel;rename World=>wr
        obtain⟨b0,b1,b2,b3⟩:=j1 HK.o;cases gk with
        | zero =>
          have hjj:¬((j:Int)<(v.res.length:Int)):=by omega
          have HRG2:Hid (m2<=400->∀ r∈v.res,rG r/\∀ t'∈r.inner,Tm.gw k t'):=Hd (by
           have:=HRG.o;rwa [aN (by omega)] at this)
          go_wp2;go_ret;refine⟨m2,rfl,by rw[HBK.o];exact hm4,HB.o,fun h=>?_⟩;have hl:=HLE.o;exact⟨⟨by omega,HPG2.o⟩,⟨by omega,HCG2.o (by omega)⟩,⟨by omega,HOG2.o⟩,by omega,HRG2.o h⟩
        | succ g =>
          have hjj:(j:Int)<(v.res.length:Int):=by omega
          by_cases h5:m2<4000
          .have hi5:(m2:Int)<4000:=by omega
           have hji:(0:Int)<=(j:Int)/\(j:Int)<(v.res.length:Int):=by omega
           obtain⟨x,hx⟩:=fO (l:=v.res) (i:=j) (by omega);obtain⟨ad,cs,rfl,hxt,hxc⟩:=(HRS.o.below HB.o).elem Rs.trlen hx;obtain⟨C1,q1,C2,q2,C3,q3,rfl,-,-,-,hxp,hxd,hxi⟩:=Rs.at_iff.1 hxt;obtain⟨e0,e1,e2,e3,e4,e5,e6⟩:=lO hxc;have HEC:=Hd hxc;have HTK:=Hd (iH hx);have hpb2:=hxp.bytes;have hdb2:=hxd.bytes;have hib2:=hxi.bytes;have hpc2:=hxp.cap;have hic2:=hxi.cap;have HXP:=Hd hxp;have HXI:=Hd hxi;obtain⟨u1,hu1⟩:∃ u1,u1=m2+x.props.length:=⟨_,rfl⟩;obtain⟨u2,hu2⟩:∃ u2,u2=u1+x.depends.length:=⟨_,rfl⟩;obtain⟨u3,hu3⟩:∃ u3,u3=u2+x.inner.length:=⟨_,rfl⟩;have hw1:=l9 hu1 (by omega);have hw2:=l9 hu2 (by omega);have hw3:=l9 hu3 (by omega);have HU:Hid (u3=m2+x.props.length+x.depends.length+x.inner.length):=Hd (by omega);clear hx hxt hxc hxp hxd hxi hu1 hu2 hu3;go_upto_region 27 with fail;go_quiet (fail);have hbq:Below wr.heap.size wr (wr.drewN nq):=⟨rfl,rfl,rfl,aA _,fun _ _=>rfl⟩
           generalize wr.drewN nq=wq at hbq ⊢;have HBQ:=Hd hbq;have HBQ0:=Hd (HB.o.trans (hbq.mono HB.o.size));have HKQ:=Hd (HK.o.below hbq);clear b0 b1 b2 b3 e0 e1 e2 e3 e4 e5 e6 hw1 hw2 hw3;obtain⟨b0,b1,b2,b3⟩:=j1 HKQ.o;obtain⟨e0,e1,e2,e3,e4,e5,e6⟩:=lO (HEC.o.below hbq);clear hbq;by_cases hp6:60<x.props.length
           .have hp6i:(60:Int)<(x.props.length:Int):=by omega
            go_wp2;go_ret;exact⟨1048576,rfl,by rw[HBK.o];omega,HBQ0.o,fun h=>by omega⟩
           have hp6i:¬((60:Int)<(x.props.length:Int)):=by omega
           by_cases hd6:60<x.depends.length
           .have hd6i:(60:Int)<(x.depends.length:Int):=by omega
            go_wp2;go_ret;exact⟨1048576,rfl,by rw[HBK.o];omega,HBQ0.o,fun h=>by omega⟩
           have hd6i:¬((60:Int)<(x.depends.length:Int)):=by omega
           by_cases hi6:4<x.inner.length
           .have hi6i:(4:Int)<(x.inner.length:Int):=by omega
            go_wp2;go_ret;exact⟨1048576,rfl,by rw[HBK.o];omega,HBQ0.o,fun h=>by omega⟩
           have hi6i:¬((4:Int)<(x.inner.length:Int)):=by omega
           have hu3:u3<=4124/\m2<=u3:=by have:=HU.o;omega
           clear HU hpb2 hdb2 hib2;go_wp2_with fail;clear b0 b1 b2 b3 e0 e1 e2 e3 e4 e5 e6 hp6i hd6i hi6i;go_loopg [11] x.props.length (fun g i wz=>∃ i2:Nat,i2+g=x.props.length/\i=.int .i64 (i2:Nat)/\Hid (∀ u∈x.props.take i2,iL u.e=false)/\Hid (Below wr.heap.size wr wz))
           case atStart=>exact⟨0,by omega,rfl,Hd (fun p hp=>by simp at hp),HBQ⟩
           obtain⟨i2,hj2,rfl,HA2,HBZ⟩:=hrel;rename World=>wz
           have HBZ0:=Hd (HB.o.trans (HBZ.o.mono HB.o.size));obtain⟨b0,b1,b2,b3⟩:=j1 (HK.o.below HBZ.o);obtain⟨e0,e1,e2,e3,e4,e5,e6⟩:=lO (HEC.o.below HBZ.o);cases gk with
           | succ g2 =>
             have hjj2:(i2:Int)<(x.props.length:Int):=by omega
             have hji2:(0:Int)<=(i2:Int)/\(i2:Int)<(x.props.length:Int):=by omega
             obtain⟨u,hu⟩:=fO (l:=x.props) (i:=i2) (by omega);obtain⟨ad2,us,hA5,hut,huc⟩:=(HXP.o.below HBZ.o).elem Pr.trlen hu;subst hA5;obtain⟨vs,rfl,-,hxe⟩:=Pr.at_iff.1 hut;have HXG:=Hd (kB S u.e _ wz hxe);obtain⟨A3,c3,rfl,-⟩:=Ex.at_iff.1 hxe;obtain⟨f0,f1,f2,f3,f4,f5,f6⟩:=lO huc;have HTK2:=Hd (iH hu);obtain⟨ub,hub⟩:∃ ub,ub=iL u.e:=⟨_,rfl⟩;rw[<-hub] at HXG;have HUB:=Hd hub;clear hub hu hut hxe huc;cases ub with
             | true =>
               go_wp2_with fail;refine HXG.o.mono ?_;rintro e w5 ⟨rfl,hb⟩;have HB5:=Hd (HBZ0.o.trans (hb.mono HBZ0.o.size));clear hb;go_wp2;go_ret;exact⟨1048576,rfl,by rw[HBK.o];omega,HB5.o,fun h=>by omega⟩
             | false =>
               go_wp2_with fail;refine HXG.o.mono ?_;rintro e w5 ⟨rfl,hb⟩;have HB5:=Hd (HBZ.o.trans (hb.mono HBZ.o.size));clear hb b0 b1 b2 b3 e0 e1 e2 e3 e4 e5 e6 f0 f1 f2 f3 f4 f5 f6;go_wp2_with fail;go_roundg g2
               case measure=>omega
               case rel =>
                refine⟨i2+1,by omega,by go_num,Hd ?_,HB5⟩;rw[HTK2.o];exact kW HA2.o HUB.o.symm
           | zero =>
             have hjj2:¬((i2:Int)<(x.props.length:Int)):=by omega
             have HA3:Hid (∀ u∈x.props,iL u.e=false):=Hd (by
              have:=HA2.o;rwa [aN (by omega)] at this)
             go_wp2_with fail;clear b0 b1 b2 b3 e0 e1 e2 e3 e4 e5 e6 hjj2;go_loopg [5,12] x.inner.length (fun g n i wz=>∃ i3 m3:Nat,i3+g=x.inner.length/\i=.int .i64 (i3:Nat)/\n=.int .i64 (m3:Nat)/\m2<=m3/\Hid (m3<=4124+i3*bk)/\Hid (m3<=400->∀ u∈x.inner.take i3,Tm.gw k u)/\Hid (Below wr.heap.size wr wz))
             case atStart=>exact⟨0,u3,by omega,rfl,rfl,hu3.2,Hd (by omega),Hd (fun _ p hp=>by simp at hp),HBZ⟩
             clear HA2 HBZ HBZ0;obtain⟨i3,m3,hj3,rfl,rfl,hm5,HM3,HA4,HBZ⟩:=hrel;rename World=>wz
             have HBZ0:=Hd (HB.o.trans (HBZ.o.mono HB.o.size));have HKZ:=Hd (HK.o.below HBZ.o);obtain⟨b0,b1,b2,b3⟩:=j1 HKZ.o;obtain⟨e0,e1,e2,e3,e4,e5,e6⟩:=lO (HEC.o.below HBZ.o);have hm6:m3<=4124+4*bk:=by
              have h1:=HM3.o;have h2:i3*bk<=4*bk:=bT _ (by omega);omega
             cases gk with
             | zero =>
               have hjj3:¬((i3:Int)<(x.inner.length:Int)):=by omega
               have HA5:Hid (m3<=400->∀ u∈x.inner,Tm.gw k u):=Hd (by
                have:=HA4.o;rwa [aN (by omega)] at this)
               go_wp2_with fail;go_roundg g
               case measure=>omega
               case rel =>
                refine⟨j+1,m3,by omega,by go_num,rfl,by omega,by omega,Hd (fun h=>?_),HKZ,HBZ0⟩;rw[HTK.o];exact kW (HRG.o (by omega)) ⟨⟨by omega,HA3.o,by omega⟩,HA5.o h⟩
             | succ g3 =>
               have hjj3:(i3:Int)<(x.inner.length:Int):=by omega
               have hji3:(0:Int)<=(i3:Int)/\(i3:Int)<(x.inner.length:Int):=by omega
               obtain⟨u,hu⟩:=fO (l:=x.inner) (i:=i3) (by omega);obtain⟨ad2,us,hA5,hut,huc⟩:=(HXI.o.below HBZ.o).elem Tm.trlen hu;subst hA5;have HCL:=Hd (HIH.o u us wz hut);obtain⟨A3,a3,B3,y3,C4,c4,D3,d3,rfl,-⟩:=Tm.at_iff.1 hut;obtain⟨f0,f1,f2,f3⟩:=DI huc;have HTK2:=Hd (iH hu);clear hu hut huc;go_wp2_with fail;refine HCL.o.mono ?_;rintro e w5 ⟨q,rfl,hq1,hb,hqg⟩;rw[HBK0.o] at hq1;have HB5:=Hd (HBZ.o.trans (hb.mono HBZ.o.size));have HA6:Hid (m3+q<=400->∀ u∈x.inner.take (i3+1),Tm.gw k u):=Hd (fun h=>by
                rw[HTK2.o];exact kW (HA4.o (by omega)) (hqg (by omega)))
               have HM4:Hid (m3+q<=4124+(i3+1)*bk):=Hd (by
                have:=HM3.o;rw[Nat.add_mul];omega)
               obtain⟨m4,hm7⟩:∃ m4,m4=m3+q:=⟨_,rfl⟩;have hw1:=l9 hm7 (by omega);have hm8:m2<=m4:=by omega
               rw[<-hm7] at HA6 HM4;clear hb hqg hm7 b0 b1 b2 b3 e0 e1 e2 e3 e4 e5 e6 f0 f1 f2 f3;go_wp2_with fail;go_roundg g3
               case measure=>omega
               case rel=>exact⟨i3+1,m4,by omega,by go_num,rfl,hm8,HM4,HA6,HB5⟩
          have hi5:¬((m2:Int)<4000):=by omega
          go_wp2;go_ret;exact⟨m2,rfl,by rw[HBK.o];exact hm4,HB.o,fun h=>by omega⟩
     have hi40:¬((m:Int)<4000):=by omega
     have HFIN:Hid (m<=wB (k+1)):=Hd (by rw[HBK.o];omega);go_wp2_with fail;clear b0 b1 b2 b3 hjj;go_loopg [9] v.outs.length (fun g i wr=>∃ j:Nat,j+g=v.outs.length/\i=.int .i64 (j:Nat)/\Hid (Blk wr w.heap.size (kT v A a B b C c D d) 27)/\Hid (Below w.heap.size w wr))
     case atStart=>exact⟨0,by omega,rfl,HK,HB⟩
     clear HCG HK HB;obtain⟨j,hj,rfl,HK,HB⟩:=hrel;rename World=>wr
     obtain⟨b0,b1,b2,b3⟩:=j1 HK.o;cases gk with
     | succ g =>
       have hjj:(j:Int)<(v.outs.length:Int):=by omega
       go_wp2_with fail;clear b0 b1 b2 b3 hjj;go_loopg [5,10] v.res.length (fun g n i wr=>∃ j:Nat,j+g=v.res.length/\i=.int .i64 (j:Nat)/\n=.int .i64 (m:Nat)/\Hid (Blk wr w.heap.size (kT v A a B b C c D d) 27)/\Hid (Below w.heap.size w wr))
       case atStart=>exact⟨0,by omega,rfl,rfl,HK,HB⟩
       clear HK HB;obtain⟨j,hj,rfl,rfl,HK,HB⟩:=hrel;rename World=>wr
       obtain⟨b0,b1,b2,b3⟩:=j1 HK.o;cases gk with
       | succ g =>
         have hjj:(j:Int)<(v.res.length:Int):=by omega
         go_wp2;go_ret;exact⟨m,rfl,HFIN.o,HB.o,fun h=>by omega⟩
       | zero =>
         have hjj:¬((j:Int)<(v.res.length:Int)):=by omega
         go_wp2;go_ret;exact⟨m,rfl,HFIN.o,HB.o,fun h=>by omega⟩
     | zero =>
       have hjj:¬((j:Int)<(v.outs.length:Int)):=by omega
       go_wp2_with fail;clear b0 b1 b2 b3 hjj;go_loopg [5,10] v.res.length (fun g n i wr=>∃ j:Nat,j+g=v.res.length/\i=.int .i64 (j:Nat)/\n=.int .i64 (m:Nat)/\Hid (Blk wr w.heap.size (kT v A a B b C c D d) 27)/\Hid (Below w.heap.size w wr))
       case atStart=>exact⟨0,by omega,rfl,rfl,HK,HB⟩
       clear HK HB;obtain⟨j,hj,rfl,rfl,HK,HB⟩:=hrel;rename World=>wr
       obtain⟨b0,b1,b2,b3⟩:=j1 HK.o;cases gk with
       | succ g =>
         have hjj:(j:Int)<(v.res.length:Int):=by omega
         go_wp2;go_ret;exact⟨m,rfl,HFIN.o,HB.o,fun h=>by omega⟩
       | zero =>
         have hjj:¬((j:Int)<(v.res.length:Int)):=by omega
         go_wp2;go_ret;exact⟨m,rfl,HFIN.o,HB.o,fun h=>by omega⟩
theorem sU (S:Nat->Prop):∀ k,k<=5->UC S k
 | 0,_=>fun v cs w hv=>yL v cs S w hv
 | k+1,h=>yK S k (by omega) (sU S k (by omega))
def UJ (t:Tm) (w:World) (e:Ending) (w':World):Prop:=∃ b,e=.returned (.bool b)/\Below w.heap.size w w'/\(b=false->t.gw 5)
theorem AL (S:Nat->Prop) (v:Tm) (cs:List Value) (w:World) (hv:Trs.at S w v.tr cs) :
 Calls Tryz.prog 19 #[.agg cs.toArray] w (UJ v w):=by
 have HV:=Hd hv;obtain⟨A,a,B,b,C,c,D,d,rfl,-⟩:=Tm.at_iff.1 hv;clear hv;obtain⟨W1,hW1⟩:∃ W1,W1=w.alloc (.cells (kT v A a B b C c D d) 27):=⟨_,rfl⟩;have hb1:Below w.heap.size w W1:=by rw[hW1];exact(aB _ w).alloc (aA _) _
 have hk1:Blk W1 w.heap.size (kT v A a B b C c D d) 27:=by rw[hW1];exact aJ _ _ _
 have HB1:=Hd hb1;have HW1:=Hd hW1;have HWT:=Hd (sU S 5 (aA _) v _ W1 (HV.o.below hb1));obtain⟨b0,b1,b2,b3⟩:=j1 hk1;clear hb1 hk1 hW1;go_enter Tryz.func19,Tryz.ntmps19;go_upto_region 1 with fail;rw[<-HW1.o];go_wp2_with fail;refine HWT.o.mono ?_;rintro e w2 ⟨n,rfl,-,hb,hg⟩;have HB2:=Hd (HB1.o.trans (hb.mono HB1.o.size));have HG:=Hd hg;clear hb hg b0 b1 b2 b3;go_wp2;go_ret;exact⟨_,rfl,HB2.o,fun h=>HG.o (by
  have:=of_decide_eq_false h;omega)⟩
