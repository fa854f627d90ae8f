/- Part of the proof. -/
import Derived.Lib.Small
import Derived.Test.YtjmklmngikpeaaaGreatDoorEq3
import Derived.Shelf.SlSortCmp.Whole1
import Derived.Sort.LotA
import Derived.KernelRfl
import Derived.Test.YtjmklmngikpeaaaGreatDoorProg
set_option maxRecDepth 100000
set_option maxHeartbeats 8000000
set_option linter.unusedVariables false
set_option linter.unusedSimpArgs false
namespace Go.Proofs.YtjmklmngikpeaaaGreatDoor
open Go.RowKit
theorem isn8_any (x:Int) (w:World):Calls Tryz.prog 247 #[.int .i8 x] w fun e w'=>e=.returned (.bool false)/\w'=w:=by
 go_enter Tryz.func247,Tryz.ntmps247;go_wp2;go_ret;exact⟨by simp,rfl⟩
theorem isni_any (x:Int) (w:World):Calls Tryz.prog 248 #[.int .i64 x] w fun e w'=>e=.returned (.bool false)/\w'=w:=by
 go_enter Tryz.func248,Tryz.ntmps248;go_wp2;go_ret;exact⟨by simp,rfl⟩
theorem LS (x y:Int) (w:World):Calls Tryz.prog 238 #[.int .i8 x,.int .i8 y] w fun e w'=>e=.returned (.int .i64 (Lib.compareInt x y))/\w'=w:=by
 go_enter Tryz.func238,Tryz.ntmps238;go_wp2_with fail;refine(isn8_any x w).mono ?_;rintro e w1 ⟨rfl,rfl⟩;go_wp2_with fail;refine(isn8_any y _).mono ?_;rintro e w1 ⟨rfl,rfl⟩;by_cases h1:x<y
 .have HE:Hid (Lib.compareInt x y=-1):=Hd (by unfold Lib.compareInt;rw[if_pos h1]);go_wp2;go_ret;exact⟨by rw[HE.o];rfl,rfl⟩
 by_cases h2:y<x
 .have HE:Hid (Lib.compareInt x y=1):=Hd (by unfold Lib.compareInt;rw[if_neg h1,if_pos h2]);go_wp2;go_ret;exact⟨by rw[HE.o];rfl,rfl⟩
 have HE:Hid (Lib.compareInt x y=0):=Hd (by unfold Lib.compareInt;rw[if_neg h1,if_neg h2]);go_wp2;go_ret;exact⟨by rw[HE.o];rfl,rfl⟩
theorem AX (x y:Int) (w:World):Calls Tryz.prog 240 #[.int .i64 x,.int .i64 y] w fun e w'=>e=.returned (.int .i64 (Lib.compareInt x y))/\w'=w:=by
 go_enter Tryz.func240,Tryz.ntmps240;go_wp2_with fail;refine(isni_any x w).mono ?_;rintro e w1 ⟨rfl,rfl⟩;go_wp2_with fail;refine(isni_any y _).mono ?_;rintro e w1 ⟨rfl,rfl⟩;by_cases h1:x<y
 .have HE:Hid (Lib.compareInt x y=-1):=Hd (by unfold Lib.compareInt;rw[if_pos h1]);go_wp2;go_ret;exact⟨by rw[HE.o];rfl,rfl⟩
 by_cases h2:y<x
 .have HE:Hid (Lib.compareInt x y=1):=Hd (by unfold Lib.compareInt;rw[if_neg h1,if_pos h2]);go_wp2;go_ret;exact⟨by rw[HE.o];rfl,rfl⟩
 have HE:Hid (Lib.compareInt x y=0):=Hd (by unfold Lib.compareInt;rw[if_neg h1,if_neg h2]);go_wp2;go_ret;exact⟨by rw[HE.o];rfl,rfl⟩
theorem EY (b:Bool) (w:World):Calls Tryz.prog 239 #[.bool b] w fun e w'=>e=.returned (.int .i64 (b.toNat:Nat))/\w'=w:=by
 go_enter Tryz.func239,Tryz.ntmps239;cases b
 .go_wp2;go_ret;exact⟨rfl,rfl⟩
 go_wp2;go_ret;exact⟨rfl,rfl⟩
def iU (l:List Int):Int:=(l.find? (fun x=>decide (x≠0))).getD 0
theorem QX (A:Option Addr) (c:Nat) (l:List Int) (w:World) (hr:Rd w 1 A l.length c (l.map (.int .i64))) (hl:l.length<=1000) :
 Calls Tryz.prog 237 #[.slice A l.length c] w fun e w'=>e=.returned (.int .i64 (iU l))/\w'=w:=by
 have hcap:=hr.cap;have HR:=Hd hr;clear hr;go_enter Tryz.func237,Tryz.ntmps237;go_wp2_with fail;go_loopg [8] l.length (fun g i wr=>∃ j:Nat,j+g=l.length/\i=.int .i64 (j:Nat)/\wr=w/\Hid (iU l=iU (l.drop j)))
 case atStart=>exact⟨0,by omega,rfl,rfl,Hd rfl⟩
 obtain⟨j,hj,rfl,rfl,HF⟩:=hrel;cases gk with
 | zero =>
   have hjj:¬((j:Int)<(l.length:Int)):=by omega
   have HE:Hid (iU l=0):=Hd (by rw[HF.o,aP (by omega)];rfl);go_wp2;go_ret;exact⟨by rw[HE.o];rfl,rfl⟩
 | succ g =>
   have hjj:(j:Int)<(l.length:Int):=by omega
   obtain⟨x,hx⟩:=fO (l:=l) (i:=j) (by omega);obtain⟨ad,rfl,hc⟩:=HR.o.at_ j (.int .i64 x) (by simp[hx]);have HD:Hid (iU (l.drop j)=if x≠0 then x else iU (l.drop (j+1))):=Hd (by
    rw[fS hx];unfold iU;rw[cP];by_cases hz:x=0
    .simp[hz]
    simp[hz])
   clear hx;by_cases hz:x=0
   .subst hz;have HF2:Hid (iU l=iU (l.drop (j+1))):=Hd (by rw[HF.o,HD.o];simp);go_wp2_with fail;go_roundg g
    case measure=>omega
    case rel=>exact⟨j+1,by omega,by go_num,rfl,HF2⟩
   have hq:(x !=0)=true:=by simpa using hz
   have HE:Hid (iU l=x):=Hd (by rw[HF.o,HD.o,if_pos hz]);clear hz;go_wp2;go_ret;exact⟨by rw[HE.o];rfl,rfl⟩
def yO (a b:Vl):Int:=iU [Lib.compareInt a.kind b.kind,(a.bool.toNat:Int)-(b.bool.toNat:Int),Lib.compareInt a.num b.num,Lib.compareBytes a.text.data.toList b.text.data.toList]
def qK (f:Vl->Vl->Int) (a b:Vl) (i:Nat):Option Int :=
 let c:=if a.kind=5 then Lib.compareBytes (a.keys.getD i ByteArray.empty).data.toList (b.keys.getD i ByteArray.empty).data.toList else 0
 if c≠0 then some c else match a.list[i]?,b.list[i]? with
  | some x,some y=>if f x y≠0 then some (f x y) else none
  | _,_=>none
def D5 (f:Vl->Vl->Int) (a b:Vl):Int:=((List.range (min a.list.length b.list.length)).findSome? (qK f a b)).getD (Lib.compareInt a.list.length b.list.length)
def iV:Nat->Vl->Vl->Int
 | 0,_,_=>0
 | k+1,a,b=>if yO a b≠0 then yO a b else D5 (iV k) a b
def yR:Nat->Vl->Prop
 | 0,_=>False
 | k+1,v=>(v.kind=5->v.keys.length=v.list.length)/\∀ x∈v.list,yR k x
theorem BY {a b:Vl} (h:yO a b=0):a.kind=b.kind:=by
 unfold yO iU at h;rw[cP] at h;by_cases hz:Lib.compareInt a.kind b.kind=0
 .unfold Lib.compareInt at hz;split at hz
  .omega
  split at hz<;>omega
 rw[show decide (Lib.compareInt a.kind b.kind≠0)=true by simpa using hz] at h;exact absurd h hz
def UK (k:Nat):Prop:=∀ (S:Nat->Prop) (a b:Vl) (ca cb:List Value) (pa pb:Addr) (w:World),yR k a->yR k b->Trs.at S w a.tr ca->i7 w pa ca->Trs.at S w b.tr cb->i7 w pb cb ->
 Calls Tryz.prog 229 #[.pointer (some pa),.pointer (some pb)] w fun e w'=>e=.returned (.int .i64 (iV k a b))/\Below w.heap.size w w'
theorem OT (k:Nat) (IH:UK k):UK (k+1):=by
 intro S a b ca cb pa pb w hfa hfb hta hca htb hcb;obtain⟨A1,n1,K1,m1,rfl,_,_,hx1,hl1,hk1⟩:=Vl.at_iff.1 hta;obtain⟨A2,n2,K2,m2,rfl,_,_,hx2,hl2,hk2⟩:=Vl.at_iff.1 htb;obtain⟨c0,c1,c2,c3,c4,c5⟩:=iA hca;obtain⟨d0,d1,d2,d3,d4,d5⟩:=iA hcb;have hcap1:=hl1.cap;have hcap2:=hl2.cap;have hbyt1:=hl1.bytes;have HL1:=Hd hl1;have HL2:=Hd hl2;have HK1:=Hd hk1;have HK2:=Hd hk2;have HCA:=Hd hca;have HCB:=Hd hcb;have HFA:=Hd hfa;have HFB:=Hd hfb;have HIH:=Hd IH;clear hta htb hca hcb hl1 hl2 hk1 hk2 hfa hfb IH;have hwr:IntKind.i64.wrap ((a.bool.toNat:Int)-(b.bool.toNat:Int))=(a.bool.toNat:Int)-(b.bool.toNat:Int):=IntWalk.i64_in _ (by
  have h1:a.bool.toNat<=1:=by cases a.bool<;>simp
  have h2:b.bool.toNat<=1:=by cases b.bool<;>simp
  omega)
 go_enter Tryz.func229,Tryz.ntmps229;go_wp2_with fail;go_still_tail 38,(by kernel_rfl);still_call (LS _ _ _);repeat still_step
 still_call (EY _ _);repeat still_step
 still_call (EY _ _);repeat still_step
 still_call (AX _ _ _);repeat still_step
 still_call (tD _ _ _);repeat still_step
 try refine wpStill_nil ?_
 change wpList _ _ _ _ _ w.drew;have hb1:Below w.heap.size w (w.drew.alloc (.cells #[.int .i64 (Lib.compareInt a.kind b.kind),.int .i64 ((a.bool.toNat:Int)-(b.bool.toNat:Int)),.int .i64 (Lib.compareInt a.num b.num),.int .i64 (Lib.compareBytes a.text.data.toList b.text.data.toList)] 3)):=(aB _ w).drew.alloc (by simp) _;have hor:=QX (some ⟨w.heap.size,0,none⟩) 4 [Lib.compareInt a.kind b.kind,(a.bool.toNat:Int)-(b.bool.toNat:Int),Lib.compareInt a.num b.num,Lib.compareBytes a.text.data.toList b.text.data.toList] (w.drew.alloc (.cells #[.int .i64 (Lib.compareInt a.kind b.kind),.int .i64 ((a.bool.toNat:Int)-(b.bool.toNat:Int)),.int .i64 (Lib.compareInt a.num b.num),.int .i64 (Lib.compareBytes a.text.data.toList b.text.data.toList)] 3))
  (by simpa using cQ w.drew 1 4 #[.int .i64 (Lib.compareInt a.kind b.kind),.int .i64 ((a.bool.toNat:Int)-(b.bool.toNat:Int)),.int .i64 (Lib.compareInt a.num b.num),.int .i64 (Lib.compareBytes a.text.data.toList b.text.data.toList)] 3 (0,0) rfl (by simp[maxLen])) (by simp)
 obtain⟨z,hz⟩:∃ z,z=yO a b:=⟨_,rfl⟩;have HOR:Hid (Calls Tryz.prog 237 #[.slice (some ⟨w.heap.size,0,none⟩) 4 4] (w.drew.alloc (.cells #[.int .i64 (Lib.compareInt a.kind b.kind),.int .i64 ((a.bool.toNat:Int)-(b.bool.toNat:Int)),.int .i64 (Lib.compareInt a.num b.num),.int .i64 (Lib.compareBytes a.text.data.toList b.text.data.toList)] 3)) fun e w'=>e=.returned (.int .i64 z)/\Below w.heap.size w w'):=Hd (hor.mono (by
  rintro e w' ⟨rfl,rfl⟩;exact⟨by rw[hz];rfl,hb1⟩))
 have HZ:=Hd hz;clear hb1 hor c0 c1 c2 c3 c4 c5 d0 d1 d2 d3 d4 d5 hz;go_wp2_with fail;refine HOR.o.mono ?_;rintro e w2 ⟨rfl,hb2⟩;have HB2:=Hd hb2;have hs2:=hb2.size;clear hb2 HOR;by_cases h0:z=0
 .subst h0;have HCV:Hid (iV (k+1) a b=D5 (iV k) a b):=Hd (by simp only[iV];rw[<-HZ.o];simp);have HKK:Hid (a.kind=b.kind):=Hd (BY HZ.o.symm);obtain⟨c0,c1,c2,c3,c4,c5⟩:=iA (HCA.o.below HB2.o);obtain⟨d0,d1,d2,d3,d4,d5⟩:=iA (HCB.o.below HB2.o);obtain⟨mn,hmn⟩:∃ mn,mn=min a.list.length b.list.length:=⟨_,rfl⟩;have hmi:min (a.list.length:Int) (b.list.length:Int)=(mn:Int):=by omega
  have hmx:∀ w',(Builtin.min_ #[3,3] 3 #[.int .i64 (a.list.length:Nat),.int .i64 (b.list.length:Nat)]).run Tryz.prog w'=.ok (.int .i64 (mn:Nat)) w':=fun w'=>sJ hmi
  have hma:mn<=a.list.length:=by omega
  have hmb:mn<=b.list.length:=by omega
  have HMN:=Hd hmn;clear hmi hmn;go_wp2_with fail;go_still (by kernel_rfl);change Exit.then _ _ _ _ w2.drew;have HB3:=Hd HB2.o.drew;generalize w2.drew=w3 at HB3 ⊢;clear c0 c1 c2 c3 c4 c5 d0 d1 d2 d3 d4 d5 hmx HB2 hs2;go_wp2_with fail;go_loopg [63] mn (fun g i wr=>∃ j:Nat,j+g=mn/\i=.int .i64 (j:Nat)/\Hid ((List.range j).findSome? (qK (iV k) a b)=none)/\Hid (Below w.heap.size w wr))
  case atStart=>exact⟨0,by omega,rfl,Hd rfl,HB3⟩
  obtain⟨j,hj,rfl,HN,HB⟩:=hrel;rename World=>wo
  clear HB3;obtain⟨c0,c1,c2,c3,c4,c5⟩:=iA (HCA.o.below HB.o);obtain⟨d0,d1,d2,d3,d4,d5⟩:=iA (HCB.o.below HB.o);have hso:=HB.o.size;cases gk with
  | zero =>
    have hjj:¬((j:Int)<(mn:Int)):=by omega
    have HE:Hid (iV (k+1) a b=Lib.compareInt a.list.length b.list.length):=Hd (by
     rw[HCV.o];unfold D5;rw[<-HMN.o,show mn=j by omega,HN.o];rfl)
    go_wp2_with fail;go_still_tail 11,(by kernel_rfl);still_call (AX _ _ _);repeat still_step
    try refine wpStill_nil ?_
    change wpList _ _ _ _ _ wo.drew;go_wp2;go_ret;exact⟨by rw[HE.o];rfl,HB.o.drew⟩
  | succ g =>
    have hjj:(j:Int)<(mn:Int):=by omega
    have hj1:(0:Int)<=(j:Int)/\(j:Int)<(a.list.length:Int):=by omega
    have hj2:(0:Int)<=(j:Int)/\(j:Int)<(b.list.length:Int):=by omega
    obtain⟨x,hx⟩:=fO (l:=a.list) (i:=j) (by omega);obtain⟨y,hy⟩:=fO (l:=b.list) (i:=j) (by omega);obtain⟨ad1,xs,rfl,hxt,hxc⟩:=HL1.o.elem dK hx;obtain⟨ad2,ys,rfl,hyt,hyc⟩:=HL2.o.elem dK hy;have HCL:Hid (∀ w',Below w.heap.size w w'->Calls Tryz.prog 229 #[.pointer (some (ad1.add (j*6))),.pointer (some (ad2.add (j*6)))] w' fun e w''=>e=.returned (.int .i64 (iV k x y))/\Below w'.heap.size w' w'') :=
     Hd (fun w' hb=>HIH.o S x y xs ys _ _ w' (HFA.o.2 x (aD hx)) (HFB.o.2 y (aD hy)) (hxt.below hb) (hxc.below hb) (hyt.below hb) (hyc.below hb))
    have HRW:Hid (qK (iV k) a b j=if (if a.kind=5 then Lib.compareBytes (a.keys.getD j ByteArray.empty).data.toList (b.keys.getD j ByteArray.empty).data.toList else 0)≠0 then some (if a.kind=5 then Lib.compareBytes (a.keys.getD j ByteArray.empty).data.toList (b.keys.getD j ByteArray.empty).data.toList else 0) else if iV k x y≠0 then some (iV k x y) else none):=Hd (by
     unfold qK;simp only[hx,hy])
    have HSN:Hid (∀ o,qK (iV k) a b j=o->(List.range (j+1)).findSome? (qK (iV k) a b)=o):=Hd (fun o ho=>by
     rw[dP,List.findSome?_append,HN.o,List.findSome?_cons,ho];cases o<;>rfl)
    have HFD:Hid (∀ c,qK (iV k) a b j=some c->iV (k+1) a b=c):=Hd (fun c hc=>by
     rw[HCV.o];unfold D5;have h1:=HSN.o _ hc;have h2:(List.range mn).findSome? (qK (iV k) a b)=some c:=by
      have:List.range mn=List.range (j+1)++(List.range (mn-(j+1))).map (j+1+·):=by
       rw[<-List.range_add];congr 1;omega
      rw[this,List.findSome?_append,h1];rfl
     rw[<-HMN.o,h2];rfl)
    obtain⟨v2,hv2⟩:∃ v2,v2=iV k x y:=⟨_,rfl⟩;rw[<-hv2] at HCL HRW;clear hx hy hxt hxc hyt hyc hv2;by_cases h5:a.kind=5
    .have e5:(a.kind==5)=true:=by rw[h5];rfl
     have hka:=HFA.o.1 h5;have hkb:=HFB.o.1 (by rw[<-HKK.o];exact h5);obtain⟨s,hs⟩:=fO (l:=a.keys) (i:=j) (by omega);obtain⟨t,ht⟩:=fO (l:=b.keys) (i:=j) (by omega);obtain⟨ka,rfl,hsc,hss⟩:=(HK1.o.below HB.o).str hs;obtain⟨kb,rfl,htc,hts⟩:=(HK2.o.below HB.o).str ht;have hk1:(0:Int)<=(j:Int)/\(j:Int)<(a.keys.length:Int):=by omega
     have hk2:(0:Int)<=(j:Int)/\(j:Int)<(b.keys.length:Int):=by omega
     have HR2:Hid (qK (iV k) a b j=if Lib.compareBytes s.data.toList t.data.toList≠0 then some (Lib.compareBytes s.data.toList t.data.toList) else if v2≠0 then some v2 else none):=Hd (by
      rw[HRW.o];simp only[if_pos h5,aG,hs,ht,dT])
     clear hka hkb hs ht h5;obtain⟨z2,hz2⟩:∃ z2,z2=Lib.compareBytes s.data.toList t.data.toList:=⟨_,rfl⟩;rw[<-hz2] at HR2;have HSC:Hid (∀ w',Calls Tryz.prog 241 #[.string s,.string t] w' fun e w''=>e=.returned (.int .i64 z2)/\w''=w'):=Hd (fun w'=>by rw[hz2];exact tD s t w');clear hz2;go_wp2_with fail;go_still_tail 15,(by kernel_rfl);still_call (HSC.o _);repeat still_step
     try refine wpStill_nil ?_
     change wpList _ _ _ _ _ wo.drew;have HBD:=Hd HB.o.drew;generalize wo.drew=wd at HBD ⊢;clear c0 c1 c2 c3 c4 c5 d0 d1 d2 d3 d4 d5 hsc htc;obtain⟨c0,c1,c2,c3,c4,c5⟩:=iA (HCA.o.below HBD.o);obtain⟨d0,d1,d2,d3,d4,d5⟩:=iA (HCB.o.below HBD.o);by_cases hz0:z2=0
     .subst hz0;have HR3:Hid (qK (iV k) a b j=if v2≠0 then some v2 else none):=Hd (by rw[HR2.o];simp);clear HR2;have HR2:=HR3;clear HR3;go_wp2_with fail;go_still_tail 12,(by kernel_rfl);change wpList _ _ _ _ _ wd.drew;have HCW:=Hd (HCL.o wd.drew HBD.o.drew);have HBW:=Hd (HBD.o.drew);generalize wd.drew=w5 at HCW HBW ⊢;clear c0 c1 c2 c3 c4 c5 d0 d1 d2 d3 d4 d5;go_wp2_with fail;refine HCW.o.mono ?_;rintro e w6 ⟨rfl,hb6⟩;have HB6:=Hd (HBW.o.trans (hb6.mono HBW.o.size));clear hb6 HCW;by_cases hv:v2=0
      .subst hv;have HNX:Hid ((List.range (j+1)).findSome? (qK (iV k) a b)=none):=Hd (HSN.o _ (by rw[HR2.o];simp));go_wp2_with fail;go_roundg g
       case measure=>omega
       case rel=>exact⟨j+1,by omega,by go_num,HNX,HB6⟩
      have hvq:(v2 !=0)=true:=by simpa using hv
      have HE:Hid (iV (k+1) a b=v2):=Hd (HFD.o _ (by rw[HR2.o,if_pos hv]));clear hv;go_wp2;go_ret;exact⟨by rw[HE.o];rfl,HB6.o⟩
     have hzq:(z2 !=0)=true:=by simpa using hz0
     have HE:Hid (iV (k+1) a b=z2):=Hd (HFD.o _ (by rw[HR2.o,if_pos hz0]));clear hz0;go_wp2;go_ret;exact⟨by rw[HE.o];rfl,HBD.o⟩
    have e5:(a.kind==5)=false:=by simpa using h5
    have HR2:Hid (qK (iV k) a b j=if v2≠0 then some v2 else none):=Hd (by
     rw[HRW.o];simp only[if_neg h5];simp)
    clear h5;go_wp2_with fail;go_still_tail 12,(by kernel_rfl);change wpList _ _ _ _ _ wo.drew;have HCW:=Hd (HCL.o wo.drew HB.o.drew);have HBW:=Hd (HB.o.drew);generalize wo.drew=w5 at HCW HBW ⊢;clear c0 c1 c2 c3 c4 c5 d0 d1 d2 d3 d4 d5;go_wp2_with fail;refine HCW.o.mono ?_;rintro e w6 ⟨rfl,hb6⟩;have HB6:=Hd (HBW.o.trans (hb6.mono HBW.o.size));clear hb6 HCW;by_cases hv:v2=0
    .subst hv;have HNX:Hid ((List.range (j+1)).findSome? (qK (iV k) a b)=none):=Hd (HSN.o _ (by rw[HR2.o];simp));go_wp2_with fail;go_roundg g
     case measure=>omega
     case rel=>exact⟨j+1,by omega,by go_num,HNX,HB6⟩
    have hvq:(v2 !=0)=true:=by simpa using hv
    have HE:Hid (iV (k+1) a b=v2):=Hd (HFD.o _ (by rw[HR2.o,if_pos hv]));clear hv;go_wp2;go_ret;exact⟨by rw[HE.o];rfl,HB6.o⟩
 have hq:(z !=0)=true:=by simpa using h0
 have HE:Hid (iV (k+1) a b=z):=Hd (by simp only[iV];rw[<-HZ.o,if_pos h0]);clear h0;go_wp2;go_ret;exact⟨by rw[HE.o];rfl,HB2.o⟩
open Go.Shelf
def xH:Go.Shelf.Ren:=⟨fun | 6=>245 | 14=>250 | 15=>251 | 20=>253 | 21=>254 | 22=>255 | 23=>256 | 24=>257 | 25=>258 | 26=>259 | 27=>260 | 28=>261 | 29=>262 | 46=>263 | 47=>264 | 48=>265 | 49=>266 | 50=>267 | 57=>268 | n=>n,fun | 0=>0 | 3=>3 | 4=>4 | 5=>5 | 9=>9 | 22=>116 | 24=>3 | 25=>293 | 39=>282 | 45=>302 | 46=>303 | 50=>170 | 53=>309 | 55=>295 | 66=>311 | 70=>315 | 76=>317 | 77=>109 | n=>n,fun | n=>n⟩
theorem EJ:Go.Proofs.SlLaysF.n6 Tryz.prog xH:={
 mixed:=by kernel_rfl
 f6 := ⟨ "slices.SortFunc[[]int,int]", by decide, Tryz.func245.trans (congrArg some (by kernel_rfl))⟩
 f14 := ⟨ "slices.pdqsortCmpFunc[int]", by decide, Tryz.func250.trans (congrArg some (by kernel_rfl))⟩
 f15:=Tryz.func251.trans (congrArg some (by kernel_rfl))
 f20 := ⟨ "slices.insertionSortCmpFunc[int]", by decide, Tryz.func253.trans (congrArg some (by kernel_rfl))⟩
 f21 := ⟨ "slices.heapSortCmpFunc[int]", by decide, Tryz.func254.trans (congrArg some (by kernel_rfl))⟩
 f22 := ⟨ "slices.breakPatternsCmpFunc[int]", by decide, Tryz.func255.trans (congrArg some (by kernel_rfl))⟩
 f23 := ⟨ "slices.choosePivotCmpFunc[int]", by decide, Tryz.func256.trans (congrArg some (by kernel_rfl))⟩
 f24 := ⟨ "slices.reverseRangeCmpFunc[int]", by decide, Tryz.func257.trans (congrArg some (by kernel_rfl))⟩
 f25 := ⟨ "slices.partialInsertionSortCmpFunc[int]", by decide, Tryz.func258.trans (congrArg some (by kernel_rfl))⟩
 f26 := ⟨ "slices.partitionEqualCmpFunc[int]", by decide, Tryz.func259.trans (congrArg some (by kernel_rfl))⟩
 f27 := ⟨ "slices.partitionCmpFunc[int]", by decide, Tryz.func260.trans (congrArg some (by kernel_rfl))⟩
 f28:=Tryz.func261.trans (congrArg some (by kernel_rfl))
 f29:=Tryz.func262.trans (congrArg some (by kernel_rfl))
 f46 := ⟨ "slices.siftDownCmpFunc[int]", by decide, Tryz.func263.trans (congrArg some (by kernel_rfl))⟩
 f47:=Tryz.func264.trans (congrArg some (by kernel_rfl))
 f48:=Tryz.func265.trans (congrArg some (by kernel_rfl))
 f49 := ⟨ "slices.medianAdjacentCmpFunc[int]", by decide, Tryz.func266.trans (congrArg some (by kernel_rfl))⟩
 f50 := ⟨ "slices.medianCmpFunc[int]", by decide, Tryz.func267.trans (congrArg some (by kernel_rfl))⟩
 f57 := ⟨ "slices.order2CmpFunc[int]", by decide, Tryz.func268.trans (congrArg some (by kernel_rfl))⟩
 t0:=Tryz.underlying0
 a0:=Tryz.isAgg0
 z0:=Tryz.sizeOf0
 v0:=Tryz.zeroValue0
 t3:=Tryz.underlying3
 a3:=Tryz.isAgg3
 z3:=Tryz.sizeOf3
 v3:=Tryz.zeroValue3
 t4:=Tryz.underlying4
 a4:=Tryz.isAgg4
 z4:=Tryz.sizeOf4
 v4:=Tryz.zeroValue4
 t5:=Tryz.underlying5
 a5:=Tryz.isAgg5
 z5:=Tryz.sizeOf5
 v5:=Tryz.zeroValue5
 t9:=Tryz.underlying9
 a9:=Tryz.isAgg9
 z9:=Tryz.sizeOf9
 v9:=Tryz.zeroValue9
 t22:=Tryz.underlying116
 a22:=Tryz.isAgg116
 z22:=Tryz.sizeOf116
 v22:=Tryz.zeroValue116
 a24:=Tryz.isAgg3
 z24:=Tryz.sizeOf3
 t25:=Tryz.underlying293
 a25:=Tryz.isAgg293
 z25:=Tryz.sizeOf293
 v25:=Tryz.zeroValue293
 t39:=Tryz.underlying282
 a39:=Tryz.isAgg282
 z39:=Tryz.sizeOf282
 v39:=Tryz.zeroValue282
 t45:=Tryz.underlying302
 a45:=Tryz.isAgg302
 z45:=Tryz.sizeOf302
 v45:=Tryz.zeroValue302
 t46:=Tryz.underlying303
 a46:=Tryz.isAgg303
 z46:=Tryz.sizeOf303
 v46:=Tryz.zeroValue303
 t50:=Tryz.underlying170
 a50:=Tryz.isAgg170
 z50:=Tryz.sizeOf170
 v50:=Tryz.zeroValue170
 t53:=Tryz.underlying309
 a53:=Tryz.isAgg309
 z53:=Tryz.sizeOf309
 v53:=Tryz.zeroValue309
 t55:=Tryz.underlying295
 a55:=Tryz.isAgg295
 z55:=Tryz.sizeOf295
 v55:=Tryz.zeroValue295
 t66:=Tryz.underlying311
 a66:=Tryz.isAgg311
 z66:=Tryz.sizeOf311
 v66:=Tryz.zeroValue311
 t70:=Tryz.underlying315
 a70:=Tryz.isAgg315
 z70:=Tryz.sizeOf315
 v70:=Tryz.zeroValue315
 t76:=Tryz.underlying317
 a76:=Tryz.isAgg317
 z76:=Tryz.sizeOf317
 v76:=Tryz.zeroValue317
 t77:=Tryz.underlying109
 a77:=Tryz.isAgg109
 z77:=Tryz.sizeOf109
 v77:=Tryz.zeroValue109}
