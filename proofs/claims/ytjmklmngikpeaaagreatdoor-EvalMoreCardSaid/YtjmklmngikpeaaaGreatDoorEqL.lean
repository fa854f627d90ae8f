/- Part of the proof. -/
import Derived.Deep.CutRange
import Derived.Deep.CutBlock
import Derived.Test.YtjmklmngikpeaaaGreatDoorCn10
import Derived.Test.YtjmklmngikpeaaaGreatDoorCn16
import Derived.Shelf.Small.Strs
import Derived.KernelRfl
import Derived.Test.YtjmklmngikpeaaaGreatDoorProg
set_option maxRecDepth 100000
set_option maxHeartbeats 8000000
set_option linter.unusedVariables false
set_option linter.unusedSimpArgs false
namespace Go.RowKit
theorem Below.drewN {B:Nat} {w w':World} (h:Below B w w') (n:Nat):Below B w (w'.drewN n):=⟨h.os,h.tape,h.output,h.size,h.block⟩
end Go.RowKit
namespace Go.Proofs.YtjmklmngikpeaaaGreatDoor
open Go.RowKit
def vDepth:Nat->Vl->Nat
 | 0,_=>1
 | k+1,v=>(v.list.map (vDepth k)).foldl max 0+1
def vWalk:Nat->Vl->List Vl
 | 0,_=>[]
 | k+1,v=>v::v.list.flatMap (vWalk k)
def kC:Nat->Vl->Prop
 | 0,_=>False
 | k+1,v=>∀ x∈v.list,kC k x
theorem oU {α:Type} {f:α->Nat} {B:Nat}:∀ (l:List α) (a:Nat),(l.map f).foldl max a<=B↔a<=B/\∀ x∈l,f x<=B
 | [],a=>by simp
 | x::l,a=>by
   simp only[bY,bR,oU l,List.mem_cons,forall_eq_or_imp];rw[Nat.max_le,and_assoc]
theorem vH:∀ (k:Nat) (v:Vl),vDepth k v<=k+1
 | 0,v=>by simp[vDepth]
 | k+1,v=>by
   have:=(oU (f:=vDepth k) (B:=k+1) v.list 0).2 ⟨by omega,fun x _=>vH k x⟩;simp only[vDepth];omega
theorem mR:∀ (k:Nat) (v:Vl),vDepth k v<=k->kC k v
 | 0,v,h=>by simp[vDepth] at h
 | k+1,v,h=>fun x hx=>by
   simp only[vDepth] at h;have:=((oU (f:=vDepth k) (B:=k) v.list 0).1 (by omega)).2 x hx;exact mR k x this
theorem NJ {P:Program} {w:World} {ts:Array TypeId} {t:TypeId} {a b:Int} {n:Int} (h:max a b=n):(Builtin.max_ ts t #[.int .i64 a,.int .i64 b]).run P w=.ok (.int .i64 n) w:=by
 subst h;simp only[Builtin.max_,List.foldlM,Builtin.max2];by_cases hab:a<=b
 .simp[Builtin.max2];split<;>omega
 simp[Builtin.max2];split<;>omega
def PI (k:Nat):Prop:=∀ (S:Nat->Prop) (v:Vl) (cs:List Value) (a:Addr) (w:World),Trs.at S w v.tr cs->i7 w a cs->Calls Tryz.prog 232 #[.pointer (some a),.int .i64 (k:Int)] w fun e w'=>e=.returned (.int .i64 (vDepth k v:Nat))/\w'=w
theorem AS (k:Nat) (hk:k<=1000) (IH:∀ j,j+1=k->PI j):PI k:=by
 intro S v cs a w htr hcel;obtain⟨A,c,B,d,rfl,_,_,ht,hl,hks⟩:=Vl.at_iff.1 htr;obtain⟨c0,c1,c2,c3,c4,c5⟩:=iA hcel;have hcap:=hl.cap;have hbyt:=hl.bytes;have HL:=Hd hl;have hnn:IntKind.i64.wrap ((k:Int)-1)=((k:Int)-1):=IntWalk.i64_in _ (by omega);have HIH:Hid (∀ j,j+1=k->PI j):=Hd IH;have HLE:Hid (∀ j,j+1=k->∀ x,vDepth j x<=1001):=Hd (fun j hj x=>by have:=vH j x;omega);clear htr hcel hl hks IH;by_cases h0:k=0
 .subst h0;go_enter Tryz.func232,Tryz.ntmps232;go_wp2_with fail;go_loopg [12,5] v.list.length (fun g i x wr=>∃ j:Nat,j+g=v.list.length/\i=.int .i64 (j:Nat)/\x=.int .i64 0/\wr=w)
  case atStart=>exact⟨0,by omega,rfl,rfl,rfl⟩
  case round =>
   obtain⟨j,hj,rfl,rfl,rfl⟩:=hrel;cases gk with
   | zero =>
     have hjj:¬((j:Int)<(v.list.length:Int)):=by omega
     go_wp2;go_ret;exact⟨rfl,rfl⟩
   | succ g =>
     have hjj:(j:Int)<(v.list.length:Int):=by omega
     go_wp2_with fail;go_roundg g
     case measure=>omega
     case rel=>exact⟨j+1,by omega,by go_num,rfl,rfl⟩
 obtain⟨q,hq⟩:∃ q,q+1=k:=⟨k-1,by omega⟩;have hkp:(0:Int)<(k:Int):=by omega
 have hnq:IntKind.i64.wrap ((k:Int)-1)=(q:Int):=by rw[hnn];omega
 clear hnn;have HIQ:=Hd (HIH.o q hq);have HLQ:=Hd (HLE.o q hq);have HV:Hid (vDepth k v=(v.list.map (vDepth q)).foldl max 0+1):=Hd (by rw[<-hq];rfl);clear HIH HLE;go_enter Tryz.func232,Tryz.ntmps232;go_wp2_with fail;go_loopg [12,5] v.list.length (fun g i x wr=>∃ (j m:Nat),j+g=v.list.length/\i=.int .i64 (j:Nat)/\x=.int .i64 (m:Nat)/\wr=w/\m<=1001/\Hid ((v.list.map (vDepth q)).foldl max 0=((v.list.drop j).map (vDepth q)).foldl max m))
 case atStart=>exact⟨0,0,by omega,rfl,rfl,rfl,by omega,Hd rfl⟩
 case round =>
  obtain⟨j,m,hj,rfl,rfl,rfl,hm,HF⟩:=hrel;cases gk with
  | zero =>
    have hjj:¬((j:Int)<(v.list.length:Int)):=by omega
    have HE:Hid (vDepth k v=m+1):=Hd (by rw[HV.o,HF.o,aP (by omega)];rfl);go_wp2;go_ret;exact⟨by rw[HE.o];go_num,rfl⟩
  | succ g =>
    have hjj:(j:Int)<(v.list.length:Int):=by omega
    obtain⟨x,hx⟩:=fO (l:=v.list) (i:=j) (by omega);obtain⟨ad,xs,rfl,hxt,hxc⟩:=HL.o.elem dK hx;have HCL:=Hd (HIQ.o S x xs _ _ hxt hxc);have hle:=HLQ.o x;obtain⟨y,hy⟩:∃ y,y=vDepth q x:=⟨_,rfl⟩;obtain⟨z,hz⟩:∃ z,z=max m y:=⟨_,rfl⟩;have HF2:Hid ((v.list.map (vDepth q)).foldl max 0=((v.list.drop (j+1)).map (vDepth q)).foldl max z):=Hd (by rw[HF.o,fS hx,hz,hy];rfl);rw[<-hy] at HCL hle;have hmz:max (m:Int) (y:Int)=(z:Int):=by omega
    have hz1:z<=1001:=by omega
    have hmx:∀ w',(Builtin.max_ #[3,3] 3 #[.int .i64 (m:Nat),.int .i64 (y:Nat)]).run Tryz.prog w'=.ok (.int .i64 (z:Nat)) w':=fun w'=>NJ hmz
    clear hx hxt hxc hy hmz hz;go_wp2_with fail;refine HCL.o.mono ?_;rintro e w2 ⟨rfl,rfl⟩;go_wp2_with fail;go_roundg g
    case measure=>omega
    case rel=>exact⟨j+1,z,by omega,by go_num,rfl,rfl,by omega,HF2⟩
theorem GZ (k:Nat) (hk:k<=1000):PI k:=by
 induction k with
 | zero=>exact AS 0 hk (fun j hj=>by omega)
 | succ k ih =>
   refine AS (k+1) hk (fun j hj=>?_);obtain rfl:j=k:=by omega
   exact ih (by omega)
def TP (p:ByteArray->Bool) (N:List ByteArray) (w:World):Prop :=
 ∀ s∈N,∀ w',Below w.heap.size w w'->Calls Tryz.prog 244 #[.string s] w' (BoolB (p s) w')
theorem H9 (p:ByteArray->Bool) (A:Option Addr) (c:Nat) (O:List ByteArray) (w:World) (hr:Rd w 1 A O.length c (O.map .string)) (hO:O.length<=1000000) (hf:TP p O w) :
 Calls Tryz.prog 196 #[.slice A O.length c,.func (.func 244) #[] #[]] w fun e w'=>e=.returned (.int .i64 (qB p O))/\Below w.heap.size w w':=by
 have HR:=Hd hr;have hcap:=hr.cap;have HF:=Hd hf;clear hr hf;go_enter Tryz.func196,Tryz.ntmps196;go_wp2_with fail;go_loopg [8] O.length (fun g i wr=>∃ j:Nat,j+g=O.length/\i=.int .i64 (j:Nat)/\Hid ((O.take j).findIdx? p=none)/\Hid (Below w.heap.size w wr))
 case atStart=>exact⟨0,by omega,rfl,Hd (by simp),Hd (aB _ _)⟩
 case round =>
  obtain⟨j,hj,rfl,HN,HB⟩:=hrel;rename World=>wo
  cases gk with
  | zero =>
    have hjj:¬((j:Int)<(O.length:Int)):=by omega
    have HE:Hid (qB p O=-1):=Hd (by
     have:=HN.o;rw[aN (by omega)] at this;unfold qB;rw[this])
    go_wp2;go_ret;rw[HE.o];exact⟨rfl,HB.o⟩
  | succ g =>
    have hjj:(j:Int)<(O.length:Int):=by omega
    obtain⟨k,hk⟩:=fO (l:=O) (i:=j) (by omega);obtain⟨ad,rfl,hc⟩:=(HR.o.below HB.o).at_ j (.string k) (by simp[hk]);have HCL:=Hd (HF.o k (aD hk) wo HB.o);have HTK:Hid ((O.take (j+1)).findIdx? p=((O.take j).findIdx? p).or (if p k then some j else none)):=Hd (by
     rw[aT,hk,cO];congr 1;simp only[cA,dW,cH];split<;>simp<;>omega)
    have HFI:Hid (p k=true->O.findIdx? p=some j):=Hd (fun hp=>by
     have h1:=HTK.o;rw[HN.o,hp] at h1;rw[<-cJ (j+1) O,cO,h1];rfl)
    clear hk;cases hp:p k with
    | true =>
      rw[hp] at HCL;have HE:Hid (qB p O=(j:Int)):=Hd (by unfold qB;rw[HFI.o hp]);clear hp;go_wp2_with fail;refine HCL.o.mono ?_;rintro e w2 ⟨rfl,hb2⟩;have HB2:=Hd (HB.o.trans (hb2.mono HB.o.size));clear hb2;go_wp2;go_ret;rw[HE.o];exact⟨rfl,HB2.o⟩
    | false =>
      rw[hp] at HCL HTK;clear hp HFI;go_wp2_with fail;refine HCL.o.mono ?_;rintro e w2 ⟨rfl,hb2⟩;have HB2:=Hd (HB.o.trans (hb2.mono HB.o.size));clear hb2;go_wp2_with fail;go_roundg g
      case measure=>omega
      case rel=>exact⟨j+1,by omega,by go_num,Hd (by rw[HTK.o,HN.o];rfl),HB2⟩
theorem DP (p:ByteArray->Bool) (A:Option Addr) (c:Nat) (O:List ByteArray) (w:World) (hr:Rd w 1 A O.length c (O.map .string)) (hO:O.length<=1000000) (hf:TP p O w) :
 Calls Tryz.prog 164 #[.slice A O.length c,.func (.func 244) #[] #[]] w (BoolB (O.any p) w):=by
 have HI:=Hd (H9 p A c O w hr hO hf);have HG:=Hd (EK p O);obtain⟨z,hz⟩:∃ z,z=qB p O:=⟨_,rfl⟩;rw[<-hz] at HI HG;clear hr hf hz;go_enter Tryz.func164,Tryz.ntmps164;go_wp2_with fail;refine HI.o.mono ?_;rintro e w2 ⟨rfl,hb2⟩;have HB2:=Hd hb2;clear hb2;go_wp2;go_ret;exact⟨by rw[<-HG.o];rfl,HB2.o⟩
theorem PF (s:ByteArray) (w:World) (hV:j4 w) (hs:s.size<=9007199254740992):Calls Tryz.prog 244 #[.string s] w (BoolB (!Lib.validD s.data.toList) w):=by
 have HC:=Hd (hV s w hs (aB _ _));obtain⟨b,hb⟩:∃ b,b=Lib.validD s.data.toList:=⟨_,rfl⟩;rw[<-hb] at HC ⊢;clear hV hb;go_enter Tryz.func244,Tryz.ntmps244;go_wp2_with fail;refine HC.o.mono ?_;rintro e w2 ⟨rfl,hb⟩;have HB:=Hd hb;clear hb;go_wp2;go_ret;exact⟨rfl,HB.o⟩
theorem MB.look {w:World} {b n:Nat} {f:ByteArray->Option Bool} (h:MB w b n f) {d:ByteArray} (hd:d.size<=maxLen):(Instr.lookup 195 (.map (some b)) (.string d) false).run Tryz.prog w=.ok (.bool ((f d).getD false)) w:=by
 obtain⟨D,g1,g2,g3⟩:=h;obtain⟨v,ps,hrun,hv⟩:=g1.lookup iQ Tryz.underlying195 (zero_bool w) (plainElem_bool Tryz.underlying4 false) (iP hd);rw[(g3 d).1] at hv;rw[hrun];have hu:Tryz.prog.underlying 4=some .bool:=Tryz.underlying4;unfold plainElem at hv;rw[hu] at hv;cases v<;>simp_all
theorem MB.eq {w:World} {b n:Nat} {f g:ByteArray->Option Bool} (h:MB w b n f) (e:∀ s,f s=g s):MB w b n g:=by
 have:f=g:=funext e;exact this ▸ h
def seenF (l:List ByteArray) (s:ByteArray):Option Bool:=if jB s l=true then some true else none
theorem B7 (l:List ByteArray) (s:ByteArray):(seenF l s).getD false=jB s l:=by unfold seenF;cases jB s l<;>rfl
theorem B6 (l:List ByteArray) (k s:ByteArray):(if s=k then some true else seenF l s)=seenF (l++[k]) s:=by
 unfold seenF;have:jB s (l++[k])=(jB s l||fW s k):=by simp[jB,List.any_append]
 rw[this];by_cases e:s=k
 .rw[if_pos e,bEq_iff.2 e];simp
 rw[if_neg e,bEq_ne e];simp
def NP (v:Vl):Bool:=(decide (v.kind≠1)&&v.bool)||((decide (v.kind≠2)&&decide (v.num≠0))||((decide (v.kind≠3)&&!fW v.text ByteArray.empty)||decide (0<(if v.kind=4∨v.kind=5 then 0 else v.list.length)+(if v.kind=5 then 0 else v.keys.length))))
def mM:List ByteArray->List ByteArray->Bool
 | _,[]=>false
 | pre,k::r=>jB k pre||mM (pre++[k]) r
def mA (v:Vl):Nat:=if v.num < -9007199254740992∨9007199254740992<v.num then 20 else if (!Lib.validD v.text.data.toList||v.keys.any fun s=>!Lib.validD s.data.toList)=true then 10 else if mM [] v.keys=true then 41 else 0
def vAlone (v:Vl):Nat:=if ¬(0<=v.kind/\v.kind<=5) then 2 else if v.kind=5/\v.keys.length≠v.list.length then 2 else if NP v=true then 2 else mA v
theorem FG {l:List ByteArray} {j:Nat} {k:ByteArray} (h:l[j]?=some k):mM (l.take j) (l.drop j)=(jB k (l.take j)||mM (l.take (j+1)) (l.drop (j+1))):=by
 rw[fS h,aT,h];rfl
theorem H8 (S:Nat->Prop) (v:Vl) (cs:List Value) (a:Addr) (w:World) (hV:j4 w) (htr:Trs.at S w v.tr cs) (hcel:i7 w a cs) (hkl:v.keys.length<=1000000) (hll:v.list.length<=1000000) :
 Calls Tryz.prog 234 #[.pointer (some a)] w fun e w'=>e=.returned (.int .i64 (vAlone v:Nat))/\Below w.heap.size w w':=by
 have hmm:=@run_makeMap Tryz.prog;obtain⟨A,c,B,d,rfl,hwk,hwn,ht,hl,hks⟩:=Vl.at_iff.1 htr;obtain⟨c0,c1,c2,c3,c4,c5⟩:=iA hcel;have hkcap:=hks.cap;have hlcap:=hl.cap;have hal:a.block<w.heap.size:=aF w _ c0;have HL:=Hd hl;have HKS:=Hd hks;have HV:=Hd hV;have HCE:=Hd hcel;clear htr hcel hl hks hV;obtain⟨K,hK⟩:∃ K,v.kind=K:=⟨_,rfl⟩;rw[hK] at c0 hwk;have hk8:=IQ hwk;have HAL:Hid (vAlone v=if ¬(0<=K/\K<=5) then 2 else if K=5/\v.keys.length≠v.list.length then 2 else if NP v=true then 2 else mA v):=Hd (by rw[<-hK];rfl);have HRB:Hid (NP v=((decide (K≠1)&&v.bool)||((decide (K≠2)&&decide (v.num≠0))||((decide (K≠3)&&!fW v.text ByteArray.empty)||decide (0<(if K=4∨K=5 then 0 else v.list.length)+(if K=5 then 0 else v.keys.length)))))):=Hd (by rw[<-hK];rfl);go_enter Tryz.func234,Tryz.ntmps234;go_upto_block 0 with fail;go_cut [3] from 14 to 42 (fun v3 wx=>∃ (b:Bool) (n:Int) (t:ByteArray) (L:Option Addr) (ll lc:Nat) (KA:Option Addr) (kk kc:Nat),v3=.pointer (some ⟨w.heap.size,0,none⟩)/\Hid (Blk wx w.heap.size #[.int .i8 K,.bool b,.int .i64 n,.string t,.slice L ll lc,.slice KA kk kc] 44)/\Hid (Below w.heap.size w wx) /\
  Hid (vAlone v=if (b||(decide (n≠0)||(!fW t ByteArray.empty||decide (0<ll+kk))))=true then 2 else mA v)/\t.size<=9007199254740992/\ll<=1000000/\kk<=1000000)
 case first =>
  clear hK;by_cases h0:K=0
  .subst h0;go_wp2_with fail;go_meet;exact⟨v.bool,v.num,v.text,A,v.list.length,c,B,v.keys.length,d,rfl,Hd (aJ w _ _),Hd ((aB _ w).alloc (aA _) _),Hd (by rw[HAL.o,HRB.o];simp),ht,hll,hkl⟩
  by_cases h1:K=1
  .subst h1;go_wp2_with fail;go_meet;exact⟨false,v.num,v.text,A,v.list.length,c,B,v.keys.length,d,rfl,Hd (aJ w _ _),Hd ((aB _ w).alloc (aA _) _),Hd (by rw[HAL.o,HRB.o];simp),ht,hll,hkl⟩
  by_cases h2:K=2
  .subst h2;go_wp2_with fail;go_meet;exact⟨v.bool,0,v.text,A,v.list.length,c,B,v.keys.length,d,rfl,Hd (aJ w _ _),Hd ((aB _ w).alloc (aA _) _),Hd (by rw[HAL.o,HRB.o];simp),ht,hll,hkl⟩
  by_cases h3:K=3
  .subst h3;go_wp2_with fail;go_meet;exact⟨v.bool,v.num,ByteArray.empty,A,v.list.length,c,B,v.keys.length,d,rfl,Hd (aJ w _ _),Hd ((aB _ w).alloc (aA _) _),Hd (by rw[HAL.o,HRB.o];simp[fW]),by decide,hll,hkl⟩
  by_cases h4:K=4
  .subst h4;go_wp2_with fail;go_meet;exact⟨v.bool,v.num,v.text,none,0,0,B,v.keys.length,d,rfl,Hd (aJ w _ _),Hd ((aB _ w).alloc (aA _) _),Hd (by rw[HAL.o,HRB.o];simp),ht,by omega,hkl⟩
  by_cases h5:K=5
  .subst h5;have c4':=(cL w (.cells #[.int .i8 5,.bool v.bool,.int .i64 v.num,.string v.text,.slice A v.list.length c,.slice B v.keys.length d] 44) ⟨a.block,a.off+4,none⟩ hal).trans c4;have c5':=(cL w (.cells #[.int .i8 5,.bool v.bool,.int .i64 v.num,.string v.text,.slice A v.list.length c,.slice B v.keys.length d] 44) ⟨a.block,a.off+5,none⟩ hal).trans c5;by_cases hne:(v.keys.length:Int)=(v.list.length:Int)
   .have hq:((v.keys.length:Int)!=(v.list.length:Int))=false:=by simp;omega
    have H5:Hid (v.keys.length=v.list.length):=Hd (by omega);clear hne;go_wp2_with fail;go_quiet (fail);go_wp2_with fail;go_meet;exact⟨v.bool,v.num,v.text,none,0,0,none,0,0,rfl,Hd (((((aJ w _ _).drewN nq).set 4 (.slice none 0 0)).set 5 (.slice none 0 0)).eq (by simp)),Hd ((((aB _ w).alloc (aA _) _).drewN nq |>.setCell (p:=⟨w.heap.size,4,none⟩) (aA _) _).setCell (p:=⟨w.heap.size,5,none⟩) (aA _) _),Hd (by rw[HAL.o,HRB.o];simp[H5.o]),ht,by omega,by omega⟩
   have hq:((v.keys.length:Int)!=(v.list.length:Int))=true:=by simp;omega
   have H5:Hid (v.keys.length≠v.list.length):=Hd (by omega);clear hne;go_wp2_with fail;go_quiet (fail);go_wp2;go_ret;exact⟨by rw[HAL.o];simp[H5.o],((aB _ w).alloc (aA _) _).drewN nq⟩
  have e0:(K==0)=false:=by simpa using h0
  have e1:(K==1)=false:=by simpa using h1
  have e2:(K==2)=false:=by simpa using h2
  have e3:(K==3)=false:=by simpa using h3
  have e4:(K==4)=false:=by simpa using h4
  have e5:(K==5)=false:=by simpa using h5
  go_wp2;go_ret;exact⟨by rw[HAL.o,if_pos (by omega)];rfl,(aB _ w).alloc (aA _) _⟩
 case rest =>
  obtain⟨b,n,t,L,ll,lc,KA,kk,kc,rfl,HX,HBX,HA,htt,hll2,hkk2⟩:=hcut;rename World=>wx
  obtain⟨r0,r1,r2,r3,r4,r5⟩:=gH HX.o;cases hbad:(b||(decide (n≠0)||(!fW t ByteArray.empty||decide (0<ll+kk)))) with
  | true =>
    have HA2:Hid (vAlone v=2):=Hd (by rw[HA.o,hbad];rfl);have hX:=HX.o.alloc (.map #[] 0);obtain⟨q0,q1,q2,q3,q4,q5⟩:=gH hX;clear hX HA;cases b with
    | true =>
      clear hbad;go_wp2;go_ret;exact⟨by rw[HA2.o];rfl,HBX.o.alloc HBX.o.size _⟩
    | false =>
      by_cases hn:n=0
      .subst hn;by_cases htq:t=ByteArray.empty
       .subst htq;have hlk:decide ((0:Int)<(ll:Int)+(kk:Int))=true:=by
         simp[fW] at hbad;simp;omega
        clear hbad;go_wp2;go_ret;exact⟨by rw[HA2.o];rfl,HBX.o.alloc HBX.o.size _⟩
       have hqt:¬t.toList=[]:=fun e=>htq (kQ (by rw[<-Lib.toList_data,e];rfl))
       clear hbad htq;go_wp2;go_ret;exact⟨by rw[HA2.o];rfl,HBX.o.alloc HBX.o.size _⟩
      have hnq:(n !=0)=true:=by simpa using hn
      clear hbad;go_wp2;go_ret;exact⟨by rw[HA2.o];rfl,HBX.o.alloc HBX.o.size _⟩
  | false =>
    have HA2:Hid (vAlone v=mA v):=Hd (by rw[HA.o,hbad];rfl);obtain⟨rfl,rfl,rfl,rfl,rfl⟩:b=false/\n=0/\t=ByteArray.empty/\ll=0/\kk=0:=by
     simp[fW] at hbad;exact⟨hbad.1,hbad.2.1,kQ (by rw[hbad.2.2.1];rfl),by omega,by omega⟩
    have hX:=HX.o.alloc (.map #[] 0);obtain⟨q0,q1,q2,q3,q4,q5⟩:=gH hX;have hba:=(aB _ wx).alloc (aA _) (.map #[] 0);have HBA:=Hd hba;have hcw:=(HCE.o.below HBX.o).below hba;rw[hK] at hcw;obtain⟨d0,d1,d2,d3,d4,d5⟩:=iA hcw;have HM0:=Hd (MB.new wx);have HKB:=Hd hK;clear hX hba hcw HA hbad hK c0 c1 c2 c3 c4 c5 r0 r1 r2 r3 r4 r5;by_cases hn1:v.num < -9007199254740992
    .have HW:Hid (vAlone v=20):=Hd (by rw[HA2.o];unfold mA;rw[if_pos (.inl hn1)]);go_wp2;go_ret;exact⟨by rw[HW.o];rfl,HBX.o.alloc HBX.o.size _⟩
    by_cases hn2:9007199254740992<v.num
    .have HW:Hid (vAlone v=20):=Hd (by rw[HA2.o];unfold mA;rw[if_pos (.inr hn2)]);go_wp2;go_ret;exact⟨by rw[HW.o];rfl,HBX.o.alloc HBX.o.size _⟩
    have HWR:Hid (mA v=if (!Lib.validD v.text.data.toList||v.keys.any fun s=>!Lib.validD s.data.toList)=true then 10 else if mM [] v.keys=true then 41 else 0):=Hd (by unfold mA;rw[if_neg (by omega)]);have HVC:=Hd (HV.o v.text (wx.alloc (.map #[] 0)) ht ((HBX.o).trans (HBA.o.mono HBX.o.size)));have HSS:=Hd HKS.o.strs;have hxs:=HBX.o.size;obtain⟨tv,htv⟩:∃ tv,tv=Lib.validD v.text.data.toList:=⟨_,rfl⟩;rw[<-htv] at HVC HWR;clear htv;cases tv with
    | false =>
      have HW:Hid (vAlone v=10):=Hd (by rw[HA2.o,HWR.o];simp);go_wp2_with fail;refine HVC.o.mono ?_;rintro e w3 ⟨rfl,hb3⟩;have HB3:=Hd ((HBX.o.trans (HBA.o.mono hxs)).trans (hb3.mono (by simp;omega)));clear hb3;go_wp2;go_ret;exact⟨by rw[HW.o];rfl,HB3.o⟩
    | true =>
      have hbw:Below w.heap.size w (wx.alloc (.map #[] 0)):=HBX.o.trans (HBA.o.mono hxs);have HBW:=Hd hbw;have HCF:Hid (∀ w',Below (wx.alloc (.map #[] 0)).heap.size (wx.alloc (.map #[] 0)) w'->Calls Tryz.prog 164 #[.slice B v.keys.length d,.func (.func 244) #[] #[]] w' (BoolB (v.keys.any fun s=>!Lib.validD s.data.toList) w')):=Hd (fun w' hb=>by
       have hb2:Below w.heap.size w w':=hbw.trans (hb.mono hbw.size);exact DP _ B d v.keys w' (HSS.o.1.below hb2) hkl (fun s hs w'' hb''=>PF s w'' (HV.o.below (hb2.trans (hb''.mono hb2.size))) (HSS.o.2 s hs)))
      have HM1:Hid (MB (wx.alloc (.map #[] 0)) wx.heap.size 0 (fun _=>none)):=HM0;have HC1:Hid (i7 (wx.alloc (.map #[] 0)) a [.int .i8 v.kind,.bool v.bool,.int .i64 v.num,.string v.text,.slice A v.list.length c,.slice B v.keys.length d]):=Hd (HCE.o.below hbw);clear hbw HM0;go_wp2_with fail;refine HVC.o.mono ?_;rintro e w3 ⟨rfl,hb3⟩;have HB3:=Hd hb3;have HCF3:=Hd (HCF.o w3 hb3);have hcel3:=HC1.o.below hb3;have hs3:=hb3.size;rw[HKB.o] at hcel3;obtain⟨g0,g1,g2,g3,g4,g5⟩:=iA hcel3;obtain⟨kv,hkv⟩:∃ kv,kv=v.keys.any fun s=>!Lib.validD s.data.toList:=⟨_,rfl⟩;rw[<-hkv] at HCF3 HWR;clear hb3 hcel3 HCF HVC d0 d1 d2 d3 d4 d5 q0 q1 q2 q3 q4 q5 hkv;go_wp2_with fail;refine HCF3.o.mono ?_;rintro e w4 ⟨rfl,hb4⟩;have hb34:=HB3.o.trans (hb4.mono hs3);have HB4:=Hd (HBW.o.trans (hb34.mono HBW.o.size));have HM4:=Hd (HM1.o.below hb34);have hcel4:=HC1.o.below hb34;rw[HKB.o] at hcel4;clear g0 g1 g2 g3 g4 g5;obtain⟨g0,g1,g2,g3,g4,g5⟩:=iA hcel4;have hs4:=HB4.o.size;clear hb4 hb34 hcel4;cases kv with
      | true =>
        have HW:Hid (vAlone v=10):=Hd (by rw[HA2.o,HWR.o];simp);go_wp2;go_ret;exact⟨by rw[HW.o];rfl,HB4.o⟩
      | false =>
        have HW:Hid (vAlone v=if mM [] v.keys=true then 41 else 0):=Hd (by rw[HA2.o,HWR.o];simp);have HR4:=Hd (HSS.o.1.below HB4.o);go_wp2_with fail;go_loopg [99] v.keys.length (fun g i wr=>∃ j:Nat,j+g=v.keys.length/\i=.int .i64 (j:Nat)/\Hid (MB wr wx.heap.size j (seenF (v.keys.take j)))/\Hid (mM [] v.keys=mM (v.keys.take j) (v.keys.drop j))/\Hid (Below w.heap.size w wr))
        case atStart=>exact⟨0,by omega,rfl,Hd (HM4.o.eq (fun s=>by simp[seenF,jB])),Hd (by simp),HB4⟩
        case round =>
         obtain⟨j,hj,rfl,HM,HD,HB⟩:=hrel;rename World=>wo
         cases gk with
         | zero =>
           have hjj:¬((j:Int)<(v.keys.length:Int)):=by omega
           have HE:Hid (vAlone v=0):=Hd (by rw[HW.o,HD.o,aP (by omega)];rfl);go_wp2;go_ret;exact⟨by rw[HE.o];rfl,HB.o⟩
         | succ g =>
           have hjj:(j:Int)<(v.keys.length:Int):=by omega
           obtain⟨k,hk⟩:=fO (l:=v.keys) (i:=j) (by omega);obtain⟨ad,rfl,hc⟩:=(HSS.o.1.below HB.o).at_ j (.string k) (by simp[hk]);have hksz:k.size<=maxLen:=by have:=HSS.o.2 k (aD hk);unfold maxLen;omega
           have hlk:=HM.o.look hksz;rw[B7] at hlk;have HD2:=Hd (HD.o.trans (FG hk));have HTK:Hid (v.keys.take (j+1)=v.keys.take j++[k]):=Hd (by rw[aT,hk];rfl);obtain⟨sb,hsb⟩:∃ sb,sb=jB k (v.keys.take j):=⟨_,rfl⟩;rw[<-hsb] at hlk HD2;clear hk hsb;cases sb with
           | true =>
             have HE:Hid (vAlone v=41):=Hd (by rw[HW.o,HD2.o];simp);go_wp2;go_ret;exact⟨by rw[HE.o];rfl,HB.o⟩
           | false =>
             have HD3:Hid (mM [] v.keys=mM (v.keys.take (j+1)) (v.keys.drop (j+1))):=Hd (by rw[HD2.o];simp);go_wp2_with (refine wp_put_MB rfl _ _ _ rfl wx.heap.size j _ rfl HM.o (by unfold maxLen;omega) k hksz rfl true rfl ?_;intro w6 hm6 hg6;have HM6:=Hd hm6;have HG6:=Hd hg6;clear hm6 hg6);go_roundg g
             case measure=>omega
             case rel=>exact⟨j+1,by omega,by go_num,Hd (HM6.o.eq (fun s=>by rw[B6,HTK.o])),HD3,Hd (HB.o.grown HG6.o HB.o.size (fun q hq=>by injection hq with hq;omega))⟩
open Go.Shelf
def renCmp:Go.Shelf.Ren:=⟨fun | 106=>241 | 213=>249 | 265=>252 | n=>n,fun | 3=>3 | 9=>9 | n=>n,fun | n=>n⟩
theorem Q9:Go.Proofs.Lays.n106 Tryz.prog renCmp:={
 mixed:=by kernel_rfl
 f106:=Tryz.func241.trans (congrArg some (by kernel_rfl))
 f213:=Tryz.func249.trans (congrArg some (by kernel_rfl))
 f265:=Tryz.func252.trans (congrArg some (by kernel_rfl))
 t3:=Tryz.underlying3
 a3:=Tryz.isAgg3
 z3:=Tryz.sizeOf3
 v3:=Tryz.zeroValue3
 t9:=Tryz.underlying9
 a9:=Tryz.isAgg9
 z9:=Tryz.sizeOf9
 v9:=Tryz.zeroValue9}
theorem tD (a b:ByteArray) (w:World) :
 Calls Tryz.prog 241 #[.string a,.string b] w fun e w'=>e=.returned (.int .i64 (Lib.compareBytes a.data.toList b.data.toList))/\w'=w:=Any.strings_Compare Q9 a b w
