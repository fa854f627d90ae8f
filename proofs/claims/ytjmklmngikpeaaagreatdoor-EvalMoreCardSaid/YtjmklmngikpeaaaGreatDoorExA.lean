/- Part of the proof. -/
import Derived.Test.YtjmklmngikpeaaaGreatDoorEx5
import Derived.Test.YtjmklmngikpeaaaGreatDoorDg9
import Derived.Test.YtjmklmngikpeaaaGreatDoorRows
import Derived.ProofKit
import Derived.PinnedBridge
import Derived.Lib.LaidU8T
import Derived.Lay
import Derived.LaidOnce
set_option maxRecDepth 100000
set_option linter.unusedVariables false
set_option linter.unusedSimpArgs false
namespace Go.Proofs.YtjmklmngikpeaaaGreatDoor
open Go.RowKit Go.Maps
variable {p:List MemPlace}{b0:Nat}{r:Reach}{v:Va}{w:World}
def tA:ByteArray:=⟨#[65]⟩
def SY:ByteArray:=⟨#[68,105,115,107]⟩
def vF:Rs:=⟨tA,SY,ByteArray.empty,[],[],false,[]⟩
def SL:Tm:=⟨[],[],[vF],[]⟩
def FA:Sc:=⟨-1,ByteArray.empty,jK SL,[]⟩
def MX (n:Nd):Prop:=n.id=tA/\n.scope=0/\n.r=vF/\n.guards=[]
def UO (n:Nd):Prop:=MX n/\n.after.length<=300/\∀ a∈n.after,a.size<=9000000000000000
def QE:Ex:=⟨3,ByteArray.empty,0,tA,ByteArray.empty,[]⟩
def SS:Ex:=⟨0,⟨#[120,45]⟩,0,ByteArray.empty,ByteArray.empty,[]⟩
def ST:Ex:=⟨0,⟨#[98]⟩,0,ByteArray.empty,ByteArray.empty,[]⟩
def BN:Ex:=⟨1,ByteArray.empty,0,ByteArray.empty,ByteArray.empty,[]⟩
def UP:Ex:=⟨5,ByteArray.empty,0,ByteArray.empty,ByteArray.empty,[SS,QE]⟩
def IN:Ex:=⟨2,ByteArray.empty,0,ByteArray.empty,ByteArray.empty,[ST,QE]⟩
def D0:Ex:=⟨8,ByteArray.empty,0,ByteArray.empty,ByteArray.empty,[BN,IN]⟩
theorem P9:RM SL:=⟨by decide,by decide,by decide⟩
theorem TV:IC (fun s=>s=FA) UO 2 0 0 ByteArray.empty SL:=by
 refine⟨by decide,fun r hr=>?_⟩;have hr:r=vF:=by simpa [SL] using hr
 subst hr;refine⟨⟨⟨by decide,by decide,fun d hd=>by cases hd⟩,fun gs af h1 h2 h3 h4=>⟨⟨rfl,rfl,rfl,?_⟩,by show af.length<=_;omega,h4⟩⟩,fun τ hτ=>by cases hτ⟩;have h5:gs.length<=0:=h2;show gs=[]
 exact List.length_eq_zero_iff.1 (Nat.le_zero.1 h5)
section
variable {K:List Cd->List Gv->Nat} {n:Nd}
theorem BR (hn:MX n):fY [FA] [n] []=.inr [[]]:=by
 obtain⟨i,z,r,g,af⟩:=n;obtain⟨rfl,rfl,rfl,rfl⟩:=hn;rfl
theorem IM (hn:MX n):nConds K [FA] [n] []=.inr [[]]:=by
 unfold nConds;rw[BR hn];rfl
theorem LJ {Γ:Eg} {sc:Nat} {x:Ex} {s:Es} (h:x.kind≠6):∀ m,gN Γ sc m x s=(x,s)
 | 0=>rfl
 | m+1=>by unfold gN;rw[if_neg (fun e=>h e.2)]
theorem SR (hn:MX n) (M:Nat):iJ K [FA] [n] [] [] (M+4) 0 UP=(⟨ByteArray.empty,true,gV⟩,0):=by
 unfold iJ;rw[IM hn,BR hn];obtain⟨i,z,r,g,af⟩:=n;obtain⟨rfl,rfl,rfl,rfl⟩:=hn;rfl
def xC (n:Nd):Eg:=⟨⟨[FA],[n],[[]],[n].map (iD [[]])⟩,[[]],jG [],ByteArray.empty⟩
theorem TW (hn:MX n) (N:Nat) (x:Ex):iJ K [FA] [n] [] [] N 0 x=if (evF N (xC n) 0 x iX).2.e=0 then (jN ByteArray.empty (evF N (xC n) 0 x iX).1,0) else (yD,(evF N (xC n) 0 x iX).2.e):=by
 unfold iJ;rw[IM hn,BR hn];exact if_pos (by decide)
theorem TU (af:List ByteArray) (M:Nat):elemsF (evF (M+3) (xC ⟨tA,0,vF,[],af⟩)) (xC ⟨tA,0,vF,[],af⟩) 0 IN iX=([⟨false,false,jO ⟨#[98]⟩,1⟩,⟨true,false,gV,14⟩],iX):=by
 unfold elemsF;rw[LJ (show IN.kind≠6 by decide)];rfl
theorem TT (af:List ByteArray) (M:Nat):jW (evF (M+3) (xC ⟨tA,0,vF,[],af⟩)) (xC ⟨tA,0,vF,[],af⟩) 0 D0 iX=(⟨false,false,jO ⟨#[98]⟩,1⟩,iX):=by
 have h1:evF (M+3) (xC ⟨tA,0,vF,[],af⟩) 0 BN iX=(⟨false,false,oA 0,nLen 0⟩,iX):=rfl;have h2:=TU af M;generalize evF (M+3) (xC ⟨tA,0,vF,[],af⟩)=rec at h1 h2;unfold jW;show (if (gY (rec 0 BN iX)).e≠0 then (gE,gY (rec 0 BN iX)) else
  if (elemsF rec (xC ⟨tA,0,vF,[],af⟩) 0 IN (gY (rec 0 BN iX))).2.e≠0 then (gE,(elemsF rec (xC ⟨tA,0,vF,[],af⟩) 0 IN (gY (rec 0 BN iX))).2) else if (rec 0 BN iX).1.v.num<0 then (gE,(elemsF rec (xC ⟨tA,0,vF,[],af⟩) 0 IN (gY (rec 0 BN iX))).2.fail 121) else match (elemsF rec (xC ⟨tA,0,vF,[],af⟩) 0 IN (gY (rec 0 BN iX))).1[(rec 0 BN iX).1.v.num.toNat]? with
   | none=>(gE,(elemsF rec (xC ⟨tA,0,vF,[],af⟩) 0 IN (gY (rec 0 BN iX))).2.fail 121)
   | some v=>(v,(elemsF rec (xC ⟨tA,0,vF,[],af⟩) 0 IN (gY (rec 0 BN iX))).2))=_
 rw[h1];rw[show gY ((⟨false,false,oA 0,nLen 0⟩,iX):Va × Es)=iX from rfl,h2];rfl
theorem SQ (hn:MX n) (M:Nat):iJ K [FA] [n] [] [] (M+4) 0 D0=(⟨ByteArray.empty,false,jO ⟨#[98]⟩⟩,0):=by
 obtain⟨i,z,r,g,af⟩:=n;obtain⟨rfl,rfl,rfl,rfl⟩:=hn;have h:evF (M+4) (xC ⟨tA,0,vF,[],af⟩) 0 D0 iX=jW (evF (M+3) (xC ⟨tA,0,vF,[],af⟩)) (xC ⟨tA,0,vF,[],af⟩) 0 D0 iX:=by
  show exprF _ _ _ _ _=_
  unfold exprF;rw[if_neg (show ¬(iX.e≠0) by decide)];unfold rN;rw[if_neg (show ¬(D0.kind=0) by decide),if_neg (show ¬(D0.kind=1) by decide),if_neg (show ¬(D0.kind=2) by decide),if_neg (show ¬(D0.kind=3) by decide),if_neg (show ¬(D0.kind=4) by decide),if_neg (show ¬(D0.kind=5) by decide),if_neg (show ¬(D0.kind=6) by decide),if_neg (show ¬(D0.kind=7) by decide),if_pos (show D0.kind=8 by decide)]
 rw[TW ⟨rfl,rfl,rfl,rfl⟩,h.trans (TT af M)];rfl
end
theorem sX (v:Va):(jN ByteArray.empty v).unknown=v.unk:=by
 unfold jN;split
 .next h=>exact h.symm
 next h =>
 cases hv:v.unk with
 | false=>rfl
 | true=>exact absurd hv h
theorem D6 {u:Va} (h1:v.unk=false) (h2:u.unk=false) (h:u.v=v.v):jN ByteArray.empty u=jN ByteArray.empty v:=by
 unfold jN;rw[if_neg (by simp[h2]),if_neg (by simp[h1]),h]
theorem vJ (h:oY v):kC 2 (jN ByteArray.empty v).v:=by
 unfold jN;split
 .intro x hx;cases hx
 intro x hx;have hl:=(h.ls.2 x hx).1;intro y hy;rw[hl] at hy;cases hy
structure Ans (kn:Bool) (a b c:Gv × Nat):Prop where
 e1:a.2=b.2
 e2:b.2=c.2
 ab:a.2=0->a.1.unknown=false->b.1=a.1
 bc:a.2=0->b.1.unknown=false->c.1=b.1
 all:a.2=0->kn=true->c.1.unknown=false
 d1:kC 2 a.1.v
 d2:kC 2 b.1.v
theorem lX:kC 2 yD.v:=fun x hx=>by cases hx
theorem R7 {K:List Cd->List Gv->Nat} {sc:List Sc} {nd:List Nd} {args ids:List Gv} {N:Nat} {scope:Int} {x:Ex} (h1:sc.length<=16) (h2:nd.length<=16) (hs:∀ s∈sc,I5 s/\s.pre.size<=6000000000000000) (ha:∀ g∈args,fR g.v/\g.v.text.size<=6000) (hi:∀ g∈ids,g.v.text.size<=5000) (hx:exTx x) :
 Ans (args.all fun g=>!g.unknown) (iJ K sc nd args [] N scope x) (iJ K sc nd args ids N scope x) (iJ K sc nd args (iB ids nd) N scope x):=by
 unfold iJ;cases hc:nConds K sc nd args with
 | inl n=>exact⟨rfl,rfl,fun _ _=>rfl,fun _ _=>rfl,fun _ _=>rfl,lX,lX⟩
 | inr O =>
   obtain⟨P,hP⟩:=oS hc;rw[hP];simp only;by_cases hsc:0<=scope/\scope<(sc.length:Int)
   .rw[if_pos hsc,if_pos hsc,if_pos hsc];have hidn:∀ (l:List Gv),(∀ g∈l,g.v.text.size<=5000)->∀ n t,jG l n=some t->t.size<=5000:=fun l hl n t ht=>by
     unfold jG at ht;obtain⟨g,hg,rfl⟩:=Option.map_eq_some_iff.1 ht;exact hl g (bK hg)
    have hG:∀ (l:List Gv),(∀ g∈l,g.v.text.size<=5000)->oY (evF N ⟨⟨sc,nd,O,nd.map (iD O)⟩,P,jG l,ByteArray.empty⟩ scope.toNat x iX).1:=fun l hl =>
     (kL (LK (ids:=jG l) (lg:=ByteArray.empty) h1 h2 hs ha hc hP (hidn l hl) (by decide)).s N scope.toNat x iX hx ⟨fun p v h=>(by cases h),by show (0:Nat)<=1000;omega⟩).1
    have g1:=hG [] (fun g hg=>by cases hg);have g2:=hG ids hi;obtain⟨l1,l2⟩:=zY (G:=⟨sc,nd,O,nd.map (iD O)⟩) hP (i1:=jG []) (i2:=jG ids) (fun n t h=>by simp[jG] at h) N scope.toNat x;obtain⟨l3,l4⟩:=zY (G:=⟨sc,nd,O,nd.map (iD O)⟩) hP (i1:=jG ids) (i2:=jG (iB ids nd)) (fun n t h=>OF h) N scope.toNat x;have l5:=PE (G:=⟨sc,nd,O,nd.map (iD O)⟩) hP (ids:=jG (iB ids nd)) (args:=args);generalize evF N ⟨⟨sc,nd,O,nd.map (iD O)⟩,P,jG [],ByteArray.empty⟩ scope.toNat x iX=ra at *;generalize evF N ⟨⟨sc,nd,O,nd.map (iD O)⟩,P,jG ids,ByteArray.empty⟩ scope.toNat x iX=rb at *;have l6:((args.all fun g=>!g.unknown)=true)->(evF N ⟨⟨sc,nd,O,nd.map (iD O)⟩,P,jG (iB ids nd),ByteArray.empty⟩ scope.toNat x iX).2.e=0->(evF N ⟨⟨sc,nd,O,nd.map (iD O)⟩,P,jG (iB ids nd),ByteArray.empty⟩ scope.toNat x iX).1.unk=false:=fun hk h0 =>
     l5 (fun g hg=>by simpa using (List.all_eq_true.1 hk) g hg) (fun n hn=>OG hn) N scope.toNat x h0
    generalize evF N ⟨⟨sc,nd,O,nd.map (iD O)⟩,P,jG (iB ids nd),ByteArray.empty⟩ scope.toNat x iX=rc at *;by_cases h0:ra.2.e=0
    .have h0b:rb.2.e=0:=l1 ▸ h0;have h0c:rc.2.e=0:=l3 ▸ h0b;rw[if_pos h0,if_pos h0b,if_pos h0c];refine⟨rfl,rfl,fun _ hu=>?_,fun _ hu=>?_,fun _ hk=>?_,vJ g1,vJ g2⟩
     .rw[sX] at hu;obtain⟨q1,q2⟩:=l2 h0 hu;exact D6 hu q1 q2
     .rw[sX] at hu;obtain⟨q1,q2⟩:=l4 h0b hu;exact D6 hu q1 q2
     rw[sX];exact l6 hk h0c
    have h0b:¬rb.2.e=0:=fun h=>h0 (l1.trans h)
    have h0c:¬rc.2.e=0:=fun h=>h0b (l3.trans h)
    rw[if_neg h0,if_neg h0b,if_neg h0c];exact⟨l1,l3,fun h=>absurd h h0,fun h=>absurd h h0,fun h=>absurd h h0,lX,lX⟩
   rw[if_neg hsc,if_neg hsc,if_neg hsc];exact⟨rfl,rfl,fun _ _=>rfl,fun _ _=>rfl,fun _ _=>rfl,lX,lX⟩
open Go.ChangeShapes Go.WideShapes Go.ChangeAt
variable {v:Value}
section
variable {H:Type} {enc:TypeId × Value->H} {w:World} {base:Nat} {held:Bool}
theorem vB:qE Tryz.prog [28,46,44,41,42,9,4,29,3]=true:=by kernel_rfl
theorem AZ:qE Tryz.prog [32,30,9,29,3]=true:=by kernel_rfl
theorem rL {A:Option Addr} {n c:Nat} {d:DataW H} (h:DataW.Trod enc Tryz.prog w base (fun _=>true) held 28 (.slice A n c) d p) (hw:∀ z∈d.weights Tryz.prog 28,z<=reachBytes) :
 ∃ l:List Gv,n=l.length/\Ls (fun k=>k<w.heap.size) w 8 104 Gv.tr A c l:=by
 obtain⟨fuel,hf⟩:=h;obtain⟨ts,h1,h2⟩:=vI vB (fun _ h=>h) fuel _ _ _ rfl hf hw;obtain⟨l,rfl⟩:=AP h1;obtain⟨A',c',_,e,h3,_⟩:=gL.1 (by simpa [Value.cells] using h2);injection e with e _;injection e with e1 e2 e3;subst e1;subst e2;subst e3;exact⟨l,rfl,h3⟩
theorem GC {d:DataW H} (hv:Value.okWide Tryz.prog w r b0 32 v) (h:DataW.Trod enc Tryz.prog w base (fun _=>true) held 32 v d p) (hw:∀ z∈d.weights Tryz.prog 32,z<=reachBytes) :
 ∃ cs:Array Value,v=.agg cs/\∃ x:Ex,Trs.at (fun k=>k<w.heap.size) w x.tr cs.toList:=by
 obtain⟨cs,rfl,hsz⟩:=okWide_struct Tryz.underlying32 hv;obtain⟨fuel,hf⟩:=h;obtain⟨ts,h1,h2⟩:=vI AZ (fun _ h=>h) fuel _ _ _ rfl hf hw;obtain⟨x,rfl⟩:=lY _ _ h1;exact⟨cs,rfl,x,by simpa [Value.cells] using h2⟩
theorem F9 {d:DataW H} (hv:Value.okWide Tryz.prog w r b0 27 v) (h:DataW.Trod enc Tryz.prog w base (fun _=>true) held 27 v d p) (hw:∀ z∈d.weights Tryz.prog 27,z<=reachBytes) :
 ∃ cs:Array Value,v=.agg cs/\∃ t:Tm,Trs.at (fun k=>k<w.heap.size) w t.tr cs.toList/\Trs.sm t.tr:=by
 obtain⟨cs,rfl,hsz⟩:=okWide_struct Tryz.underlying27 hv;obtain⟨fuel,hf⟩:=h;obtain⟨ts,h1,h2,h3⟩:=sG AY (fun _ h=>h) fuel _ _ _ rfl hf hw;obtain⟨t,rfl⟩:=u9 _ _ h1;exact⟨cs,rfl,t,by simpa [Value.cells] using h2,h3⟩
end
open Go.Shelf Go.Lib
theorem U8.below {w':World} (h:U8 w) (hb:Below w.heap.size w w'):U8 w':=Utf8Tabs_below h hb
theorem CC (s:ByteArray) (w:World) (hs:s.size<=9223372036854775807) (hT:U8 w) :
 Calls Tryz.prog 173 #[.string s] w (BoolB (Lib.validD s.data.toList) w):=by
 have HV:=Hd (FF s w hs hT);obtain⟨v,hv⟩:∃ v,Lib.validD s.data.toList=v:=⟨_,rfl⟩;rw[hv] at HV ⊢;clear hT hv;go_enter Tryz.func173,Tryz.ntmps173;go_wp2_with fail;refine HV.o.mono ?_;rintro e w1 ⟨rfl,hb⟩;have HB:=Hd hb;clear hb;go_wp2;go_ret;exact⟨rfl,HB.o⟩
theorem j4.of_u8 (h:U8 w):j4 w:=fun s w' hs hb=>CC s w' (by omega) (h.below hb)
theorem IB:(Rows.laid_unicode_utf8_acceptRanges:DataW Unit)=Lib.acceptData:=by kernel_rfl
theorem BZ (h:laidMet Tryz.prog Rows.evalMoreRow.laid w):U8 w:=by
 exact utf8Tabs_of_readsT (U8Types.of196 J8) ⟨by kernel_rfl,by kernel_rfl,by kernel_rfl,by kernel_rfl,by kernel_rfl,by kernel_rfl,by kernel_rfl⟩
  (Pinned.utf8First_eq ▸ Lib.laidMet.reads h (.tail _ (.head _))) (IB ▸ Lib.laidMet.reads h (.head _))
