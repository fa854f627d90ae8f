/- Part of the proof. -/
import Derived.Test.YtjmklmngikpeaaaGreatDoorPna
set_option maxRecDepth 100000
set_option maxHeartbeats 16000000
set_option linter.unusedVariables false
set_option linter.unusedSimpArgs false
namespace Go.Proofs.YtjmklmngikpeaaaGreatDoor
open Go.RowKit
variable {L O:List (List Gv)}{args given l ps:List Gv}{nd:List Nd}{sc:List Sc}{K j n:Nat}{S:Nat->Prop}{s:Sc}{w:World}
def oB (l:List Gv):List Tr:=[.sl 8 104 l.length (l.flatMap Gv.tr)]
theorem AJ (l:List Gv):(oB l).length=1:=rfl
theorem oI {cs:List Value}:Trs.at S w (oB l) cs↔∃ A c,cs=[.slice A l.length c]/\Ls S w 8 104 Gv.tr A c l:=by
 unfold oB;rw[gL];constructor
 .rintro⟨A,c,cs',rfl,h,h2⟩;rw[gJ] at h2;subst h2;exact⟨A,c,rfl,h⟩
 rintro⟨A,c,rfl,h⟩;exact⟨A,c,[],rfl,h,gJ.2 rfl⟩
theorem EN {xs:List Value} (h:Trs.at S w (O.flatMap oB) xs) (hl:O[j]?=some l):∃ A c,xs[j]?=some (.slice A l.length c)/\Ls S w 8 104 Gv.tr A c l:=by
 have:=Trs.at.elem AJ h j l hl;obtain⟨A,c,e,h2⟩:=oI.1 this;refine⟨A,c,?_,h2⟩;have h3:=congrArg (fun z=>z[0]?) e;simpa [cD,dH] using h3
def givenOf (args:List Gv) (i:Nat) (s:Sc) (out:List (List Gv)):List Gv:=if i=0 then args else s.args.map (jY (out.getD s.parent.toNat []))
def nPar (args:List Gv):Nat->List Sc->List (List Gv)->Nat ⊕ List (List Gv)
 | _,[],out=>.inr out
 | i,s::r,out=>match jC s.t.params (givenOf args i s out) with
   | .inl e=>.inl (if i=0 then e else 170)
   | .inr o=>nPar args (i+1) r (out++[o])
def fY (sc:List Sc) (nd:List Nd) (args:List Gv):Nat ⊕ List (List Gv):=if lJ sc nd=false then .inl 2 else nPar args 0 sc []
theorem GF (h:sc[j]?=some s):nPar args j (sc.drop j) O=match jC s.t.params (givenOf args j s O) with | .inl e=>.inl (if j=0 then e else 170) | .inr o=>nPar args (j+1) (sc.drop (j+1)) (O++[o]):=by rw[fS h];rfl
theorem D8:∀ {l:List Sc} {i j:Nat} {s:Sc},rV i l=true->l[j]?=some s->0<=s.parent/\s.parent<=((i+j:Nat):Int)
 | [],i,j,s,_,h=>by simp at h
 | x::r,i,j,s,hu,h=>by
   unfold rV at hu;simp only[bJ,decide_eq_true_eq] at hu;cases j with
   | zero=>simp at h;subst h;exact⟨hu.1.1,by simpa using hu.1.2⟩
   | succ j =>
     have:=D8 hu.2 (show r[j]?=some s by simpa using h);exact⟨this.1,by have:=this.2;omega⟩
theorem sK (h:lJ sc nd=true) (hj:0<j) (hs:sc[j]?=some s):0<=s.parent/\s.parent<(j:Int):=by
 unfold lJ at h;cases sc with
 | nil=>cases h
 | cons s0 r =>
   simp only at h;split at h
   .cases h
   simp only[bJ] at h;obtain⟨k,rfl⟩:∃ k,j=k+1:=⟨j-1,by omega⟩;have:=D8 h.1 (show r[k]?=some s by simpa using hs);exact⟨this.1,by have:=this.2;omega⟩
variable {l:List Pm}
theorem tN (h:jC l given=.inl n):n≠0:=by
 unfold jC at h;split at h
 .injection h with h;omega
 split at h
 .injection h with h;omega
 split at h
 .injection h with h;omega
 split at h
 .injection h with h;omega
 cases h
theorem pOne_small {p:Pm} {v:Gv} (hg:∀ g∈given,fR g.v) (hp:iM p) (h:pOne given p=some v):fR v.v:=by
 unfold pOne at h;split at h
 .next g hf =>
  split at h
  .injection h with h;subst h;exact hg _ (bK hf)
  cases h
 split at h
 .cases h
 split at h
 .injection h with h;subst h;exact hp.2.1
 cases h
theorem pAll_small {given:List Gv} (hg:∀ g∈given,fR g.v):∀ {l:List Pm} {o:List Gv},(∀ p∈l,iM p)->jE given l=some o->∀ g∈o,fR g.v
 | [],o,_,h=>by
   unfold jE at h;injection h with h;subst h;simp
 | p::r,o,hp,h=>by
   unfold jE at h;split at h
   .cases h
   next v hv =>
   obtain⟨x,hx,rfl⟩:=Option.map_eq_some_iff.1 h;intro g hgm;rcases List.mem_cons.1 hgm with rfl | hgm
   .exact pOne_small hg (hp p (by simp)) hv
   exact pAll_small hg (fun q hq=>hp q (by simp[hq])) hx g hgm
theorem iO {o:List Gv} (h:jC l given=.inr o):jE given l=some o:=by
 unfold jC at h;split at h
 .cases h
 split at h
 .cases h
 split at h
 .cases h
 split at h
 .cases h
 next x hx=>injection h with h;subst h;exact hx
theorem zeroV_small:fR gV:=by
 unfold fR gV;refine⟨?_,?_⟩<;>simp[vWalk]
theorem xJ {e:Ex} {g:Gv} (hg:∀ p∈ps,fR p.v) (h:plainG e ps=some g):fR g.v:=by
 unfold plainG at h;split at h
 .cases h
 split at h
 .injection h with h;subst h;exact txtV_small _
 split at h
 .injection h with h;subst h;exact numV_small _
 split at h
 .next k hk =>
  obtain⟨p,hp,rfl⟩:=Option.map_eq_some_iff.1 h;exact hg p (aD hp)
 cases h
theorem rR {out:List Gv} {a:Pr} (hg:∀ p∈out,fR p.v):fR (jY out a).v:=by
 unfold jY;split
 .next g h=>show fR g.v;exact xJ hg h
 exact zeroV_small
def rA (r:Nat ⊕ List (List Gv)) (w:World) (e:Ending) (w':World):Prop:=Below w.heap.size w w'/\match r with
 | .inl n=>e=.returned (.tuple #[.slice none 0 0,.int .i64 (n:Nat)])
 | .inr O=>∃ A c xs,e=.returned (.tuple #[.slice A O.length c,.int .i64 0])/\Ow w' w.heap.size 28 1 A O.length c xs/\Trs.at (fun k=>blk A≠some k) w' (O.flatMap oB) xs
def UV (S:Nat->Prop) (o:Option Gv) (w:World) (e:Ending) (w':World):Prop:=Below w.heap.size w w'/\∃ (g0:Gv) (HA HB0:Option Addr) (hc hd er:Nat),e=.returned (.tuple #[.agg (kG g0 HA hc HB0 hd),.int .i64 (er:Int)]) /\
 Trs.at S w' g0.tr [.string g0.name,.bool g0.unknown,.int .i8 g0.v.kind,.bool g0.v.bool,.int .i64 g0.v.num,.string g0.v.text,.slice HA g0.v.list.length hc,.slice HB0 g0.v.keys.length hd]/\((o=some g0/\er=0)∨(o=none/\er=150))
theorem yE (S:Nat->Prop) (w:World) (b:Bool) (nm:ByteArray) (h:nm.size<=9007199254740992):Trs.at S w (Gv.tr ⟨nm,b,gV⟩) [.string nm,.bool b,.int .i8 0,.bool false,.int .i64 0,.string ⟨#[]⟩,.slice none 0 0,.slice none 0 0] :=
 Gv.at_iff.2 ⟨_,rfl,h,Vl.at_iff.2 ⟨none,0,none,0,rfl,(by show (Lit.int .i8 0).wf=true;decide),(by show (Lit.int .i64 0).wf=true;decide),(by show ByteArray.empty.size<=_;decide),cF _ _ _ _ (by omega) _,cF _ _ _ _ (by omega) _⟩⟩
theorem kZ.x {o:Option Gv} {e:Ending} {w':World} (h:kZ S o w e w'):UV S o w e w':=by
 obtain⟨hb,hm⟩:=h;refine⟨hb,?_⟩;cases o with
 | none=>exact⟨⟨ByteArray.empty,false,gV⟩,none,none,0,0,150,hm,yE _ _ false ByteArray.empty (by decide),.inr ⟨rfl,rfl⟩⟩
 | some g =>
   obtain⟨cs,rfl,ht⟩:=hm;have ht':=ht;obtain⟨GA,GB,gc,gd,rfl,-,-⟩:=fX ht';exact⟨g,GA,GB,gc,gd,0,rfl,ht,.inl ⟨rfl,rfl⟩⟩
theorem info_gs:(Tryz.prog.info? 28).map (fun i=>(i.zero,i.size,i.bytes))=some (some (.slice none 0 0),1,24):=by kernel_rfl
theorem rM (S:Nat->Prop) (SA NA:Option Addr) (sC nC:Nat) (sc:List Sc) (nd:List Nd) (AA:Option Addr) (ac:Nat) (args:List Gv) (w:World) (hV:j4 w) (hsc:Ls S w 7 144 Sc.tr SA sC sc) (hnd:Ls S w 11 200 Nd.tr NA nC nd)
 (hsn:sc.length<=1000000) (hnn:nd.length<=1000000) (hgn:∀ n∈nd,n.guards.length<=1000000) (hcn:∀ s∈sc,s.t.conds.length<=1000000)
 (hps:∀ s∈sc,s.t.params.length<=1000000/\(∀ p∈s.t.params,iM p)/\s.args.length<=1000000) (hag:Ls S w 8 104 Gv.tr AA ac args) (han:args.length<=1000000) (has:∀ g∈args,fR g.v) :
 Calls Tryz.prog 46 #[.agg #[.slice SA sc.length sC,.slice NA nd.length nC],.slice AA args.length ac] w (rA (fY sc nd args) w):=by
 have hcap:=hsc.cap;have hmax:=hsc.max;have HSC:=Hd hsc.bound;have HAG:=Hd hag.bound;have HAS:=Hd has;have HPS:=Hd hps;have HV:=Hd hV;have hb1:Below w.heap.size w (w.alloc (.cells #[.slice SA sc.length sC,.slice NA nd.length nC] 36)):=(aB _ w).alloc (aA _) _;have hfb:=aJ w #[.slice SA sc.length sC,.slice NA nd.length nC] 36;have HB1:=Hd hb1;have HFB:=Hd hfb;have HMY:=Hd (JX S w.heap.size SA NA sC nC sc nd _ hfb (hsc.below hb1) (hnd.below hb1) hsn hnn hgn hcn);have hacap:=hag.cap;have HNP0:Hid (fY sc nd args=if lJ sc nd=false then .inl 2 else nPar args 0 sc []):=Hd rfl;obtain⟨m,hm⟩:∃ m,m=lJ sc nd:=⟨_,rfl⟩;have HM:=Hd hm;rw[<-hm] at HMY HNP0;clear hV hsc hnd hgn hcn hps hag has hb1 hfb hm;go_enter Tryz.func46,Tryz.ntmps46;go_wp2_with fail;refine HMY.o.mono ?_;rintro e w2 ⟨rfl,hb⟩;have HB2:=Hd (HB1.o.trans (hb.mono HB1.o.size));obtain⟨f0,f1⟩:=gO (HFB.o.below hb);clear hb;cases m with
 | false =>
   rw[if_pos rfl] at HNP0;go_wp2_with fail;refine bodyPost_ret (v:=.tuple #[.slice none 0 0,.int .i64 2]) (by simp[results,Tryz.results46,go_sem]) rfl ?_;rw[HNP0.o];exact⟨HB2.o,rfl⟩
 | true =>
   rw[if_neg (by decide)] at HNP0;go_wp2_with fail;go_loopg [21,4] sc.length (fun g i o wr=>∃ (j:Nat) (O:List (List Gv)) (OA:Option Addr) (oc:Nat) (xs:List Value),j+g=sc.length/\i=.int .i64 (j:Nat)/\o=.slice OA O.length oc/\O.length<=j/\Hid (O.length=j)/\Hid (fY sc nd args=nPar args j (sc.drop j) O)/\Hid (∀ row∈O,row.length<=1000000/\∀ g∈row,fR g.v)/\Hid (Ow wr w.heap.size 28 1 OA O.length oc xs)/\Hid (Trs.at (fun k=>blk OA≠some k) wr (O.flatMap oB) xs)/\Hid (Below w.heap.size w wr))
   case atStart=>exact⟨0,[],none,0,[],by omega,rfl,rfl,aA _,Hd rfl,HNP0,Hd (by simp),Hd (dF _ _ _ _),Hd (by simp[Trs.at]),HB2⟩
   clear f0 f1;obtain⟨j,O,OA,oc,xs,hj,rfl,rfl,hOle,HOj,HNP,HSM1,HOW,HTR,HB⟩:=hrel;rename World=>wo
   cases gk with
   | zero =>
     have hjj:¬((j:Int)<(sc.length:Int)):=by omega
     rw[aP (by omega)] at HNP;go_wp2_with fail;refine bodyPost_ret (v:=.tuple #[.slice OA O.length oc,.int .i64 0]) (by simp[results,Tryz.results46,go_sem]) rfl ?_;rw[HNP.o];exact⟨HB.o,OA,oc,xs,rfl,HOW.o,HTR.o⟩
   | succ g =>
     have hjj:(j:Int)<(sc.length:Int):=by omega
     have hji:(0:Int)<=(j:Int)/\(j:Int)<(sc.length:Int):=by omega
     obtain⟨s,hs⟩:=fO (l:=sc) (i:=j) (by omega);have HD:=Hd (GF (args:=args) (O:=O) hs);have HSM0:=Hd (aD hs);have HUP:=Hd (fun h0:0<j=>sK HM.o.symm h0 hs);have hT:∀ k,(S k/\k<w.heap.size)->(blk OA≠some k/\k<wo.heap.size):=fun k hk=>⟨fun e=>by have:=(HOW.o.lt e).1;omega,by have:=HB.o.size;omega⟩
     obtain⟨ad,cs,rfl,hxt,hxc⟩:=(HSC.o.below HB.o).elem dS hs;obtain⟨B1,B2,B3,B4,B5,d1,d2,d3,d4,d5,rfl,hwp,-,hpl,-,-,hal⟩:=jA hxt;obtain⟨e0,e1,e2,e3,e4,e5,e6⟩:=lO hxc;have hbn:Below wo.heap.size wo (wo.alloc (.cells (kS s B1 d1 B2 d2 B3 d3 B4 d4 B5 d5) 89)):=(aB _ wo).alloc (aA _) _;have HBN:=Hd hbn;have HSB:=Hd (aJ wo (kS s B1 d1 B2 d2 B3 d3 B4 d4 B5 d5) 89);have HPL:=Hd (hpl.mono hT);have HAL:=Hd (hal.mono hT);have HAG2:=Hd ((HAG.o.below HB.o).mono hT);have HOB:=Hd HTR.o.bound;clear hxt hxc hs hbn hpl hal hT;by_cases hj0:j=0
     .have hji0:¬((0:Int)<(j:Int)):=by omega
      have HJ0:=Hd hj0;clear hj0;have HAG3:=Hd ((HAG2.o.below HBN.o).mono (fun k hk=>hk.1));have hbt:=HBN.o;have HBI:=Hd (vP (fun k=>blk OA≠some k) B1 d1 s.t.params AA ac args (wo.alloc (.cells (kS s B1 d1 B2 d2 B3 d3 B4 d4 B5 d5) 89)) (HV.o.below (HB.o.trans (hbt.mono HB.o.size))) ((HPL.o.below hbt).mono (fun k hk=>hk.1)) (HPS.o s HSM0.o).1 (HPS.o s HSM0.o).2.1 HAG3.o han HAS.o);have HNP2:Hid (fY sc nd args=match jC s.t.params args with | .inl e=>.inl (if j=0 then e else 170) | .inr o=>nPar args (j+1) (sc.drop (j+1)) (O++[o])):=Hd (by rw[HNP.o,HD.o,show givenOf args j s O=args by unfold givenOf;rw[if_pos HJ0.o]]);obtain⟨b0,b1,b2,b3,b4,b5,b6⟩:=jV HSB.o;clear hbt;go_wp2_with fail;refine HBI.o.mono ?_;rintro e w6 ⟨hb6,hm⟩;have HB6:=Hd (HBN.o.trans (hb6.mono HBN.o.size));clear b0 b1 b2 b3 b4 b5 b6;cases hpb:jC s.t.params args with
      | inl n =>
        have hne:=tN hpb;rw[hpb] at hm HNP2;obtain⟨sx,rfl⟩:=hm;have hn0:((n:Int)==0)=false:=by simpa using hne
        have hn1:((n:Int)!=0)=true:=by simpa using hne
        have HE:Hid (fY sc nd args=.inl n):=Hd (by rw[HNP2.o];show Sum.inl (if j=0 then n else 170)=_;rw[if_pos HJ0.o]);clear hb6 hne hpb;go_wp2_with fail;refine bodyPost_ret (v:=.tuple #[.slice none 0 0,.int .i64 n]) (by simp[results,Tryz.results46,go_sem]) rfl ?_;rw[HE.o];exact⟨HB.o.trans (HB6.o.mono HB.o.size),rfl⟩
      | inr o =>
        rw[hpb] at hm HNP2;obtain⟨BA,bc,ys,rfl,how,htr⟩:=hm;have hol:o.length=s.t.params.length:=mX (iO hpb);have hosm:=pAll_small HAS.o (HPS.o s HSM0.o).2.1 (iO hpb);have HOL:Hid (o.length<=1000000/\∀ g∈o,fR g.v):=Hd ⟨by rw[hol];exact(HPS.o s HSM0.o).1,hosm⟩;have HOW6:=Hd (HOW.o.below HB6.o);have HTR6:=Hd (HTR.o.below HB6.o);have hneq:blk OA≠blk BA∨blk BA=none:=by
         cases hq:blk BA with
         | none=>exact .inr rfl
         | some g =>
           refine .inl (fun e=>?_);have h1:=(how.lt hq).1;have h2:=(HOW.o.lt e).2;have h3:=HBN.o.size;omega
        have hol2:=HOL.o.1;have hblk:∀ ad,BA=some ad->0<o.length->blk OA≠some ad.block:=fun ad e _=>by
         rcases hneq with h | h
         .rw[e] at h;exact h
         rw[e] at h;cases h
        have HNL:Hid (Ls (fun k=>blk OA≠some k) w6 8 104 Gv.tr BA bc o):=Hd ⟨by omega,by omega,how.cap,how.max,hblk,ys,how.rd,htr⟩;have HRN:=Hd (cQ w6 1 1 #[.slice BA o.length bc] 28 (0,0) rfl (by simp[maxLen]));have hlo:w.heap.size<=w6.heap.size:=(HB.o.trans (HB6.o.mono HB.o.size)).size;clear hb6 hpb how htr hol hosm hneq hblk;go_wp2_with (at_builtin;refine wpList_row info_gs Tryz.underlying76 rfl (by omega) rfl (.tmp 76) (.tmp 78) rfl w.heap.size OA oc O.length xs rfl (HOW6.o.alloc _) (some ⟨w6.heap.size,0,none⟩) 1 1 [.slice BA o.length bc] rfl HRN.o (by simp[Value.oneCell']) (by omega) (by omega) (by simp;omega) ?_;intro A' c' w8 ho hg hat;have HO8:=Hd ho;have HG8:=Hd hg;have HAT:=Hd hat;clear ho hg hat);go_roundg g
        case measure=>omega
        case rel =>
         have hb8:Below w.heap.size w w8:=((HB.o.trans (HB6.o.mono HB.o.size)).alloc hlo _).grown HG8.o (by simp;omega) (fun k hk=>(HOW6.o.lt hk).1);have hon:fP (fun k=>some k=blk OA) w6 w8:=((bG _ _).alloc _).grown HG8.o (fun g hg _=>hg.symm);have hS:∀ k,(blk OA≠some k/\k<w6.heap.size)->¬(some k=blk OA):=fun k hk e=>hk.1 e.symm
         have hS2:∀ k,(blk OA≠some k/\k<w6.heap.size)->blk A'≠some k:=fun k hk e=>by
          rcases HAT.o with h | h
          .rw[h] at e;exact hk.1 e
          rw[h] at e;injection e with e;have:=hk.2;simp at e;omega
         refine⟨j+1,O++[o],A',c',xs++[.slice BA o.length bc],by omega,by go_num,by simp,by simp;omega,Hd (by simp[HOj.o]),Hd HNP2.o,Hd (fun row hrow=>?_),Hd (by simpa using HO8.o),Hd ?_,Hd hb8⟩
         .rcases List.mem_append.1 hrow with h | h
          .exact HSM1.o row h
          rw[List.mem_singleton.1 h];exact HOL.o
         rw[bE];refine Trs.at.app.2 ⟨_,_,rfl,(HTR6.o.bound.only hon hS).mono hS2,?_⟩;simp only[aW,bW,bQ];exact oI.2 ⟨BA,bc,rfl,(HNL.o.bound.only hon hS).mono hS2⟩
     have hji0:(0:Int)<(j:Int):=by omega
     obtain⟨up0,up1⟩:=HUP.o (by omega);obtain⟨pi,hpi⟩:∃ pi:Nat,s.parent=(pi:Int):=⟨s.parent.toNat,by omega⟩;have hplt:pi<O.length:=by rw[HOj.o];omega
     obtain⟨P,hP⟩:=fO (l:=O) (i:=pi) hplt;have HPD:Hid (O.getD s.parent.toNat []=P):=Hd (by rw[hpi];simp[List.getD,hP]);have HPS1:=Hd (HSM1.o P (aD hP));obtain⟨PA,pc,hxs,hpls⟩:=EN HOB.o hP;obtain⟨adO,hOA,hoc⟩:=HOW.o.rd.at_ pi _ hxs;subst hOA;have HPLS:=Hd hpls;have HOC:=Hd hoc;have HJ0:=Hd hj0;have hpb:(0:Int)<=(pi:Int)/\(pi:Int)<(O.length:Int):=by omega
     have hpcap:=hpls.cap;unfold kS at HSB HBN;rw[hpi] at e0 HSB HBN;obtain⟨b0,b1,b2,b3,b4,b5,b6⟩:=jV HSB.o;have halen:=(HPS.o s HSM0.o).2.2;clear up0 up1 hpi hP hxs hpls hoc hj0;have HJI:=Hd hji0;have hjn:0<j:=by omega
     go_wp2_with fail;clear hji0 hjn;go_loopg [32,8] s.args.length (fun g i o wr=>∃ (k:Nat) (GL:List Gv) (GA:Option Addr) (gc:Nat) (ys:List Value),k+g=s.args.length/\i=.int .i64 (k:Nat)/\o=.slice GA GL.length gc/\GL.length<=k/\Hid (GL=(s.args.take k).map (jY P))/\Hid (Ow wr (wo.heap.size+1) 46 8 GA GL.length gc ys)/\Hid (Trs.at (fun k=>blk (some adO)≠some k/\k<wo.heap.size) wr (GL.flatMap Gv.tr) ys)/\Hid (Below wo.heap.size wo wr)/\Hid (Blk wr wo.heap.size #[.int .i64 (pi:Int),.string s.pre,.slice B1 s.t.params.length d1,.slice B2 s.t.conds.length d2,.slice B3 s.t.res.length d3,.slice B4 s.t.outs.length d4,.slice B5 s.args.length d5] 89))
     case atStart=>exact⟨0,[],none,0,[],by omega,rfl,rfl,aA _,Hd (by simp),Hd (dF _ _ _ _),Hd (by simp[Trs.at]),HBN,HSB⟩
     clear b0 b1 b2 b3 b4 b5 b6 e0 e1 e2 e3 e4 e5 e6;obtain⟨k2,GL,GA,gc,ys,hk2,rfl,rfl,hGle,HGL,HGW,HGT,HBR,HSR⟩:=hrel;rename World=>wr
     cases gk with
     | zero =>
       have hkk:¬((k2:Int)<(s.args.length:Int)):=by omega
       have hGE:=HGL.o;rw[aN (by omega)] at hGE;have HGE:=Hd hGE;have hgl3:GL.length<=1000000:=by omega
       have HGS3:Hid (∀ g∈GL,fR g.v):=Hd (fun g hg=>by
        rw[hGE] at hg;obtain⟨x,-,rfl⟩:=List.mem_map.1 hg;exact rR HPS1.o.2)
       have hbg:∀ ad,GA=some ad->0<GL.length->blk (some adO)≠some ad.block:=fun ad e _ e2=>by
        have h1:=(HGW.o.lt (g:=ad.block) (by rw[e];rfl)).1;have h2:=(HOW.o.lt e2).2;omega
       have HGL3:Hid (Ls (fun k=>blk (some adO)≠some k) wr 8 104 Gv.tr GA gc GL):=Hd ⟨by omega,by omega,HGW.o.cap,HGW.o.max,hbg,ys,HGW.o.rd,HGT.o.mono (fun k hk=>hk.1)⟩;have hgcap:=HGW.o.cap;clear hGE hbg;have hji0:=HJI.o;have hbt:=HBR.o;have HBI:=Hd (vP (fun k=>blk (some adO)≠some k) B1 d1 s.t.params GA gc GL wr (HV.o.below (HB.o.trans (hbt.mono HB.o.size))) ((HPL.o.below hbt).mono (fun k hk=>hk.1)) (HPS.o s HSM0.o).1 (HPS.o s HSM0.o).2.1 HGL3.o hgl3 HGS3.o);have HNP2:Hid (fY sc nd args=match jC s.t.params GL with | .inl e=>.inl (if j=0 then e else 170) | .inr o=>nPar args (j+1) (sc.drop (j+1)) (O++[o])):=Hd (by rw[HNP.o,HD.o,show givenOf args j s O=GL by unfold givenOf;rw[if_neg HJ0.o,HPD.o,HGE.o]]);obtain⟨b0,b1,b2,b3,b4,b5,b6⟩:=jV HSR.o;clear hbt;go_wp2_with fail;refine HBI.o.mono ?_;rintro e w6 ⟨hb6,hm⟩;have HB6:=Hd (HBR.o.trans (hb6.mono HBR.o.size));clear b0 b1 b2 b3 b4 b5 b6;cases hpb:jC s.t.params GL with
       | inl n =>
         have hne:=tN hpb;rw[hpb] at hm HNP2;obtain⟨sx,rfl⟩:=hm;have hn0:((n:Int)==0)=false:=by simpa using hne
         have hn1:((n:Int)!=0)=true:=by simpa using hne
         have HE:Hid (fY sc nd args=.inl 170):=Hd (by rw[HNP2.o];show Sum.inl (if j=0 then n else 170)=_;rw[if_neg HJ0.o]);clear hb6 hne hpb;go_wp2_with fail;refine bodyPost_ret (v:=.tuple #[.slice none 0 0,.int .i64 170]) (by simp[results,Tryz.results46,go_sem]) rfl ?_;rw[HE.o];exact⟨HB.o.trans (HB6.o.mono HB.o.size),rfl⟩
       | inr o =>
         rw[hpb] at hm HNP2;obtain⟨BA,bc,ys,rfl,how,htr⟩:=hm;have hol:o.length=s.t.params.length:=mX (iO hpb);have hosm:=pAll_small HGS3.o (HPS.o s HSM0.o).2.1 (iO hpb);have HOL:Hid (o.length<=1000000/\∀ g∈o,fR g.v):=Hd ⟨by rw[hol];exact(HPS.o s HSM0.o).1,hosm⟩;have HOW6:=Hd (HOW.o.below HB6.o);have HTR6:=Hd (HTR.o.below HB6.o);have hneq:blk (some adO)≠blk BA∨blk BA=none:=by
          cases hq:blk BA with
          | none=>exact .inr rfl
          | some g =>
            refine .inl (fun e=>?_);have h1:=(how.lt hq).1;have h2:=(HOW.o.lt e).2;have h3:=HBR.o.size;omega
         have hol2:=HOL.o.1;have hblk:∀ ad,BA=some ad->0<o.length->blk (some adO)≠some ad.block:=fun ad e _=>by
          rcases hneq with h | h
          .rw[e] at h;exact h
          rw[e] at h;cases h
         have HNL:Hid (Ls (fun k=>blk (some adO)≠some k) w6 8 104 Gv.tr BA bc o):=Hd ⟨by omega,by omega,how.cap,how.max,hblk,ys,how.rd,htr⟩;have HRN:=Hd (cQ w6 1 1 #[.slice BA o.length bc] 28 (0,0) rfl (by simp[maxLen]));have hlo:w.heap.size<=w6.heap.size:=(HB.o.trans (HB6.o.mono HB.o.size)).size;clear hb6 hpb how htr hol hosm hneq hblk;go_wp2_with (at_builtin;refine wpList_row info_gs Tryz.underlying76 rfl (by omega) rfl (.tmp 76) (.tmp 78) rfl w.heap.size (some adO) oc O.length xs rfl (HOW6.o.alloc _) (some ⟨w6.heap.size,0,none⟩) 1 1 [.slice BA o.length bc] rfl HRN.o (by simp[Value.oneCell']) (by omega) (by omega) (by simp;omega) ?_;intro A' c' w8 ho hg hat;have HO8:=Hd ho;have HG8:=Hd hg;have HAT:=Hd hat;clear ho hg hat);go_roundg g
         case measure=>omega
         case rel =>
          have hb8:Below w.heap.size w w8:=((HB.o.trans (HB6.o.mono HB.o.size)).alloc hlo _).grown HG8.o (by simp;omega) (fun k hk=>(HOW6.o.lt hk).1);have hon:fP (fun k=>some k=blk (some adO)) w6 w8:=((bG _ _).alloc _).grown HG8.o (fun g hg _=>hg.symm);have hS:∀ k,(blk (some adO)≠some k/\k<w6.heap.size)->¬(some k=blk (some adO)):=fun k hk e=>hk.1 e.symm
          have hS2:∀ k,(blk (some adO)≠some k/\k<w6.heap.size)->blk A'≠some k:=fun k hk e=>by
           rcases HAT.o with h | h
           .rw[h] at e;exact hk.1 e
           rw[h] at e;injection e with e;have:=hk.2;simp at e;omega
          refine⟨j+1,O++[o],A',c',xs++[.slice BA o.length bc],by omega,by go_num,by simp,by simp;omega,Hd (by simp[HOj.o]),Hd HNP2.o,Hd (fun row hrow=>?_),Hd (by simpa using HO8.o),Hd ?_,Hd hb8⟩
          .rcases List.mem_append.1 hrow with h | h
           .exact HSM1.o row h
           rw[List.mem_singleton.1 h];exact HOL.o
          rw[bE];refine Trs.at.app.2 ⟨_,_,rfl,(HTR6.o.bound.only hon hS).mono hS2,?_⟩;simp only[aW,bW,bQ];exact oI.2 ⟨BA,bc,rfl,(HNL.o.bound.only hon hS).mono hS2⟩
     | succ g2 =>
       have hkk:(k2:Int)<(s.args.length:Int):=by omega
       have hki:(0:Int)<=(k2:Int)/\(k2:Int)<(s.args.length:Int):=by omega
       obtain⟨a,ha⟩:=fO (l:=s.args) (i:=k2) (by omega);have HA2:=Hd ha;obtain⟨adA,cs,rfl,hxt,hxc⟩:=(HAL.o.below HBR.o).elem Pr.trlen ha;obtain⟨vs,rfl,hans,hxe⟩:=Pr.at_iff.1 hxt;have hxe':=hxe;obtain⟨X1,n1,rfl,-⟩:=Ex.at_iff.1 hxe';obtain⟨e0,e1,e2,e3,e4,e5,e6⟩:=lO hxc;have hb1:Below wr.heap.size wr (wr.alloc (.cells #[.string a.name,.int .i8 a.e.kind,.string a.e.text,.int .i64 a.e.num,.string a.e.name,.string a.e.attr,.slice X1 a.e.l.length n1] 129)):=(aB _ wr).alloc (aA _) _;have hab:=aJ wr #[.string a.name,.int .i8 a.e.kind,.string a.e.text,.int .i64 a.e.num,.string a.e.name,.string a.e.attr,.slice X1 a.e.l.length n1] 129;have hwz:(wr.alloc (.cells #[.string a.name,.int .i8 a.e.kind,.string a.e.text,.int .i64 a.e.num,.string a.e.name,.string a.e.attr,.slice X1 a.e.l.length n1] 129)).heap.size=wr.heap.size+1:=by simp
       obtain⟨wv,hwv⟩:∃ wv,wr.alloc (.cells #[.string a.name,.int .i8 a.e.kind,.string a.e.text,.int .i64 a.e.num,.string a.e.name,.string a.e.attr,.slice X1 a.e.l.length n1] 129)=wv:=⟨_,rfl⟩;rw[hwv] at hb1 hab hwz;have HWV:=Hd hwv;have HWZ:=Hd hwz;have hsw:wo.heap.size<wr.heap.size:=HSR.o.lt;have hbwv:Below wo.heap.size wo wv:=HBR.o.trans (hb1.mono HBR.o.size);have HPC:Hid (∀ w',Below wv.heap.size wv w'->Calls Tryz.prog 83 #[.agg (kX a.e X1 n1),.slice PA P.length pc] w' (UV (fun k=>blk (some adO)≠some k/\k<wo.heap.size) (plainG a.e P) w')):=Hd (fun w' hb=>by
        have h1:=hbwv.trans (hb.mono hbwv.size);exact(xI (fun k=>blk (some adO)≠some k/\k<wo.heap.size) a.e X1 n1 PA pc P w' (HV.o.below (HB.o.trans (h1.mono HB.o.size))) (hxe.below (hb1.trans (hb.mono hb1.size))) (HPLS.o.below h1)).mono (fun e w'' h=>h.x))
       have HAB:=Hd hab;have HSV:=Hd (HSR.o.below hb1);have HBV:=Hd hb1;have HBWV:=Hd hbwv;have holt:(adO.add pi).block<wo.heap.size:=aF wo _ HOC.o;obtain⟨p0,p1,p2,p3,p4,p5,p6⟩:=jV hab;have b0:=(jV (HSR.o.below hb1)).1;have o0:=(hbwv.cell holt).trans HOC.o;have hal1:wr.heap.size≠wv.heap.size:=by omega
       have hel1:wo.heap.size≠wv.heap.size:=by omega
       have hol1:(adO.add pi).block≠wv.heap.size:=by omega
       obtain⟨aC,haC⟩:∃ aC,adO.add pi=aC:=⟨_,rfl⟩;rw[haC] at hol1 o0;have HB0:Hid (Below wv.heap.size wv wv.drew):=Hd (aB _ wv).drew;have HB1':Hid (Below wv.heap.size wv ((wv.alloc (.cells zC 46)).drew)):=Hd ((aB _ wv).alloc (aA _) _).drew;have HZ1:Hid (Blk ((wv.alloc (.cells zC 46)).drew) wv.heap.size zC 46):=Hd (aJ wv _ _).drew;clear ha hxt hxe hxe' hxc hb1 hab hwv hbwv hwz;go_upto_region 12 with fail;rw[HWV.o];go_cut [11,12] from 36 to 46 (fun v11 v12 wx=>∃ (b1:Nat) (g0:Gv) (HA HB0:Option Addr) (hc hd er:Nat),v11=.pointer (some ⟨b1,0,none⟩)/\v12=.int .i64 (er:Int)/\wv.heap.size<=b1/\Hid (Blk wx b1 (kG g0 HA hc HB0 hd) 46)/\Hid (Trs.at (fun k=>blk (some adO)≠some k/\k<wo.heap.size) wx g0.tr (kG g0 HA hc HB0 hd).toList)/\Hid (Below wv.heap.size wv wx)/\Hid ((plainG a.e P=some g0/\er=0)∨(plainG a.e P=none/\er=150)))
       case first =>
        clear e0 e1 e2 e3 e4 e5 e6;go_region_held3 (fun w'=>w'.cell? ⟨wr.heap.size,1,none⟩=some (.int .i8 a.e.kind)/\w'.cell? ⟨wr.heap.size,2,none⟩=some (.string a.e.text)/\w'.cell? ⟨wr.heap.size,3,none⟩=some (.int .i64 a.e.num)/\w'.cell? ⟨wr.heap.size,4,none⟩=some (.string a.e.name)/\w'.cell? ⟨wr.heap.size,5,none⟩=some (.string a.e.attr)/\w'.cell? ⟨wr.heap.size,6,none⟩=some (.slice X1 a.e.l.length n1) /\
         w'.cell? ⟨wo.heap.size,0,none⟩=some (.int .i64 (pi:Int))/\w'.cell? aC=some (.slice PA P.length pc)) (first | go_keep | exact⟨f9 hal1 d1,f9 hal1 d2,f9 hal1 d3,f9 hal1 d4,f9 hal1 d5,f9 hal1 d6,f9 hel1 u0,f9 hol1 v0⟩)
         ((first
           | (go_at_call 83;(with_reducible refine(HPC.o ((wv.alloc (.cells zC 46)).drew) HB1'.o).mono ?_);rintro e w2 ⟨hb,g0,HA,HBB,hc,hd,er,rfl,ht,ho⟩;have hb2:=HB1'.o.trans (hb.mono HB1'.o.size);have hz2:=HZ1.o.below hb;have HT2:=Hd ht;have HO2:=Hd ho;have HB2:=Hd hb2;have HZ2:=Hd hz2;obtain⟨d0,d1,d2,d3,d4,d5,d6⟩:=jV (HAB.o.below hb2);have u0:=(jV (HSV.o.below hb2)).1;have v0:=(hb2.cell (aF wv _ o0)).trans o0;have z0:=hz2.frozen 0;have z1:=hz2.frozen 1;have z2:=hz2.frozen 2;have z3:=hz2.frozen 3;have z4:=hz2.frozen 4;have z5:=hz2.frozen 5;have z6:=hz2.frozen 6;have z7:=hz2.frozen 7;obtain⟨q0,q1,q2,q3,q4,q5,q6,q7⟩:=gI hz2;clear hb ht ho hb2 hz2)
           | (go_at_call 83;(with_reducible refine(HPC.o wv.drew HB0.o).mono ?_);rintro e w2 ⟨hb,g0,HA,HBB,hc,hd,er,rfl,ht,ho⟩;have hb2:=HB0.o.trans (hb.mono HB0.o.size);have HT2:=Hd ht;have HO2:=Hd ho;have HB2:=Hd hb2;obtain⟨d0,d1,d2,d3,d4,d5,d6⟩:=jV (HAB.o.below hb2);have u0:=(jV (HSV.o.below hb2)).1;have v0:=(hb2.cell (aF wv _ o0)).trans o0;clear hb ht ho hb2)))
        .go_wp2_with fail;go_meet;exact⟨w2.heap.size,g0,HA,HBB,hc,hd,er,rfl,rfl,HB2.o.size,Hd (aJ w2 _ _),Hd (HT2.o.alloc _),Hd (HB2.o.alloc HB2.o.size _),HO2⟩
        go_wp2_with fail;go_meet;exact⟨wv.heap.size,g0,HA,HBB,hc,hd,er,rfl,rfl,aA _,Hd (HZ2.o.set8 rfl _ _ _ _ _ _ _ _),Hd (HT2.o.only (j7 _ _ _ _ _ _ _ _ _ _) (fun k hk=>by have:=hk.2;have:=HWZ.o;omega)),Hd ((j7 _ _ _ _ _ _ _ _ _ _).belowB HB2.o (fun k hk=>by omega)),HO2⟩
       obtain⟨b1,g0,HA,HB0,hc,hd,er,rfl,rfl,hb1,HX,HXT,HBX,HOX⟩:=hcut;rename World=>wx
       have HAB5':=Hd (HAB.o.below HBX.o);have hwb:wr.heap.size<b1:=by have:=HWZ.o;omega
       have HBR5:=Hd (HBV.o.trans (HBX.o.mono HBV.o.size));clear p0 p1 p2 p3 p4 p5 p6 b0 o0 e0 e1 e2 e3 e4 e5 e6;rcases HOX.o with ⟨hpg,he⟩ | ⟨hpg,he⟩
       .subst he;have HN5:Hid (jY P a=⟨a.name,g0.unknown,g0.v⟩):=Hd (by unfold jY;rw[hpg]);have HT5:Hid (Trs.at (fun k=>blk (some adO)≠some k/\k<wo.heap.size) wx (Gv.tr ⟨a.name,g0.unknown,g0.v⟩) (#[.string a.name,.bool g0.unknown,.int .i8 g0.v.kind,.bool g0.v.bool,.int .i64 g0.v.num,.string g0.v.text,.slice HA g0.v.list.length hc,.slice HB0 g0.v.keys.length hd]).toList):=Hd (by
         obtain⟨vs,e,-,hv⟩:=Gv.at_iff.1 HXT.o;injection e with _ e;injection e with _ e;subst e;exact Gv.at_iff.2 ⟨_,rfl,hans,hv⟩)
        have HK5:=HX;have HAB5:=HAB5';have HB5:=HBR5;clear hpg;have k5:=HK5.o;have z0:=k5.frozen 0;have K6:=Hd ((k5.set 0 (.string a.name)).eq (cs':=#[.string a.name,.bool g0.unknown,.int .i8 g0.v.kind,.bool g0.v.bool,.int .i64 g0.v.num,.string g0.v.text,.slice HA g0.v.list.length hc,.slice HB0 g0.v.keys.length hd]) (by simp));have HO6:Hid (fP (fun k=>k=b1) wx (wx.setCell ⟨b1,0,none⟩ (.string a.name))):=Hd ((bG _ _).setCell _ _ (fun _=>rfl));obtain⟨p0,p1,p2,p3,p4,p5,p6⟩:=jV HAB5.o;obtain⟨v0,v1,v2,v3,v4,v5,v6,v7⟩:=gI k5;have HB6:Hid (Below wr.heap.size wr (wx.setCell ⟨b1,0,none⟩ (.string a.name))):=Hd (HO6.o.belowB HB5.o (fun k hk=>by omega));generalize hw6:wx.setCell ⟨b1,0,none⟩ (.string a.name)=w6 at HO6 HB6 K6;have HW6:=Hd hw6;have HT6:=Hd (HT5.o.only HO6.o (fun k hk=>by have:=hk.2;omega));clear hw6 k5;go_upto_region 16 with fail;rw[HW6.o];obtain⟨v0,v1,v2,v3,v4,v5,v6,v7⟩:=gI K6.out;clear p0 p1 p2 p3 p4 p5 p6;have HOW6:=Hd (HGW.o.below HB6.o);have HTR6:=Hd (HGT.o.below HB6.o);have HRN:=Hd (cQ w6 8 1 #[.string a.name,.bool g0.unknown,.int .i8 g0.v.kind,.bool g0.v.bool,.int .i64 g0.v.num,.string g0.v.text,.slice HA g0.v.list.length hc,.slice HB0 g0.v.keys.length hd] 46 (0,0) rfl (by simp[maxLen]));have hlo:wo.heap.size+1<=w6.heap.size:=by have h1:=HB6.o.size;have h2:=HBR.o.size;have h3:=HSR.o.lt;omega
        go_wp2_with (at_builtin;refine wpList_row info_given Tryz.underlying28 rfl (by omega) rfl (.tmp 53) (.tmp 55) rfl (wo.heap.size+1) GA gc GL.length ys rfl (HOW6.o.alloc _) (some ⟨w6.heap.size,0,none⟩) 1 1 #[.string a.name,.bool g0.unknown,.int .i8 g0.v.kind,.bool g0.v.bool,.int .i64 g0.v.num,.string g0.v.text,.slice HA g0.v.list.length hc,.slice HB0 g0.v.keys.length hd].toList rfl HRN.o (by simp[Value.oneCell']) (by omega) (by omega) (by simp;omega) ?_;intro A' c' w8 ho hg hat;have HO8:=Hd ho;have HG8:=Hd hg;have HAT:=Hd hat;clear ho hg hat);go_roundg g2
        case measure=>omega
        case rel =>
         have hgb:∀ k,blk GA=some k->wo.heap.size+1<=k:=fun k hk=>(HOW6.o.lt hk).1
         have hb8:Below wo.heap.size wo w8:=((HBR.o.trans (HB6.o.mono HBR.o.size)).alloc (by omega) _).grown HG8.o (by simp;omega) (fun k hk=>by have:=hgb k hk;omega);have hon:fP (fun k=>some k=blk GA) w6 w8:=((bG _ _).alloc _).grown HG8.o (fun g hg _=>hg.symm);have hS:∀ k,(blk (some adO)≠some k/\k<wo.heap.size)->¬(some k=blk GA):=fun k hk e=>by have:=hgb k e.symm;have:=hk.2;omega
         refine⟨k2+1,GL++[⟨a.name,g0.unknown,g0.v⟩],A',c',ys++#[.string a.name,.bool g0.unknown,.int .i8 g0.v.kind,.bool g0.v.bool,.int .i64 g0.v.num,.string g0.v.text,.slice HA g0.v.list.length hc,.slice HB0 g0.v.keys.length hd].toList,by omega,by go_num,by simp,by simp;omega,Hd (by rw[aT,HA2.o,cA,cV,<-HGL.o,List.map_singleton,HN5.o]),Hd (by simpa using HO8.o),Hd ?_,Hd hb8,Hd ((HSR.o.below HB6.o).only hon (fun e=>by have:=hgb _ e.symm;omega))⟩;rw[bE];refine Trs.at.app.2 ⟨_,_,rfl,HTR6.o.only hon hS,?_⟩;simp only[aW,bW,bQ];exact HT6.o.only hon hS
       subst he;have HN5:Hid (jY P a=⟨a.name,true,gV⟩):=Hd (by unfold jY;rw[hpg]);clear hpg;obtain⟨v0,v1,v2,v3,v4,v5,v6,v7⟩:=gI HX.o;go_upto_region 15 with ((with_reducible refine is_store ?_);refine wpList_store_blk rfl 46 _ _ rfl b1 #[.string ⟨#[]⟩,.bool true,.int .i8 0,.bool false,.int .i64 0,.string ⟨#[]⟩,.slice none 0 0,.slice none 0 0] (kG g0 HA hc HB0 hd) 46 rfl rfl HX.o rfl (by kernel_rfl) (by simp[Value.oneCell']) ?_;intro w5 hk5 ho5;have HK5:=Hd hk5;have HO5:=Hd ho5;clear hk5 ho5);clear v0 v1 v2 v3 v4 v5 v6 v7;have HT5:Hid (Trs.at (fun k=>blk (some adO)≠some k/\k<wo.heap.size) w5 (Gv.tr ⟨a.name,true,gV⟩) (#[.string a.name,.bool true,.int .i8 0,.bool false,.int .i64 0,.string ⟨#[]⟩,.slice none 0 0,.slice none 0 0]).toList):=Hd (yE _ w5 true a.name hans);have HAB5:=Hd (HAB5'.o.only HO5.o (by omega));have HB5:=Hd (HO5.o.belowB HBR5.o (fun k hk=>by omega));have k5:=HK5.o;have z0:=k5.frozen 0;have K6:=Hd ((k5.set 0 (.string a.name)).eq (cs':=#[.string a.name,.bool true,.int .i8 0,.bool false,.int .i64 0,.string ⟨#[]⟩,.slice none 0 0,.slice none 0 0]) (by simp));have HO6:Hid (fP (fun k=>k=b1) w5 (w5.setCell ⟨b1,0,none⟩ (.string a.name))):=Hd ((bG _ _).setCell _ _ (fun _=>rfl));obtain⟨p0,p1,p2,p3,p4,p5,p6⟩:=jV HAB5.o;obtain⟨v0,v1,v2,v3,v4,v5,v6,v7⟩:=gI k5;have HB6:Hid (Below wr.heap.size wr (w5.setCell ⟨b1,0,none⟩ (.string a.name))):=Hd (HO6.o.belowB HB5.o (fun k hk=>by omega));generalize hw6:w5.setCell ⟨b1,0,none⟩ (.string a.name)=w6 at HO6 HB6 K6;have HW6:=Hd hw6;have HT6:=Hd (HT5.o.only HO6.o (fun k hk=>by have:=hk.2;omega));clear hw6 k5;go_upto_region 16 with fail;rw[HW6.o];obtain⟨v0,v1,v2,v3,v4,v5,v6,v7⟩:=gI K6.out;clear p0 p1 p2 p3 p4 p5 p6;have HOW6:=Hd (HGW.o.below HB6.o);have HTR6:=Hd (HGT.o.below HB6.o);have HRN:=Hd (cQ w6 8 1 #[.string a.name,.bool true,.int .i8 0,.bool false,.int .i64 0,.string ⟨#[]⟩,.slice none 0 0,.slice none 0 0] 46 (0,0) rfl (by simp[maxLen]));have hlo:wo.heap.size+1<=w6.heap.size:=by have h1:=HB6.o.size;have h2:=HBR.o.size;have h3:=HSR.o.lt;omega
       go_wp2_with (at_builtin;refine wpList_row info_given Tryz.underlying28 rfl (by omega) rfl (.tmp 53) (.tmp 55) rfl (wo.heap.size+1) GA gc GL.length ys rfl (HOW6.o.alloc _) (some ⟨w6.heap.size,0,none⟩) 1 1 #[.string a.name,.bool true,.int .i8 0,.bool false,.int .i64 0,.string ⟨#[]⟩,.slice none 0 0,.slice none 0 0].toList rfl HRN.o (by simp[Value.oneCell']) (by omega) (by omega) (by simp;omega) ?_;intro A' c' w8 ho hg hat;have HO8:=Hd ho;have HG8:=Hd hg;have HAT:=Hd hat;clear ho hg hat);go_roundg g2
       case measure=>omega
       case rel =>
        have hgb:∀ k,blk GA=some k->wo.heap.size+1<=k:=fun k hk=>(HOW6.o.lt hk).1
        have hb8:Below wo.heap.size wo w8:=((HBR.o.trans (HB6.o.mono HBR.o.size)).alloc (by omega) _).grown HG8.o (by simp;omega) (fun k hk=>by have:=hgb k hk;omega);have hon:fP (fun k=>some k=blk GA) w6 w8:=((bG _ _).alloc _).grown HG8.o (fun g hg _=>hg.symm);have hS:∀ k,(blk (some adO)≠some k/\k<wo.heap.size)->¬(some k=blk GA):=fun k hk e=>by have:=hgb k e.symm;have:=hk.2;omega
        refine⟨k2+1,GL++[⟨a.name,true,gV⟩],A',c',ys++#[.string a.name,.bool true,.int .i8 0,.bool false,.int .i64 0,.string ⟨#[]⟩,.slice none 0 0,.slice none 0 0].toList,by omega,by go_num,by simp,by simp;omega,Hd (by rw[aT,HA2.o,cA,cV,<-HGL.o,List.map_singleton,HN5.o]),Hd (by simpa using HO8.o),Hd ?_,Hd hb8,Hd ((HSR.o.below HB6.o).only hon (fun e=>by have:=hgb _ e.symm;omega))⟩;rw[bE];refine Trs.at.app.2 ⟨_,_,rfl,HTR6.o.only hon hS,?_⟩;simp only[aW,bW,bQ];exact HT6.o.only hon hS
theorem zX {args:List Gv}:∀ {l:List Sc} {i:Nat} {out L:List (List Gv)},nPar args i l out=.inr L->L.length=out.length+l.length
 | [],i,out,L,h=>by unfold nPar at h;injection h with h;subst h;simp
 | s::r,i,out,L,h=>by
   unfold nPar at h;split at h
   .cases h
   rw[zX h];simp;omega
def JI (row:List Gv):Prop:=row.length<=1000000/\∀ g∈row,fR g.v
theorem tV {args:List Gv} (ha:∀ g∈args,fR g.v):∀ {l:List Sc} {i:Nat} {out L:List (List Gv)},(∀ s∈l,s.t.params.length<=1000000/\∀ p∈s.t.params,iM p)->(∀ row∈out,JI row)->nPar args i l out=.inr L->∀ row∈L,JI row
 | [],i,out,L,_,ho,h=>by unfold nPar at h;injection h with h;subst h;exact ho
 | s::r,i,out,L,hs,ho,h=>by
   unfold nPar at h;split at h
   .cases h
   next o hb =>
   refine tV ha (fun x hx=>hs x (by simp[hx])) (fun row hrow=>?_) h;rcases List.mem_append.1 hrow with hr | hr
   .exact ho row hr
   rw[List.mem_singleton.1 hr];have hall:=iO hb;refine⟨by rw[mX hall];exact(hs s (by simp)).1,pAll_small ?_ (hs s (by simp)).2 hall⟩;unfold givenOf;split
   .exact ha
   intro g hg;obtain⟨a,-,rfl⟩:=List.mem_map.1 hg;refine rR (fun p hp=>?_);rw[aG] at hp;cases hq:out[s.parent.toNat]? with
   | none=>rw[hq] at hp;simp at hp
   | some row=>rw[hq] at hp;exact(ho row (aD hq)).2 p hp
theorem tU (ha:∀ g∈args,fR g.v) (hs:∀ s∈sc,s.t.params.length<=1000000/\∀ p∈s.t.params,iM p) (h:fY sc nd args=.inr L):L.length=sc.length/\∀ row∈L,JI row:=by
 unfold fY at h;split at h
 .cases h
 exact⟨by simpa using zX h,tV ha hs (by simp) h⟩
def SP (K:List Cd->List Gv->Nat):Prop:=∀ l ps,(∀ p∈ps,fR p.v)->csCheck l (gNames ps)=0->∀ c∈l,Dp l ps fR (K l ps) c
theorem LM:∃ K,SP K:=by
 have h:∀ x:List Cd × List Gv,∃ k,(∀ p∈x.2,fR p.v)->csCheck x.1 (gNames x.2)=0->∀ c∈x.1,Dp x.1 x.2 fR k c:=fun x=>by
  by_cases h1:∀ p∈x.2,fR p.v
  .by_cases h2:csCheck x.1 (gNames x.2)=0
   .obtain⟨k,hk,_⟩:=RW h1 h2;exact⟨k,fun _ _=>hk⟩
   exact⟨0,fun _ h=>absurd h h2⟩
  exact⟨0,fun h=>absurd h h1⟩
 exact⟨fun l ps=>Classical.choose (h (l,ps)),fun l ps h1 h2=>Classical.choose_spec (h (l,ps)) h1 h2⟩
def nY (x:ByteArray × Bool):Gv:=⟨x.1,false,⟨1,x.2,0,ByteArray.empty,[],[]⟩⟩
def rY (r:List (ByteArray × Bool)):List Tr:=oB (r.map nY)
theorem DY {S:Nat->Prop} {w:World}:∀ {r:List (ByteArray × Bool)},(∀ x∈r,x.1.size<=9007199254740992)->Trs.at S w ((r.map nY).flatMap Gv.tr) (yesL r)
 | [],_=>by simp[yesL,Trs.at]
 | x::r,h=>by
   rw[bY,aW,show yesL (x::r)=yes x.1 x.2++yesL r from rfl];refine Trs.at.app.2 ⟨_,_,rfl,?_,DY (fun y hy=>h y (by simp[hy]))⟩;exact Gv.at_iff.2 ⟨_,rfl,h x (by simp),Vl.at_iff.2 ⟨none,0,none,0,rfl,(by show (Lit.int .i8 1).wf=true;decide),(by show (Lit.int .i64 0).wf=true;decide),(by show ByteArray.empty.size<=_;decide),cF _ _ _ _ (by omega) _,cF _ _ _ _ (by omega) _⟩⟩
theorem rF {l:List Cd} {ps:List Gv} {eq:Vl->Vl->Bool} {K:Nat}:∀ {r:List Cd} {o:List (ByteArray × Bool)},iR l ps eq K r=some o->o.map Prod.fst=r.map Cd.name
 | [],o,h=>by simp only[iR,Option.some.injEq] at h;subst h;rfl
 | c::r,o,h=>by
   unfold iR at h;split at h
   .cases h
   obtain⟨x,hx,rfl⟩:=Option.map_eq_some_iff.1 h;simp[rF hx]
variable {l:List Cd}
theorem tF {o:List (ByteArray × Bool)} (h:jT l ps pF K=.inr o):csCheck l (gNames ps)=0/\iR l ps pF K l=some o:=by
 unfold jT at h;split at h
 .cases h
 next h0 =>
 split at h
 .cases h
 next r hr=>injection h with h;subst h;exact⟨by omega,hr⟩
theorem runOf_ne (h:jT l ps pF K=.inl n):n≠0:=by
 unfold jT at h;split at h
 .injection h with h;omega
 split at h
 .injection h with h;omega
 cases h
def cnGo (K:List Cd->List Gv->Nat):List Sc->List (List Gv)->List (List (ByteArray × Bool))->Nat ⊕ List (List (ByteArray × Bool))
 | s::r,g::L,out=>match jT s.t.conds g pF (K s.t.conds g) with
   | .inl e=>.inl e
   | .inr o=>cnGo K r L (out++[o])
 | _,_,out=>.inr out
def nConds (K:List Cd->List Gv->Nat) (sc:List Sc) (nd:List Nd) (args:List Gv):Nat ⊕ List (List (ByteArray × Bool)):=match fY sc nd args with
 | .inl e=>.inl e
 | .inr L=>cnGo K sc L []
theorem G2 {K:List Cd->List Gv->Nat} {g:List Gv} {O:List (List (ByteArray × Bool))} (hs:sc[j]?=some s) (hg:L[j]?=some g) :
 cnGo K (sc.drop j) (L.drop j) O=match jT s.t.conds g pF (K s.t.conds g) with | .inl e=>.inl e | .inr o=>cnGo K (sc.drop (j+1)) (L.drop (j+1)) (O++[o]):=by
 rw[fS hs,fS hg];rfl
def BM (r:Nat ⊕ List (List (ByteArray × Bool))) (w:World) (e:Ending) (w':World):Prop:=Below w.heap.size w w'/\match r with
 | .inl n=>e=.returned (.tuple #[.slice none 0 0,.int .i64 (n:Nat)])
 | .inr O=>∃ A c xs,e=.returned (.tuple #[.slice A O.length c,.int .i64 0])/\Ow w' w.heap.size 28 1 A O.length c xs/\Trs.at (fun k=>blk A≠some k) w' (O.flatMap rY) xs
theorem LY {A:Option Addr} {c:Nat} (h:Ls S w 15 224 Cd.tr A c l):∀ x∈l,x.name.size<=9007199254740992:=fun x hx=>by
 obtain⟨i,hi⟩:=List.mem_iff_getElem?.1 hx;obtain⟨ad,cs,_,ht,_⟩:=h.elem cY hi;obtain⟨_,_,_,_,_,hn,_⟩:=Cd.at_iff.1 ht;exact hn
theorem uR (l:List (ByteArray × Bool)):(rY l).length=1:=rfl
theorem nParams_ne (h:fY sc nd args=.inl n):n≠0:=by
 have hg:∀ (l:List Sc) (i:Nat) (out:List (List Gv)),nPar args i l out=.inl n->n≠0:=by
  intro l;induction l with
  | nil=>intro i out h;unfold nPar at h;cases h
  | cons s r ih =>
    intro i out h;unfold nPar at h;split at h
    .next e he =>
     injection h with h;have:=tN he;split at h<;>omega
    exact ih _ _ h
 unfold fY at h;split at h
 .injection h with h;omega
 exact hg _ _ _ h
theorem nconds_any (K:List Cd->List Gv->Nat) (hK:SP K) (S:Nat->Prop) (SA NA:Option Addr) (sC nC:Nat) (sc:List Sc) (nd:List Nd) (AA:Option Addr) (ac:Nat) (args:List Gv) (w:World) (hV:j4 w) (hsc:Ls S w 7 144 Sc.tr SA sC sc) (hnd:Ls S w 11 200 Nd.tr NA nC nd)
 (hsn:sc.length<=1000000) (hnn:nd.length<=1000000) (hgn:∀ n∈nd,n.guards.length<=1000000) (hcn:∀ s∈sc,s.t.conds.length<=1000000) (hco:∀ s∈sc,CsOk s.t.conds)
 (hps:∀ s∈sc,s.t.params.length<=1000000/\(∀ p∈s.t.params,iM p)/\s.args.length<=1000000) (hag:Ls S w 8 104 Gv.tr AA ac args) (han:args.length<=1000000) (has:∀ g∈args,fR g.v) :
 Calls Tryz.prog 45 #[.agg #[.slice SA sc.length sC,.slice NA nd.length nC],.slice AA args.length ac] w (BM (nConds K sc nd args) w):=by
 have hcap:=hsc.cap;have hmax:=hsc.max;have hacap:=hag.cap;have HSC:=Hd hsc.bound;have HV:=Hd hV;have HK:=Hd hK;have HCO:=Hd hco;have HCN:=Hd hcn;have hb1:Below w.heap.size w (w.alloc (.cells #[.slice SA sc.length sC,.slice NA nd.length nC] 36)):=(aB _ w).alloc (aA _) _;have hfb:=aJ w #[.slice SA sc.length sC,.slice NA nd.length nC] 36;have HB1:=Hd hb1;have HFB:=Hd hfb;have HPA:=Hd (rM S SA NA sC nC sc nd AA ac args _ (hV.below hb1) (hsc.below hb1) (hnd.below hb1) hsn hnn hgn hcn hps (hag.below hb1) han has);have HOK:=Hd (fun L=>tU (nd:=nd) (L:=L) has (fun s hs=>⟨(hps s hs).1,(hps s hs).2.1⟩));have HNC:Hid (nConds K sc nd args=match fY sc nd args with | .inl e=>.inl e | .inr L=>cnGo K sc L []):=Hd rfl;obtain⟨f0,f1⟩:=gO hfb;clear hV hsc hnd hgn hcn hps hag has hb1 hfb hK hco;go_enter Tryz.func45,Tryz.ntmps45;go_wp2_with fail;refine HPA.o.mono ?_;rintro e w2 ⟨hb,hm⟩;have HB2:=Hd (HB1.o.trans (hb.mono HB1.o.size));obtain⟨g0,g1⟩:=gO (HFB.o.below hb);clear f0 f1;cases hnp:fY sc nd args with
 | inl n =>
   have hne:=nParams_ne hnp;rw[hnp] at hm HNC;subst hm;have hn1:((n:Int)!=0)=true:=by simpa using hne
   clear hne hnp hb;go_wp2_with fail;refine bodyPost_ret (v:=.tuple #[.slice none 0 0,.int .i64 n]) (by simp[results,Tryz.results45,go_sem]) rfl ?_;rw[HNC.o];exact⟨HB2.o,rfl⟩
 | inr L =>
   rw[hnp] at hm HNC;obtain⟨hLl,hLr⟩:=HOK.o L hnp;obtain⟨LA,lc,ls,rfl,hlow,hltr⟩:=hm;have HLO:=Hd hlow;have HLT:=Hd hltr;have HLL:=Hd hLl;have HLR:=Hd hLr;have hLn:L.length<=1000000:=by omega
   have hlcap:=hlow.cap;clear hnp hb hlow hltr hLl hLr;go_wp2_with fail;go_loopg [23,4] sc.length (fun g i o wr=>∃ (j:Nat) (O:List (List (ByteArray × Bool))) (OA:Option Addr) (oc:Nat) (xs:List Value),j+g=sc.length/\i=.int .i64 (j:Nat)/\o=.slice OA O.length oc/\O.length<=j/\Hid (O.length=j)/\Hid (nConds K sc nd args=cnGo K (sc.drop j) (L.drop j) O)/\Hid (Ow wr w2.heap.size 28 1 OA O.length oc xs)/\Hid (Trs.at (fun k=>blk OA≠some k) wr (O.flatMap rY) xs)/\Hid (Below w2.heap.size w2 wr))
   case atStart=>exact⟨0,[],none,0,[],by omega,rfl,rfl,aA _,Hd rfl,HNC,Hd (dF _ _ _ _),Hd (by simp[Trs.at]),Hd (aB _ _)⟩
   clear g0 g1;obtain⟨j,O,OA,oc,xs,hj,rfl,rfl,hOle,HOj,HNP,HOW,HTR,HB⟩:=hrel;rename World=>wo
   cases gk with
   | zero =>
     have hjj:¬((j:Int)<(sc.length:Int)):=by omega
     have HE:Hid (nConds K sc nd args=.inr O):=Hd (by rw[HNP.o,aP (by omega)];unfold cnGo;rfl);go_wp2_with fail;refine bodyPost_ret (v:=.tuple #[.slice OA O.length oc,.int .i64 0]) (by simp[results,Tryz.results45,go_sem]) rfl ?_;rw[HE.o];exact⟨HB2.o.trans (HB.o.mono HB2.o.size),OA,oc,xs,rfl,HOW.o.le HB2.o.size,HTR.o⟩
   | succ g =>
     have hjj:(j:Int)<(sc.length:Int):=by omega
     have hji:(0:Int)<=(j:Int)/\(j:Int)<(sc.length:Int):=by omega
     obtain⟨s,hs⟩:=fO (l:=sc) (i:=j) (by omega);obtain⟨P,hP⟩:=fO (l:=L) (i:=j) (by rw[HLL.o];omega);have HD:=Hd (G2 (K:=K) (O:=O) hs hP);have hsm:=aD hs;have hpr:=HLR.o P (aD hP);obtain⟨ad,cs,rfl,hxt,hxc⟩:=(HSC.o.below (HB2.o.trans (HB.o.mono HB2.o.size))).elem dS hs;obtain⟨B1,B2,B3,B4,B5,d1,d2,d3,d4,d5,rfl,-,-,-,hcl,-,-⟩:=jA hxt;obtain⟨e0,e1,e2,e3,e4,e5,e6⟩:=lO hxc;obtain⟨PA,pc,hxs,hpls⟩:=EN HLT.o hP;obtain⟨adL,hLA,hlc0⟩:=HLO.o.rd.at_ j _ hxs;subst hLA;have hjl:(0:Int)<=(j:Int)/\(j:Int)<(L.length:Int):=by have:=HLL.o;omega
     have hpcap:=hpls.cap;have hll:(adL.add j).block<w2.heap.size:=aF w2 _ hlc0;have hbn:Below wo.heap.size wo (wo.alloc (.cells (kS s B1 d1 B2 d2 B3 d3 B4 d4 B5 d5) 89)):=(aB _ wo).alloc (aA _) _;obtain⟨wv,hwv⟩:∃ wv,wo.alloc (.cells (kS s B1 d1 B2 d2 B3 d3 B4 d4 B5 d5) 89)=wv:=⟨_,rfl⟩;have hsb:=aJ wo (kS s B1 d1 B2 d2 B3 d3 B4 d4 B5 d5) 89;rw[hwv] at hbn hsb;have hb2v:Below w2.heap.size w2 wv:=HB.o.trans (hbn.mono HB.o.size);have hbwv:Below w.heap.size w wv:=HB2.o.trans (hb2v.mono HB2.o.size);have HRUN:Hid (∀ w',Below wv.heap.size wv w'->Calls Tryz.prog 81 #[.slice B2 s.t.conds.length d2,.slice PA P.length pc] w' (DS (jT s.t.conds P pF (K s.t.conds P)) w')):=Hd (fun w' hb =>
      LN (fun _=>True) B2 d2 s.t.conds PA pc P w' (HV.o.below (hbwv.trans (hb.mono hbwv.size))) (((hcl.below hbn).below hb).mono (fun _ _=>trivial)) (((hpls.below hb2v).below hb).mono (fun _ _=>trivial)) hpr.1 hpr.2 (HCO.o s hsm) _ (fun h0=>HK.o _ _ hpr.2 h0))
     have HNM:=Hd (LY hcl);obtain⟨b0,b1,b2,b3,b4,b5,b6⟩:=jV hsb;have l0:=(hb2v.cell hll).trans hlc0;obtain⟨aC,haC⟩:∃ aC,adL.add j=aC:=⟨_,rfl⟩;rw[haC] at l0;have HWV:=Hd hwv;have HBN:=Hd hbn;have HBD:Hid (Below wv.heap.size wv wv.drew):=Hd (aB _ wv).drew;have HSB:=Hd hsb;have HBV:=Hd hb2v;clear hs hP hpr hxt hxc hcl hxs hpls hlc0 hbn hwv hsb hb2v hbwv;go_upto_region 7 with fail;rw[HWV.o];clear e0 e1 e2 e3 e4 e5 e6;cases hro:jT s.t.conds P pF (K s.t.conds P) with
     | inl n =>
       have hne:=runOf_ne hro;rw[hro] at HRUN HD;have HE:Hid (nConds K sc nd args=.inl n):=Hd (by rw[HNP.o,HD.o]);have hn1:((n:Int)!=0)=true:=by simpa using hne
       clear hne hro hsm;go_region_held3 (fun w'=>w'.cell? ⟨wo.heap.size,3,none⟩=some (.slice B2 s.t.conds.length d2)/\w'.cell? aC=some (.slice PA P.length pc)) (first | go_keep | exact⟨u3,v0⟩)
        ((go_at_call 81;(with_reducible refine(HRUN.o _ HBD.o).mono ?_);rintro e w6 ⟨rfl,hb6⟩;have HB6:=Hd (HBV.o.trans ((HBD.o.trans (hb6.mono HBD.o.size)).mono HBV.o.size));have u3:=(jV (HSB.o.below (HBD.o.trans (hb6.mono HBD.o.size)))).2.2.2.1;have v0:=((HBD.o.trans (hb6.mono HBD.o.size)).cell (aF wv _ l0)).trans l0;clear hb6))
       go_wp2_with fail;refine bodyPost_ret (v:=.tuple #[.slice none 0 0,.int .i64 n]) (by simp[results,Tryz.results45,go_sem]) rfl ?_;rw[HE.o];exact⟨HB2.o.trans (HB6.o.mono HB2.o.size),rfl⟩
     | inr o =>
       rw[hro] at HRUN HD;have hrk:=tF hro;have HNS:Hid (∀ x∈o,x.1.size<=9007199254740992):=Hd (fun x hx=>by
        have h1:=rF hrk.2;have h2:x.1∈s.t.conds.map Cd.name:=by rw[<-h1];exact List.mem_map.2 ⟨x,hx,rfl⟩
        obtain⟨c,hc,e⟩:=List.mem_map.1 h2;rw[<-e];exact HNM.o c hc)
       have hol:o.length=s.t.conds.length:=nM hrk.2;have hob:o.length<=1000000:=by rw[hol];exact HCN.o s hsm
       clear hro hrk hol hsm;go_region_held3 (fun w'=>w'.cell? ⟨wo.heap.size,3,none⟩=some (.slice B2 s.t.conds.length d2)/\w'.cell? aC=some (.slice PA P.length pc)) (first | go_keep | exact⟨u3,v0⟩)
        ((go_at_call 81;(with_reducible refine(HRUN.o _ HBD.o).mono ?_);rintro e w6 ⟨RA,rc,rfl,how,hb6⟩;have HB6:=Hd (HBV.o.trans ((HBD.o.trans (hb6.mono HBD.o.size)).mono HBV.o.size));have HVW:=Hd (HBD.o.trans (hb6.mono HBD.o.size));have HRO:=Hd how;have u3:=(jV (HSB.o.below (HBD.o.trans (hb6.mono HBD.o.size)))).2.2.2.1;have v0:=((HBD.o.trans (hb6.mono HBD.o.size)).cell (aF wv _ l0)).trans l0;clear hb6 how))
       have how:=HRO.o;have hbo6:Below wo.heap.size wo w6:=HBN.o.trans (HVW.o.mono HBN.o.size);have HOW6:=Hd (HOW.o.below hbo6);have HTR6:=Hd (HTR.o.below hbo6);have hneq:∀ ad,RA=some ad->0<(o.map nY).length->blk OA≠some ad.block:=fun ad e _ e2=>by
        have h1:=(how.lt (g:=ad.block) (by rw[e];rfl)).1;have h2:=(HOW.o.lt e2).2;have h3:=HBN.o.size;simp at h1;omega
       have hml:(o.map nY).length=o.length:=by simp
       have HNL:Hid (Ls (fun k=>blk OA≠some k) w6 8 104 Gv.tr RA rc (o.map nY)):=Hd ⟨by omega,by rw[hml];omega,by rw[hml];exact how.cap,how.max,hneq,yesL o,by rw[hml];exact how.rd,DY HNS.o⟩;have HRN:=Hd (cQ w6 1 1 #[.slice RA o.length rc] 28 (0,0) rfl (by simp[maxLen]));have hlo:w2.heap.size<=w6.heap.size:=HB6.o.size;clear how hbo6 hneq hml;go_wp2_with (at_builtin;refine wpList_row info_gs Tryz.underlying76 rfl (by omega) rfl (.tmp 42) (.tmp 44) rfl w2.heap.size OA oc O.length xs rfl (HOW6.o.alloc _) (some ⟨w6.heap.size,0,none⟩) 1 1 [.slice RA o.length rc] rfl HRN.o (by simp[Value.oneCell']) (by omega) (by omega) (by simp;omega) ?_;intro A' c' w8 ho hg hat;have HO8:=Hd ho;have HG8:=Hd hg;have HAT:=Hd hat;clear ho hg hat);go_roundg g
       case measure=>omega
       case rel =>
        have hb8:Below w2.heap.size w2 w8:=(HB6.o.alloc hlo _).grown HG8.o (by simp;omega) (fun k hk=>(HOW6.o.lt hk).1);have hon:fP (fun k=>some k=blk OA) w6 w8:=((bG _ _).alloc _).grown HG8.o (fun g hg _=>hg.symm);have hS:∀ k,(blk OA≠some k/\k<w6.heap.size)->¬(some k=blk OA):=fun k hk e=>hk.1 e.symm
        have hS2:∀ k,(blk OA≠some k/\k<w6.heap.size)->blk A'≠some k:=fun k hk e=>by
         rcases HAT.o with h | h
         .rw[h] at e;exact hk.1 e
         rw[h] at e;injection e with e;have:=hk.2;simp at e;omega
        refine⟨j+1,O++[o],A',c',xs++[.slice RA o.length rc],by omega,by go_num,by simp,by simp;omega,Hd (by simp[HOj.o]),Hd (by rw[HNP.o,HD.o]),Hd (by simpa using HO8.o),Hd ?_,Hd hb8⟩;rw[bE];refine Trs.at.app.2 ⟨_,_,rfl,(HTR6.o.bound.only hon hS).mono hS2,?_⟩;simp only[aW,bW,bQ];have h2:=oI.2 ⟨RA,rc,rfl,(HNL.o.bound.only hon hS).mono hS2⟩;rw[cX] at h2;exact h2
