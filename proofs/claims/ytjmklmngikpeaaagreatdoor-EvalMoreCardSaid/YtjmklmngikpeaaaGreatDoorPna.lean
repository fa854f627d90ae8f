/- Part of the proof. -/
import Derived.Test.YtjmklmngikpeaaaGreatDoorPmb
import Derived.Test.YtjmklmngikpeaaaGreatDoorNs9
set_option maxRecDepth 100000
set_option maxHeartbeats 16000000
set_option linter.unusedVariables false
set_option linter.unusedSimpArgs false
namespace Go.Proofs.YtjmklmngikpeaaaGreatDoor
open Go.RowKit
variable {cs:List Value}{j:Nat}{S:Nat->Prop}{α:Type}{w:World}{l:List α}{p:α->Bool}
theorem Gd.at_iff' {v:Gd} (h:Trs.at S w v.tr cs):cs=[.int .i64 v.scope,.string v.name]/\(Lit.int .i64 v.scope).wf=true/\v.name.size<=9007199254740992:=by
 unfold Gd.tr lI lS at h;simp only[Trs.at,Tr.at,mD] at h;obtain⟨v1,vs,rfl,⟨rfl,h1⟩,v2,vs',rfl,⟨rfl,h2⟩,rfl⟩:=h;exact⟨rfl,h1,h2⟩
theorem wI (h:∀ (i:Nat) (x:α),l[i]?=some x->p x=false):iT p l=-1:=by
 have:l.findIdx? p=none:=List.findIdx?_eq_none_iff.2 (fun x hx=>by obtain⟨i,hi⟩:=List.mem_iff_getElem?.1 hx;exact h i x hi);unfold iT;rw[this]
theorem wH {k:α} (hk:l[j]?=some k) (hq:p k=true) (h:∀ (i:Nat) (x:α),i<j->l[i]?=some x->p x=false):iT p l=(j:Int):=by
 obtain⟨hj,rfl⟩:=List.getElem?_eq_some_iff.1 hk;have:l.findIdx? p=some j:=List.findIdx?_eq_some_iff_getElem.2 ⟨hj,hq,fun i hi=>by rw[h i _ hi (aM (by omega))];decide⟩;unfold iT;rw[this]
theorem KM (S:Nat->Prop) (fid:FuncId) (caps:Array Value) (p:Cd->Bool) (A:Option Addr) (c:Nat) (l:List Cd) (w:World) (hl:Ls S w 15 224 Cd.tr A c l) (hn:l.length<=1000000) (hcf:∀ args w',(callFunc fid args).run Tryz.prog w'=.ok (.enter fid args) w') (hf:DV Cd.tr fid caps p l S w) :
 Calls Tryz.prog 171 #[.slice A l.length c,.func (.func fid) #[] caps] w fun e w'=>e=.returned (.int .i64 (iT p l))/\Below w.heap.size w w':=by
 have HL:=Hd hl;have hcap:=hl.cap;have hbyt:=hl.bytes;have HF:=Hd hf;clear hl hf;go_enter Tryz.func171,Tryz.ntmps171;go_wp2_with fail;go_loopg [8] l.length (fun g i wr=>∃ j:Nat,j+g=l.length/\i=.int .i64 (j:Nat)/\Hid (∀ i x,i<j->l[i]?=some x->p x=false)/\Hid (Below w.heap.size w wr))
 case atStart=>exact⟨0,by omega,rfl,Hd (fun i x hi _=>absurd hi (by omega)),Hd (aB _ _)⟩
 obtain⟨j,hj,rfl,HN,HB⟩:=hrel;rename World=>wo
 cases gk with
 | zero =>
   have hjj:¬((j:Int)<(l.length:Int)):=by omega
   have HE:Hid (iT p l=-1):=Hd (wI (fun i x hx=>HN.o i x (by have:=(List.getElem?_eq_some_iff.1 hx).1;omega) hx));go_wp2;go_ret;rw[HE.o];exact⟨rfl,HB.o⟩
 | succ g =>
   have hjj:(j:Int)<(l.length:Int):=by omega
   have hji:(0:Int)<=(j:Int)/\(j:Int)<(l.length:Int):=by omega
   obtain⟨k,hk⟩:=fO (l:=l) (i:=j) (by omega);obtain⟨ad,cs,rfl,hxt,hxc⟩:=(HL.o.below HB.o).elem cY hk;have HXT:=Hd hxt;obtain⟨xs,ys,L,lc,rfl,-,-,hxa,hxb,-⟩:=Cd.at_iff.1 hxt;obtain⟨A1,n1,rfl,-⟩:=Ex.at_iff.1 hxa;obtain⟨B1,n2,rfl,-⟩:=Ex.at_iff.1 hxb;obtain⟨e0,e1,e2,e3,e4,e5,e6,e7,e8,e9,e10,e11,e12,e13,e14⟩:=gP hxc;clear hxa hxb;have HCL:=Hd (HF.o k (aD hk) _ wo HB.o HXT.o);have HE:Hid (p k=true->iT p l=(j:Int)):=Hd (fun hq=>wH hk hq HN.o);have HN2:Hid (p k=false->∀ i x,i<j+1->l[i]?=some x->p x=false):=Hd (fun hq i x hi hx=>by
    rcases bI i j with h | h
    .exact HN.o i x h hx
    rw[show i=j by omega,hk] at hx;injection hx with hx;rw[<-hx];exact hq)
   clear hk hxt hxc;cases hp:p k with
   | true =>
     rw[hp] at HCL;have HE2:=Hd (HE.o hp);clear hp HE;go_wp2_with fail;refine HCL.o.mono ?_;rintro e w2 ⟨rfl,hb2⟩;have HB2:=Hd (HB.o.trans (hb2.mono HB.o.size));clear hb2;go_wp2;go_ret;rw[HE2.o];exact⟨rfl,HB2.o⟩
   | false =>
     rw[hp] at HCL;have HN3:=Hd (HN2.o hp);clear hp HE;go_wp2_with fail;refine HCL.o.mono ?_;rintro e w2 ⟨rfl,hb2⟩;have HB2:=Hd (HB.o.trans (hb2.mono HB.o.size));clear hb2;go_wp2_with fail;go_roundg g
     case measure=>omega
     case rel=>exact⟨j+1,by omega,by go_num,HN3,HB2⟩
theorem KO (S:Nat->Prop) (fid:FuncId) (caps:Array Value) (p:Cd->Bool) (A:Option Addr) (c:Nat) (l:List Cd) (w:World) (hl:Ls S w 15 224 Cd.tr A c l) (hn:l.length<=1000000) (hcf:∀ args w',(callFunc fid args).run Tryz.prog w'=.ok (.enter fid args) w') (hf:DV Cd.tr fid caps p l S w) :
 Calls Tryz.prog 121 #[.slice A l.length c,.func (.func fid) #[] caps] w (BoolB (l.any p) w):=by
 have HC:=Hd (KM S fid caps p A c l w hl hn hcf hf);have HG:=Hd (nT p l);obtain⟨z,hz⟩:∃ z,z=iT p l:=⟨_,rfl⟩;rw[<-hz] at HC HG;clear hz hl hf hcf;go_enter Tryz.func121,Tryz.ntmps121;go_wp2_with fail;refine HC.o.mono ?_;rintro e w2 ⟨rfl,hb⟩;have HB:=Hd hb;clear hb;go_wp2;go_ret;exact⟨by rw[<-HG.o];try rfl,HB.o⟩
theorem KD (S:Nat->Prop) (fid:FuncId) (caps:Array Value) (p:Gd->Bool) (A:Option Addr) (c:Nat) (l:List Gd) (w:World) (hl:Ls S w 2 24 Gd.tr A c l) (hn:l.length<=1000000) (hcf:∀ args w',(callFunc fid args).run Tryz.prog w'=.ok (.enter fid args) w') (hf:DV Gd.tr fid caps p l S w) :
 Calls Tryz.prog 133 #[.slice A l.length c,.func (.func fid) #[] caps] w fun e w'=>e=.returned (.int .i64 (iT p l))/\Below w.heap.size w w':=by
 have HL:=Hd hl;have hcap:=hl.cap;have hbyt:=hl.bytes;have HF:=Hd hf;clear hl hf;go_enter Tryz.func133,Tryz.ntmps133;go_wp2_with fail;go_loopg [8] l.length (fun g i wr=>∃ j:Nat,j+g=l.length/\i=.int .i64 (j:Nat)/\Hid (∀ i x,i<j->l[i]?=some x->p x=false)/\Hid (Below w.heap.size w wr))
 case atStart=>exact⟨0,by omega,rfl,Hd (fun i x hi _=>absurd hi (by omega)),Hd (aB _ _)⟩
 obtain⟨j,hj,rfl,HN,HB⟩:=hrel;rename World=>wo
 cases gk with
 | zero =>
   have hjj:¬((j:Int)<(l.length:Int)):=by omega
   have HE:Hid (iT p l=-1):=Hd (wI (fun i x hx=>HN.o i x (by have:=(List.getElem?_eq_some_iff.1 hx).1;omega) hx));go_wp2;go_ret;rw[HE.o];exact⟨rfl,HB.o⟩
 | succ g =>
   have hjj:(j:Int)<(l.length:Int):=by omega
   have hji:(0:Int)<=(j:Int)/\(j:Int)<(l.length:Int):=by omega
   obtain⟨k,hk⟩:=fO (l:=l) (i:=j) (by omega);obtain⟨ad,cs,rfl,hxt,hxc⟩:=(HL.o.below HB.o).elem Gd.trlen hk;have HXT:=Hd hxt;obtain⟨rfl,-,-⟩:=Gd.at_iff' hxt;obtain⟨e0,e1⟩:=S9 hxc;have HCL:=Hd (HF.o k (aD hk) _ wo HB.o HXT.o);have HE:Hid (p k=true->iT p l=(j:Int)):=Hd (fun hq=>wH hk hq HN.o);have HN2:Hid (p k=false->∀ i x,i<j+1->l[i]?=some x->p x=false):=Hd (fun hq i x hi hx=>by
    rcases bI i j with h | h
    .exact HN.o i x h hx
    rw[show i=j by omega,hk] at hx;injection hx with hx;rw[<-hx];exact hq)
   clear hk hxt hxc;cases hp:p k with
   | true =>
     rw[hp] at HCL;have HE2:=Hd (HE.o hp);clear hp HE;go_wp2_with fail;refine HCL.o.mono ?_;rintro e w2 ⟨rfl,hb2⟩;have HB2:=Hd (HB.o.trans (hb2.mono HB.o.size));clear hb2;go_wp2;go_ret;rw[HE2.o];exact⟨rfl,HB2.o⟩
   | false =>
     rw[hp] at HCL;have HN3:=Hd (HN2.o hp);clear hp HE;go_wp2_with fail;refine HCL.o.mono ?_;rintro e w2 ⟨rfl,hb2⟩;have HB2:=Hd (HB.o.trans (hb2.mono HB.o.size));clear hb2;go_wp2_with fail;go_roundg g
     case measure=>omega
     case rel=>exact⟨j+1,by omega,by go_num,HN3,HB2⟩
theorem KF (S:Nat->Prop) (fid:FuncId) (caps:Array Value) (p:Gd->Bool) (A:Option Addr) (c:Nat) (l:List Gd) (w:World) (hl:Ls S w 2 24 Gd.tr A c l) (hn:l.length<=1000000) (hcf:∀ args w',(callFunc fid args).run Tryz.prog w'=.ok (.enter fid args) w') (hf:DV Gd.tr fid caps p l S w) :
 Calls Tryz.prog 85 #[.slice A l.length c,.func (.func fid) #[] caps] w (BoolB (l.any p) w):=by
 have HC:=Hd (KD S fid caps p A c l w hl hn hcf hf);have HG:=Hd (nT p l);obtain⟨z,hz⟩:∃ z,z=iT p l:=⟨_,rfl⟩;rw[<-hz] at HC HG;clear hz hl hf hcf;go_enter Tryz.func85,Tryz.ntmps85;go_wp2_with fail;refine HC.o.mono ?_;rintro e w2 ⟨rfl,hb⟩;have HB:=Hd hb;clear hb;go_wp2;go_ret;exact⟨by rw[<-HG.o];try rfl,HB.o⟩
theorem Ls.drop {α:Type} {tr:α->List Tr} {S:Nat->Prop} {w:World} {sz b c:Nat} {A:Option Addr} {l:List α} (hsz:∀ a,(tr a).length=sz) (h:Ls S w sz b tr A c l) {k:Nat} (hk:k<=l.length):Ls S w sz b tr (if c=k then A else A.map (·.add (k*sz))) (c-k) (l.drop k):=by
 obtain⟨vs,hr,ht⟩:=h.cells;have hl:(l.drop k).length=l.length-k:=by simp
 have hcap:=h.cap;refine⟨h.sz0,?_,by rw[hl];omega,by have:=h.max;omega,fun ad' e h0=>?_,⟨(vs.drop (k*sz)).take ((l.length-k)*sz),by rw[hl];exact hr.cut hk (aA _) hcap (aA _),?_⟩⟩
 .rw[hl];exact bB (bT b (Nat.sub_le _ _)) h.bytes
 .rw[hl] at h0;rw[if_neg (by omega)] at e;cases A with
  | none=>cases e
  | some ad =>
    injection e with e;rw[<-e];exact(block_of_add ad (k*sz)).symm ▸ h.blk ad rfl (by omega)
 rw[<-cJ k l,bE] at ht;obtain⟨a,d,rfl,h1,h2⟩:=Trs.at.app.1 ht;have hfl:∀ m:List α,(m.flatMap tr).length=m.length*sz:=fun m=>by rw[List.length_flatMap,List.map_congr_left (fun a _=>hsz a),List.map_const',List.sum_replicate_nat]
 have hal:a.length=k*sz:=by
  rw[h1.len,hfl,cH,eR hk]
 have hdl:d.length=(l.length-k)*sz:=by rw[h2.len,hfl,hl]
 rw[<-hal,List.drop_left,<-hdl,fK];exact h2
theorem O0 {x:Cd} (h:Trs.at S w x.tr cs):∃ (A1 B1 L:Option Addr) (n1 n2 lc:Nat),cs=(kD x A1 n1 B1 n2 L lc).toList:=by
 obtain⟨xs,ys,L,lc,rfl,-,-,hxa,hxb,-⟩:=Cd.at_iff.1 h;obtain⟨A1,n1,rfl,-⟩:=Ex.at_iff.1 hxa;obtain⟨B1,n2,rfl,-⟩:=Ex.at_iff.1 hxb;exact⟨A1,B1,L,n1,n2,lc,rfl⟩
theorem N3 (S:Nat->Prop) (x:Cd) (cs:List Value) (g:Gd) (gb:Nat) (w:World) (hx:Trs.at S w x.tr cs) (hgb:Blk w gb #[.int .i64 g.scope,.string g.name] 151) :
 Calls Tryz.prog 122 (#[.agg cs.toArray]++#[.pointer (some ⟨gb,0,none⟩)]) w (BoolB (fW x.name g.name) w):=by
 obtain⟨A1,B1,L,n1,n2,lc,rfl⟩:=O0 hx;have hbn:Below w.heap.size w (w.alloc (.cells (kD x A1 n1 B1 n2 L lc) 148)):=(aB _ w).alloc (aA _) _;have HB:=Hd hbn;obtain⟨e0,e1,e2,e3,e4,e5,e6,e7,e8,e9,e10,e11,e12,e13,e14⟩:=L4 (aJ w (kD x A1 n1 B1 n2 L lc) 148);obtain⟨g0,g1⟩:=gO (hgb.alloc (.cells (kD x A1 n1 B1 n2 L lc) 148));have HE:=Hd (jL x.name g.name);clear hx hgb hbn;simp only[bV,bS,bM,bP];go_enter Tryz.func122,Tryz.ntmps122;go_wp2;go_ret;exact⟨by rw[<-HE.o];try rfl,HB.o⟩
def rV:Nat->List Sc->Bool
 | _,[]=>true
 | i,s::r=>(decide (0<=s.parent)&&decide (s.parent<=(i:Int)))&&rV (i+1) r
def uD (sc:List Sc) (g:Gd):Bool:=if g.scope<0∨(sc.length:Int)<=g.scope then false else match sc[g.scope.toNat]? with | some s=>s.t.conds.any (fun c=>fW c.name g.name) | none=>false
def rX (sc:List Sc) (n:Nd):Bool:=if n.scope<0∨(sc.length:Int)<=n.scope then false else n.guards.all (uD sc)
def lJ (sc:List Sc) (nd:List Nd):Bool:=match sc with
 | []=>false
 | s0::r=>if s0.parent≠-1 then false else rV 0 r&&nd.all (rX sc)
theorem FO {l:List Sc} {x:Sc} (h:l[j]?=some x):rV j (l.drop j)=((decide (0<=x.parent)&&decide (x.parent<=(j:Int)))&&rV (j+1) (l.drop (j+1))):=by rw[fS h];rfl
theorem BG {i:Nat} {x:α} (h:l[i]?=some x):(l.drop i).all p=(p x&&(l.drop (i+1)).all p):=by rw[fS h];rfl
theorem jA {s:Sc} (h:Trs.at S w s.tr cs):∃ (B1 B2 B3 B4 B5:Option Addr) (d1 d2 d3 d4 d5:Nat),cs=(kS s B1 d1 B2 d2 B3 d3 B4 d4 B5 d5).toList/\(Lit.int .i64 s.parent).wf=true/\s.pre.size<=9007199254740992/\Ls S w 10 128 Pm.tr B1 d1 s.t.params/\Ls S w 15 224 Cd.tr B2 d2 s.t.conds/\Ls S w 8 120 Ou.tr B4 d4 s.t.outs/\Ls S w 7 104 Pr.tr B5 d5 s.args:=by
 obtain⟨ts,B5,d5,rfl,hw,hp,ht,ha⟩:=Sc.at_iff.1 h;obtain⟨B1,d1,B2,d2,B3,d3,B4,d4,rfl,h1,h2,h3,h4⟩:=Tm.at_iff.1 ht;exact⟨B1,B2,B3,B4,B5,d1,d2,d3,d4,d5,rfl,hw,hp,h1,h2,h4,ha⟩
theorem mE {n:Nd} (h:Trs.at S w n.tr cs):∃ (C1 C2 C3 C4 C5:Option Addr) (q1 q2 q3 q4 q5:Nat),cs=(kN n C1 q1 C2 q2 C3 q3 C4 q4 C5 q5).toList/\n.id.size<=9007199254740992/\(Lit.int .i64 n.scope).wf=true/\Ls S w 7 104 Pr.tr C1 q1 n.r.props/\Ls S w 2 24 Gd.tr C4 q4 n.guards/\Ss S w C5 q5 n.after:=by
 obtain⟨rcs,C4,q4,C5,q5,rfl,h0,h1,h2,h4,h5⟩:=Nd.at_iff.1 h;obtain⟨C1,q1,C2,q2,C3,q3,rfl,h6,h7,h8,h9,h10,h11⟩:=Rs.at_iff.1 h2;exact⟨C1,C2,C3,C4,C5,q1,q2,q3,q4,q5,rfl,h0,h1,h9,h4,h5⟩
theorem JX (S:Nat->Prop) (fb:Nat) (SA NA:Option Addr) (sC nC:Nat) (sc:List Sc) (nd:List Nd) (w:World) (hfb:Blk w fb #[.slice SA sc.length sC,.slice NA nd.length nC] 36) (hsc:Ls S w 7 144 Sc.tr SA sC sc) (hnd:Ls S w 11 200 Nd.tr NA nC nd)
 (hsn:sc.length<=1000000) (hnn:nd.length<=1000000) (hgn:∀ n∈nd,n.guards.length<=1000000) (hcn:∀ s∈sc,s.t.conds.length<=1000000) :
 Calls Tryz.prog 82 #[.pointer (some ⟨fb,0,none⟩)] w (BoolB (lJ sc nd) w):=by
 have hcap:=hsc.cap;have hmax:=hsc.max;have hcap2:=hnd.cap;have hmax2:=hnd.max;have HSC:=Hd hsc;have HND:=Hd hnd;have HGN:=Hd hgn;have HCN:=Hd hcn;have HFB:=Hd hfb;obtain⟨f0,f1⟩:=gO hfb;clear hsc hnd hgn hcn hfb;cases hsl:sc with
 | nil =>
   subst hsl;go_enter Tryz.func82,Tryz.ntmps82;go_wp2;go_ret;exact⟨by rfl,aB _ _⟩
 | cons s0 r =>
   have hr:sc[0]?=some s0:=by rw[hsl];rfl
   have hlen:sc.length=r.length+1:=by rw[hsl];rfl
   have hdr:∀ j,r[j]?=sc[j+1]?:=fun j=>by rw[hsl];rfl
   have hMe:lJ sc nd=if s0.parent≠-1 then false else rV 0 r&&nd.all (rX sc):=by rw[hsl];rfl
   have HM2:=Hd hMe;have HDR:=Hd hdr;rw[<-hsl];clear hsl hMe hdr;obtain⟨ad,cs,rfl,hxt,hxc⟩:=HSC.o.elem dS hr;obtain⟨B1,B2,B3,B4,B5,d1,d2,d3,d4,d5,rfl,hw0,-⟩:=jA hxt;rw[show ad.add (0*7)=ad from by simp[Addr.add]] at hxc;obtain⟨c0,c1,c2,c3,c4,c5,c6⟩:=lO hxc;clear hxt hxc hr c1 c2 c3 c4 c5 c6;have hlp:((sc.length:Int)==0)=false:=by
    have h:¬sc.length=0:=by omega
    simpa using h
   have hl0:(0:Int)<(sc.length:Int):=by omega
   have hl1:(1:Int)<=(sc.length:Int):=by omega
   have hLR:=HSC.o.drop dS (k:=1) (by omega);rw[show sc.drop 1=r from List.ext_getElem? (fun j=>by rw[dH,Nat.add_comm,HDR.o])] at hLR;have hsl:=fun W:World=>rW (P:=Tryz.prog) W (A:=some ad) (n:=sc.length) (c:=sC) (k:=1) (x:=1) (t:=33) (e:=89) (sz:=7) rfl Tryz.underlying33 (by kernel_rfl) (by omega) .i64
   rw[show sc.length-1=r.length by omega] at hsl;obtain⟨A1,hA1⟩:∃ A1,A1=(if sC=1 then some ad else (some ad).map (·.add (1*7))):=⟨_,rfl⟩;rw[<-hA1] at hLR;rw[<-hA1] at hsl;have HLR:=Hd hLR;have HLEN:=Hd hlen;have hrn:r.length<=1000000:=by omega
   have hrc:=hLR.cap;clear hlen hA1 hLR;by_cases hp:s0.parent=-1
   .have tp:(s0.parent !=-1)=false:=by rw[hp];rfl
    rw[if_neg (by simpa using hp)] at HM2;clear hp;go_enter Tryz.func82,Tryz.ntmps82;go_wp2_with fail;go_loopg [31] r.length (fun g i wr=>∃ j:Nat,j+g=r.length/\i=.int .i64 (j:Nat)/\Hid (rV 0 r=rV j (r.drop j))/\Hid (Below w.heap.size w wr))
    case atStart=>exact⟨0,by omega,rfl,Hd rfl,Hd (aB _ _)⟩
    obtain⟨j,hj,rfl,HU,HB⟩:=hrel;rename World=>wo
    cases gk with
    | succ g =>
      have hjj:(j:Int)<(r.length:Int):=by omega
      have hji:(0:Int)<=(j:Int)/\(j:Int)<(r.length:Int):=by omega
      obtain⟨s,hs⟩:=fO (l:=r) (i:=j) (by omega);have HD:=Hd (FO hs);obtain⟨ad1,cs,rfl,hxt,hxc⟩:=(HLR.o.below HB.o).elem dS hs;obtain⟨B1,B2,B3,B4,B5,d1,d2,d3,d4,d5,rfl,hw1,-⟩:=jA hxt;obtain⟨e0,e1,e2,e3,e4,e5,e6⟩:=lO hxc;clear hxt hxc hs;by_cases h1:s.parent<0
      .have HE:Hid (lJ sc nd=false):=Hd (by rw[HM2.o,HU.o,HD.o,decide_eq_false (by omega)];rfl);go_wp2;go_ret;exact⟨by rw[HE.o];try rfl,HB.o.alloc HB.o.size _⟩
      by_cases h2:(j:Int)<s.parent
      .have HE:Hid (lJ sc nd=false):=Hd (by rw[HM2.o,HU.o,HD.o,decide_eq_false (show ¬s.parent<=(j:Int) by omega)];simp);go_wp2;go_ret;exact⟨by rw[HE.o];try rfl,HB.o.alloc HB.o.size _⟩
      have HU2:Hid (rV 0 r=rV (j+1) (r.drop (j+1))):=Hd (by rw[HU.o,HD.o,decide_eq_true (show 0<=s.parent by omega),decide_eq_true (show s.parent<=(j:Int) by omega)];rfl);go_wp2_with fail;go_roundg g
      case measure=>omega
      case rel=>exact⟨j+1,by omega,by go_num,HU2,Hd (HB.o.alloc HB.o.size _)⟩
    | zero =>
      have hjj:¬((j:Int)<(r.length:Int)):=by omega
      rw[HU.o,aP (by omega),rV,eE] at HM2;obtain⟨g0,g1⟩:=gO (HFB.o.below HB.o);clear f0 f1 c0 hsl;go_wp2_with fail;go_loopg [51] nd.length (fun g i wr=>∃ j2:Nat,j2+g=nd.length/\i=.int .i64 (j2:Nat)/\Hid (lJ sc nd=(nd.drop j2).all (rX sc))/\Hid (Below w.heap.size w wr))
      case atStart=>exact⟨0,by omega,rfl,HM2,HB⟩
      clear g0 g1;obtain⟨j2,hj2,rfl,HN,HB2⟩:=hrel;rename World=>wp
      cases gk with
      | zero =>
        have hjj2:¬((j2:Int)<(nd.length:Int)):=by omega
        rw[aP (by omega)] at HN;go_wp2;go_ret;exact⟨by rw[HN.o];try rfl,HB2.o⟩
      | succ g2 =>
        have hjj2:(j2:Int)<(nd.length:Int):=by omega
        have hji2:(0:Int)<=(j2:Int)/\(j2:Int)<(nd.length:Int):=by omega
        obtain⟨n,hn⟩:=fO (l:=nd) (i:=j2) (by omega);have hd:=BG (p:=rX sc) hn;rw[<-HN.o] at hd;have HD2:=Hd hd;have hgnn:n.guards.length<=1000000:=HGN.o n (aD hn);obtain⟨ad2,cs,rfl,hxt,hxc⟩:=(HND.o.below HB2.o).elem Nd.trlen hn;obtain⟨C1,C2,C3,C4,C5,q1,q2,q3,q4,q5,rfl,-,hwn,-,hgl,-⟩:=mE hxt;obtain⟨e0,e1,e2,e3,e4,e5,e6,e7,e8,e9,e10⟩:=EW hxc;have hbn:Below wp.heap.size wp (wp.alloc (.cells (kN n C1 q1 C2 q2 C3 q3 C4 q4 C5 q5) 53)):=(aB _ wp).alloc (aA _) _;obtain⟨m0,m1,m2,m3,m4,m5,m6,m7,m8,m9,m10⟩:=kO (aJ wp (kN n C1 q1 C2 q2 C3 q3 C4 q4 C5 q5) 53);have HBW:=Hd (HB2.o.trans (hbn.mono HB2.o.size));have hfw:=HFB.o.below (HB2.o.trans (hbn.mono HB2.o.size));obtain⟨g0,g1⟩:=gO hfw;have HGD:=Hd (hgl.below hbn);have hgcap:=hgl.cap;have hgmax:=hgl.max;clear hd hn hxt hxc hbn hgl hfw;by_cases h1:n.scope<0
        .have HE:Hid (lJ sc nd=false):=Hd (by rw[HD2.o,show rX sc n=false by unfold rX;rw[if_pos (.inl h1)]];rfl);have h1d:decide (n.scope<0)=true:=decide_eq_true h1;go_wp2_with fail;go_quiet (fail);go_wp2;go_ret;exact⟨by rw[HE.o];try rfl,HBW.o.drewN _⟩
        have h1d:decide (n.scope<0)=false:=decide_eq_false h1;by_cases h2:(sc.length:Int)<=n.scope
        .have HE:Hid (lJ sc nd=false):=Hd (by rw[HD2.o,show rX sc n=false by unfold rX;rw[if_pos (.inr h2)]];rfl);go_wp2_with fail;go_quiet (fail);go_wp2;go_ret;exact⟨by rw[HE.o];try rfl,HBW.o.drewN _⟩
        have HD3:Hid (lJ sc nd=(n.guards.all (uD sc)&&(nd.drop (j2+1)).all (rX sc))):=Hd (by rw[HD2.o,show rX sc n=n.guards.all (uD sc) by unfold rX;rw[if_neg (by omega)]]);go_wp2_with fail;go_quiet (fail);go_wp2_with fail;go_loopg [71] n.guards.length (fun g i wr=>∃ j3:Nat,j3+g=n.guards.length/\i=.int .i64 (j3:Nat)/\Hid (lJ sc nd=((n.guards.drop j3).all (uD sc)&&(nd.drop (j2+1)).all (rX sc)))/\Hid (Below w.heap.size w wr)/\Hid (Below (wp.alloc (.cells (kN n C1 q1 C2 q2 C3 q3 C4 q4 C5 q5) 53)).heap.size (wp.alloc (.cells (kN n C1 q1 C2 q2 C3 q3 C4 q4 C5 q5) 53)) wr))
        case atStart=>exact⟨0,by omega,rfl,HD3,Hd (HBW.o.drewN _),Hd (gC _ _)⟩
        clear m0 m1 m2 m3 m4 m5 m6 m7 m8 m9 m10 g0 g1 e0 e1 e2 e3 e4 e5 e6 e7 e8 e9 e10;obtain⟨j3,hj3,rfl,HN3,HB3,HBM⟩:=hrel;rename World=>wq
        cases gk with
        | zero =>
          have hjj3:¬((j3:Int)<(n.guards.length:Int)):=by omega
          rw[aP (by omega),List.all_nil,eE] at HN3;go_wp2_with fail;go_roundg g2
          case measure=>omega
          case rel=>exact⟨j2+1,by omega,by go_num,HN3,HB3⟩
        | succ g3 =>
          have hjj3:(j3:Int)<(n.guards.length:Int):=by omega
          have hji3:(0:Int)<=(j3:Int)/\(j3:Int)<(n.guards.length:Int):=by omega
          obtain⟨gd,hg⟩:=fO (l:=n.guards) (i:=j3) (by omega);have hd:=BG (p:=uD sc) hg;rw[hd] at HN3;obtain⟨ad3,cs,rfl,hxt,hxc⟩:=(HGD.o.below HBM.o).elem Gd.trlen hg;obtain⟨rfl,hwg,hgs⟩:=Gd.at_iff' hxt;obtain⟨e0,e1⟩:=S9 hxc;have hbn:Below wq.heap.size wq (wq.alloc (.cells #[.int .i64 gd.scope,.string gd.name] 151)):=(aB _ wq).alloc (aA _) _;have hkg:=aJ wq #[.int .i64 gd.scope,.string gd.name] 151;have HKG:=Hd hkg;have HBQ:=Hd (HB3.o.trans (hbn.mono HB3.o.size));obtain⟨m0,m1⟩:=gO hkg;obtain⟨g0,g1⟩:=gO (HFB.o.below HBQ.o);clear hd hg hxt hxc hbn hkg;by_cases h3:gd.scope<0
          .have HE:Hid (lJ sc nd=false):=Hd (by rw[HN3.o,show uD sc gd=false by unfold uD;rw[if_pos (.inl h3)]];rfl);have h3d:decide (gd.scope<0)=true:=decide_eq_true h3;go_wp2_with fail;go_quiet (fail);go_wp2;go_ret;exact⟨by rw[HE.o];try rfl,HBQ.o.drewN _⟩
          have h3d:decide (gd.scope<0)=false:=decide_eq_false h3;by_cases h4:(sc.length:Int)<=gd.scope
          .have HE:Hid (lJ sc nd=false):=Hd (by rw[HN3.o,show uD sc gd=false by unfold uD;rw[if_pos (.inr h4)]];rfl);have h4d:decide ((sc.length:Int)<=gd.scope)=true:=decide_eq_true h4;go_wp2_with fail;go_quiet (fail);go_wp2;go_ret;exact⟨by rw[HE.o];try rfl,HBQ.o.drewN _⟩
          have h4d:decide ((sc.length:Int)<=gd.scope)=false:=decide_eq_false h4;obtain⟨gi,hgi⟩:∃ gi:Nat,gd.scope=(gi:Int):=⟨gd.scope.toNat,by omega⟩;have hgl:gi<sc.length:=by omega
          obtain⟨s,hs⟩:=fO (l:=sc) (i:=gi) hgl;have hgk:uD sc gd=s.t.conds.any (fun c=>fW c.name gd.name):=by
           unfold uD;rw[if_neg (by omega),hgi,show ((gi:Int)).toNat=gi from rfl,hs]
          rw[hgk] at HN3;obtain⟨adS,cs,eS,hxt,hxc⟩:=(HSC.o.below HBQ.o).elem dS hs;injection eS with eS;subst eS;obtain⟨B1,B2,B3,B4,B5,d1,d2,d3,d4,d5,rfl,-,-,-,hcl,-⟩:=jA hxt;obtain⟨s0',s1',s2',s3',s4',s5',s6'⟩:=lO hxc;have hci:(0:Int)<=(gi:Int)/\(gi:Int)<(sc.length:Int):=by omega
          rw[hgi] at m0 HKG h3d h4d;have hsc3:=HCN.o s (aD hs);have HCC:=Hd (fun W (hb:Below (wq.alloc (.cells #[.int .i64 (gi:Int),.string gd.name] 151)).heap.size (wq.alloc (.cells #[.int .i64 (gi:Int),.string gd.name] 151)) W) =>
           KO S 122 #[.pointer (some ⟨wq.heap.size,0,none⟩)] (fun c=>fW c.name gd.name) B2 d2 s.t.conds W (by rw[hgi] at hcl;exact hcl.below hb) hsc3 (callFunc_go Tryz.func122 rfl rfl)
            (fun x hx cs' w' hbw ht=>N3 S x cs' ⟨(gi:Int),gd.name⟩ wq.heap.size w' ht ((HKG.o.below hb).below hbw)))
          rw[hgi] at HBQ;obtain⟨q,hq⟩:∃ q,q=s.t.conds.any (fun c=>fW c.name gd.name):=⟨_,rfl⟩;rw[<-hq] at HN3 HCC;obtain⟨gsc,gnm⟩:=gd;simp only at hgi;subst hgi;clear hs hgk hxt hxc hcl hq hwg hgs;have HBMW:=Hd (HBM.o.alloc HBM.o.size (.cells #[.int .i64 (gi:Int),.string gnm] 151));go_wp2_with fail;generalize hW:wq.alloc (.cells #[.int .i64 (gi:Int),.string gnm] 151)=W at *;go_still_tail 25,(by kernel_rfl);change wpList _ _ _ _ _ W.drew;have HBD:Hid (Below W.heap.size W W.drew):=Hd (gC W 1);go_wp2_with fail;refine(HCC.o _ HBD.o).mono ?_;rintro e w2 ⟨rfl,hb⟩;have HBZ:=Hd (HBQ.o.trans ((HBD.o.trans (hb.mono HBD.o.size)).mono HBQ.o.size));have HBY:=Hd (HBD.o.trans (hb.mono HBD.o.size));clear hb;cases q with
          | false =>
            have HE:Hid (lJ sc nd=false):=Hd (by rw[HN3.o];rfl);go_wp2;go_ret;exact⟨by rw[HE.o];try rfl,HBZ.o⟩
          | true =>
            rw[eE] at HN3;go_wp2_with fail;go_roundg g3
            case measure=>omega
            case rel =>
             exact⟨j3+1,by omega,by go_num,HN3,HBZ,Hd (HBMW.o.trans (HBY.o.mono HBMW.o.size))⟩
   have tp:(s0.parent !=-1)=true:=by simpa using hp
   rw[if_pos hp] at HM2;clear hp;go_enter Tryz.func82,Tryz.ntmps82;go_wp2;go_ret;exact⟨by rw[HM2.o];try rfl,aB _ _⟩
