/- Part of the proof. -/
import Derived.Test.YtjmklmngikpeaaaGreatDoorDg8
set_option maxRecDepth 100000
set_option maxHeartbeats 8000000
set_option linter.unusedVariables false
set_option linter.unusedSimpArgs false
namespace Go.Proofs.YtjmklmngikpeaaaGreatDoor
open Go.RowKit
variable {l nd:List Nd}{sc:List Sc}{B j q:Nat}{n:Nd}{KN:Nd->Prop}{t:Tm}{w:World}
def Mk:Nat->Nat
 | 0=>1
 | k+1=>1+60*Mk k
theorem SD:∀ k,1<=Mk k
 | 0=>aA _
 | k+1=>by simp only[Mk];omega
theorem xU {f:Tm->Nat × Nat} {M:Nat} (hM:1<=M):∀ (l:List Rs) (a:Nat × Nat),(∀ r∈l,∀ τ∈r.inner,(f τ).1<=M/\(f τ).2<=M)->(l.foldl (cnOne f) a).1<=a.1+l.length*M/\(l.foldl (cnOne f) a).2<=a.2+l.length*M
 | [],a,_=>by simp
 | r::l,a,h=>by
   have h1:(cnOne f a r).1<=a.1+M/\(cnOne f a r).2<=a.2+M:=by
    unfold cnOne;split
    .split
     .next τ hτ =>
      have:=h r (.head _) τ (by rw[hτ];simp);exact⟨by show a.1+_<=_;omega,by show a.2+_<=_;omega⟩
     exact⟨aU _ _,aU _ _⟩
    exact⟨by show a.1+1<=_;omega,aU _ _⟩
   have h2:=xU hM l (cnOne f a r) (fun q hq=>h q (.tail _ hq));rw[bR,aQ,fF];exact⟨by omega,by omega⟩
theorem PT {KS:Sc->Prop} {KN:Nd->Prop}:∀ (k d z:Nat) (pre:ByteArray) (t:Tm),IC KS KN k d z pre t->(lF k t).1<=Mk (k+1)/\(lF k t).2<=Mk (k+1)
 | 0,d,z,pre,t,h=>by
   have h1:=xU (f:=fun _=>(0,0)) (M:=1) (aA _) t.res (0,1) (fun r _ τ _=>⟨by simp,by simp⟩);have h2:=h.res.1;simp only[Nat.mul_one] at h1;show (t.res.foldl (cnOne fun _=>(0,0)) (0,1)).1<=61/\(t.res.foldl (cnOne fun _=>(0,0)) (0,1)).2<=61
   exact⟨by omega,by omega⟩
 | k+1,d,z,pre,t,h=>by
   have h1:=xU (f:=lF k) (M:=Mk (k+1)) (SD _) t.res (0,1) (fun r hr τ hτ=>PT k (d+1) 0 _ τ ((h.inner hr hτ).2 0));have h2:=bT (Mk (k+1)) h.res.1;have h3:Mk (k+1+1)=1+60*Mk (k+1):=rfl;rw[h3];show (t.res.foldl (cnOne (lF k)) (0,1)).1<=_/\(t.res.foldl (cnOne (lF k)) (0,1)).2<=_
   exact⟨by omega,by omega⟩
def RM (t:Tm):Prop:=xR 2 t=true/\(lF 2 t).1<=16/\(lF 2 t).2<=16
def xA (t:Tm) (KS:Sc->Prop) (KE:Nd->Prop) (w:World) (e:Ending) (w':World):Prop:=Below w.heap.size w w'/\∃ (n:Nat) (SA NA:Option Addr) (sC nC:Nat) (sc:List Sc) (nd:List Nd),e=.returned (.tuple #[.agg #[.slice SA sc.length sC,.slice NA nd.length nC],.int .i64 (n:Nat)]) /\
 Ls (fun k=>k<w'.heap.size) w' 7 144 Sc.tr SA sC sc/\Ls (fun k=>k<w'.heap.size) w' 11 200 Nd.tr NA nC nd/\(n=0->sc.length<=16/\nd.length<=16/\(∀ s∈sc,KS s/\s.pre.size<=6000000000000000)/\(∀ x∈nd,KE x)/\sc.length=(lF 2 t).2/\nd.length=(lF 2 t).1)/\(RM t->n=0)
theorem xA.zero {KS:Sc->Prop} {KE:Nd->Prop} {w':World} (n:Nat) (hn:n≠0) (hf:¬RM t) (hb:Below w.heap.size w w'):xA t KS KE w (.returned (.tuple #[.agg #[.slice none 0 0,.slice none 0 0],.int .i64 (n:Nat)])) w' :=
 ⟨hb,n,none,none,0,0,[],[],rfl,cF _ _ _ _ (by omega) _,cF _ _ _ _ (by omega) _,fun h=>absurd h hn,fun h=>absurd h hf⟩
theorem pU {S:Nat->Prop} {w:World}:∀ {l:List Nd} {vs:List Value} {i:Nat} {n:Nd},Trs.at S w (l.flatMap Nd.tr) vs->l[i]?=some n->∃ A c,vs[i*11+10]?=some (.slice A n.after.length c)/\Ss S w A c n.after/\vs[i*11]?=some (.string n.id)
 | [],vs,i,n,h,hn=>by simp at hn
 | m::l,vs,i,n,h,hn=>by
   rw[aW] at h;obtain⟨cs,vs',rfl,h1,h2⟩:=Trs.at.app.1 h;have hcl:cs.length=11:=h1.len.trans m.trlen;cases i with
   | zero =>
     simp at hn;subst hn;obtain⟨rcs,G,gc,A0,c0,rfl,g0,g1,g2,g4,g5⟩:=Nd.at_iff.1 h1;obtain⟨A1,a,B1,b,C1,c1,rfl,_⟩:=Rs.at_iff.1 g2;exact⟨A0,c0,rfl,g5,rfl⟩
   | succ i =>
     rw[bH (by omega),hcl,show (i+1)*11+10-11=i*11+10 by omega,bH (by omega),hcl,show (i+1)*11-11=i*11 by omega];exact pU h2 (by simpa using hn)
def SG (KN:Nd->Prop) (j:Nat) (l:List Nd):Prop:=∀ i x,l[i]?=some x->∃ m,KN m/\x=⟨m.id,m.scope,m.r,m.guards,x.after⟩/\x.after.length<=5100/\(j<=i->x=m)
theorem SG.start (hK:∀ n,KN n->n.id.size<=3000000000000000/\n.after.length<=300/\∀ a∈n.after,a.size<=9000000000000000) (h:∀ n∈l,KN n):SG KN 0 l:=fun i x hx=>by
 have h1:=h x (aD hx);exact⟨x,h1,rfl,by have:=(hK x h1).2.1;omega,fun _=>rfl⟩
theorem SG.step (h:SG KN j l) (hn:l[j]?=some n) {af:List ByteArray} (ha:af.length<=5100):SG KN (j+1) (l.set j ⟨n.id,n.scope,n.r,n.guards,af⟩):=fun i x hx=>by
 rw[eY] at hx;split at hx
 .next hji =>
  subst hji;split at hx
  .injection hx with hx;subst hx;obtain⟨m,h1,h2,-,-⟩:=h j n hn;exact⟨m,h1,by rw[h2],ha,fun h=>by omega⟩
  cases hx
 obtain⟨m,h1,h2,h3,h4⟩:=h i x hx;exact⟨m,h1,h2,h3,fun h=>h4 (by omega)⟩
theorem Bz.after {A1 A2 AW:Option Addr} {c1 c2 g cW:Nat} {x1 x2:List Value} {lw:List ByteArray} (h:Bz B w q ⟨A1,c1,x1,A2,c2,x2⟩ sc nd) (hA:A2=some ⟨g,0,none⟩) (hn:nd[j]?=some n)
 (hs:Ss (Sf B (Rz.mu ⟨A1,c1,x1,A2,c2,x2⟩ q) w) w AW cW lw):Bz B (w.setCell ⟨g,j*11+10,none⟩ (.slice AW lw.length cW)) q ⟨A1,c1,x1,A2,c2,x2.set (j*11+10) (.slice AW lw.length cW)⟩ sc (nd.set j ⟨n.id,n.scope,n.r,n.guards,lw⟩):=by
 subst hA;have hg:lP (Rz.mu ⟨A1,c1,x1,some ⟨g,0,none⟩,c2,x2⟩ q) (Rz.mu ⟨A1,c1,x1,some ⟨g,0,none⟩,c2,x2.set (j*11+10) (.slice AW lw.length cW)⟩ q) w (w.setCell ⟨g,j*11+10,none⟩ (.slice AW lw.length cW)) :=
  ⟨(bG _ w).setCell _ _ (fun _=>.inr (.inr rfl)),fun _ _ h=>h⟩
 have hbq:q≠g:=fun e=>h.r2.ne_blk h.box (by decide) (by rw[e];rfl)
 have h12:blk A1≠some g:=by
  rcases h.r1.ne h.r2 (by decide) with e | e
  .show blk A1≠_
   rw[show blk A1=none from e];simp
  exact e
 refine⟨?_,h.hq,h.r1.setOther _ _ h12,?_,h.t1.go hg,?_⟩
 .have:=h.box.setOther ⟨g,j*11+10,none⟩ (.slice AW lw.length cW) hbq;simpa using this
 .have:=h.r2.setAt (j:=j*11+10) (.slice AW lw.length cW);simpa using this
 exact J0 (hs.go hg) (h.t2.go hg) hn
theorem QQ {S:Nat->Prop} {A Bq C D:Option Addr} {a b c d:Nat} (ht:Trs.at S w t.tr [.slice A t.params.length a,.slice Bq t.conds.length b,.slice C t.res.length c,.slice D t.outs.length d]) :
 Trs.at S w (Sc.tr ⟨-1,ByteArray.empty,jK t,[]⟩) [.int .i64 (-1),.string ⟨#[]⟩,.slice A t.params.length a,.slice Bq t.conds.length b,.slice none 0 0,.slice D t.outs.length d,.slice none 0 0]:=by
 obtain⟨A',a',B',b',C',c',D',d',he,h1,h2,h3,h4⟩:=Tm.at_iff.1 ht;simp only[List.cons.injEq,Value.slice.injEq,true_and,and_true] at he;obtain⟨⟨rfl,rfl⟩,⟨rfl,rfl⟩,⟨rfl,rfl⟩,rfl,rfl⟩:=he;exact Sc.at_iff.2 ⟨[.slice A t.params.length a,.slice Bq t.conds.length b,.slice none 0 0,.slice D t.outs.length d],none,0,rfl,(by decide:(Lit.int .i64 (-1)).wf=true),by show (0:Nat)<=_;omega,
  Tm.at_iff.2 ⟨A,a,Bq,b,none,0,D,d,rfl,h1,h2,cF _ _ _ _ (by omega) _,h4⟩,cF _ _ _ _ (by omega) _⟩
theorem Ow.litz {base n sz:Nat} {cs:Array Value} {e:TypeId} (h:Blk w q cs e) (hs:cs.size=n*sz) (hm:n<=maxLen) (hb:base<=q):Ow w base e sz (some ⟨q,0,none⟩) n n cs.toList :=
 ⟨by simp[hs],.inr ⟨q,cs,rfl,hb,h,aA _,hm,eK hs.symm,by rw[aN (by simp[hs])]⟩⟩
theorem Bz.ls {R:Rz} (h:Bz B w q R sc nd) (h1:sc.length<=1000) (h2:nd.length<=1000) :
 Ls (fun k=>k<w.heap.size/\k+1≠B) w 7 144 Sc.tr R.A1 R.c1 sc/\Ls (fun k=>k<w.heap.size/\k+1≠B) w 11 200 Nd.tr R.A2 R.c2 nd :=
 ⟨⟨by omega,by omega,h.r1.rd.cap,h.r1.rd.max,fun ad e _=>⟨(h.r1.blk_lt ad e).2,by have:=(h.r1.blk_lt ad e).1;omega⟩,R.x1,h.r1.rd,h.t1.mono (fun k hk=>hk.2)⟩,
  ⟨by omega,by omega,h.r2.rd.cap,h.r2.rd.max,fun ad e _=>⟨(h.r2.blk_lt ad e).2,by have:=(h.r2.blk_lt ad e).1;omega⟩,R.x2,h.r2.rd,h.t2.mono (fun k hk=>hk.2)⟩⟩
theorem TH (g k:Nat):(⟨g,0,none⟩:Addr).add k=⟨g,k,none⟩:=by
 unfold Addr.add;split
 .next h=>rw[h]
 simp
theorem vO (KS:Sc->Prop) (KN KE:Nd->Prop) (hK:∀ n,KN n->n.id.size<=3000000000000000/\n.after.length<=300/\∀ a∈n.after,a.size<=9000000000000000) (hE:∀ n af,KN n->af.length<=5100->KE ⟨n.id,n.scope,n.r,n.guards,af⟩)
 (S:Nat->Prop) (t:Tm) (cs:List Value) (w:World) (hZ:IC KS KN 2 0 0 ByteArray.empty t) (hroot:KS ⟨-1,ByteArray.empty,jK t,[]⟩) (h:Trs.at S w t.tr cs) (hS:∀ k,S k->k<w.heap.size) :
 Calls Tryz.prog 21 #[.agg cs.toArray] w (xA t KS KE w):=by
 obtain⟨A,a,Bq,b,C,c,D,d,rfl,h1,h2,h3,h4⟩:=Tm.at_iff.1 h;obtain⟨W1,hW1⟩:∃ W1,W1=(w.alloc (.cells (kT t A a Bq b C c D d) 27)).alloc (.cells #[.slice none 0 0,.slice none 0 0] 36):=⟨_,rfl⟩;have hb1:Below w.heap.size w W1:=by rw[hW1];exact((aB _ w).alloc (aA _) _).alloc (by simp) _
 have hbk:Blk W1 w.heap.size (kT t A a Bq b C c D d) 27:=by rw[hW1];exact(aJ w _ _).alloc _
 have hfk:Blk W1 (w.heap.size+1) #[.slice none 0 0,.slice none 0 0] 36:=by
  rw[hW1];have:=aJ (w.alloc (.cells (kT t A a Bq b C c D d) 27)) #[.slice none 0 0,.slice none 0 0] 36;rwa [show (w.alloc (.cells (kT t A a Bq b C c D d) 27)).heap.size=w.heap.size+1 by simp] at this
 have hsz:W1.heap.size=w.heap.size+2:=by rw[hW1];simp
 have HB1:=Hd hb1;have HBK:=Hd hbk;have HFK:=Hd hfk;have HW1:=Hd hW1;have HSZ:=Hd hsz;have H:=Hd h;have HZ:=Hd hZ;have HRO:=Hd hroot;have HK:=Hd hK;have HE:=Hd hE;have HSS:=Hd hS;obtain⟨x0,x1,x2,x3⟩:=j1 hbk;have HCL:=Hd (AT 2 (by omega) S t _ W1 (h.below hb1));clear h h1 h2 h3 h4 hb1 hbk hfk hW1 hsz hZ hroot hK hE hS;go_enter Tryz.func21,Tryz.ntmps21;go_upto_region 1 with fail;rw[<-HW1.o];cases hdp:xR 2 t with
 | false =>
   rw[hdp] at HCL;have HDF:=Hd hdp;clear hdp;go_wp2_with fail;refine HCL.o.mono ?_;rintro e w2 ⟨rfl,hb2⟩;have HFB:=Hd (HFK.o.below hb2);have HB2:=Hd (HB1.o.trans (hb2.mono HB1.o.size));obtain⟨f0,f1⟩:=gO HFB.o;have z0:=HFB.o.frozen 0;have z1:=HFB.o.frozen 1;clear hb2 x0 x1 x2 x3;go_wp2_with fail;obtain⟨r0,r1⟩:=gO (((HFB.o.set 0 (.slice none 0 0)).set 1 (.slice none 0 0)).eq (cs':=#[.slice none 0 0,.slice none 0 0]) (by simp));refine bodyPost_ret (v:=.tuple #[.agg #[.slice none 0 0,.slice none 0 0],.int .i64 170]) (by simp[results,Tryz.results21,go_sem,r0,r1]) rfl ?_;exact xA.zero 170 (by omega) (fun h=>by have:=h.1;rw[HDF.o] at this;cases this) ((HB2.o.setCell (by simp) _).setCell (by simp) _)
 | true =>
   rw[hdp] at HCL;have HDP:=Hd hdp;obtain⟨N,M,hNM⟩:∃ N M,lF 2 t=(N,M):=⟨_,_,rfl⟩;have HNM:=Hd hNM;have hcl:=PT 2 0 0 _ t HZ.o;rw[hNM] at hcl;have hcl2:N<=1000000/\M<=1000000:=by have e:Mk 3=219661:=rfl;rw[e] at hcl;simp only at hcl;omega
   have HCC:Hid (∀ w',Below W1.heap.size W1 w'->Calls Tryz.prog 39 #[.agg (kT t A a Bq b C c D d)] w' fun e w''=>e=.returned (.tuple #[.int .i64 (N:Nat),.int .i64 (M:Nat)])/\Below w'.heap.size w' w''):=Hd (fun w' hb'=>by
    have:=wS 2 S t _ w' HDP.o (by rw[hNM];show N<=_;omega) (by rw[hNM];show M<=_;omega) ((H.out.below HB1.o).below hb');rw[hNM] at this;exact this)
   clear hdp hNM hcl;go_wp2_with fail;refine HCL.o.mono ?_;rintro e w2 ⟨rfl,hb2⟩;have HB2:=Hd hb2;clear hb2 x0 x1 x2 x3;obtain⟨x0,x1,x2,x3⟩:=j1 (HBK.o.below HB2.o);go_wp2_with fail;refine(HCC.o w2 HB2.o).mono ?_;rintro e w3 ⟨rfl,hb3⟩;have HB3:=Hd (HB2.o.trans (hb3.mono HB2.o.size));clear hb3 x0 x1 x2 x3 HB2;obtain⟨x0,x1,x2,x3⟩:=j1 (HBK.o.below HB3.o);have HFB:=Hd (HFK.o.below HB3.o);have HBW:=Hd (HB1.o.trans (HB3.o.mono HB1.o.size));by_cases hbig:16<N∨16<M
   .obtain⟨f0,f1⟩:=gO HFB.o;have z0:=HFB.o.frozen 0;have z1:=HFB.o.frozen 1;have HBG:=Hd hbig;have hn1:(16:Int)<(N:Int)∨¬(16:Int)<(N:Int)/\(16:Int)<(M:Int):=by omega
    rcases hn1 with hn1 | ⟨hn1,hn2⟩;all_goals
     clear hbig
     go_wp2_with fail
     obtain⟨r0,r1⟩:=gO (((HFB.o.set 0 (.slice none 0 0)).set 1 (.slice none 0 0)).eq (cs':=#[.slice none 0 0,.slice none 0 0]) (by simp))
     refine bodyPost_ret (v:=.tuple #[.agg #[.slice none 0 0,.slice none 0 0],.int .i64 3]) (by simp[results,Tryz.results21,go_sem,r0,r1]) rfl ?_
     exact xA.zero 3 (by omega) (fun h=>by have h2:=h.2;rw[HNM.o] at h2;have:=HBG.o;simp only at h2;omega) ((HBW.o.setCell (by simp) _).setCell (by simp) _)
   have hn1:¬(16:Int)<(N:Int):=by omega
   have hn2:¬(16:Int)<(M:Int):=by omega
   have HSM:Hid (N<=16/\M<=16):=Hd (by omega);clear hbig hcl2;have HS3:Hid (w.heap.size+2<=w3.heap.size):=Hd (by have:=HB3.o.size;have:=HSZ.o;omega);have hl1:w.heap.size<w3.heap.size:=(HBK.o.below HB3.o).lt;have hl2:¬(w.heap.size=w3.heap.size):=by omega
   go_wp2_with fail;refine(rbare_any A Bq C D t.params.length a t.conds.length b t.res.length c t.outs.length d _).mono ?_;rintro e w4 ⟨rfl,hb4⟩;have HQ4:=Hd ((aJ w3 #[.slice none 0 0,.slice none 0 0] 113).below hb4);have hb34:Below w3.heap.size w3 w4:=((aB _ w3).alloc (aA _) (.cells #[.slice none 0 0,.slice none 0 0] 113)).trans (hb4.mono (by simp));have HB34:=Hd hb34;have HS4:Hid (w3.heap.size+1<=w4.heap.size):=Hd (by have:=hb4.size;simp at this;omega);obtain⟨q0,q1⟩:=gO HQ4.o;have fq:=HQ4.o.frozen 0;have hql:w3.heap.size<w4.heap.size:=HQ4.o.lt;clear hb4 hb34 x0 x1 x2 x3;go_upto_region 8 with fail;obtain⟨w5,hw5⟩:∃ w5,w5=(w4.setCell ⟨w3.heap.size,0,none⟩ (.slice (some ⟨w4.heap.size,0,none⟩) 1 1)).alloc (.cells #[.int .i64 (-1),.string ⟨#[]⟩,.slice A t.params.length a,.slice Bq t.conds.length b,.slice none 0 0,.slice D t.outs.length d,.slice none 0 0] 89):=⟨_,rfl⟩;rw[<-hw5];have hB5:Below w3.heap.size w3 w5:=by rw[hw5];exact(HB34.o.setCell (by simp) _).alloc (by simp;exact HB34.o.size) _
   have hb0:Below w.heap.size w w5:=HBW.o.trans (hB5.mono HBW.o.size);have hscN:w.heap.size+2<=w4.heap.size:=by have:=HS3.o;have:=HS4.o;omega
   have hTT:Trs.at (Sf (w.heap.size+2) (Rz.mu ⟨some ⟨w4.heap.size,0,none⟩,1,[.int .i64 (-1),.string ⟨#[]⟩,.slice A t.params.length a,.slice Bq t.conds.length b,.slice none 0 0,.slice D t.outs.length d,.slice none 0 0],none,0,[]⟩ w3.heap.size) w5) w5 t.tr [.slice A t.params.length a,.slice Bq t.conds.length b,.slice C t.res.length c,.slice D t.outs.length d]:=(H.out.below hb0).mono (fun k hk=>by
    have h1:=HSS.o k hk;have h2:=HS3.o;have h3:=hb0.size;refine⟨fun hm=>?_,by omega,by omega⟩;rcases hm with hm | hm | hm
    .omega
    .simp[blk] at hm;omega
    simp[blk] at hm)
   have hbz:Bz (w.heap.size+2) w5 w3.heap.size ⟨some ⟨w4.heap.size,0,none⟩,1,[.int .i64 (-1),.string ⟨#[]⟩,.slice A t.params.length a,.slice Bq t.conds.length b,.slice none 0 0,.slice D t.outs.length d,.slice none 0 0],none,0,[]⟩ [⟨-1,ByteArray.empty,jK t,[]⟩] []:=by
    refine⟨?_,HS3.o,?_,dF _ _ _ _,?_,gJ.2 rfl⟩
    .rw[hw5];exact((HQ4.o.set 0 _).eq (by simp)).alloc _
    .have h5:=aJ (w4.setCell ⟨w3.heap.size,0,none⟩ (.slice (some ⟨w4.heap.size,0,none⟩) 1 1)) #[.int .i64 (-1),.string ⟨#[]⟩,.slice A t.params.length a,.slice Bq t.conds.length b,.slice none 0 0,.slice D t.outs.length d,.slice none 0 0] 89;rw[<-hw5,show (w4.setCell ⟨w3.heap.size,0,none⟩ (.slice (some ⟨w4.heap.size,0,none⟩) 1 1)).heap.size=w4.heap.size by simp] at h5;exact Ow.litz (n:=1) h5 rfl (by simp[maxLen]) hscN
    have:=QQ hTT;simpa using this
   have HP:Hid (Calls Tryz.prog 41 #[.pointer (some ⟨w3.heap.size,0,none⟩),.agg (kT t A a Bq b C c D d),.int .i64 0,.slice none 0 0,.slice none 0 0] w5 fun e w'=>e=.returned (.tuple #[])/\∃ (R':Rz) (sc':List Sc) (nd':List Nd),Bz (w.heap.size+2) w' w3.heap.size R' sc' nd'/\lP (Rz.mu ⟨some ⟨w4.heap.size,0,none⟩,1,[.int .i64 (-1),.string ⟨#[]⟩,.slice A t.params.length a,.slice Bq t.conds.length b,.slice none 0 0,.slice D t.outs.length d,.slice none 0 0],none,0,[]⟩ w3.heap.size) (R'.mu w3.heap.size) w5 w'/\PutR KS KN [⟨-1,ByteArray.empty,jK t,[]⟩] sc' [] nd' N M):=Hd (by
    have h:=JL KS KN (w.heap.size+2) w3.heap.size 2 0 t _ 0 ⟨-1,ByteArray.empty,jK t,[]⟩ none 0 [] none 0 [] ⟨some ⟨w4.heap.size,0,none⟩,1,[.int .i64 (-1),.string ⟨#[]⟩,.slice A t.params.length a,.slice Bq t.conds.length b,.slice none 0 0,.slice D t.outs.length d,.slice none 0 0],none,0,[]⟩ [⟨-1,ByteArray.empty,jK t,[]⟩] [] w5 (by omega) HZ.o HDP.o (by rw[HNM.o];show M+1<=_;have:=HSM.o;omega) (by rw[HNM.o];show N+0<=_;have:=HSM.o;omega) hbz hTT rfl (by show (0:Nat)<=_;omega)
     (fun c hc=>by rw[List.mem_singleton.1 hc];show (0:Nat)<=_;omega) (by simp) (fun g hg=>by cases hg) (by simp) (fun g hg=>by cases hg) (cF _ _ _ _ (by omega) _) (cF _ _ _ _ (by omega) _)
    rw[HNM.o] at h;exact h)
   have HBZ:=Hd hbz;have HB0:=Hd hb0;have HF5:=Hd (HFB.o.below hB5);have HSCN:=Hd hscN;obtain⟨x0,x1,x2,x3⟩:=j1 (HBK.o.below (HB3.o.trans (hB5.mono HB3.o.size)));clear hw5 hB5 hb0 hscN hTT hbz q0 q1 fq hql HQ4 HB34;go_wp2_with fail;refine HP.o.mono ?_;rintro e w6 ⟨rfl,R,sc,nd,hb6,hg6,hp6⟩;obtain⟨A1,c1,y1,A2,c2,y2⟩:=R;obtain⟨q0,q1⟩:w6.cell? ⟨w3.heap.size,0,none⟩=some (.slice A1 sc.length c1)/\w6.cell? ⟨w3.heap.size,1,none⟩=some (.slice A2 nd.length c2):=SN hb6.box;have HCN:Hid (sc.length<=16/\nd.length=N/\(∀ s∈sc,KS s/\s.pre.size<=6000000000000000)/\(∀ x∈nd,KN x)/\sc.length=M):=Hd (by
    obtain⟨⟨ls,rfl,h2,h3⟩,ln,rfl,h4,h5⟩:=hp6;have:=HSM.o;refine⟨by simp;omega,by simpa using h4,fun s hs=>?_,fun x hx=>h5 x (by simpa using hx),by simp;omega⟩;rcases List.mem_append.1 hs with hs | hs
    .rw[aR] at hs;subst hs;exact⟨HRO.o,by show (0:Nat)<=_;omega⟩
    exact h3 s hs)
   rw[HCN.o.2.1] at q1;have HB6:=Hd hb6;have HF6:=Hd (HF5.o.go hg6 (fun hm=>by have:=(HBZ.o.mu_lt hm).1;omega));have HBW6:=Hd (hg6.only.below' HB0.o (fun k hk=>by have:=(HBZ.o.mu_lt hk).1;omega));have HBS:Hid (w.heap.size+2<=w6.heap.size):=Hd (by have:=hb6.box.lt;have:=HS3.o;omega);clear hb6 hg6 hp6 x0 x1 x2 x3 HBZ HP;go_wp2_with fail;clear q0 q1;go_loopg [8] N (fun g iv wr=>∃ (j:Nat) (x2:List Value) (nd2:List Nd),j+g=N/\iv=.int .i64 (j:Nat)/\Hid (Bz (w.heap.size+2) wr w3.heap.size ⟨A1,c1,y1,A2,c2,x2⟩ sc nd2)/\Hid (nd2.length=N)/\Hid (SG KN j nd2)/\Hid (Blk wr w6.heap.size #[.slice A1 sc.length c1,.slice A2 N c2] 36)/\Hid (Blk wr (w.heap.size+1) #[.slice none 0 0,.slice none 0 0] 36)/\Hid (Below w.heap.size w wr))
   case atStart=>exact⟨0,y2,nd,by omega,rfl,Hd (HB6.o.below ((aB _ w6).alloc (aA _) _)),Hd HCN.o.2.1,Hd (SG.start HK.o HCN.o.2.2.2.1),Hd (aJ w6 _ _),Hd (HF6.o.alloc _),Hd (HBW6.o.alloc HBW6.o.size _)⟩
   obtain⟨j,x2,nd2,hj,rfl,HBj,HLN,HGD,HFj,HRj,HWj⟩:=hrel;rename World=>wo
   obtain⟨n0,n1⟩:=gO HFj.o;cases gk with
   | zero =>
     have hjj:¬((j:Int)<(N:Int)):=by omega
     obtain⟨f0,f1⟩:=gO HRj.o;have z0:=HRj.o.frozen 0;have z1:=HRj.o.frozen 1;go_wp2_with fail;obtain⟨r0,r1⟩:=gO (((HRj.o.set 0 (.slice A1 sc.length c1)).set 1 (.slice A2 N c2)).eq (cs':=#[.slice A1 sc.length c1,.slice A2 N c2]) (by simp));refine bodyPost_ret (v:=.tuple #[.agg #[.slice A1 sc.length c1,.slice A2 N c2],.int .i64 0]) (by simp[results,Tryz.results21,go_sem,r0,r1]) rfl ?_;have hon:fP (fun k=>k=w.heap.size+1) wo ((wo.setCell ⟨w.heap.size+1,0,none⟩ (.slice A1 sc.length c1)).setCell ⟨w.heap.size+1,1,none⟩ (.slice A2 N c2)):=((bG (fun k=>k=w.heap.size+1) wo).setCell _ _ (fun _=>rfl)).setCell _ _ (fun _=>rfl);have hS:∀ k,k<wo.heap.size/\k+1≠w.heap.size+2->k<((wo.setCell ⟨w.heap.size+1,0,none⟩ (.slice A1 sc.length c1)).setCell ⟨w.heap.size+1,1,none⟩ (.slice A2 N c2)).heap.size:=fun k hk=>by simp;exact hk.1
     obtain⟨l1,l2⟩:=HBj.o.ls (by have:=HCN.o.1;omega) (by rw[HLN.o];have:=HSM.o;omega);refine⟨(HWj.o.setCell (by simp) _).setCell (by simp) _,0,A1,A2,c1,c2,sc,nd2,by rw[HLN.o];rfl,(l1.only hon (fun k hk e=>hk.2 (by omega))).mono hS,(l2.only hon (fun k hk e=>hk.2 (by omega))).mono hS,fun _=>⟨HCN.o.1,by rw[HLN.o];exact HSM.o.1,HCN.o.2.2.1,fun x hx=>?_,by rw[HNM.o];exact HCN.o.2.2.2.2,by rw[HNM.o];exact HLN.o⟩,fun _=>rfl⟩;obtain⟨i,hi⟩:=List.mem_iff_getElem?.1 hx;obtain⟨m,h1,h2,h3,-⟩:=HGD.o i x hi;rw[h2];exact HE.o m _ h1 h3
   | succ g =>
     have hjj:(j:Int)<(N:Int):=by omega
     have hji:(0:Int)<=(j:Int)/\(j:Int)<(N:Int):=by omega
     obtain⟨n,hn⟩:=fO (l:=nd2) (i:=j) (by rw[HLN.o];omega);obtain⟨g2,hA2'⟩:=HBj.o.r2.some0 (by rw[HLN.o];omega);have hA2:A2=some ⟨g2,0,none⟩:=hA2';clear hA2';subst hA2;obtain⟨An,cn,hx,hss,hidx⟩:=pU HBj.o.t2 hn;have hcell:wo.cell? ⟨g2,j*11+10,none⟩=some (.slice An n.after.length cn):=by
      have:=Rd.get (ad:=⟨g2,0,none⟩) HBj.o.r2.rd hx;simpa [Addr.add] using this
     have HKN:Hid (KN n):=Hd (by
      obtain⟨m,h1,h2,h3,h4⟩:=HGD.o j n hn;rw[h4 (aA _)];exact h1)
     have HNF:=Hd (HK.o n HKN.o);have hal:=HNF.o.2.1;have hcc:=hss.cap;have HN:=Hd hn;have HX:=Hd hx;have HSN:=Hd hss;have HMW:Hid (∀ k,wo.heap.size<=k->¬Rz.mu ⟨A1,c1,y1,some ⟨g2,0,none⟩,c2,x2⟩ w3.heap.size k):=Hd (fun k hk hm=>by have:=(HBj.o.mu_lt hm).2;omega);have HWS:Hid (w.heap.size+2<=wo.heap.size/\w6.heap.size<wo.heap.size/\g2<wo.heap.size/\w.heap.size+2<=g2/\g2<w6.heap.size):=Hd (by
      have h1:=HFj.o.lt;have h2:=(HBj.o.r2.blk_lt ⟨g2,0,none⟩ rfl)
      have h3:=(HB6.o.r2.blk_lt ⟨g2,0,none⟩ rfl)
      simp only at h2 h3;have:=HBS.o;omega)
     clear hn hx hss hidx;go_wp2_with fail;clear hcell n0 n1 hjj hji;go_loopg [9,11] n.after.length (fun g v9 v11 wr=>∃ (k:Nat) (AW:Option Addr) (cW:Nat) (lw:List ByteArray),k+g=n.after.length/\v9=.slice AW lw.length cW/\v11=.int .i64 (k:Nat)/\Hid (lw.length<=17*k/\∀ d∈lw,d.size<=9000000000000000)/\Hid (Ow wr wo.heap.size 9 1 AW lw.length cW (lw.map .string))/\Hid (Below wo.heap.size wo wr))
     case atStart=>exact⟨0,none,0,[],by omega,rfl,rfl,Hd ⟨by simp,fun d hd=>by cases hd⟩,Hd (dF _ _ _ _),Hd (aB _ _)⟩
     obtain⟨k,AW,cW,lw,hk,rfl,rfl,HLW,HOW,HBk⟩:=hrel;rename World=>wk
     obtain⟨n0,n1⟩:=gO (HFj.o.below HBk.o);cases gk with
     | zero =>
       have hjj:¬((k:Int)<(n.after.length:Int)):=by omega
       have hji:(0:Int)<=(j:Int)/\(j:Int)<(N:Int):=by omega
       have HBZk:=Hd (HBj.o.below HBk.o);have hcell:wk.cell? ⟨g2,j*11+10,none⟩=some (.slice An n.after.length cn):=by
        have:=Rd.get (ad:=⟨g2,0,none⟩) HBZk.o.r2.rd HX.o;simpa [Addr.add] using this
       have fz:wk.frozen? ⟨g2,j*11+10,none⟩=false:=Ow.fro (g:=g2) HBZk.o.r2 _;go_wp2_with fail;go_roundg g
       case measure=>omega
       case rel =>
        have hws:=HWS.o;have hss:Ss (Sf (w.heap.size+2) (Rz.mu ⟨A1,c1,y1,some ⟨g2,0,none⟩,c2,x2⟩ w3.heap.size) wk) wk AW cW lw:=I0 HOW.o (by omega) (fun i hi=>HMW.o i hi) HLW.o.2 (by have:=HLW.o.1;omega);exact⟨j+1,_,_,by omega,by go_num,Hd (HBZk.o.after rfl HN.o hss),Hd (by rw[dZ];exact HLN.o),Hd (HGD.o.step HN.o (by have:=HLW.o.1;omega)),Hd ((HFj.o.below HBk.o).setOther _ _ (by simp;omega)),Hd ((HRj.o.below HBk.o).setOther _ _ (by simp;omega)),Hd ((HWj.o.trans (HBk.o.mono HWj.o.size)).setCell (by simp;omega) _)⟩
     | succ gg =>
       have hkk:(k:Int)<(n.after.length:Int):=by omega
       have hki:(0:Int)<=(k:Int)/\(k:Int)<(n.after.length:Int):=by omega
       obtain⟨d1,hd1⟩:=fO (l:=n.after) (i:=k) (by omega);obtain⟨adn,hAn,hdc,hds⟩:=(HSN.o.go (bL HBk.o)).str hd1;subst hAn;have hdz:=HNF.o.2.2 d1 (aD hd1);have HD1:=Hd hd1;have HDC:=Hd hdc;have HBZk:=Hd (HBj.o.below HBk.o);have HNK:=Hd (HFj.o.below HBk.o);obtain⟨xs,hxs,hxi⟩:=zV HBZk.o.t2;have hxl:xs.length=N:=by have:=congrArg List.length hxi;simpa [HLN.o] using this
       have HXI:Hid (∀ y∈xs,y.id.size<=3000000000000000):=Hd (fun y hy=>by
        have h1:y.id∈nd2.map Nd.id:=by rw[<-hxi];exact List.mem_map.2 ⟨y,hy,rfl⟩
        obtain⟨x,h2,h3⟩:=List.mem_map.1 h1;obtain⟨i,hi⟩:=List.mem_iff_getElem?.1 h2;obtain⟨m,h4,h5,-,-⟩:=HGD.o i x hi;rw[<-h3,h5];exact(HK.o m h4).1)
       have HXL:=Hd hxl;have hrd:Rd wk 11 (some ⟨g2,0,none⟩) N c2 (xs.flatMap Nc.cs):=by
        have:=HBZk.o.r2.rd;rw[hxs,HLN.o] at this;exact this
       have HRD:=Hd hrd;have HUN:Hid (∀ w',Below wk.heap.size wk w'->Calls Tryz.prog 42 #[.agg #[.slice A1 sc.length c1,.slice (some ⟨g2,0,none⟩) N c2],.string d1] w' fun e w''=>∃ (A:Option Addr) (c:Nat) (l:List Nat),e=.returned (.slice A l.length c)/\Ow w'' w'.heap.size 3 1 A l.length c (cN l)/\Below w'.heap.size w' w''/\l.length<=N/\∀ k∈l,k<N):=Hd (fun w' hb'=>by
        have:=CD A1 (some ⟨g2,0,none⟩) sc.length c1 c2 xs d1 w' (by rw[HXL.o];exact HRD.o.below hb') (by omega) (fun y hy=>by have:=HXI.o y hy;omega) (by rw[HXL.o];have:=HSM.o;omega);rw[HXL.o] at this;exact this)
       have HIS:Hid (∀ w',Below wk.heap.size wk w'->Calls Tryz.prog 43 #[.agg #[.slice A1 sc.length c1,.slice (some ⟨g2,0,none⟩) N c2],.string d1] w' fun e w''=>ML e/\Below w'.heap.size w' w''):=Hd (fun w' hb'=>by
        have:=CS (fun _=>True) A1 (some ⟨g2,0,none⟩) sc.length c1 c2 xs d1 w' (by rw[HXL.o];exact HRD.o.below hb');rw[HXL.o] at this;exact this)
       have HBa:Hid (Below wk.heap.size wk (wk.alloc (.cells #[.string d1] 9))):=Hd ((aB _ wk).alloc (aA _) _);have HIa:Hid (Ow (wk.alloc (.cells #[.string d1] 9)) wk.heap.size 9 1 (some ⟨wk.heap.size,0,none⟩) 1 1 [.string d1]):=Hd (Ow.litz (n:=1) (aJ wk #[.string d1] _) rfl (by simp[maxLen]) (aA _));clear hd1 hxs hxi hxl hrd;go_wp2_with fail;refine cK 6 (fun w'=>w'.cell? ⟨w6.heap.size,0,none⟩=some (.slice A1 sc.length c1)/\w'.cell? ⟨w6.heap.size,1,none⟩=some (.slice (some ⟨g2,0,none⟩) N c2)/\w'.cell? (adn.add k)=some (.string d1)) (by kernel_rfl) (by go_keep) (fun hH0=>?_);simp only[aQ,bC,aX,bA,aZ,Nat.reduceAdd];refine aL hH0 0 ?_;refine aL hH0 1 ?_;refine aL hH0 2 ?_;refine aL hH0 3 ?_;refine aL hH0 4 ?_;refine cT 5 fun K hK=>?_
       go_simp;go_at_call 42;(with_reducible refine(HUN.o _ HBa.o.drew).mono ?_);rintro e w7 ⟨AU,cU,lu,rfl,hou,hbu,hlu,hlu2⟩;have hb7:Below wk.heap.size wk w7:=HBa.o.drew.trans (hbu.mono (by simp));obtain⟨m0,m1⟩:=gO (HNK.o.below hb7);have m2:=(hb7.cell (aF wk _ HDC.o)).trans HDC.o;have HB7:=Hd hb7;have HBb:=Hd hbu;have HOU:=Hd hou;have HLU:=Hd (And.intro hlu hlu2);clear hou hbu hlu hlu2 hb7;refine cM hK fun hH1=>?_
       clear hK K hH0;try simp only[Act.put,aE,aH,aI]
       refine dY fun K hK=>?_
       go_simp;refine hK.out _ _ ?_;clear hK K hH1;go_wp2_with fail;refine cK 6 (fun w'=>w'.cell? ⟨w6.heap.size,0,none⟩=some (.slice A1 sc.length c1)/\w'.cell? ⟨w6.heap.size,1,none⟩=some (.slice (some ⟨g2,0,none⟩) N c2)/\w'.cell? (adn.add k)=some (.string d1)) (by kernel_rfl) (by go_keep) (fun hH0=>?_);simp only[aQ,bC,aX,bA,aZ,Nat.reduceAdd];refine aL hH0 0 ?_;refine aL hH0 1 ?_;refine aL hH0 2 ?_;refine aL hH0 3 ?_;refine aL hH0 4 ?_;refine cT 5 fun K hK=>?_
       go_simp;go_at_call 43;(with_reducible refine(HIS.o _ HB7.o.drew).mono ?_);rintro e w8 ⟨⟨bb,rfl⟩,hb8⟩;have hb7:Below wk.heap.size wk w8:=HB7.o.drew.trans (hb8.mono (by simpa using HB7.o.size));obtain⟨l0,l1⟩:=gO (HNK.o.below hb7);have l2:=(hb7.cell (aF wk _ HDC.o)).trans HDC.o;have HB8:=Hd hb7;have HBc:=Hd hb8;clear hb8 hb7;refine cM hK fun hH1=>?_
       clear hK K hH0;try simp only[Act.put,aE,aH,aI]
       refine dY fun K hK=>?_
       go_simp;refine hK.out _ _ ?_;clear hK K hH1;have HO8:Hid (Ow w8 wk.heap.size 3 1 AU lu.length cU (cN lu)):=Hd ((HOU.o.le (by simp)).drew.below HBc.o);have HI8:Hid (Ow w8 wk.heap.size 9 1 (some ⟨wk.heap.size,0,none⟩) 1 1 [.string d1]):=Hd ((HIa.o.drew.below HBb.o).drew.below HBc.o);go_upto_if 85 with (fail);go_cut [12] from 85 to 85 (fun iv wx=>∃ (AI:Option Addr) (cI:Nat) (li:List ByteArray),iv=.slice AI li.length cI/\Hid (li.length<=1/\∀ d∈li,d.size<=9000000000000000)/\Hid (Ow wx wk.heap.size 9 1 AI li.length cI (li.map .string))/\wx=w8)
       case first =>
        cases bb with
        | true =>
          go_wp2_with fail;go_meet;exact⟨some ⟨wk.heap.size,0,none⟩,1,[d1],rfl,Hd ⟨by simp,fun d hd=>by rw[List.mem_singleton.1 hd];exact hdz⟩,HI8,rfl⟩
        | false =>
          go_wp2_with fail;go_meet;exact⟨none,0,[],rfl,Hd ⟨by simp,fun d hd=>by cases hd⟩,Hd (dF _ _ _ _),rfl⟩
       obtain⟨AI,cI,li,rfl,HLI,HOI,hw8⟩:=hcut;subst hw8;clear HUN HIS HBa HIa HI8 HBb HBc HOU n0 n1 hdc m0 m1 m2 l0 l1 l2;have HOU:=HO8;have HBc:=HB8;clear HO8 HB8;have hcu:=HOU.o.cap;have hsm:=HSM.o;have hlun:=HLU.o.1;go_wp2_with fail;go_loopg [12,14] lu.length (fun g iv v14 wr=>∃ (i:Nat) (AI:Option Addr) (cI:Nat) (li:List ByteArray),i+g=lu.length/\iv=.slice AI li.length cI/\v14=.int .i64 (i:Nat)/\Hid (li.length<=1+i/\∀ d∈li,d.size<=9000000000000000)/\Hid (Ow wr wk.heap.size 9 1 AI li.length cI (li.map .string))/\Hid (Ow wr wk.heap.size 3 1 AU lu.length cU (cN lu))/\Hid (Below wk.heap.size wk wr))
       case atStart=>exact⟨0,AI,cI,li,by omega,rfl,rfl,Hd ⟨by have:=HLI.o.1;omega,HLI.o.2⟩,HOI,HOU,HBc⟩
       obtain⟨i,AI3,cI3,li3,hi,rfl,rfl,HLI3,HOI3,HOU3,HB3k⟩:=hrel;rename World=>wl
       clear HOI HOU HBc HLI;have hci3:=HOI3.o.cap;have hli3:=HLI3.o.1;cases gk with
       | succ g3 =>
         have hii:(i:Int)<(lu.length:Int):=by omega
         have hij:(0:Int)<=(i:Int)/\(i:Int)<(lu.length:Int):=by omega
         obtain⟨kk,hkk⟩:=fO (l:=lu) (i:=i) (by omega);obtain⟨adu,hAU,hcu4⟩:=HOU3.o.rd.at_ i (.int .i64 (kk:Int)) (by simp[cN,hkk]);subst hAU;have hkl:=HLU.o.2 kk (aD hkk);have hkn:(0:Int)<=(kk:Int)/\(kk:Int)<(N:Int):=by omega
         obtain⟨x,hx⟩:=fO (l:=nd2) (i:=kk) (by rw[HLN.o];exact hkl);have HBE:Hid (Below wo.heap.size wo wl):=Hd (HBk.o.trans (HB3k.o.mono HBk.o.size));have hbzl:=HBj.o.below HBE.o;obtain⟨_,_,_,_,hid⟩:=pU hbzl.t2 hx;have hidc:wl.cell? ⟨g2,kk*11,none⟩=some (.string x.id):=by
          have:=Rd.get (ad:=⟨g2,0,none⟩) hbzl.r2.rd hid;rwa [TH] at this
         have hxs:x.id.size<=3000000000000000:=by
          obtain⟨m,h4,h5,-,-⟩:=HGD.o kk x hx;rw[h5];exact(HK.o m h4).1
         have HKK:=Hd hkk;have HGC:Hid (∀ w',Below wo.heap.size wo w'->w'.cell? ⟨g2,kk*11,none⟩=some (.string x.id)):=Hd (fun w' hb=>by
          have hz:=HBj.o.below hb;obtain⟨_,_,_,_,hid⟩:=pU hz.t2 hx;have:=Rd.get (ad:=⟨g2,0,none⟩) hz.r2.rd hid;rwa [TH] at this)
         obtain⟨n0,n1⟩:=gO (HFj.o.below HBE.o);have hsz:wk.heap.size<=wl.heap.size:=HB3k.o.size;have HIC:=Hd hidc;have HN1:=Hd n1;have HBR:Hid (g2<wk.heap.size/\w6.heap.size<wk.heap.size):=Hd (by have:=HWS.o;have:=HBk.o.size;omega);clear hkk hx hbzl hid n0;go_wp2_with fail;refine cK 12 (fun w'=>w'.cell? ⟨w6.heap.size,1,none⟩=some (.slice (some ⟨g2,0,none⟩) N c2)/\w'.cell? (adu.add i)=some (.int .i64 (kk:Int))/\w'.cell? ⟨g2,kk*11,none⟩=some (.string x.id)) (by kernel_rfl) (by go_keep) (fun hH0=>?_);simp only[aQ,bC,aX,bA,aZ,Nat.reduceAdd];refine aL hH0 0 ?_;refine aL hH0 1 ?_;refine aL hH0 2 ?_;refine aL hH0 3 ?_;refine aL hH0 4 ?_;refine aL hH0 5 ?_;refine aL hH0 6 ?_;refine aL hH0 7 ?_;refine aL hH0 8 ?_;refine aL hH0 9 ?_;refine cT 10 fun K hK=>?_
         go_simp;refine cM hK fun hH1=>?_
         clear hK K hH0;try simp only[Act.put,aE,aH,aI]
         refine cT 11 fun K hK=>?_
         refine jR info_str Tryz.underlying42 rfl (by omega) rfl (.tmp 92) (.tmp 102) rfl wk.heap.size AI3 cI3 li3.length (li3.map .string) (by rfl) (HOI3.o.drew.alloc (.cells #[.string x.id] 9)) (some ⟨wl.drew.heap.size,0,none⟩) 1 1 [.string x.id] (by rfl) (cQ wl.drew 1 1 #[.string x.id] 9 (0,0) rfl (by simp[maxLen])) (by simp[Value.oneCell']) (by omega) (by omega) (by simp;omega) ?_;intro A9 c9 w9 ho9 hg9 hat9;have HO9:=Hd ho9;have hbA:Below wk.heap.size wk w9:=((HB3k.o.drew).alloc (by simp;omega) (.cells #[.string x.id] 9)).grown hg9 (by simp;omega) (fun j hj=>(HOI3.o.lt hj).1);have HBA:=Hd hbA;have hou9:=(HOU3.o.drew.alloc (.cells #[.string x.id] 9)).grown hg9 (HOU3.o.ne HOI3.o (by decide));have HOU9:=Hd hou9;have p0:w9.cell? (adu.add i)=some (.int .i64 (kk:Int)):=Rd.get hou9.rd (by simp[cN,HKK.o]);have hb9:=HBk.o.trans (hbA.mono HBk.o.size);obtain⟨p1,p2⟩:=gO (HFj.o.below hb9);have p3:w9.cell? ⟨g2,kk*11,none⟩=some (.string x.id):=HGC.o w9 hb9;clear ho9 hg9 hat9 hbA hou9 hb9;refine cM hK fun hH2=>?_
         clear hK K hH1;try simp only[Act.put,aE,aH,aI]
         refine dY fun K hK=>?_
         go_simp;refine hK.out _ _ ?_;clear hK K hH2;go_wp2_with fail;go_roundg g3
         case measure=>omega
         case rel =>
          refine⟨i+1,A9,c9,li3++[x.id],by omega,by simp,by go_num,Hd ⟨by simp;omega,fun d hd=>?_⟩,Hd ?_,HOU9,HBA⟩
          .rcases List.mem_append.1 hd with hd | hd
           .exact HLI3.o.2 d hd
           rw[aR] at hd;subst hd;omega
          have:=HO9.o;simpa using this
       | zero =>
         have hii:¬((i:Int)<(lu.length:Int)):=by omega
         have HNE:Hid (blk AI3=none∨blk AI3≠blk AW):=Hd (by
          cases hb:blk AI3 with
          | none=>exact .inl rfl
          | some g1 =>
            right;intro e;have h1:=(HOI3.o.lt hb).1;have h2:=(HOW.o.lt e.symm).2;omega)
         have hlw:=HLW.o.1;go_wp2_with fail;go_loopg [9,15] li3.length (fun g v9 v15 wr=>∃ (i4:Nat) (AW4:Option Addr) (cW4:Nat) (lw4:List ByteArray),i4+g=li3.length/\v9=.slice AW4 lw4.length cW4/\v15=.int .i64 (i4:Nat)/\Hid (lw4.length<=lw.length+i4/\∀ d∈lw4,d.size<=9000000000000000)/\Hid (Ow wr wo.heap.size 9 1 AW4 lw4.length cW4 (lw4.map .string))/\Hid (Ow wr wk.heap.size 9 1 AI3 li3.length cI3 (li3.map .string))/\Hid (blk AI3=none∨blk AI3≠blk AW4)/\Hid (Below wo.heap.size wo wr))
         case atStart=>exact⟨0,AW,cW,lw,by omega,rfl,rfl,Hd ⟨by omega,HLW.o.2⟩,Hd (HOW.o.below HB3k.o),HOI3,HNE,Hd (HBk.o.trans (HB3k.o.mono HBk.o.size))⟩
         obtain⟨i4,AW4,cW4,lw4,hi4,rfl,rfl,HLW4,HOW4,HOI4,HNE4,HB4⟩:=hrel;rename World=>wm
         clear HOI3 HNE;have hcw4:=HOW4.o.cap;have hlw4:=HLW4.o.1;cases gk with
         | zero =>
           have hii4:¬((i4:Int)<(li3.length:Int)):=by omega
           go_wp2_with fail;go_roundg gg
           case measure=>omega
           case rel=>exact⟨k+1,AW4,cW4,lw4,by omega,rfl,by go_num,Hd ⟨by omega,HLW4.o.2⟩,HOW4,HB4⟩
         | succ g4 =>
           have hii4:(i4:Int)<(li3.length:Int):=by omega
           have hij4:(0:Int)<=(i4:Int)/\(i4:Int)<(li3.length:Int):=by omega
           obtain⟨dd,hdd⟩:=fO (l:=li3) (i:=i4) (by omega);obtain⟨adi,hAI,hci4⟩:=HOI4.o.rd.at_ i4 (.string dd) (by rw[eG,hdd];rfl);subst hAI;have hds:=HLI3.o.2 dd (aD hdd);have HHS:=Hd (JK (fun _=>True) AW4 cW4 lw4 dd wm (Ls.mk_strs HOW4.o.rd (by omega) (fun d hd=>by have:=HLW4.o.2 d hd;omega) (fun _ _ _=>trivial)));clear hdd;cases hh:(lw4.any fun y=>fW y dd) with
           | true =>
             rw[hh] at HHS;clear hh;go_wp2_with fail;refine HHS.o.mono ?_;rintro e w9 ⟨rfl,rfl⟩;go_wp2_with fail;go_roundg g4
             case measure=>omega
             case rel=>exact⟨i4+1,AW4,cW4,lw4,by omega,rfl,by go_num,Hd ⟨by omega,HLW4.o.2⟩,HOW4,HOI4,HNE4,HB4⟩
           | false =>
             rw[hh] at HHS;clear hh;go_wp2_with fail;refine HHS.o.mono ?_;rintro e w9 ⟨rfl,rfl⟩;have hbs:wo.heap.size<=wm.heap.size:=HB4.o.size;go_wp2_with (at_builtin;refine wpList_row info_str Tryz.underlying42 rfl (by omega) rfl (.tmp 117) (.tmp 122) rfl wo.heap.size AW4 cW4 lw4.length (lw4.map .string) rfl (HOW4.o.alloc _) (some ⟨wm.heap.size,0,none⟩) 1 1 [.string dd] rfl (cQ wm 1 1 #[.string dd] _ _ rfl (by simp[maxLen])) (by simp[Value.oneCell']) (by omega) (by omega) (by simp;omega) ?_;intro A9 c9 w9 ho hgw hat;have HO9:=Hd ho;have HG9:=Hd hgw;have HT9:=Hd hat;clear ho hgw hat);go_roundg g4
             case measure=>omega
             case rel =>
              refine⟨i4+1,A9,c9,lw4++[dd],by omega,by simp,by go_num,Hd ⟨by simp;omega,fun d hd=>?_⟩,Hd (by have:=HO9.o;simpa using this),Hd ((HOI4.o.alloc _).grown HG9.o HNE4.o),Hd ?_,Hd ((HB4.o.alloc HB4.o.size _).grown HG9.o (by simp;omega) (fun j hj=>(HOW4.o.lt hj).1))⟩
              .rcases List.mem_append.1 hd with hd | hd
               .exact HLW4.o.2 d hd
               rw[aR] at hd;subst hd;omega
              rcases HT9.o with rfl | rfl
              .exact HNE4.o
              right;intro e;have:=(HOI4.o.lt (g:=wm.heap.size+1) (e.trans (by simp[blk]))).2;omega
