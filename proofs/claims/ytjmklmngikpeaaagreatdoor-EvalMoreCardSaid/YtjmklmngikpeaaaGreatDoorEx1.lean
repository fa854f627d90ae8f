/- Part of the proof. -/
import Derived.Test.YtjmklmngikpeaaaGreatDoorEw7
import Derived.Test.YtjmklmngikpeaaaGreatDoorDfA
import Derived.Test.YtjmklmngikpeaaaGreatDoorEx4
set_option linter.unusedVariables false
set_option linter.unusedSimpArgs false
namespace Go.Proofs.YtjmklmngikpeaaaGreatDoor
open Go.RowKit
variable {P:List (List Gv)}{args given:List Gv}{nd:List Nd}{sc:List Sc}{p:Pm}{r:Rs}{t:Tm}{v:Vl}
theorem PK:∀ (k:Nat) (x:Ex),xW k x<=3000->(exOk x/\exTx x)/\x.text.size<=3000
 | 0,x,h=>by simp[xW] at h
 | k+1,x,h=>by
   simp only[xW] at h;split at h
   .omega
   next hl =>
   have h1:=uM (f:=xW k) x.l (1+min (x.text.size+x.name.size+x.attr.size) 10000);have h2:=qX (f:=xW k) x.l (1+min (x.text.size+x.name.size+x.attr.size) 10000) (by omega);have h4:=@Nat.min_def (x.text.size+x.name.size+x.attr.size) 10000;have h5:x.text.size<=3000/\x.name.size<=3000/\x.attr.size<=3000:=by split at h4<;>exact⟨by omega,by omega,by omega⟩
   have h6:∀ y∈x.l,exOk y/\exTx y:=fun y hy=>(PK k y (by have:=kE (f:=xW k) hy;omega)).1
   exact⟨⟨exOk.mk (by omega) (by omega) (by omega) (fun y hy=>(h6 y hy).1),exTx.mk (by omega) (by omega) (fun y hy=>(h6 y hy).2)⟩,h5.1⟩
theorem lR {x:Ex} (h:iL x=false):(exOk x/\exTx x)/\x.text.size<=3000:=by
 have h1:¬3000<xW 30 x:=by simpa [iL] using h
 exact PK 30 x (by omega)
theorem SX (k:Nat) (v:Vl) (h:vW (k+1) v<=5000):v.text.size<=5000:=by
 simp only[vW] at h;split at h
 .omega
 have h2:=uM (f:=vW k) v.list (1+min v.text.size 10000+(v.keys.map fun s=>min s.size 10000).sum);have h4:=@Nat.min_def v.text.size 10000;split at h4<;>omega
theorem j6 (h:iS v=false):v.text.size<=5000:=by
 have h1:¬5000<vW 30 v:=by simpa [iS] using h
 have h2:vW 30 v<=5000:=by omega
 exact SX 29 v h2
theorem sm_mem {α:Type} {tr:α->List Tr}:∀ {l:List α},Trs.sm (l.flatMap tr)->∀ x∈l,Trs.sm (tr x)
 | [],_,x,hx=>by cases hx
 | y::l,h,x,hx=>by
   rw[aW] at h;rcases List.mem_cons.1 hx with rfl | hx
   .exact h.left
   exact sm_mem h.right x hx
theorem Tm.sm_res (h:Trs.sm t.tr):∀ r∈t.res,Trs.sm r.tr:=by
 cases t with
 | mk ps cs rs os =>
   have h2:Trs.sm (Rs.trs rs):=h.2.2.1;rw[Rs.trs_eq] at h2;exact sm_mem h2
theorem Rs.sm_in (h:Trs.sm r.tr):∀ t∈r.inner,Trs.sm t.tr:=by
 cases r with
 | mk i t c ps ds b l =>
   have h2:Trs.sm (Tm.trs l):=h.2.2.2.2.2.2.1;rw[Tm.trs_eq] at h2;exact sm_mem h2
theorem Rs.sm_z (h:Trs.sm r.tr) (hd:r.depends.length<=60):rZ r:=by
 cases r with
 | mk i t c ps ds b l =>
   have h1:i.size<=140737488351232:=h.1;have h2:t.size<=140737488351232:=h.2.1;have h3:c.size<=140737488351232:=h.2.2.1;refine⟨by show i.size+t.size+c.size<=_;omega,hd,fun d hdm=>?_⟩;have h4:Trs.sm (ds.flatMap vL):=h.2.2.2.2.1;have h5:d.size<=140737488351232:=(sm_mem h4 d hdm).1;omega
structure I5 (s:Sc):Prop where
 pl:s.t.params.length<=60
 al:s.args.length<=60
 ol:s.t.outs.length<=60
 cl:s.t.conds.length<=60
 co:CsOk s.t.conds
 ps:∀ p∈s.t.params,iM p/\p.dflt.text.size<=5000
 ar:∀ a∈s.args,(exOk a.e/\exTx a.e)/\a.e.text.size<=3000
 ou:∀ o∈s.t.outs,exOk o.e/\exTx o.e
def T3 (n:Nd):Prop:=(n.id.size<=3000000000000000/\n.after.length<=300/\∀ a∈n.after,a.size<=9000000000000000)/\n.guards.length<=1000/\n.r.props.length<=60/\∀ p∈n.r.props,exOk p.e/\exTx p.e
def Q0 (n:Nd):Prop:=n.id.size<=3000000000000000/\n.guards.length<=1000/\n.r.props.length<=60/\∀ p∈n.r.props,exOk p.e/\exTx p.e
theorem S1 (n:Nd) (af:List ByteArray) (h:T3 n) (ha:af.length<=5100):Q0 ⟨n.id,n.scope,n.r,n.guards,af⟩:=⟨h.1.1,h.2.1,h.2.2.1,h.2.2.2⟩
theorem I4 {k:Nat} (h:t.gw (k+1)) {z:Int} {pre:ByteArray} {args:List Pr} (ha:args.length<=60) (he:∀ a∈args,iL a.e=false):I5 ⟨z,pre,jK t,args⟩:=by
 obtain⟨⟨h1,h2⟩,⟨h3,h4⟩,⟨h5,h6⟩,-⟩:=h;refine⟨h1,ha,h5,h3,h4,fun p hp=>?_,fun a h=>lR (he a h),fun o ho=>(lR (h6 o ho)).1⟩;obtain⟨g1,g2,g3⟩:=h2 p hp;exact⟨⟨by omega,pJ g2,fun v hv=>pJ (g3 v hv)⟩,j6 g2⟩
theorem PZ:∀ (k d j z:Nat) (pre:ByteArray) (t:Tm),k+d<=4->t.gw (k+j+1)->Trs.sm t.tr->IC I5 T3 k d z pre t
 | 0,d,j,z,pre,t,hd,h,hs=>by
   obtain⟨-,-,-,h6,h7⟩:=h;refine⟨by omega,fun r hr=>?_⟩;obtain⟨⟨h8,h9,h10⟩,h11⟩:=h7 r hr;exact⟨Rs.sm_z (Tm.sm_res hs r hr) h10,fun gs af hi hg ha hs=>⟨⟨hi,by show af.length<=_;omega,hs⟩,by show gs.length<=_;split at hg<;>omega,by show r.props.length<=_;omega,fun p hp=>(lR (h9 p hp)).1⟩⟩
 | k+1,d,j,z,pre,t,hd,h,hs=>by
   obtain⟨-,-,-,h6,h7⟩:=h;refine⟨by omega,fun r hr=>?_⟩;obtain⟨⟨h8,h9,h10⟩,h11⟩:=h7 r hr;refine⟨⟨Rs.sm_z (Tm.sm_res hs r hr) h10,fun gs af hi hg ha hs=>⟨⟨hi,by show af.length<=_;omega,hs⟩,by show gs.length<=_;split at hg<;>omega,by show r.props.length<=_;omega,fun p hp=>(lR (h9 p hp)).1⟩⟩,fun τ hτ=>?_⟩;have h12:τ.gw (k+j+1):=by
    have:=h11 τ hτ;rwa [show k+1+j=k+j+1 by omega] at this
   exact⟨fun z pre _=>I4 h12 h8 h9,fun z'=>PZ k (d+1) j z' _ τ (by omega) h12 (Rs.sm_in (Tm.sm_res hs r hr) τ hτ)⟩
theorem F6 (h:pKind p v=true):(v.keys=[]/\v.list=[])/\v.kind≠0:=by
 unfold pKind at h;split at h
 .cases h
 next hc =>
 have hc:vChk v=0:=by simpa using hc
 have hk:v.kind=2∨v.kind=3:=by
  split at h
  .exact .inl (by simpa using h)
  split at h
  .next h3=>exact .inr h3
  cases h
 have ha:vAlone v=0:=by
  unfold vChk at hc;split at hc
  .cases hc
  split at hc
  .next x hx =>
   have:=eA hx;simp at this;exact absurd hc this
  next hx =>
  have:=(List.find?_eq_none.1 hx) v (by simp[vWalk]);simpa using this
 unfold vAlone at ha;rw[if_neg (by rcases hk with hk | hk<;>(rw[hk];decide)),if_neg (by rcases hk with hk | hk<;>(rw[hk];simp))] at ha;split at ha
 .cases ha
 next hr =>
 unfold NP at hr;simp only[eD,not_or,decide_eq_true_eq] at hr;have h4:=hr.2.2.2;rw[if_neg (by rcases hk with hk | hk<;>(rw[hk];decide)),if_neg (by rcases hk with hk | hk<;>(rw[hk];decide))] at h4;exact⟨⟨List.length_eq_zero_iff.1 (by omega),List.length_eq_zero_iff.1 (by omega)⟩,by omega⟩
theorem vS {g:Gv} (h:pMayV p g=true):(g.v.keys=[]/\g.v.list=[])/\(g.unknown=true∨g.v.kind≠0):=by
 unfold pMayV at h;split at h
 .cases h
 split at h
 .have:=F6 (Bool.and_eq_true_iff.1 h).1;exact⟨this.1,.inr this.2⟩
 next hu =>
 have hu:g.unknown=true:=by simpa using hu
 split at h
 .cases h
 split at h
 .cases h
 unfold oO at h;simp only[bJ,decide_eq_true_eq] at h;exact⟨⟨List.length_eq_zero_iff.1 h.2.2.2.2.2,List.length_eq_zero_iff.1 h.2.2.2.2.1⟩,.inl hu⟩
def RE (g:Gv):Prop:=g.v.text.size<=6000/\(g.v.keys=[]/\g.v.list=[])/\(g.unknown=true∨g.v.kind≠0)
theorem pOne_sz {v:Gv} (hp:p.dflt.text.size<=6000) (hg:∀ g∈given,g.v.text.size<=6000) (h:pOne given p=some v):RE v:=by
 unfold pOne at h;split at h
 .next g hf =>
  split at h
  .next hm=>injection h with h;subst h;exact⟨hg _ (gFind_name hf).2,vS hm⟩
  cases h
 split at h
 .cases h
 split at h
 .next hm=>injection h with h;subst h;exact⟨hp,vS hm⟩
 cases h
theorem pAll_sz {given:List Gv} (hg:∀ g∈given,g.v.text.size<=6000):∀ {l:List Pm} {o:List Gv},(∀ p∈l,p.dflt.text.size<=6000)->jE given l=some o->∀ g∈o,RE g
 | [],o,_,h,g,hgm=>by
   unfold jE at h;injection h with h;subst h;cases hgm
 | p::r,o,hl,h,g,hgm=>by
   unfold jE at h;split at h
   .cases h
   next v hv =>
   obtain⟨x,hx,rfl⟩:=Option.map_eq_some_iff.1 h;rcases List.mem_cons.1 hgm with rfl | hgm
   .exact pOne_sz (hl p (.head _)) hg hv
   exact pAll_sz hg (fun q hq=>hl q (.tail _ hq)) hx g hgm
theorem vT {l:List Pm} {o:List Gv} (h:jC l given=.inr o):jE given l=some o:=by
 unfold jC at h;split at h
 .cases h
 split at h
 .cases h
 split at h
 .cases h
 split at h
 .cases h
 next x hx=>injection h with h;subst h;exact hx
theorem argOf_sz {P:List Gv} {a:Pr} (ha:a.e.text.size<=3000) (hP:∀ g∈P,g.v.text.size<=6000):(jY P a).v.text.size<=6000:=by
 unfold jY;split
 .next g hg =>
  show g.v.text.size<=_
  unfold plainG at hg;split at hg
  .cases hg
  split at hg
  .injection hg with hg;subst hg;show a.e.text.size<=_;omega
  split at hg
  .injection hg with hg;subst hg;show ByteArray.empty.size<=_;decide
  split at hg
  .next k hk =>
   obtain⟨p,hp,rfl⟩:=Option.map_eq_some_iff.1 hg;exact hP p (aD hp)
  cases hg
 show ByteArray.empty.size<=_;decide
theorem tT (h:fY sc nd args=.inr P) (hs:∀ s∈sc,I5 s) (ha:∀ g∈args,g.v.text.size<=6000):∀ (k:Nat),(P.getD k []).length<=60/\∀ g∈P.getD k [],RE g:=by
 obtain⟨hM,hl,hr⟩:=kI h;intro k;induction k using Nat.strongRecOn with
 | ind k ih =>
   by_cases hk:k<sc.length
   .obtain⟨s,hsk⟩:=fO (l:=sc) (i:=k) hk;obtain⟨o,ho,hb⟩:=hr k s hsk;rw[aG,ho];have hw:=hs s (aD hsk);refine⟨?_,pAll_sz ?_ (fun p hp=>by have:=(hw.ps p hp).2;omega) (vT hb)⟩
    .show o.length<=_
     rw[mX (vT hb)];exact hw.pl
    unfold givenOf;split
    .exact ha
    next h0 =>
    intro g hg;obtain⟨a,ham,rfl⟩:=List.mem_map.1 hg;have hp:=sK hM (by omega) hsk;exact argOf_sz (hw.ar a ham).2 (fun g hg=>((ih s.parent.toNat (by omega)).2 g hg).1)
   rw[aG,bN (by omega)];exact⟨by simp,fun g hg=>by cases hg⟩
theorem tI:∀ {l:List Sc} {i:Nat},(∀ s∈l,s.args.length<=400/\s.t.outs.length<=400)->(places i l).length<=800*l.length
 | [],i,_=>by simp[places]
 | s::r,i,h=>by
   have h1:=h s (.head _);have h2:=tI (l:=r) (i:=i+1) (fun s hs=>h s (.tail _ hs));unfold places tJ;simp only[aS,cX,aQ];omega
theorem LK {K:List Cd->List Gv->Nat} {O:List (List (ByteArray × Bool))} {ids:ByteArray->Option ByteArray} {lg:ByteArray} (h1:sc.length<=16) (h2:nd.length<=16) (hs:∀ s∈sc,I5 s/\s.pre.size<=6000000000000000) (ha:∀ g∈args,fR g.v/\g.v.text.size<=6000)
 (hc:nConds K sc nd args=.inr O) (hp:fY sc nd args=.inr P) (hi:∀ n t,ids n=some t->t.size<=5000) (hl:lg.size<=5000):vC ⟨⟨sc,nd,O,nd.map (iD O)⟩,P,ids,lg⟩:=by
 obtain⟨hM,hol,hr⟩:=qR (fun g hg=>(ha g hg).1) (fun s hm=>⟨by have:=(hs s hm).1.pl;omega,fun p hp=>((hs s hm).1.ps p hp).1⟩) hc;have hpz:=tT hp (fun s hm=>(hs s hm).1) (fun g hg=>(ha g hg).2);refine {hO:=hol,hP:=(kI hp).2.1,hon:=by simp,scl:=by show sc.length<=_;omega,ndl:=by show nd.length<=_;omega,orl:=fun r hr2=>?_,prl:=fun r hr2=>?_,par:=fun j s hj hs=>sK hM hj hs,par':=fun s hm=>?_,ps:=fun s hm p hp=>((hs s hm).1.ps p hp).1,ex:=fun s hm=>⟨fun a ham=>((hs s hm).1.ar a ham).1.1,fun o ho=>((hs s hm).1.ou o ho).1⟩,pl:=?_,s:=⟨fun k c hc=>⟨fun a ham=>((hs c (aD hc)).1.ar a ham).1.2,fun o ho=>((hs c (aD hc)).1.ou o ho).2⟩,fun k g hg=>⟨((hpz k).2 g hg).1,((hpz k).2 g hg).2.1⟩,hi,hl⟩}
 .obtain⟨j,hj⟩:=List.mem_iff_getElem?.1 hr2;obtain⟨s,g,k1,k2⟩:=hr j r hj;rw[nM (tF k2).2];have:=(hs s (aD k1)).1.cl;omega
 .obtain⟨j,hj⟩:=List.mem_iff_getElem?.1 hr2;have:=(hpz j).1;rw[aG,show P[j]?=some r from hj] at this;change r.length<=60 at this;omega
 .obtain⟨h3,h4⟩:=hs s hm;exact⟨by have:=h3.pl;omega,by have:=h3.al;omega,by have:=h3.ol;omega,by omega⟩
 have:=tI (l:=sc) (i:=0) (fun s hm=>⟨by have:=(hs s hm).1.al;omega,by have:=(hs s hm).1.ol;omega⟩);show (places 0 sc).length<=_
 omega
