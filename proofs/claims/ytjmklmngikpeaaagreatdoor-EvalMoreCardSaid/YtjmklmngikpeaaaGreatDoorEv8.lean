/- Part of the proof. -/
import Derived.Test.YtjmklmngikpeaaaGreatDoorEv4
import Derived.Sort.Walk0
set_option linter.unusedVariables false
set_option linter.unusedSimpArgs false
namespace Go.Proofs.YtjmklmngikpeaaaGreatDoor
open Go.RowKit
variable {a b t:ByteArray}{i1 i2 ids:ByteArray->Option ByteArray}{G:lQ}{s s':Es}{f:Es->Va × Es}{x:Ex}{g:Gv}{P:List (List Gv)}{args given:List Gv}{nd:List Nd}{l:List Va}{n sc:Nat}{p:Pm}{α:Type}{r:Va × Es}
structure Eg.all (Γ:Eg):Prop where
 pa:∀ (k:Nat) (c:Sc) n g,Γ.G.sc[k]?=some c->mL k c.args n=none->gR (Γ.P.getD k []) n=some g->g.unknown=false
 id:∀ n∈Γ.G.nd,(Γ.ids n.id).isSome∨Γ.lg≠ByteArray.empty
def KA (s:Es):Prop:=∀ p v,s.kept p=some v->v.unk=false
theorem KA.of (h:KA s) (e:s'.kept=s.kept):KA s':=fun p v hv=>h p v (by rw[<-e];exact hv)
def AA (r:Va × Es):Prop:=KA r.2/\(r.2.e=0->r.1.unk=false)
def AK (rec:sD):Prop:=∀ sc x s,KA s->AA (rec sc x s)
theorem AA.err {a:Va} (h:KA s) (n:Nat) (hn:n≠0):AA (a,s.fail n):=⟨h.of rfl,fun h0=>absurd h0 (es_fail hn)⟩
abbrev eN:=@AA.err
theorem zO {p:Pk} (hs:KA s) (hf:∀ s',KA s'->AA (f s')):AA (onceF s p f):=by
 unfold onceF;split
 .next v hv=>exact⟨hs,fun _=>hs p v hv⟩
 split
 .exact AA.err hs 200 (by decide)
 obtain⟨h1,h2⟩:=hf (s.enter p) (hs.of rfl);simp only;split
 .next h0 =>
  refine⟨fun q v hv=>?_,fun _=>h2 h0⟩;change (if _=p then _ else _)=_ at hv;split at hv
  .injection hv with hv;subst hv;exact h2 h0
  exact h1 q v hv
 next h0=>exact⟨h1.of rfl,fun h=>absurd h h0⟩
theorem PD (h:AA r):AA (kU p r):=by
 unfold kU;split
 .exact AA.err h.1 140 (by decide)
 exact h
section
variable {Γ:Eg} {rec:sD}
theorem vZ (hΓ:Γ.all) {nm:ByteArray} {n:Nd × ByteArray × Bool} (h:gW Γ sc nm=some n):n.2.2=true:=by
 unfold gW at h;split at h
 .cases h
 split at h
 .cases h
 next k _ x hx =>
 split at h
 .cases h
 split at h
 .injection h with h;subst h;rfl
 next hi =>
 injection h with h;subst h;rcases hΓ.id x (aD hx) with h | h
 .rw[hi] at h;cases h
 simp[bEq_ne h]
theorem paramF_AA (hΓ:Γ.all) (hr:AK rec) {nm:ByteArray} (hs:KA s) (h:gU rec Γ sc nm s=some r):AA r:=by
 unfold gU at h;split at h
 .cases h
 next c hc =>
 split at h
 .cases h
 next p hp =>
 injection h with h;subst h;split
 .next a ha=>exact zO hs (fun s' hs'=>PD (hr _ _ _ hs'))
 next ha =>
 split
 .exact AA.err hs 160 (by decide)
 next g hg =>
 refine⟨hs,fun _=>?_⟩;have:=hΓ.pa sc c nm g hc ha hg;show (givF g).unk=false
 unfold givF;rw[if_neg (by rw[this];decide)];split<;>rfl
theorem qP (hr:AK rec) (sc:Nat):∀ (l:List Ex) (s:Es),KA s->KA (partsF rec sc l s).2/\((partsF rec sc l s).2.e=0->∀ v∈(partsF rec sc l s).1,v.unk=false)
 | [],s,hs=>⟨hs,fun _ v hv=>by cases hv⟩
 | x::l,s,hs=>by
   unfold partsF;simp only;obtain⟨h1,h2⟩:=hr sc x s hs;have h3:KA (partK (rec sc x s)):=h1.of (mC _);by_cases h0:(partK (rec sc x s)).e=0
   .rw[gT h0];obtain⟨h4,h5⟩:=qP hr sc l _ h3;refine⟨h4,fun e v hv=>?_⟩;rcases List.mem_cons.1 hv with rfl | hv
    .refine h2 ?_;unfold partK at h0;split at h0
     .exact absurd h0 (es_fail (by decide))
     exact h0
    exact h5 e v hv
   rw[if_er h0];exact⟨h3,fun e=>absurd e h0⟩
theorem qW (hr:AK rec) (sc:Nat) (x:Ex) (s:Es) (hs:KA s):KA (elemsF rec Γ sc x s).2/\((elemsF rec Γ sc x s).2.e=0->∀ v∈(elemsF rec Γ sc x s).1,v.unk=false):=by
 unfold elemsF;simp only;have h1:KA (iC (gN Γ sc (SizeOf.sizeOf x) x s)):=hs.of (by rw[mG,kM]);by_cases h0:(iC (gN Γ sc (SizeOf.sizeOf x) x s)).e=0
 .rw[gT h0];exact qP hr sc _ _ h1
 rw[if_er h0];exact⟨h1,fun e=>absurd e h0⟩
theorem wG (btw:ByteArray):∀ (l:List Va) (fst:Bool) (a b:ByteArray × Nat × Bool),(∀ v∈l,v.unk=false)->a.2.2=true->joinG btw fst l a=some b->b.2.2=true
 | [],fst,a,b,_,ha,h=>by
   unfold joinG at h;injection h with h;subst h;exact ha
 | v::l,fst,a,b,hl,ha,h=>by
   unfold joinG at h;split at h
   .cases h
   exact wG btw l false _ b (fun u hu=>hl u (.tail _ hu)) (by simp[ha,hl v (.head _)]) h
theorem uB (btw:ByteArray) (hs:KA s) (hl:s.e=0->∀ v∈l,v.unk=false):AA (gA l btw s):=by
 unfold gA;by_cases h0:s.e=0
 .rw[gT h0];split
  .exact AA.err hs 121 (by decide)
  next a ha =>
  split
  .exact AA.err hs 3 (by decide)
  refine⟨hs,fun _=>?_⟩;have:=wG btw l true _ a (hl h0) rfl ha;show (qI a.1 a.2.2 a.2.1).unk=false
  rw[this];rfl
 rw[if_er h0];exact⟨hs,fun e=>absurd e h0⟩
theorem wF:∀ (l:List Va) (a b:Bool × List Vl),(∀ v∈l,v.unk=false)->a.1=false->listG l a=some b->b.1=false
 | [],a,b,_,ha,h=>by
   unfold listG at h;injection h with h;subst h;exact ha
 | v::l,a,b,hl,ha,h=>by
   unfold listG at h;split at h
   .cases h
   exact wF l _ b (fun u hu=>hl u (.tail _ hu)) (by simp[ha,hl v (.head _)]) h
theorem LE (hΓ:Γ.all) (hr:AK rec):AK (exprF rec Γ):=by
 intro sc x s hs;unfold exprF;split
 .next h0=>exact⟨hs,fun h=>absurd h h0⟩
 unfold rN;by_cases k0:x.kind=0
 .rw[if_pos k0];exact⟨hs,fun _=>rfl⟩
 rw[if_neg k0];by_cases k1:x.kind=1
 .rw[if_pos k1];exact⟨hs,fun _=>rfl⟩
 rw[if_neg k1];by_cases k2:x.kind=2
 .rw[if_pos k2];unfold lE;simp only;obtain⟨h1,h2⟩:=qW (Γ:=Γ) hr sc x s hs;by_cases h0:(elemsF rec Γ sc x s).2.e=0
  .rw[gT h0];split
   .exact AA.err h1 121 (by decide)
   next a ha=>exact⟨h1,fun _=>wF _ _ a (h2 h0) rfl ha⟩
  rw[if_er h0];exact⟨h1,fun e=>absurd e h0⟩
 rw[if_neg k2];by_cases k3:x.kind=3
 .rw[if_pos k3];unfold nZ;split
  .next r h=>exact paramF_AA hΓ hr hs h
  split
  .exact AA.err hs 160 (by decide)
  next n hn=>exact⟨hs,fun _=>by rw[vZ hΓ hn];rfl⟩
 rw[if_neg k3];by_cases k4:x.kind=4
 .rw[if_pos k4];unfold oC;split
  .unfold mN;split
   .exact⟨hs,fun _=>rfl⟩
   split
   .exact AA.err hs 160 (by decide)
   split
   .exact zO hs (fun s' hs'=>hr _ _ _ hs')
   exact AA.err hs 160 (by decide)
  split
  .exact AA.err hs 160 (by decide)
  next n hn =>
  split
  .exact AA.err hs 160 (by decide)
  exact⟨hs,fun _=>by rw[vZ hΓ hn];rfl⟩
 rw[if_neg k4];by_cases k5:x.kind=5
 .rw[if_pos k5];obtain⟨h1,h2⟩:=qP hr sc x.l s hs;exact uB _ h1 h2
 rw[if_neg k5];by_cases k6:x.kind=6
 .rw[if_pos k6];exact hr _ _ _ (hs.of (jI _ _ _))
 rw[if_neg k6];by_cases k7:x.kind=7
 .rw[if_pos k7];unfold qA;split
  .next y hy =>
   obtain⟨h1,h2⟩:=qW (Γ:=Γ) hr sc y s hs;exact uB _ h1 h2
  exact AA.err hs 121 (by decide)
 rw[if_neg k7];by_cases k8:x.kind=8
 .rw[if_pos k8];unfold jW;split
  .next a b hxl =>
   simp only;have h1:KA (gY (rec sc a s)):=(hr sc a s hs).1.of (nL _);by_cases h0:(gY (rec sc a s)).e=0
   .rw[gT h0];obtain⟨h2,h3⟩:=qW (Γ:=Γ) hr sc b _ h1;by_cases h5:(elemsF rec Γ sc b (gY (rec sc a s))).2.e=0
    .rw[gT h5];split
     .exact AA.err h2 121 (by decide)
     split
     .exact AA.err h2 121 (by decide)
     next v hv=>exact⟨h2,fun _=>h3 h5 v (aD hv)⟩
    rw[if_er h5];exact⟨h2,fun e=>absurd e h5⟩
   rw[if_er h0];exact⟨h1,fun e=>absurd e h0⟩
  exact AA.err hs 121 (by decide)
 rw[if_neg k8];exact AA.err hs 121 (by decide)
theorem LG (hΓ:Γ.all):∀ n,AK (evF n Γ)
 | 0=>fun sc x s hs=>AA.err hs 1 (by decide)
 | n+1=>LE hΓ (LG hΓ n)
end
theorem nK:B0 a b=true↔a.toList<b.toList:=by unfold B0;rw[bytesLess_eq];simp
theorem tLt_trans {c:ByteArray} (h:B0 a b=true) (h2:B0 b c=true):B0 a c=true:=nK.2 (List.lt_trans (nK.1 h) (nK.1 h2))
theorem QJ (h:B0 a b=true):a≠b:=fun e=>by
 subst e;exact List.lt_irrefl _ (nK.1 h)
theorem NB (h:QK a b=false):B0 b a=true:=by
 unfold QK at h;rw[dQ] at h;obtain⟨h1,h2⟩:=h;rw[nK];have h3:¬a.toList<b.toList:=fun e=>by rw[nK.2 e] at h1;cases h1
 have h4:a.toList≠b.toList:=fun e=>by rw[e] at h2;simp at h2
 have h5:b.toList<=a.toList:=List.not_lt.1 h3;rcases List.le_iff_lt_or_eq.1 h5 with h | h
 .exact h
 exact absurd h.symm h4
theorem pWrong_up:∀ {l:List Pm} {last:ByteArray},mV last l=false->(∀ p∈l,B0 last p.name=true)/\l.Pairwise (fun p q=>B0 p.name q.name=true)
 | [],last,_=>⟨fun p h=>(by cases h),List.Pairwise.nil⟩
 | p::r,last,h=>by
   unfold mV at h;simp only[dQ] at h;have h1:=NB h.1.2;obtain⟨h2,h3⟩:=pWrong_up h.2;refine⟨fun q hq=>?_,List.Pairwise.cons h2 h3⟩;rcases List.mem_cons.1 hq with rfl | hq
   .exact h1
   exact tLt_trans h1 (h2 q hq)
theorem parL_go {nm:ByteArray}:∀ {l:List Pm} {o:Option Pm},(∀ p∈l,fW p.name nm=false)->l.foldl (fun o p=>if fW p.name nm=true then some p else o) o=o
 | [],o,_=>rfl
 | p::r,o,h=>by
   rw[bR,h p (.head _)];exact parL_go (fun q hq=>h q (.tail _ hq))
theorem vQ {nm:ByteArray} {l:List Pm} (h:l.Pairwise (fun p q=>B0 p.name q.name=true)):zI l nm=l.find? fun p=>fW p.name nm:=by
 unfold zI;induction l with
 | nil=>rfl
 | cons p r ih =>
   rw[bR,cP];have h1:=List.pairwise_cons.1 h;cases hp:fW p.name nm with
   | true =>
     simp only[if_true];refine parL_go (fun q hq=>bEq_ne (fun e=>?_));exact QJ (h1.1 q hq) (by rw[e];exact bEq_iff.1 hp)
   | false=>exact ih h1.2
theorem gFind_name {l:List Gv} {s:ByteArray} (h:gR l s=some g):g.name=s/\g∈l:=by
 unfold gR at h;exact⟨bEq_iff.1 (by simpa using eA h),bK h⟩
theorem vR {v:Gv} (h:pOne given p=some v):v.name=p.name/\pMayV p v=true:=by
 unfold pOne at h;split at h
 .next g hg =>
  split at h
  .next hm=>injection h with h;subst h;exact⟨(gFind_name hg).1,hm⟩
  cases h
 split at h
 .cases h
 split at h
 .next hm=>injection h with h;subst h;exact⟨rfl,hm⟩
 cases h
theorem lU {given:List Gv} (nm:ByteArray):∀ {l:List Pm} {o:List Gv},jE given l=some o->gR o nm=(l.find? fun p=>fW p.name nm).bind (pOne given)
 | [],o,h=>by
   unfold jE at h;injection h with h;subst h;rfl
 | p::r,o,h=>by
   unfold jE at h;split at h
   .cases h
   next v hv =>
   obtain⟨o',ho,rfl⟩:=Option.map_eq_some_iff.1 h;have ih:=lU nm ho;unfold gR at ih ⊢;rw[cP,cP,(vR hv).1];cases hp:fW p.name nm with
   | true=>simp only[Option.bind_some];exact hv.symm
   | false=>exact ih
theorem qQ {given:List Gv}:∀ {l:List Pm} {o:List Gv},jE given l=some o->∀ p∈l,∃ v,pOne given p=some v
 | [],o,h,p,hp=>by cases hp
 | q::r,o,h,p,hp=>by
   unfold jE at h;split at h
   .cases h
   next v hv =>
   obtain⟨o',ho,rfl⟩:=Option.map_eq_some_iff.1 h;rcases List.mem_cons.1 hp with rfl | hp
   .exact⟨v,hv⟩
   exact qQ ho p hp
theorem zJ {l:List Pm} {o:List Gv} (h:jC l given=.inr o):l.Pairwise (fun p q=>B0 p.name q.name=true):=by
 unfold jC at h;split at h
 .cases h
 next hc =>
 have hc:pCheck l=0:=by simpa using hc
 unfold pCheck at hc;split at hc
 .cases hc
 split at hc
 .cases hc
 next hw=>exact(pWrong_up (by simpa using hw)).2
theorem EG {args:List Gv}:∀ {l:List Sc} {i:Nat} {out P:List (List Gv)},nPar args i l out=.inr P->out.length=i->P.take i=out/\P.length=i+l.length/\∀ (j:Nat) (s:Sc),l[j]?=some s->∃ o,P[i+j]?=some o/\jC s.t.params (givenOf args (i+j) s (P.take (i+j)))=.inr o
 | [],i,out,P,h,hi=>by
   unfold nPar at h;injection h with h;subst h;exact⟨by rw[<-hi];exact fK,by simpa using hi,fun j s h=>by simp at h⟩
 | s::r,i,out,P,h,hi=>by
   unfold nPar at h;split at h
   .cases h
   next o ho =>
   obtain⟨h1,h2,h3⟩:=EG h (by simp[hi]);have h4:P.take i=out:=by
    have:=congrArg (List.take i) h1;rw[List.take_take,eR (by omega),List.take_append_of_le_length (by omega),<-hi,fK] at this;rw[<-hi];exact this
   have h5:P[i]?=some o:=by
    have:=congrArg (fun z=>z[i]?) h1;simp only[cD,show i<i+1 by omega,if_true] at this;rw[this,bH (by omega),hi,Nat.sub_self];rfl
   refine⟨h4,by rw[h2,aQ];omega,fun j c hc=>?_⟩;cases j with
   | zero=>simp at hc;subst hc;exact⟨o,by simpa using h5,by simpa [h4] using ho⟩
   | succ j =>
     obtain⟨o',h6,h7⟩:=h3 j c (by simpa using hc);exact⟨o',by rw[show i+(j+1)=i+1+j by omega];exact h6,by rw[show i+(j+1)=i+1+j by omega];exact h7⟩
theorem GP {l:List α} {k:Nat} {d:α} (h:k<n):(l.take n).getD k d=l.getD k d:=by
 rw[aG,aG,cD,if_pos h]
theorem kI {sc:List Sc} (h:fY sc nd args=.inr P):lJ sc nd=true/\P.length=sc.length/\∀ (k:Nat) (c:Sc),sc[k]?=some c->∃ o,P[k]?=some o/\jC c.t.params (givenOf args k c P)=.inr o:=by
 unfold fY at h;split at h
 .cases h
 next hm =>
 have hm:lJ sc nd=true:=by simpa using hm
 obtain⟨_,h2,h3⟩:=EG h rfl;refine⟨hm,by simpa using h2,fun k c hc=>?_⟩;obtain⟨o,h4,h5⟩:=h3 k c hc;rw[aZ] at h4 h5;refine⟨o,h4,?_⟩;rw[<-h5];unfold givenOf;split
 .rfl
 next hk =>
 have:=sK hm (j:=k) (by omega) hc;rw[GP (by omega)]
theorem oX {P:List Gv} {n:ByteArray}:∀ {l:List Pr},gR (l.map (jY P)) n=(l.find? fun a=>fW a.name n).map (jY P)
 | []=>rfl
 | a::r=>by
   have ih:=oX (P:=P) (n:=n) (l:=r);unfold gR at ih ⊢;have hn:(jY P a).name=a.name:=by unfold jY;split<;>rfl
   rw[bY,cP,cP,hn];cases fW a.name n with
   | true=>rfl
   | false=>exact ih
theorem S7 (h:fY G.sc nd args=.inr P) (ids:ByteArray->Option ByteArray) (lg:ByteArray):Eg.ok ⟨G,P,ids,lg⟩:=by
 obtain⟨h1,h2,h3⟩:=kI h;have hgd:∀ (k:Nat) o,P[k]?=some o->P.getD k []=o:=fun k o e=>by rw[aG,e];rfl
 refine⟨fun k c n hc=>?_,fun k c a n g hc ha hg hu=>?_,fun k c p n hc hp hs=>?_,fun k hc=>?_⟩
 .obtain⟨o,h4,h5⟩:=h3 k c hc;show (gR (P.getD k []) n).isSome=_
  rw[hgd k o h4,lU n (iO h5),vQ (zJ h5)];cases hf:c.t.params.find? fun p=>fW p.name n with
  | none=>rfl
  | some p =>
    obtain⟨v,hv⟩:=qQ (iO h5) p (bK hf);rw[Option.bind_some,hv];rfl
 .obtain⟨o,h4,h5⟩:=h3 k c hc;change gR (P.getD k []) n=some g at hg;rw[hgd k o h4,lU n (iO h5)] at hg;obtain⟨p,hp,hv⟩:=Option.bind_eq_some_iff.1 hg;have hpn:p.name=n:=bEq_iff.1 (by simpa using eA hp);unfold mL at ha;split at ha
  .cases ha
  next hk =>
  have hgf:gR (givenOf args k c P) p.name=some (jY (P.getD c.parent.toNat []) a):=by
   unfold givenOf;rw[if_neg hk,oX,hpn,ha];rfl
  unfold pOne at hv;rw[hgf] at hv;simp only at hv;split at hv
  .injection hv with hv;subst hv;show ∃ g',plainG a.e (P.getD c.parent.toNat [])=some g'/\_
   unfold jY at hu ⊢;split at hu
   .next g' hg'=>exact⟨g',hg',hu,rfl⟩
   cases hu
  cases hv
 .obtain⟨o,h4,h5⟩:=h3 k c hc;rw[vQ (zJ h5)] at hp;obtain⟨v,hv⟩:=qQ (iO h5) p (bK hp);refine⟨v,?_,?_⟩
  .show gR (P.getD k []) n=some v
   rw[hgd k o h4,lU n (iO h5),hp];exact hv
  have:=(vR hv).2;unfold pMayV at this;split at this
  .cases this
  split at this
  .assumption
  split at this
  .cases this
  next hn =>
  split at this
  .cases this
  next ha =>
  rcases hs with h | h
  .rw[h] at hn;exact absurd rfl hn
  omega
 show P.getD k []=[]
 change G.sc[k]?=none at hc;rw[aG,bN (by have:=List.getElem?_eq_none_iff.1 hc;omega)];rfl
theorem RQ (h:fY G.sc nd args=.inr P) {lg:ByteArray} (ha:∀ g∈args,g.unknown=false) (hi:∀ n∈G.nd,(ids n.id).isSome∨lg≠ByteArray.empty):Eg.all ⟨G,P,ids,lg⟩:=by
 obtain⟨h1,h2,h3⟩:=kI h;have hgd:∀ (k:Nat) o,P[k]?=some o->P.getD k []=o:=fun k o e=>by rw[aG,e];rfl
 refine⟨fun k c n g hc hna hg=>?_,hi⟩;obtain⟨o,h4,h5⟩:=h3 k c hc;change gR (P.getD k []) n=some g at hg;rw[hgd k o h4,lU n (iO h5)] at hg;obtain⟨p,hp,hv⟩:=Option.bind_eq_some_iff.1 hg;have hpn:p.name=n:=bEq_iff.1 (by simpa using eA hp);unfold pOne at hv;split at hv
 .next v hgv =>
  split at hv
  .injection hv with hv;subst hv;unfold givenOf at hgv;split at hgv
   .exact ha v (gFind_name hgv).2
   next hk =>
   unfold mL at hna;rw[if_neg hk] at hna;rw[oX,hpn,hna] at hgv;cases hgv
  cases hv
 split at hv
 .cases hv
 split at hv
 .injection hv with hv;subst hv;rfl
 cases hv
def idG (n:ByteArray) (g:Gv):Bool:=fW g.name n&&(!g.unknown&&decide (g.v.kind=3))
def jG (l:List Gv) (n:ByteArray):Option ByteArray:=(l.find? (idG n)).map fun g=>g.v.text
def p7:ByteArray:=⟨#[112,55]⟩
def iB (ids:List Gv) (nd:List Nd):List Gv:=ids++nd.map fun n=>⟨n.id,false,jO p7⟩
theorem OF {l r:List Gv} {n:ByteArray} (h:jG l n=some t):jG (l++r) n=some t:=by
 unfold jG at h ⊢;obtain⟨g,hg,rfl⟩:=Option.map_eq_some_iff.1 h;rw[List.find?_append,hg];rfl
theorem OG {ids:List Gv} {n:Nd} (hn:n∈nd):(jG (iB ids nd) n.id).isSome:=by
 unfold jG iB;rw[Option.isSome_map,List.find?_isSome];refine⟨⟨n.id,false,jO p7⟩,fA _ (List.mem_map.2 ⟨n,hn,rfl⟩),?_⟩;unfold idG;simp[jO,fW]
theorem RI.more (h:∀ n t,i1 n=some t->i2 n=some t):RI true i1 i2 ByteArray.empty ByteArray.empty:=by
 refine⟨fun n a b ha hb=>?_,fun _ n a ha=>?_⟩
 .rcases ha with ha | ha
  .rcases hb with hb | hb
   .rw[h n a ha] at hb;injection hb with hb;subst hb;exact aA _
   exact absurd rfl hb.2.2
  exact absurd rfl ha.2.2
 rcases ha with ha | ha
 .exact .inl (h n a ha)
 exact absurd rfl ha.2.2
theorem es0_KI (Γ:Eg):KI Γ iX:=fun k nm v h=>by cases h
theorem RP (m:Bool):RS m iX iX:=⟨rfl,rfl,fun _=>rfl,fun p a b h=>by cases h⟩
theorem zY (h:fY G.sc nd args=.inr P) (hi:∀ n t,i1 n=some t->i2 n=some t) (N sc:Nat) (x:Ex) :
 (evF N ⟨G,P,i1,ByteArray.empty⟩ sc x iX).2.e=(evF N ⟨G,P,i2,ByteArray.empty⟩ sc x iX).2.e /\
 ((evF N ⟨G,P,i1,ByteArray.empty⟩ sc x iX).2.e=0->(evF N ⟨G,P,i1,ByteArray.empty⟩ sc x iX).1.unk=false->(evF N ⟨G,P,i2,ByteArray.empty⟩ sc x iX).1.unk=false/\(evF N ⟨G,P,i2,ByteArray.empty⟩ sc x iX).1.v=(evF N ⟨G,P,i1,ByteArray.empty⟩ sc x iX).1.v):=by
 obtain⟨h1,h2⟩:=LF (m:=true) (S7 h i1 ByteArray.empty) (RI.more hi) N sc x iX iX (RP _) (es0_KI _) (es0_KI _);exact⟨h1.e,fun h0 hu=>(h2 h0).eq rfl hu⟩
theorem PE (h:fY G.sc nd args=.inr P) (ha:∀ g∈args,g.unknown=false) (hi:∀ n∈G.nd,(ids n.id).isSome) (N sc:Nat) (x:Ex) :
 (evF N ⟨G,P,ids,ByteArray.empty⟩ sc x iX).2.e=0->(evF N ⟨G,P,ids,ByteArray.empty⟩ sc x iX).1.unk=false :=
 (LG (RQ h ha (fun n hn=>.inl (hi n hn))) N sc x iX (fun p v h=>by cases h)).2
structure oY (v:Va):Prop where
 tx:v.unk=true∨v.v.kind≠2->v.v.text.size<=400*v.most
 t2:v.v.text.size<=10000000
 nm:v.unk=false->v.v.kind=2->nLen v.v.num<=v.most
 ms:v.most<=10000
 ks:v.v.keys=[]
 ls:v.v.list.length<=1000/\∀ x∈v.v.list,x.list=[]/\x.keys=[]
 l0:v.lst=false->v.v.list=[]
structure o9 (s:Es):Prop where
 kept:∀ p v,s.kept p=some v->oY v
 e:s.e<=1000
inductive exTx:Ex->Prop
 | mk {x:Ex}:x.text.size<=9000->x.l.length<=1000->(∀ y∈x.l,exTx y)->exTx x
theorem exTx.sub {y:Ex} (h:exTx x) (hy:y∈x.l):exTx y:=by cases h with | mk _ _ h3=>exact h3 y hy
theorem exTx.sz (h:exTx x):x.text.size<=9000/\x.l.length<=1000:=by cases h with | mk h1 h2 _=>exact⟨h1,h2⟩
theorem RN:exTx SK:=.mk (by decide) (by decide) (fun y hy=>by cases hy)
structure TM (Γ:Eg):Prop where
 ax:∀ (k:Nat) (c:Sc),Γ.G.sc[k]?=some c->(∀ a∈c.args,exTx a.e)/\∀ o∈c.t.outs,exTx o.e
 pv:∀ (k:Nat),∀ g∈Γ.P.getD k [],g.v.text.size<=6000/\g.v.keys=[]/\g.v.list=[]
 id:∀ n t,Γ.ids n=some t->t.size<=5000
 lg:Γ.lg.size<=5000
theorem o9.of (h:o9 s) (e:s'.kept=s.kept) (he:s'.e<=1000):o9 s':=⟨fun p v hv=>h.kept p v (by rw[<-e];exact hv),he⟩
theorem DD (h:s.e<=1000) (hn:n<=1000):(s.fail n).e<=1000:=by unfold Es.fail;simp only;split<;>omega
theorem o9.fail {s:Es} (h:o9 s) {n:Nat} (hn:n<=1000):o9 (s.fail n):=h.of rfl (DD h.e hn)
theorem vaOk_z:oY gE:=⟨fun _=>by decide,by decide,fun _ h=>absurd h (by decide),by decide,rfl,⟨by decide,fun x hx=>by cases hx⟩,fun _=>rfl⟩
theorem BW (h:n<=10000):oY ⟨true,false,gV,n⟩:=⟨fun _=>by show 0<=_;omega,by show 0<=10000000;omega,(fun h=>by cases h),h,rfl,⟨by show 0<=1000;omega,fun x hx=>by cases hx⟩,fun _=>rfl⟩
theorem IU {s:ByteArray} (h:n<=10000) (hs:s.size<=400*n):oY ⟨false,false,jO s,n⟩:=⟨fun _=>hs,by show s.size<=_;omega,fun _ h=>absurd (show (3:Int)=2 from h) (by decide),h,rfl,⟨by show 0<=1000;omega,fun x hx=>by cases hx⟩,fun _=>rfl⟩
theorem xD {s:ByteArray} {k:Bool} (h:n<=10000) (hs:s.size<=400*n):oY (qI s k n):=by
 unfold qI;split
 .exact IU h hs
 exact BW h
theorem tW:∀ f n,(lA f n).length<=f
 | 0,n=>aA _
 | f+1,n=>by
   unfold lA;have:=tW f (n / 10);rw[aS];split<;>simp<;>omega
theorem J1 (n:Int):(nTx n).size<=20:=by
 unfold nTx;split
 .show (List.toArray _).size<=20
  rw[eF,aS];have:=tW 19 n.natAbs;split<;>simp<;>omega
 decide
theorem sL (n:Int):nLen n<=20:=J1 n
theorem QH (n:Int):oY ⟨false,false,oA n,nLen n⟩ :=
 ⟨fun h=>(h.elim (fun h=>by cases h) (fun h=>absurd rfl h)),by show 0<=10000000;omega,fun _ _=>aA _,by have:=sL n;show nLen n<=_;omega,rfl,⟨by show 0<=1000;omega,fun x hx=>by cases hx⟩,fun _=>rfl⟩
theorem QI (h:g.v.text.size<=6000/\g.v.keys=[]/\g.v.list=[]):oY (givF g):=by
 obtain⟨h1,h2,h3⟩:=h;unfold givF;split
 .exact BW (by omega)
 split
 .next hk=>exact⟨fun h=>(h.elim (fun h=>by cases h) (fun h=>absurd hk h)),by show g.v.text.size<=_;omega,fun _ _=>aA _,by have:=sL g.v.num;show nLen g.v.num<=_;omega,h2,⟨by show g.v.list.length<=_;rw[h3];decide,fun x hx=>by change x∈g.v.list at hx;rw[h3] at hx;cases hx⟩,fun _=>h3⟩
 next hk=>exact⟨fun _=>by show g.v.text.size<=400*g.v.text.size;omega,by show g.v.text.size<=_;omega,fun _ h=>absurd h hk,by show g.v.text.size<=_;omega,h2,⟨by show g.v.list.length<=_;rw[h3];decide,fun x hx=>by change x∈g.v.list at hx;rw[h3] at hx;cases hx⟩,fun _=>h3⟩
def qJ (s:Es) (r:Va × Es):Prop:=oY r.1/\o9 r.2/\r.2.und=s.und
def SO (rec:sD):Prop:=∀ sc x s,exTx x->o9 s->qJ s (rec sc x s)
theorem qJ.err {a:Va} (ha:oY a) (h:o9 s) (n:Nat) (hn:n<=1000):qJ s (a,s.fail n):=⟨ha,h.fail hn,rfl⟩
abbrev eQ:=@qJ.err
theorem zM {p:Pk} (hs:o9 s) (hf:∀ s',o9 s'->qJ s' (f s')):qJ s (onceF s p f):=by
 unfold onceF;split
 .next v hv=>exact⟨hs.kept p v hv,hs,rfl⟩
 split
 .exact qJ.err vaOk_z hs 200 (by decide)
 next hu =>
 obtain⟨h1,h2,h3⟩:=hf (s.enter p) (hs.of rfl hs.e);simp only;have hu2:∀ q,(if q=p then false else (if q=p then true else s.und q))=s.und q:=fun q=>by
  by_cases e:q=p
  .subst e;rw[if_pos rfl];cases h:s.und q
   .rfl
   exact absurd h hu
  rw[if_neg e,if_neg e]
 split
 .refine⟨h1,⟨fun q v hv=>?_,h2.e⟩,funext fun q=>?_⟩
  .change (if _=p then _ else _)=_ at hv;split at hv
   .injection hv with hv;subst hv;exact h1
   exact h2.kept q v hv
  show (if q=p then false else (f (s.enter p)).2.und q)=_
  rw[h3];exact hu2 q
 refine⟨h1,h2.of rfl h2.e,funext fun q=>?_⟩;show (if q=p then false else (f (s.enter p)).2.und q)=_
 rw[h3];exact hu2 q
theorem EZ (h:qJ s r):qJ s (kU p r):=by
 obtain⟨h1,h2,h3⟩:=h;unfold kU;split
 .exact⟨vaOk_z,h2.fail (by decide),h3⟩
 exact⟨h1,h2,h3⟩
section
variable {Γ:Eg} {rec:sD}
theorem pS (hΓ:TM Γ) {nm:ByteArray} {n:Nd × ByteArray × Bool} (h:gW Γ sc nm=some n):n.2.1.size<=5000:=by
 unfold gW at h;split at h
 .cases h
 split at h
 .cases h
 split at h
 .cases h
 split at h
 .next t ht=>injection h with h;subst h;exact hΓ.id _ _ ht
 injection h with h;subst h;exact hΓ.lg
theorem isType_sz {k:ByteArray} (h:mF k=true):k.size<=4:=by
 unfold mF at h;simp only[eD,bEq_iff] at h;rcases h with rfl | rfl | rfl | rfl<;>decide
theorem BE {kind ph nm:ByteArray} (hp:ph.size<=5000) (h:jM kind ph nm=some t):kind.size<=4/\t.size<=400*(if fW nm oD=true then kind.size+1+14 else 1):=by
 unfold jM at h;split at h
 .cases h
 next hk =>
 have hk2:=isType_sz (k:=kind) (by simpa using hk);refine⟨hk2,?_⟩;split at h
 .next ha =>
  injection h with h;subst h;rw[if_pos ha,aY,aY];have:OQ.size=1:=rfl;omega
 next ha =>
 split at h
 .injection h with h;subst h;rw[if_neg ha,ByteArray.size_extract];omega
 cases h
theorem mH (sc:Nat) (hx:exTx x) (hs:o9 s):exTx (fV Γ sc x s).1/\o9 (fV Γ sc x s).2/\(fV Γ sc x s).2.und=s.und:=by
 unfold fV;split
 .next a b hl =>
  have ha:=hx.sub (y:=a) (by rw[hl];simp);have hb:=hx.sub (y:=b) (by rw[hl];simp);split
  .exact⟨hb,hs.fail (by decide),rfl⟩
  .exact⟨ha,hs,rfl⟩
  exact⟨hb,hs,rfl⟩
 exact⟨RN,hs.fail (by decide),rfl⟩
theorem AQ (sc:Nat):∀ (n:Nat) {x:Ex} {s:Es},exTx x->o9 s->exTx (gN Γ sc n x s).1/\o9 (gN Γ sc n x s).2/\(gN Γ sc n x s).2.und=s.und
 | 0,x,s,hx,hs=>⟨hx,hs,rfl⟩
 | n+1,x,s,hx,hs=>by
   unfold gN;split
   .obtain⟨h1,h2,h3⟩:=mH (Γ:=Γ) sc hx hs;obtain⟨h4,h5,h6⟩:=AQ sc n h1 h2;exact⟨h4,h5,h6.trans h3⟩
   exact⟨hx,hs,rfl⟩
theorem F3 (hΓ:TM Γ) (hr:SO rec) {nm:ByteArray} (hs:o9 s) (h:gU rec Γ sc nm s=some r):qJ s r:=by
 unfold gU at h;split at h
 .cases h
 next c hc =>
 split at h
 .cases h
 next p hp =>
 injection h with h;subst h;split
 .next a ha =>
  have hm : a ∈ c.args := by
    unfold mL at ha; split at ha; · cases ha
    exact bK ha
  exact zM hs (fun s' hs'=>EZ (hr _ _ _ ((hΓ.ax sc c hc).1 a hm) hs'))
 next ha =>
 split
 .exact qJ.err vaOk_z hs 160 (by decide)
 next g hg=>exact⟨QI (hΓ.pv sc g (gFind_name hg).2),hs,rfl⟩
def FY (v:Va):Prop:=oY v/\v.lst=false
theorem JS (h:qJ s r):o9 (partK r)/\(partK r).und=s.und/\((partK r).e=0->r.1.lst=false):=by
 obtain⟨h1,h2,h3⟩:=h;unfold partK;split
 .exact⟨h2.fail (by decide),h3,fun h=>absurd h (es_fail (by decide))⟩
 next hc =>
 refine⟨h2,h3,fun h0=>?_⟩;cases hl:r.1.lst with
 | false=>rfl
 | true=>exact absurd ⟨h0,.inl hl⟩ hc
theorem nQ (hr:SO rec) (sc:Nat):∀ (l:List Ex) (s:Es),(∀ x∈l,exTx x)->o9 s->o9 (partsF rec sc l s).2/\(partsF rec sc l s).2.und=s.und/\(∀ v∈(partsF rec sc l s).1,FY v)/\(partsF rec sc l s).1.length<=l.length
 | [],s,_,hs=>⟨hs,rfl,fun v hv=>(by cases hv),aA _⟩
 | x::l,s,hl,hs=>by
   unfold partsF;simp only;have h:=hr sc x s (hl x (.head _)) hs;obtain⟨h1,h2,h3⟩:=JS h;by_cases h0:(partK (rec sc x s)).e=0
   .rw[gT h0];obtain⟨h4,h5,h6,h7⟩:=nQ hr sc l _ (fun y hy=>hl y (.tail _ hy)) h1;refine⟨h4,h5.trans h2,fun v hv=>?_,by simp;omega⟩;rcases List.mem_cons.1 hv with rfl | hv
    .exact⟨h.1,h3 h0⟩
    exact h6 v hv
   rw[if_er h0];exact⟨h1,h2,fun v hv=>(by cases hv),eH _⟩
theorem LH {r:Ex × Es} (h2:o9 r.2) (h3:r.2.und=s.und):o9 (iC r)/\(iC r).und=s.und:=by
 unfold iC;split
 .exact⟨h2.fail (by decide),h3⟩
 exact⟨h2,h3⟩
theorem j9 (hr:SO rec) (sc:Nat) (x:Ex) (s:Es) (hx:exTx x) (hs:o9 s):o9 (elemsF rec Γ sc x s).2/\(elemsF rec Γ sc x s).2.und=s.und/\(∀ v∈(elemsF rec Γ sc x s).1,FY v)/\(elemsF rec Γ sc x s).1.length<=1000:=by
 unfold elemsF;simp only;obtain⟨h1,h2,h3⟩:=AQ (Γ:=Γ) sc (SizeOf.sizeOf x) hx hs;obtain⟨h4,h5⟩:=LH h2 h3;by_cases h0:(iC (gN Γ sc (SizeOf.sizeOf x) x s)).e=0
 .rw[gT h0];obtain⟨h6,h7,h8,h9⟩:=nQ hr sc _ _ (fun y hy=>h1.sub hy) h4;exact⟨h6,h7.trans h5,h8,bB h9 h1.sz.2⟩
 rw[if_er h0];exact⟨h4,h5,fun v hv=>(by cases hv),eH _⟩
theorem AD (btw:ByteArray):∀ (l:List Va) (fst:Bool) (a b:ByteArray × Nat × Bool),(∀ v∈l,FY v)->a.1.size<=400*a.2.1->joinG btw fst l a=some b->b.1.size<=400*b.2.1
 | [],fst,a,b,_,ha,h=>by
   unfold joinG at h;injection h with h;subst h;exact ha
 | v::l,fst,a,b,hl,ha,h=>by
   unfold joinG at h;split at h
   .cases h
   refine AD btw l false _ b (fun u hu=>hl u (.tail _ hu)) ?_ h;have hv:=(hl v (.head _)).1;have h1:(if v.unk=false/\v.v.kind=2 then nTx v.v.num else v.v.text).size<=400*v.most:=by
    split
    .next hc=>have:=hv.nm hc.1 hc.2;unfold nLen at this;omega
    next hc =>
    refine hv.tx ?_;cases hu:v.unk with
    | true=>exact .inl rfl
    | false=>exact .inr (fun e=>hc ⟨hu,e⟩)
   simp only;rw[aY];split
   .omega
   rw[aY];omega
theorem uA (btw:ByteArray) (hs:o9 s) (hl:∀ v∈l,FY v):qJ s (gA l btw s):=by
 unfold gA;by_cases h0:s.e=0
 .rw[gT h0];split
  .exact qJ.err vaOk_z hs 121 (by decide)
  next a ha =>
  split
  .exact qJ.err vaOk_z hs 3 (by decide)
  exact⟨xD (by omega) (AD btw l true _ a hl (by decide) ha),hs,rfl⟩
 rw[if_er h0];exact⟨vaOk_z,hs,rfl⟩
theorem NG (h:qJ s r):o9 (gY r)/\(gY r).und=s.und:=by
 obtain⟨h1,h2,h3⟩:=h;unfold gY;split
 .exact⟨h2.fail (by decide),h3⟩
 exact⟨h2,h3⟩
theorem AB:∀ (l:List Va) (a b:Bool × List Vl),(∀ v∈l,FY v)->(∀ x∈a.2,x.list=[]/\x.keys=[])->listG l a=some b->b.2.length=a.2.length+l.length/\∀ x∈b.2,x.list=[]/\x.keys=[]
 | [],a,b,_,ha,h=>by
   unfold listG at h;injection h with h;subst h;exact⟨rfl,ha⟩
 | v::l,a,b,hl,ha,h=>by
   unfold listG at h;split at h
   .cases h
   obtain⟨h1,h2⟩:=AB l _ b (fun u hu=>hl u (.tail _ hu)) (fun x hx=>by
    rcases List.mem_append.1 hx with hx | hx
    .exact ha x hx
    rw[aR] at hx;subst hx;have:=hl v (.head _);exact⟨this.1.l0 this.2,this.1.ks⟩) h
   exact⟨by rw[h1];simp;omega,h2⟩
theorem LD (hΓ:TM Γ) (hr:SO rec):SO (exprF rec Γ):=by
 intro sc x s hx hs;unfold exprF;split
 .exact⟨vaOk_z,hs,rfl⟩
 unfold rN;by_cases k0:x.kind=0
 .rw[if_pos k0];exact⟨IU (by have:=hx.sz.1;omega) (by omega),hs,rfl⟩
 rw[if_neg k0];by_cases k1:x.kind=1
 .rw[if_pos k1];exact⟨QH _,hs,rfl⟩
 rw[if_neg k1];by_cases k2:x.kind=2
 .rw[if_pos k2];unfold lE;simp only;obtain⟨h1,h2,h3,h4⟩:=j9 (Γ:=Γ) hr sc x s hx hs;by_cases h0:(elemsF rec Γ sc x s).2.e=0
  .rw[gT h0];split
   .exact⟨vaOk_z,h1.fail (by decide),h2⟩
   next a ha =>
   obtain⟨h5,h6⟩:=AB _ _ a h3 (fun x hx=>by cases hx) ha;refine⟨⟨fun _=>by show 0<=_;omega,(by show ByteArray.empty.size<=10000000;decide),fun _ h=>absurd (show (4:Int)=2 from h) (by decide),by show 0<=10000;omega,rfl,⟨by show a.2.length<=_;rw[h5];simpa using h4,h6⟩,fun h=>by cases h⟩,h1,h2⟩
  rw[if_er h0];exact⟨vaOk_z,h1,h2⟩
 rw[if_neg k2];by_cases k3:x.kind=3
 .rw[if_pos k3];unfold nZ;split
  .next r h=>exact F3 hΓ hr hs h
  split
  .exact qJ.err (BW (by omega)) hs 160 (by decide)
  next n hn=>exact⟨xD (by omega) (by have:=pS hΓ hn;omega),hs,rfl⟩
 rw[if_neg k3];by_cases k4:x.kind=4
 .rw[if_pos k4];unfold oC;split
  .unfold mN;split
   .exact⟨vaOk_z,hs,rfl⟩
   next c hc =>
   split
   .exact qJ.err vaOk_z hs 160 (by decide)
   next o ho =>
   split
   .exact zM hs (fun s' hs'=>hr _ _ _ ((hΓ.ax _ c hc).2 o (bK ho)) hs')
   exact qJ.err vaOk_z hs 160 (by decide)
  split
  .exact qJ.err vaOk_z hs 160 (by decide)
  next n hn =>
  split
  .exact qJ.err vaOk_z hs 160 (by decide)
  next t ht =>
  obtain⟨h1,h2⟩:=BE (pS hΓ hn) ht;exact⟨xD (by split<;>omega) h2,hs,rfl⟩
 rw[if_neg k4];by_cases k5:x.kind=5
 .rw[if_pos k5];obtain⟨h1,h2,h3,_⟩:=nQ hr sc x.l s (fun y hy=>hx.sub hy) hs;obtain⟨h4,h5,h6⟩:=uA ByteArray.empty h1 h3;exact⟨h4,h5,h6.trans h2⟩
 rw[if_neg k5];by_cases k6:x.kind=6
 .rw[if_pos k6];obtain⟨h1,h2,h3⟩:=mH (Γ:=Γ) sc hx hs;obtain⟨h4,h5,h6⟩:=hr sc _ _ h1 h2;exact⟨h4,h5,h6.trans h3⟩
 rw[if_neg k6];by_cases k7:x.kind=7
 .rw[if_pos k7];unfold qA;split
  .next y hy =>
   obtain⟨h1,h2,h3,_⟩:=j9 (Γ:=Γ) hr sc y s (hx.sub (by rw[hy];simp)) hs;obtain⟨h4,h5,h6⟩:=uA x.text h1 h3;exact⟨h4,h5,h6.trans h2⟩
  exact qJ.err vaOk_z hs 121 (by decide)
 rw[if_neg k7];by_cases k8:x.kind=8
 .rw[if_pos k8];unfold jW;split
  .next a b hxl =>
   simp only;obtain⟨h1,h2⟩:=NG (hr sc a s (hx.sub (by rw[hxl];simp)) hs);by_cases h0:(gY (rec sc a s)).e=0
   .rw[gT h0];obtain⟨h3,h4,h5,_⟩:=j9 (Γ:=Γ) hr sc b _ (hx.sub (by rw[hxl];simp)) h1;by_cases h6:(elemsF rec Γ sc b (gY (rec sc a s))).2.e=0
    .rw[gT h6];split
     .exact⟨vaOk_z,h3.fail (by decide),h4.trans h2⟩
     split
     .exact⟨vaOk_z,h3.fail (by decide),h4.trans h2⟩
     next v hv=>exact⟨(h5 v (aD hv)).1,h3,h4.trans h2⟩
    rw[if_er h6];exact⟨vaOk_z,h3,h4.trans h2⟩
   rw[if_er h0];exact⟨vaOk_z,h1,h2⟩
  exact qJ.err vaOk_z hs 121 (by decide)
 rw[if_neg k8];exact qJ.err vaOk_z hs 121 (by decide)
theorem kL (hΓ:TM Γ):∀ n,SO (evF n Γ)
 | 0=>fun sc x s hx hs=>qJ.err vaOk_z hs 1 (by decide)
 | n+1=>LD hΓ (kL hΓ n)
