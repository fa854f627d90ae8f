/- Part of the proof. -/
import Derived.Test.YtjmklmngikpeaaaGreatDoorDjP
set_option linter.unusedVariables false
set_option linter.unusedSimpArgs false
namespace Go.Proofs.YtjmklmngikpeaaaGreatDoor
open Go.RowKit
variable {m:Bool}{n sc:Nat}{p:Pk}{α:Type}
structure Va where
 unk:Bool
 lst:Bool
 v:Vl
 most:Nat
abbrev kA (x:Va) (A0:Option Addr) (c0:Nat) (A1:Option Addr) (c1:Nat):Array Value:=#[.bool x.unk,.bool x.lst,.int .i8 x.v.kind,.bool x.v.bool,.int .i64 x.v.num,.string x.v.text,.slice A0 x.v.list.length c0,.slice A1 x.v.keys.length c1,.int .i64 (x.most:Int)]
def gE:Va:=⟨false,false,gV,0⟩
structure Eg where
 G:lQ
 P:List (List Gv)
 ids:ByteArray->Option ByteArray
 lg:ByteArray
structure Es where
 und:Pk->Bool
 kept:Pk->Option Va
 e:Nat
def iX:Es:=⟨fun _=>false,fun _=>none,0⟩
def Es.fail (s:Es) (e:Nat):Es:={s with e:=if s.e=0 then e else s.e}
def Es.enter (s:Es) (p:Pk):Es:={s with und:=fun q=>if q=p then true else s.und q}
def Es.leave (s:Es) (p:Pk):Es:={s with und:=fun q=>if q=p then false else s.und q}
def Es.keep (s:Es) (p:Pk) (v:Va):Es:={s with kept:=fun q=>if q=p then some v else s.kept q}
def lA:Nat->Nat->List UInt8
 | 0,_=>[]
 | f+1,n=>(if 9<n then lA f (n / 10) else [])++[UInt8.ofNat (48+n % 10)]
def nFits (n:Int):Bool:=decide (-9007199254740992<=n/\n<=9007199254740992)
def nTx (n:Int):ByteArray:=if nFits n then ⟨((if n<0 then [45] else [])++lA 19 n.natAbs).toArray⟩ else ByteArray.empty
def nLen (n:Int):Nat:=(nTx n).size
abbrev sD:=Nat->Ex->Es->Va × Es
def onceF (s:Es) (p:Pk) (f:Es->Va × Es):Va × Es :=
 match s.kept p with
 | some v=>(v,s)
 | none=>if s.und p=true then (gE,s.fail 200) else
   let r:=f (s.enter p)
   (r.1,(if r.2.e=0 then r.2.keep p r.1 else r.2).leave p)
def givF (g:Gv):Va:=if g.unknown=true then ⟨true,false,gV,14⟩ else if g.v.kind=2 then ⟨false,false,g.v,nLen g.v.num⟩ else ⟨false,false,g.v,g.v.text.size⟩
def qI (s:ByteArray) (known:Bool) (most:Nat):Va:=if known=true then ⟨false,false,jO s,most⟩ else ⟨true,false,gV,most⟩
def freeF (p:Pm) (v:Va):Bool:=!p.number&&(decide (p.allowed.length=0)&&(!v.lst&&(v.unk||decide (v.v.kind=3))))
def kU (p:Pm) (r:Va × Es):Va × Es:=if r.2.e=0/\freeF p r.1=false/\(r.1.unk=true∨pMayV p ⟨ByteArray.empty,false,r.1.v⟩=false) then (gE,r.2.fail 140) else r
def BF (rec:sD) (par sc:Nat) (p:Pm) (x:Ex) (s:Es):Va × Es:=onceF s ⟨false,sc,p.name⟩ fun s=>kU p (rec par x s)
def zI (l:List Pm) (nm:ByteArray):Option Pm:=l.foldl (fun o p=>if fW p.name nm=true then some p else o) none
def mL (sc:Nat) (l:List Pr) (nm:ByteArray):Option Pr:=if sc=0 then none else l.find? fun a=>fW a.name nm
def gU (rec:sD) (Γ:Eg) (sc:Nat) (nm:ByteArray) (s:Es):Option (Va × Es) :=
 match Γ.G.sc[sc]? with
 | none=>none
 | some c=>match zI c.t.params nm with
   | none=>none
   | some p=>some (match mL sc c.args nm with
     | some a=>BF rec c.parent.toNat sc p a.e s
     | none=>match gR (Γ.P.getD sc []) nm with
       | none=>(gE,s.fail 160)
       | some g=>(givF g,s))
def gW (Γ:Eg) (sc:Nat) (nm:ByteArray):Option (Nd × ByteArray × Bool) :=
 match AN Γ.G sc nm with
 | none=>none
 | some k=>match Γ.G.nd[k]? with
   | none=>none
   | some n=>if Γ.G.on.getD k false=false then none else match Γ.ids n.id with
     | some t=>some (n,t,true)
     | none=>some (n,Γ.lg,!fW Γ.lg ByteArray.empty)
def nZ (rec:sD) (Γ:Eg) (sc:Nat) (x:Ex) (s:Es):Va × Es :=
 match gU rec Γ sc x.name s with
 | some r=>r
 | none=>match gW Γ sc x.name with
   | none=>(⟨true,false,gV,14⟩,s.fail 160)
   | some n=>(qI n.2.1 n.2.2 14,s)
def mF (t:ByteArray):Bool:=fW t ⟨#[68,105,115,107]⟩||(fW t ⟨#[78,101,116]⟩||(fW t ⟨#[78,111,100,101]⟩||fW t ⟨#[82,117,108,101]⟩))
def oD:ByteArray:=⟨#[65,114,110]⟩
def rB:ByteArray:=⟨#[90,111,110,101]⟩
def OQ:ByteArray:=⟨#[58]⟩
def jM (kind ph nm:ByteArray):Option ByteArray :=
 if mF kind=false then none else if fW nm oD=true then some (kind++OQ++ph) else if fW nm rB=true then some (ph.extract (max ph.size 1-1) ph.size) else none
def qY (Γ:Eg) (sc:Nat) (nm:ByteArray):Option Bool:=((Γ.G.O.getD sc []).find? fun x=>fW x.1 nm).map (·.2)
def oH (Γ:Eg) (sc:Nat) (nm:ByteArray):Bool:=fW nm ByteArray.empty||(qY Γ sc nm).getD false
def mN (rec:sD) (Γ:Eg) (k:Nat) (at_:ByteArray) (s:Es):Va × Es :=
 match Γ.G.sc[k]? with
 | none=>(gE,s)
 | some c=>match c.t.outs.find? (fun o=>decide (8<at_.size)&&fW at_ (pO++o.name)) with
   | none=>(gE,s.fail 160)
   | some o=>if oH Γ k o.cond=true then onceF s ⟨true,k,o.name⟩ (rec k o.e) else (gE,s.fail 160)
def oC (rec:sD) (Γ:Eg) (sc:Nat) (x:Ex) (s:Es):Va × Es :=
 match u6 Γ.G sc x.name with
 | some k=>mN rec Γ k x.attr s
 | none=>match gW Γ sc x.name with
   | none=>(gE,s.fail 160)
   | some n=>match jM n.1.r.type n.2.1 x.attr with
     | none=>(gE,s.fail 160)
     | some t=>(qI t n.2.2 (if fW x.attr oD=true then n.1.r.type.size+1+14 else 1),s)
def SK:Ex:=⟨0,ByteArray.empty,0,ByteArray.empty,ByteArray.empty,[]⟩
def fV (Γ:Eg) (sc:Nat) (x:Ex) (s:Es):Ex × Es :=
 match x.l with
 | [a,b]=>(match qY Γ sc x.name with
   | none=>(b,s.fail 160)
   | some true=>(a,s)
   | some false=>(b,s))
 | _=>(SK,s.fail 121)
def sO (rec:sD) (Γ:Eg) (sc:Nat) (x:Ex) (s:Es):Va × Es:=let r:=fV Γ sc x s;rec sc r.1 r.2
def partK (r:Va × Es):Es:=if r.2.e=0/\(r.1.lst=true∨(r.1.unk=false/\r.1.v.kind≠3/\r.1.v.kind≠2)) then r.2.fail 121 else r.2
def partsF (rec:sD) (sc:Nat):List Ex->Es->List Va × Es
 | [],s=>([],s)
 | x::l,s =>
   let r:=rec sc x s
   if (partK r).e≠0 then ([],partK r) else
    let q:=partsF rec sc l (partK r)
    (r.1::q.1,q.2)
def gN (Γ:Eg) (sc:Nat):Nat->Ex->Es->Ex × Es
 | 0,x,s=>(x,s)
 | n+1,x,s=>if s.e=0/\x.kind=6 then (let r:=fV Γ sc x s;gN Γ sc n r.1 r.2) else (x,s)
def iC (r:Ex × Es):Es:=if r.2.e=0/\r.1.kind≠2 then r.2.fail 121 else r.2
noncomputable def elemsF (rec:sD) (Γ:Eg) (sc:Nat) (x:Ex) (s:Es):List Va × Es :=
 let r:=gN Γ sc (SizeOf.sizeOf x) x s
 if (iC r).e≠0 then ([],iC r) else partsF rec sc r.1.l (iC r)
def joinG (btw:ByteArray):Bool->List Va->ByteArray × Nat × Bool->Option (ByteArray × Nat × Bool)
 | _,[],a=>some a
 | fst,v::l,a =>
   if v.unk=false/\v.v.kind=2/\nFits v.v.num=false then none else
    joinG btw false l ((if fst then a.1 else a.1++btw)++(if v.unk=false/\v.v.kind=2 then nTx v.v.num else v.v.text),(if fst then a.2.1 else a.2.1+btw.size)+v.most,a.2.2&&!v.unk)
def gA (l:List Va) (btw:ByteArray) (s:Es):Va × Es :=
 if s.e≠0 then (gE,s) else match joinG btw true l (ByteArray.empty,0,true) with
  | none=>(gE,s.fail 121)
  | some a=>if 4096<a.2.1 then (gE,s.fail 3) else (qI a.1 a.2.2 a.2.1,s)
def QL (rec:sD) (sc:Nat) (x:Ex) (s:Es):Va × Es:=let r:=partsF rec sc x.l s;gA r.1 ByteArray.empty r.2
noncomputable def qA (rec:sD) (Γ:Eg) (sc:Nat) (x:Ex) (s:Es):Va × Es :=
 match x.l with
 | [y]=>let r:=elemsF rec Γ sc y s;gA r.1 x.text r.2
 | _=>(gE,s.fail 121)
def gY (r:Va × Es):Es:=if r.2.e=0/\(r.1.unk=true∨r.1.v.kind≠2) then r.2.fail 121 else r.2
noncomputable def jW (rec:sD) (Γ:Eg) (sc:Nat) (x:Ex) (s:Es):Va × Es :=
 match x.l with
 | [a,b] =>
   let n:=rec sc a s
   if (gY n).e≠0 then (gE,gY n) else
    let q:=elemsF rec Γ sc b (gY n)
    if q.2.e≠0 then (gE,q.2) else if n.1.v.num<0 then (gE,q.2.fail 121) else match q.1[n.1.v.num.toNat]? with
     | none=>(gE,q.2.fail 121)
     | some v=>(v,q.2)
 | _=>(gE,s.fail 121)
def listG:List Va->Bool × List Vl->Option (Bool × List Vl)
 | [],a=>some a
 | v::l,a=>if v.unk=false/\v.v.kind≠3 then none else listG l (a.1||v.unk,a.2++[v.v])
noncomputable def lE (rec:sD) (Γ:Eg) (sc:Nat) (x:Ex) (s:Es):Va × Es :=
 let q:=elemsF rec Γ sc x s
 if q.2.e≠0 then (gE,q.2) else match listG q.1 (false,[]) with
  | none=>(gE,q.2.fail 121)
  | some a=>(⟨a.1,true,⟨4,false,0,ByteArray.empty,a.2,[]⟩,0⟩,q.2)
noncomputable def rN (rec:sD) (Γ:Eg) (sc:Nat) (x:Ex) (s:Es):Va × Es :=
 if x.kind=0 then (⟨false,false,jO x.text,x.text.size⟩,s)
 else if x.kind=1 then (⟨false,false,oA x.num,nLen x.num⟩,s)
 else if x.kind=2 then lE rec Γ sc x s
 else if x.kind=3 then nZ rec Γ sc x s
 else if x.kind=4 then oC rec Γ sc x s
 else if x.kind=5 then QL rec sc x s
 else if x.kind=6 then sO rec Γ sc x s
 else if x.kind=7 then qA rec Γ sc x s
 else if x.kind=8 then jW rec Γ sc x s
 else (gE,s.fail 121)
noncomputable def exprF (rec:sD) (Γ:Eg) (sc:Nat) (x:Ex) (s:Es):Va × Es:=if s.e≠0 then (gE,s) else rN rec Γ sc x s
noncomputable def evF:Nat->Eg->sD
 | 0,_=>fun _ _ s=>(gE,s.fail 1)
 | n+1,Γ=>exprF (evF n Γ) Γ
theorem parL_name {l:List Pm} {nm:ByteArray} {p:Pm} (h:zI l nm=some p):p.name=nm/\p∈l:=by
 have key:∀ (l r:List Pm) (o:Option Pm),(∀ p,o=some p->p.name=nm/\p∈r)->(∀ p∈l,p∈r)->∀ p,l.foldl (fun o p=>if fW p.name nm=true then some p else o) o=some p->p.name=nm/\p∈r:=by
  intro l r;induction l with
  | nil=>intro o ho _ p hp;exact ho p hp
  | cons x l ih =>
    intro o ho hl p hp;rw[bR] at hp;refine ih _ (fun q hq=>?_) (fun q hq=>hl q (.tail _ hq)) p hp;split at hq
    .next hx=>injection hq with hq;subst hq;exact⟨bEq_iff.1 hx,hl _ (.head _)⟩
    exact ho q hq
 exact key l l none (fun _ h=>by cases h) (fun _ h=>h) p h
def KV (Γ:Eg) (k:Nat) (nm:ByteArray) (v:Va):Prop:=∀ g,gR (Γ.P.getD k []) nm=some g->g.unknown=false->v.unk=false/\v.lst=false/\v.v=g.v
def KI (Γ:Eg) (s:Es):Prop:=∀ (k:Nat) nm v,s.kept ⟨false,(k:Int),nm⟩=some v->KV Γ k nm v
variable {s:Es}
theorem KI.of {Γ:Eg} {s':Es} (h:KI Γ s) (e:s'.kept=s.kept):KI Γ s':=fun k nm v hv=>h k nm v (by rw[<-e];exact hv)
structure Eg.ok (Γ:Eg):Prop where
 nm:∀ (k:Nat) (c:Sc) n,Γ.G.sc[k]?=some c->(gR (Γ.P.getD k []) n).isSome=(zI c.t.params n).isSome
 ar:∀ (k:Nat) (c:Sc) (a:Pr) n g,Γ.G.sc[k]?=some c->mL k c.args n=some a->gR (Γ.P.getD k []) n=some g->g.unknown=false->∃ g',plainG a.e (Γ.P.getD c.parent.toNat [])=some g'/\g'.unknown=false/\g'.v=g.v
 nb:∀ (k:Nat) (c:Sc) (p:Pm) n,Γ.G.sc[k]?=some c->zI c.t.params n=some p->p.number=true∨p.allowed.length≠0->∃ g,gR (Γ.P.getD k []) n=some g/\g.unknown=false
 sp:∀ (k:Nat),Γ.G.sc[k]?=none->Γ.P.getD k []=[]
def UH (Γ:Eg) (sc:Nat) (x:Ex) (v:Va):Prop:=∀ g,plainG x (Γ.P.getD sc [])=some g->g.unknown=false->v.unk=false/\v.lst=false/\v.v=g.v
def RK (Γ:Eg) (rec:sD):Prop:=∀ sc x s,KI Γ s->KI Γ (rec sc x s).2/\((rec sc x s).2.e=0->UH Γ sc x (rec sc x s).1)
theorem es_fail (hn:n≠0):(s.fail n).e≠0:=by
 unfold Es.fail;simp only;split<;>assumption
theorem jP (h:s.e=0):(s.fail n).e=n:=by unfold Es.fail;simp[h]
variable {rec:sD}
variable {r:Va × Es}
variable {f:Es->Va × Es}
section
variable {Γ:Eg}
theorem zN (hs:KI Γ s) (hf:∀ s',KI Γ s'->KI Γ (f s').2/\((f s').2.e=0->∀ (k:Nat) nm,p=⟨false,(k:Int),nm⟩->KV Γ k nm (f s').1)) :
 KI Γ (onceF s p f).2/\((onceF s p f).2.e=0->∀ (k:Nat) nm,p=⟨false,(k:Int),nm⟩->KV Γ k nm (onceF s p f).1):=by
 unfold onceF;split
 .next v hv=>exact⟨hs,fun _ k nm e=>by subst e;exact hs k nm v hv⟩
 split
 .exact⟨hs.of rfl,fun h=>absurd h (es_fail (by decide))⟩
 obtain⟨h1,h2⟩:=hf (s.enter p) (hs.of rfl);simp only;split
 .next h0 =>
  refine⟨fun k nm v hv=>?_,fun _=>h2 h0⟩;change (if _=p then _ else _)=_ at hv;split at hv
  .next e=>injection hv with hv;subst hv;exact h2 h0 k nm e.symm
  exact h1 k nm v hv
 next h0=>exact⟨h1.of rfl,fun h=>absurd h h0⟩
theorem H7 (p:Pm) (r:Va × Es):(kU p r).2.kept=r.2.kept:=by unfold kU;split<;>rfl
theorem PB {p:Pm} (h:(kU p r).2.e=0):kU p r=r:=by
 unfold kU at h ⊢;split
 .next hc=>rw[if_pos hc] at h;exact absurd h (es_fail (by decide))
 rfl
theorem F4 (hΓ:Γ.ok) (hr:RK Γ rec) {nm:ByteArray} (hs:KI Γ s) (h:gU rec Γ sc nm s=some r):KI Γ r.2/\(r.2.e=0->KV Γ sc nm r.1):=by
 unfold gU at h;split at h
 .cases h
 next c hc =>
 split at h
 .cases h
 next p hp =>
 injection h with h;subst h;split
 .next a ha =>
  have:=zN (Γ:=Γ) (p:=⟨false,(sc:Int),p.name⟩) (f:=fun s=>kU p (rec c.parent.toNat a.e s)) hs (fun s' hs'=>by
   obtain⟨h1,h2⟩:=hr c.parent.toNat a.e s' hs';refine⟨h1.of (H7 _ _),fun h0 k n e=>?_⟩;simp only[Pk.mk.injEq,true_and] at e;obtain⟨e1,rfl⟩:=e;have e2:k=sc:=by omega
   subst e2;have hk:=PB h0;rw[hk] at h0 ⊢;intro g hg hu;rw[(parL_name hp).1] at hg;obtain⟨g',h3,h4,h5⟩:=hΓ.ar _ _ _ _ _ hc ha hg hu;have:=h2 h0 g' h3 h4;rw[h5] at this;exact this)
  refine⟨this.1,fun h0=>?_⟩;have h3:KV Γ sc p.name (BF rec c.parent.toNat sc p a.e s).1:=this.2 h0 sc p.name rfl;exact(parL_name hp).1 ▸ h3
 next ha =>
 split
 .exact⟨hs.of rfl,fun h0=>absurd h0 (es_fail (by decide))⟩
 next g hg =>
 refine⟨hs,fun _ g' hg' hu=>?_⟩;rw[hg] at hg';injection hg' with hg';subst hg';unfold givF;rw[if_neg (by rw[hu];decide)];split<;>exact⟨rfl,rfl,rfl⟩
theorem NM (hΓ:Γ.ok) (hr:RK Γ rec) {x:Ex} (hs:KI Γ s):KI Γ (nZ rec Γ sc x s).2/\((nZ rec Γ sc x s).2.e=0->x.kind=3->UH Γ sc x (nZ rec Γ sc x s).1):=by
 have hg:∀ g,x.kind=3->plainG x (Γ.P.getD sc [])=some g->∃ q,gR (Γ.P.getD sc []) x.name=some q/\g.unknown=q.unknown/\g.v=q.v:=by
  intro g hk h;unfold plainG at h;split at h
  .cases h
  rw[if_neg (by omega),if_neg (by omega)] at h;split at h
  .next k hk =>
   obtain⟨q,hq,rfl⟩:=Option.map_eq_some_iff.1 h;refine⟨q,?_,rfl,rfl⟩;unfold gR;unfold BO at hk;obtain⟨hk1,hk2,hk3⟩:=List.findIdx?_eq_some_iff_getElem.1 hk;rw[aM hk1] at hq;injection hq with hq;subst hq;rw[dX];exact⟨hk2,k,hk1,rfl,fun j hj=>by have:=hk3 j hj;simpa using this⟩
  cases h
 unfold nZ;split
 .next r h =>
  obtain⟨h1,h2⟩:=F4 hΓ hr hs h;refine⟨h1,fun h0 hk g hgx hu=>?_⟩;obtain⟨q,h3,h4,h5⟩:=hg g hk hgx;have:=h2 h0 q h3 (by rw[<-h4];exact hu);rw[<-h5] at this;exact this
 next h =>
 have hno:x.kind=3->∀ g,plainG x (Γ.P.getD sc [])≠some g:=fun hk g hgx=>by
  obtain⟨q,h3,_,_⟩:=hg g hk hgx;unfold gU at h;cases hc:Γ.G.sc[sc]? with
  | none=>rw[hΓ.sp sc hc] at h3;cases h3
  | some c =>
    have:=hΓ.nm sc c x.name hc;rw[h3] at this;rw[hc] at h;simp only at h;cases hp:zI c.t.params x.name with
    | none=>rw[hp] at this;cases this
    | some p=>rw[hp] at h;cases h
 split
 .exact⟨hs.of rfl,fun h0=>absurd h0 (es_fail (by decide))⟩
 exact⟨hs,fun _ hk g hgx=>absurd hgx (hno hk g)⟩
theorem jI (sc:Nat) (x:Ex) (s:Es):(fV Γ sc x s).2.kept=s.kept:=by
 unfold fV;split
 .split<;>rfl
 rfl
theorem kM (sc:Nat):∀ (n:Nat) (x:Ex) (s:Es),(gN Γ sc n x s).2.kept=s.kept
 | 0,x,s=>rfl
 | n+1,x,s=>by
   unfold gN;split
   .simp only;rw[kM sc n,jI]
   rfl
theorem mC (r:Va × Es):(partK r).kept=r.2.kept:=by unfold partK;split<;>rfl
theorem mG (r:Ex × Es):(iC r).kept=r.2.kept:=by unfold iC;split<;>rfl
theorem nL (r:Va × Es):(gY r).kept=r.2.kept:=by unfold gY;split<;>rfl
theorem qO {rec:sD} (hr:RK Γ rec) (sc:Nat):∀ (l:List Ex) (s:Es),KI Γ s->KI Γ (partsF rec sc l s).2
 | [],s,hs=>hs
 | x::l,s,hs=>by
   unfold partsF;simp only;have h1:=((hr sc x s hs).1).of (mC _);split
   .exact h1
   exact qO hr sc l _ h1
theorem qV (hr:RK Γ rec) (sc:Nat) (x:Ex) (s:Es) (hs:KI Γ s):KI Γ (elemsF rec Γ sc x s).2:=by
 unfold elemsF;simp only;have h1:KI Γ (iC (gN Γ sc (SizeOf.sizeOf x) x s)):=hs.of (by rw[mG,kM]);split
 .exact h1
 exact qO hr sc _ _ h1
theorem pZ (l:List Va) (b:ByteArray) (s:Es):(gA l b s).2.kept=s.kept:=by
 unfold gA;split
 .rfl
 split
 .rfl
 split<;>rfl
theorem NW (hr:RK Γ rec) (k:Nat) (a:ByteArray) (s:Es) (hs:KI Γ s):KI Γ (mN rec Γ k a s).2:=by
 unfold mN;split
 .exact hs
 split
 .exact hs.of rfl
 split
 .exact(zN hs (fun s' hs'=>⟨(hr _ _ s' hs').1,fun _ k nm e=>by cases e⟩)).1
 exact hs.of rfl
theorem O8 (hr:RK Γ rec) (sc:Nat) (x:Ex) (s:Es) (hs:KI Γ s):KI Γ (oC rec Γ sc x s).2:=by
 unfold oC;split
 .exact NW hr _ _ _ hs
 split
 .exact hs.of rfl
 split
 .exact hs.of rfl
 exact hs
theorem NI (hr:RK Γ rec) (sc:Nat) (x:Ex) (s:Es) (hs:KI Γ s):KI Γ (jW rec Γ sc x s).2:=by
 unfold jW;split
 .next a b hl =>
  simp only;have h1:=((hr sc a s hs).1).of (nL _);split
  .exact h1
  have h2:=qV hr sc b _ h1;split
  .exact h2
  split
  .exact h2.of rfl
  split
  .exact h2.of rfl
  exact h2
 exact hs.of rfl
theorem J6 (hr:RK Γ rec) (sc:Nat) (x:Ex) (s:Es) (hs:KI Γ s):KI Γ (lE rec Γ sc x s).2:=by
 unfold lE;simp only;have h2:=qV hr sc x _ hs;split
 .exact h2
 split
 .exact h2.of rfl
 exact h2
theorem LC (hΓ:Γ.ok) (hr:RK Γ rec):RK Γ (exprF rec Γ):=by
 intro sc x s hs;unfold exprF;split
 .next h0=>exact⟨hs,fun h=>absurd h h0⟩
 have hp:∀ v,x.kind≠0->x.kind≠1->x.kind≠3->UH Γ sc x v:=by
  intro v h0 h1 h3 g hg;unfold plainG at hg;have:gF x=false:=by unfold gF;rw[if_neg h0,if_neg h1,if_neg h3]
  rw[if_pos this] at hg;cases hg
 unfold rN;by_cases k0:x.kind=0
 .rw[if_pos k0];refine⟨hs,fun _ g hg hu=>?_⟩;unfold plainG at hg;split at hg
  .cases hg
  injection hg with hg;subst hg;exact⟨rfl,rfl,rfl⟩
 rw[if_neg k0];by_cases k1:x.kind=1
 .rw[if_pos k1];refine⟨hs,fun _ g hg hu=>?_⟩;unfold plainG at hg;split at hg
  .cases hg
  injection hg with hg;subst hg;exact⟨rfl,rfl,rfl⟩
 rw[if_neg k1];by_cases k2:x.kind=2
 .rw[if_pos k2];exact⟨J6 hr _ _ _ hs,fun _=>hp _ k0 k1 (by omega)⟩
 rw[if_neg k2];by_cases k3:x.kind=3
 .rw[if_pos k3];obtain⟨h1,h2⟩:=NM (x:=x) (sc:=sc) hΓ hr hs;exact⟨h1,fun h0=>h2 h0 k3⟩
 rw[if_neg k3];have hp:=fun v=>hp v k0 k1 k3
 by_cases k4:x.kind=4
 .rw[if_pos k4];exact⟨O8 hr _ _ _ hs,fun _=>hp _⟩
 rw[if_neg k4];by_cases k5:x.kind=5
 .rw[if_pos k5];exact⟨(qO hr _ _ _ hs).of (pZ _ _ _),fun _=>hp _⟩
 rw[if_neg k5];by_cases k6:x.kind=6
 .rw[if_pos k6];exact⟨(hr _ _ _ (hs.of (jI _ _ _))).1,fun _=>hp _⟩
 rw[if_neg k6];by_cases k7:x.kind=7
 .rw[if_pos k7];refine⟨?_,fun _=>hp _⟩;unfold qA;split
  .exact(qV hr _ _ _ hs).of (pZ _ _ _)
  exact hs.of rfl
 rw[if_neg k7];by_cases k8:x.kind=8
 .rw[if_pos k8];exact⟨NI hr _ _ _ hs,fun _=>hp _⟩
 rw[if_neg k8];exact⟨hs.of rfl,fun h=>absurd h (es_fail (by decide))⟩
theorem DC (hΓ:Γ.ok):∀ n,RK Γ (evF n Γ)
 | 0=>fun sc x s hs=>⟨hs.of rfl,fun h=>absurd h (es_fail (by decide))⟩
 | n+1=>LC hΓ (DC hΓ n)
end
structure VL (v u:Vl):Prop where
 kind:v.kind=u.kind
 num:v.kind=2->v.num=u.num
 text:v.text.size<=u.text.size
 len:v.list.length=u.list.length
 el:∀ (k:Nat) (x y:Vl),v.list[k]?=some x->u.list[k]?=some y->x.text.size<=y.text.size
theorem VL.refl (v:Vl):VL v v:=⟨rfl,fun _=>rfl,aA _,rfl,fun k x y h1 h2=>by rw[h1] at h2;injection h2 with h2;subst h2;exact aA _⟩
structure RV (m:Bool) (a b:Va):Prop where
 lst:a.lst=b.lst
 most:a.most=b.most
 ab:a.unk=true->b.unk=false->a.lst=false->b.v.kind=3
 ba:b.unk=true->a.unk=false->a.lst=false->a.v.kind=3
 bo:a.unk=false->b.unk=false->VL a.v b.v
 lk:a.lst=true->a.v.kind=4/\b.v.kind=4
 eq:m=true->a.unk=false->b.unk=false/\b.v=a.v
variable {a b:Va}
theorem RV.same (hl:a.lst=false) (hl2:b.lst=false) (hm:a.most=b.most) (hu:a.unk=b.unk) (hv:b.v=a.v):RV m a b :=
 ⟨by rw[hl,hl2],hm,fun h1 h2=>(by rw[hu,h2] at h1;cases h1),fun h1 h2=>(by rw[<-hu,h2] at h1;cases h1),fun _ _=>(by rw[hv];exact VL.refl _),fun h=>(by rw[hl] at h;cases h),fun _ h=>⟨by rw[<-hu];exact h,hv⟩⟩
theorem RV.refl (hl:a.lst=false):RV m a a:=RV.same hl hl rfl rfl rfl
structure RS (m:Bool) (s t:Es):Prop where
 e:s.e=t.e
 und:s.und=t.und
 is:∀ p,(s.kept p).isSome=(t.kept p).isSome
 kept:∀ p a b,s.kept p=some a->t.kept p=some b->RV m a b
variable {q:Va × Es}
variable {t:Es}
section
variable {m:Bool}
theorem RS.fail {s t:Es} (h:RS m s t) (n:Nat):RS m (s.fail n) (t.fail n):=⟨by unfold Es.fail;simp only;rw[h.e],h.und,h.is,h.kept⟩
theorem RS.enter {s t:Es} (h:RS m s t) (p:Pk):RS m (s.enter p) (t.enter p):=⟨h.e,by unfold Es.enter;simp only;rw[h.und],h.is,h.kept⟩
theorem RS.leave {s t:Es} (h:RS m s t) (p:Pk):RS m (s.leave p) (t.leave p):=⟨h.e,by unfold Es.leave;simp only;rw[h.und],h.is,h.kept⟩
theorem RS.keep {s t:Es} (h:RS m s t) (p:Pk) {a b:Va} (hv:RV m a b):RS m (s.keep p a) (t.keep p b):=by
 refine⟨h.e,h.und,fun q=>?_,fun q x y hx hy=>?_⟩
 .show (if q=p then some a else s.kept q).isSome=(if q=p then some b else t.kept q).isSome
  split
  .rfl
  exact h.is q
 change (if q=p then some a else s.kept q)=some x at hx;change (if q=p then some b else t.kept q)=some y at hy;split at hx
 .next e=>rw[if_pos e] at hy;injection hx with hx;injection hy with hy;subst hx;subst hy;exact hv
 next e=>rw[if_neg e] at hy;exact h.kept q x y hx hy
def RA (m:Bool) (r q:Va × Es):Prop:=RS m r.2 q.2/\(r.2.e=0->RV m r.1 q.1)
theorem RA.err (h:RS m s t) (n:Nat) (hn:n≠0):RA m (a,s.fail n) (b,t.fail n):=⟨h.fail n,fun h0=>absurd h0 (es_fail hn)⟩
abbrev eM:=@RA.err
theorem zL {g:Es->Va × Es} (h:RS m s t) (hf:RA m (f (s.enter p)) (g (t.enter p))):RA m (onceF s p f) (onceF t p g):=by
 unfold onceF;have his:=h.is p;cases hk:s.kept p with
 | some a =>
   rw[hk] at his;cases hk2:t.kept p with
   | none=>rw[hk2] at his;cases his
   | some b=>exact⟨h,fun _=>h.kept p a b hk hk2⟩
 | none =>
   rw[hk] at his;cases hk2:t.kept p with
   | some b=>rw[hk2] at his;cases his
   | none =>
     simp only;rw[<-h.und];split
     .exact RA.err h 200 (by decide)
     obtain⟨h1,h2⟩:=hf;refine⟨?_,fun h0=>?_⟩
     .by_cases h0:(f (s.enter p)).2.e=0
      .rw[if_pos h0,if_pos (by rw[<-h1.e];exact h0)];exact(h1.keep p (h2 h0)).leave p
      rw[if_neg h0,if_neg (by rw[<-h1.e];exact h0)];exact h1.leave p
     refine h2 ?_;change (if (f (s.enter p)).2.e=0 then _ else _:Es).e=0 at h0;split at h0
     .assumption
     exact h0
theorem PC {p:Pm} (h:RA m r q) (hp:r.2.e=0->p.number=true∨p.allowed.length≠0->r.1.unk=false/\q.1.unk=false/\r.1.lst=false/\r.1.v=q.1.v):RA m (kU p r) (kU p q):=by
 unfold kU;by_cases h0:r.2.e=0
 .have hq0:q.2.e=0:=by rw[<-h.1.e];exact h0
  have hv:=h.2 h0;have key:(freeF p r.1=false/\(r.1.unk=true∨pMayV p ⟨ByteArray.empty,false,r.1.v⟩=false))↔(freeF p q.1=false/\(q.1.unk=true∨pMayV p ⟨ByteArray.empty,false,q.1.v⟩=false)):=by
   by_cases hs:p.number=true∨p.allowed.length≠0
   .obtain⟨h1,h2,h3,h4⟩:=hp h0 hs;unfold freeF;rw[h1,h2,h3,<-hv.lst,h3,h4]
   have hn:p.number=false:=by cases hx:p.number with | true=>exact absurd (.inl hx) hs | false=>rfl
   have ha:p.allowed.length=0:=by by_cases hx:p.allowed.length=0;exact hx;exact absurd (.inr hx) hs
   have hno:∀ v:Vl,v.kind≠3->pMayV p ⟨ByteArray.empty,false,v⟩=false:=by
    intro v hk;unfold pMayV pKind;simp[hn,hk]
   have hfr:∀ v:Va,freeF p v=(!v.lst&&(v.unk||decide (v.v.kind=3))):=by
    intro v;unfold freeF;rw[hn,ha];rfl
   rw[hfr,hfr];cases hl:r.1.lst with
   | true =>
     have h4:=hv.lk hl;rw[<-hv.lst,hl];simp[hno _ (show r.1.v.kind≠3 by omega),hno _ (show q.1.v.kind≠3 by omega)]
   | false =>
     rw[<-hv.lst,hl];cases hu:r.1.unk with
     | true =>
       cases hw:q.1.unk with
       | true=>simp
       | false=>simp[hv.ab hu hw hl]
     | false =>
       cases hw:q.1.unk with
       | true=>simp[hv.ba hw hu hl]
       | false =>
         have hk:=(hv.bo hu hw).kind;by_cases h3:r.1.v.kind=3
         .simp[h3,<-hk]
         have h4:q.1.v.kind≠3:=by rw[<-hk];exact h3
         simp[h3,h4,hno _ h3,hno _ h4]
  by_cases hc:freeF p r.1=false/\(r.1.unk=true∨pMayV p ⟨ByteArray.empty,false,r.1.v⟩=false)
  .rw[if_pos ⟨h0,hc⟩,if_pos ⟨hq0,key.1 hc⟩];exact RA.err h.1 140 (by decide)
  rw[if_neg (fun e=>hc e.2),if_neg (fun e=>hc (key.2 e.2))];exact h
 rw[if_neg (fun e=>h0 e.1),if_neg (fun e=>h0 (by rw[h.1.e];exact e.1))];exact h
end
structure RI (m:Bool) (i1 i2:ByteArray->Option ByteArray) (l1 l2:ByteArray):Prop where
 bo:∀ n (a b:ByteArray),(i1 n=some a∨(i1 n=none/\a=l1/\l1≠ByteArray.empty))->(i2 n=some b∨(i2 n=none/\b=l2/\l2≠ByteArray.empty))->a.size<=b.size
 eq:m=true->∀ n (a:ByteArray),(i1 n=some a∨(i1 n=none/\a=l1/\l1≠ByteArray.empty))->i2 n=some a∨(i2 n=none/\a=l2/\l2≠ByteArray.empty)
def U5 (m:Bool) (a b:Option (Nd × ByteArray × Bool)):Prop:=match a,b with
 | none,none=>True
 | some x,some y=>x.1=y.1/\(x.2.2=true->y.2.2=true->x.2.1.size<=y.2.1.size)/\(m=true->x.2.2=true->y.2.2=true/\y.2.1=x.2.1)
 | _,_=>False
section
variable {m:Bool} {G:lQ} {P:List (List Gv)} {i1 i2:ByteArray->Option ByteArray} {l1 l2:ByteArray}
theorem EF (hI:RI m i1 i2 l1 l2) (sc:Nat) (nm:ByteArray):U5 m (gW ⟨G,P,i1,l1⟩ sc nm) (gW ⟨G,P,i2,l2⟩ sc nm):=by
 unfold gW;simp only;split
 .trivial
 split
 .trivial
 next n hn =>
 split
 .trivial
 have hb:=hI.bo n.id;have he:=fun h=>hI.eq h n.id
 cases h1:i1 n.id with
 | some a =>
   cases h2:i2 n.id with
   | some b =>
     refine⟨rfl,fun _ _=>hb a b (.inl h1) (.inl h2),fun hm _=>⟨rfl,?_⟩⟩;rcases he hm a (.inl h1) with h | h
     .rw[h2] at h;injection h
     rw[h2] at h;cases h.1
   | none =>
     refine⟨rfl,fun _ h=>hb a l2 (.inl h1) (.inr ⟨h2,rfl,fun e=>by subst e;simp[fW] at h⟩),fun hm _=>?_⟩;rcases he hm a (.inl h1) with h | h
     .rw[h2] at h;cases h
     exact⟨by simp[bEq_ne h.2.2],h.2.1.symm⟩
 | none =>
   cases h2:i2 n.id with
   | some b =>
     refine⟨rfl,fun h _=>hb l1 b (.inr ⟨h1,rfl,fun e=>by subst e;simp[fW] at h⟩) (.inl h2),fun hm h=>⟨rfl,?_⟩⟩;rcases he hm l1 (.inr ⟨h1,rfl,fun e=>by subst e;simp[fW] at h⟩) with h | h
     .rw[h2] at h;injection h
     rw[h2] at h;cases h.1
   | none =>
     refine⟨rfl,fun h h'=>hb l1 l2 (.inr ⟨h1,rfl,fun e=>by subst e;simp[fW] at h⟩) (.inr ⟨h2,rfl,fun e=>by subst e;simp[fW] at h'⟩),fun hm h=>?_⟩;rcases he hm l1 (.inr ⟨h1,rfl,fun e=>by subst e;simp[fW] at h⟩) with h | h
     .rw[h2] at h;cases h
     exact⟨by simp[bEq_ne h.2.2],h.2.1.symm⟩
theorem CL {s t:ByteArray} {k j:Bool} (hb:k=true->j=true->s.size<=t.size) (he:m=true->k=true->j=true/\t=s):RV m (qI s k n) (qI t j n):=by
 unfold qI;cases k with
 | true =>
   cases j with
   | true=>exact⟨rfl,rfl,fun h=>(by cases h),fun h=>(by cases h),fun _ _=>⟨rfl,fun h=>(by cases h),hb rfl rfl,rfl,fun k x y h=>(by cases h)⟩,fun h=>(by cases h),fun hm _=>⟨rfl,(by rw[(he hm rfl).2])⟩⟩
   | false=>exact⟨rfl,rfl,fun h=>(by cases h),fun _ _ _=>rfl,fun _ h=>(by cases h),fun h=>(by cases h),fun hm _=>(by have:=(he hm rfl).1;cases this)⟩
 | false =>
   cases j with
   | true=>exact⟨rfl,rfl,fun _ _ _=>rfl,fun h=>(by cases h),fun h=>(by cases h),fun h=>(by cases h),fun _ h=>(by cases h)⟩
   | false=>exact⟨rfl,rfl,fun _ h=>(by cases h),fun _ h=>(by cases h),fun h=>(by cases h),fun h=>(by cases h),fun _ h=>(by cases h)⟩
end
theorem gT (h:n=0) (a b:α):(if n≠0 then a else b)=b:=if_neg (fun e=>e h)
theorem if_er (h:n≠0) (a b:α):(if n≠0 then a else b)=a:=if_pos h
def RR (m:Bool) (Γ Δ:Eg) (r1 r2:sD):Prop:=∀ sc x s t,RS m s t->KI Γ s->KI Δ t->RA m (r1 sc x s) (r2 sc x t)
def U4 (m:Bool) (a b:Option (Va × Es)):Prop:=match a,b with
 | none,none=>True
 | some r,some q=>RA m r q
 | _,_=>False
inductive RL (m:Bool):List Va->List Va->Prop
 | nil:RL m [] []
 | cons {a b:Va} {l r:List Va}:a.lst=false->RV m a b->RL m l r->RL m (a::l) (b::r)
variable {l r:List Va}
theorem RL.at (h:RL m l r):∀ n:Nat,(l[n]?=none/\r[n]?=none)∨∃ a b,l[n]?=some a/\r[n]?=some b/\RV m a b:=by
 induction h with
 | nil=>exact fun n=>.inl ⟨rfl,rfl⟩
 | cons h1 h2 _ ih =>
   intro n;cases n with
   | zero=>exact .inr ⟨_,_,rfl,rfl,h2⟩
   | succ n=>simpa using ih n
section
variable {m:Bool} {G:lQ} {P:List (List Gv)} {i1 i2:ByteArray->Option ByteArray} {l1 l2:ByteArray} {r1 r2:sD}
theorem KQ (g:Gv):(givF g).lst=false:=by
 unfold givF;split
 .rfl
 split<;>rfl
theorem F1 (hΓ:Eg.ok ⟨G,P,i1,l1⟩) (hr:RR m ⟨G,P,i1,l1⟩ ⟨G,P,i2,l2⟩ r1 r2) (hk1:RK ⟨G,P,i1,l1⟩ r1) (hk2:RK ⟨G,P,i2,l2⟩ r2) (sc:Nat) (nm:ByteArray) (h:RS m s t) (K1:KI ⟨G,P,i1,l1⟩ s) (K2:KI ⟨G,P,i2,l2⟩ t) :
 U4 m (gU r1 ⟨G,P,i1,l1⟩ sc nm s) (gU r2 ⟨G,P,i2,l2⟩ sc nm t):=by
 unfold gU;simp only;cases hc:G.sc[sc]? with
 | none=>trivial
 | some c =>
   simp only;cases hp:zI c.t.params nm with
   | none=>trivial
   | some p =>
     simp only;cases ha:mL sc c.args nm with
     | some a =>
       refine zL h (PC (hr _ _ _ _ (h.enter _) (K1.of rfl) (K2.of rfl)) (fun h0 hs=>?_));obtain⟨g,hg,hu⟩:=hΓ.nb sc c p nm hc hp hs;obtain⟨g',h3,h4,h5⟩:=hΓ.ar sc c a nm g hc ha hg hu;have e1:=(hk1 c.parent.toNat a.e (s.enter ⟨false,(sc:Int),p.name⟩) (K1.of rfl)).2 h0 g' h3 h4;have hra:=hr c.parent.toNat a.e _ _ (h.enter ⟨false,(sc:Int),p.name⟩) (K1.of rfl) (K2.of rfl);have e2:=(hk2 c.parent.toNat a.e (t.enter ⟨false,(sc:Int),p.name⟩) (K2.of rfl)).2 (by rw[<-hra.1.e];exact h0) g' h3 h4;exact⟨e1.1,e2.1,e1.2.1,by rw[e1.2.2,e2.2.2]⟩
     | none =>
       simp only;cases hg:gR (P.getD sc []) nm with
       | none=>exact RA.err h 160 (by decide)
       | some g=>exact⟨h,fun _=>RV.refl (KQ g)⟩
theorem NL (hΓ:Eg.ok ⟨G,P,i1,l1⟩) (hI:RI m i1 i2 l1 l2) (hr:RR m ⟨G,P,i1,l1⟩ ⟨G,P,i2,l2⟩ r1 r2) (hk1:RK ⟨G,P,i1,l1⟩ r1) (hk2:RK ⟨G,P,i2,l2⟩ r2) (sc:Nat) (x:Ex) (h:RS m s t) (K1:KI ⟨G,P,i1,l1⟩ s) (K2:KI ⟨G,P,i2,l2⟩ t) :
 RA m (nZ r1 ⟨G,P,i1,l1⟩ sc x s) (nZ r2 ⟨G,P,i2,l2⟩ sc x t):=by
 have hp:=F1 hΓ hr hk1 hk2 sc x.name h K1 K2;unfold nZ;cases e1:gU r1 ⟨G,P,i1,l1⟩ sc x.name s with
 | some a =>
   cases e2:gU r2 ⟨G,P,i2,l2⟩ sc x.name t with
   | some b=>rw[e1,e2] at hp;exact hp
   | none=>rw[e1,e2] at hp;exact hp.elim
 | none =>
   cases e2:gU r2 ⟨G,P,i2,l2⟩ sc x.name t with
   | some b=>rw[e1,e2] at hp;exact hp.elim
   | none =>
     simp only;have hn:=EF (G:=G) (P:=P) hI sc x.name;cases e3:gW ⟨G,P,i1,l1⟩ sc x.name with
     | none =>
       cases e4:gW ⟨G,P,i2,l2⟩ sc x.name with
       | none=>exact RA.err h 160 (by decide)
       | some b=>rw[e3,e4] at hn;exact hn.elim
     | some a =>
       cases e4:gW ⟨G,P,i2,l2⟩ sc x.name with
       | none=>rw[e3,e4] at hn;exact hn.elim
       | some b=>rw[e3,e4] at hn;exact⟨h,fun _=>CL hn.2.1 hn.2.2⟩
theorem attrF_R (kind a b nm:ByteArray):(jM kind a nm=none/\jM kind b nm=none)∨∃ x y,jM kind a nm=some x/\jM kind b nm=some y/\(a.size<=b.size->x.size<=y.size)/\(b=a->y=x):=by
 unfold jM;split
 .exact .inl ⟨rfl,rfl⟩
 split
 .exact .inr ⟨_,_,rfl,rfl,fun h=>by simp[aY];omega,fun h=>by rw[h]⟩
 split
 .exact .inr ⟨_,_,rfl,rfl,fun h=>by simp only[ByteArray.size_extract];omega,fun h=>by rw[h]⟩
 exact .inl ⟨rfl,rfl⟩
theorem NV (hr:RR m ⟨G,P,i1,l1⟩ ⟨G,P,i2,l2⟩ r1 r2) (k:Nat) (a:ByteArray) (h:RS m s t) (K1:KI ⟨G,P,i1,l1⟩ s) (K2:KI ⟨G,P,i2,l2⟩ t) :
 RA m (mN r1 ⟨G,P,i1,l1⟩ k a s) (mN r2 ⟨G,P,i2,l2⟩ k a t):=by
 unfold mN;simp only;cases hc:G.sc[k]? with
 | none=>exact⟨h,fun _=>RV.refl rfl⟩
 | some c =>
   simp only;split
   .exact RA.err h 160 (by decide)
   show RA m (if oH ⟨G,P,i1,l1⟩ k _=true then _ else _) (if oH ⟨G,P,i1,l1⟩ k _=true then _ else _)
   split
   .exact zL h (hr _ _ _ _ (h.enter _) (K1.of rfl) (K2.of rfl))
   exact RA.err h 160 (by decide)
theorem O7 (hI:RI m i1 i2 l1 l2) (hr:RR m ⟨G,P,i1,l1⟩ ⟨G,P,i2,l2⟩ r1 r2) (sc:Nat) (x:Ex) (h:RS m s t) (K1:KI ⟨G,P,i1,l1⟩ s) (K2:KI ⟨G,P,i2,l2⟩ t) :
 RA m (oC r1 ⟨G,P,i1,l1⟩ sc x s) (oC r2 ⟨G,P,i2,l2⟩ sc x t):=by
 unfold oC;simp only;cases hi:u6 G sc x.name with
 | some k=>exact NV hr k _ h K1 K2
 | none =>
   simp only;have hn:=EF (G:=G) (P:=P) hI sc x.name;cases e3:gW ⟨G,P,i1,l1⟩ sc x.name with
   | none =>
     cases e4:gW ⟨G,P,i2,l2⟩ sc x.name with
     | none=>exact RA.err h 160 (by decide)
     | some b=>rw[e3,e4] at hn;exact hn.elim
   | some a =>
     cases e4:gW ⟨G,P,i2,l2⟩ sc x.name with
     | none=>rw[e3,e4] at hn;exact hn.elim
     | some b =>
       rw[e3,e4] at hn;obtain⟨n1,n2,n3⟩:=hn;simp only;rw[<-n1];rcases attrF_R a.1.r.type a.2.1 b.2.1 x.attr with ⟨h1,h2⟩ | ⟨u,v,h1,h2,h3,h4⟩
       .rw[h1,h2];exact RA.err h 160 (by decide)
       rw[h1,h2];exact⟨h,fun _=>CL (fun x y=>h3 (n2 x y)) (fun hm x=>⟨(n3 hm x).1,h4 (n3 hm x).2⟩)⟩
theorem wV (sc:Nat) (x:Ex) (h:RS m s t):(fV ⟨G,P,i1,l1⟩ sc x s).1=(fV ⟨G,P,i2,l2⟩ sc x t).1/\RS m (fV ⟨G,P,i1,l1⟩ sc x s).2 (fV ⟨G,P,i2,l2⟩ sc x t).2:=by
 unfold fV;have e:qY ⟨G,P,i2,l2⟩ sc x.name=qY ⟨G,P,i1,l1⟩ sc x.name:=rfl;rw[e];split
 .split
  .exact⟨rfl,h.fail 160⟩
  .exact⟨rfl,h⟩
  exact⟨rfl,h⟩
 exact⟨rfl,h.fail 121⟩
theorem EQ (sc:Nat):∀ (n:Nat) (x:Ex) {s t:Es},RS m s t->(gN ⟨G,P,i1,l1⟩ sc n x s).1=(gN ⟨G,P,i2,l2⟩ sc n x t).1/\RS m (gN ⟨G,P,i1,l1⟩ sc n x s).2 (gN ⟨G,P,i2,l2⟩ sc n x t).2
 | 0,x,s,t,h=>⟨rfl,h⟩
 | n+1,x,s,t,h=>by
   unfold gN;rw[<-h.e];split
   .have:=wV (G:=G) (P:=P) (i1:=i1) (i2:=i2) (l1:=l1) (l2:=l2) sc x h;simp only;rw[<-this.1];exact EQ sc n _ this.2
   exact⟨rfl,h⟩
theorem NR {r:Va × Es} (h:RA m r q):RS m (partK r) (partK q)/\((partK r).e=0->r.1.lst=false/\RV m r.1 q.1):=by
 unfold partK;by_cases h0:r.2.e=0
 .have hq0:q.2.e=0:=by rw[<-h.1.e];exact h0
  have hv:=h.2 h0;have key:(r.1.lst=true∨(r.1.unk=false/\r.1.v.kind≠3/\r.1.v.kind≠2))↔(q.1.lst=true∨(q.1.unk=false/\q.1.v.kind≠3/\q.1.v.kind≠2)):=by
   rw[<-hv.lst];cases hl:r.1.lst with
   | true=>simp
   | false =>
     cases hu:r.1.unk with
     | true =>
       cases hw:q.1.unk with
       | true=>simp
       | false=>simp[hv.ab hu hw hl]
     | false =>
       cases hw:q.1.unk with
       | true=>simp[hv.ba hw hu hl]
       | false=>rw[(hv.bo hu hw).kind]
  by_cases hc:r.1.lst=true∨(r.1.unk=false/\r.1.v.kind≠3/\r.1.v.kind≠2)
  .rw[if_pos ⟨h0,hc⟩,if_pos ⟨hq0,key.1 hc⟩];exact⟨h.1.fail 121,fun h=>absurd h (es_fail (by decide))⟩
  rw[if_neg (fun e=>hc e.2),if_neg (fun e=>hc (key.2 e.2))];exact⟨h.1,fun _=>⟨by cases hl:r.1.lst with | true=>exact absurd (.inl hl) hc | false=>rfl,hv⟩⟩
 rw[if_neg (fun e=>h0 e.1),if_neg (fun e=>h0 (by rw[h.1.e];exact e.1))];exact⟨h.1,fun e=>absurd e h0⟩
theorem tL (hr:RR m ⟨G,P,i1,l1⟩ ⟨G,P,i2,l2⟩ r1 r2) (hk1:RK ⟨G,P,i1,l1⟩ r1) (hk2:RK ⟨G,P,i2,l2⟩ r2) (sc:Nat):∀ (l:List Ex) {s t:Es},RS m s t->KI ⟨G,P,i1,l1⟩ s->KI ⟨G,P,i2,l2⟩ t ->
 RS m (partsF r1 sc l s).2 (partsF r2 sc l t).2/\((partsF r1 sc l s).2.e=0->RL m (partsF r1 sc l s).1 (partsF r2 sc l t).1)
 | [],s,t,h,_,_=>⟨h,fun _=>.nil⟩
 | x::l,s,t,h,K1,K2=>by
   unfold partsF;simp only;obtain⟨h1,h2⟩:=NR (hr sc x s t h K1 K2);by_cases h0:(partK (r1 sc x s)).e=0
   .have h0':(partK (r2 sc x t)).e=0:=by rw[<-h1.e];exact h0
    rw[gT h0,gT h0'];obtain⟨h3,h4⟩:=tL hr hk1 hk2 sc l h1 ((hk1 sc x s K1).1.of (mC _)) ((hk2 sc x t K2).1.of (mC _));exact⟨h3,fun e=>.cons (h2 h0).1 (h2 h0).2 (h4 e)⟩
   have h0':(partK (r2 sc x t)).e≠0:=by rw[<-h1.e];exact h0
   rw[if_er h0,if_er h0'];exact⟨h1,fun e=>absurd e h0⟩
theorem uI (hr:RR m ⟨G,P,i1,l1⟩ ⟨G,P,i2,l2⟩ r1 r2) (hk1:RK ⟨G,P,i1,l1⟩ r1) (hk2:RK ⟨G,P,i2,l2⟩ r2) (sc:Nat) (x:Ex) (h:RS m s t) (K1:KI ⟨G,P,i1,l1⟩ s) (K2:KI ⟨G,P,i2,l2⟩ t) :
 RS m (elemsF r1 ⟨G,P,i1,l1⟩ sc x s).2 (elemsF r2 ⟨G,P,i2,l2⟩ sc x t).2/\((elemsF r1 ⟨G,P,i1,l1⟩ sc x s).2.e=0->RL m (elemsF r1 ⟨G,P,i1,l1⟩ sc x s).1 (elemsF r2 ⟨G,P,i2,l2⟩ sc x t).1):=by
 unfold elemsF;simp only;obtain⟨h1,h2⟩:=EQ (G:=G) (P:=P) (i1:=i1) (i2:=i2) (l1:=l1) (l2:=l2) sc (SizeOf.sizeOf x) x h;have h3:RS m (iC (gN ⟨G,P,i1,l1⟩ sc (SizeOf.sizeOf x) x s)) (iC (gN ⟨G,P,i2,l2⟩ sc (SizeOf.sizeOf x) x t)):=by
  unfold iC;rw[<-h1,<-h2.e];split
  .exact h2.fail 121
  exact h2
 by_cases h0:(iC (gN ⟨G,P,i1,l1⟩ sc (SizeOf.sizeOf x) x s)).e=0
 .have h0':(iC (gN ⟨G,P,i2,l2⟩ sc (SizeOf.sizeOf x) x t)).e=0:=by rw[<-h3.e];exact h0
  rw[gT h0,gT h0',<-h1];exact tL hr hk1 hk2 sc _ h3 (K1.of (by rw[mG,kM])) (K2.of (by rw[mG,kM]))
 have h0':(iC (gN ⟨G,P,i2,l2⟩ sc (SizeOf.sizeOf x) x t)).e≠0:=by rw[<-h3.e];exact h0
 rw[if_er h0,if_er h0'];exact⟨h3,fun e=>absurd e h0⟩
def JR (m:Bool) (a b:ByteArray × Nat × Bool):Prop:=a.2.1=b.2.1/\(a.2.2=true->b.2.2=true->a.1.size<=b.1.size)/\(m=true->a.2.2=true->b.2.2=true/\b.1=a.1)
theorem joinG_R (btw:ByteArray) (h:RL m l r):∀ (fst:Bool) {a b:ByteArray × Nat × Bool},JR m a b ->
 (joinG btw fst l a=none/\joinG btw fst r b=none)∨∃ x y,joinG btw fst l a=some x/\joinG btw fst r b=some y/\JR m x y:=by
 induction h with
 | nil=>exact fun fst a b h=>.inr ⟨a,b,rfl,rfl,h⟩
 | @cons u v l r hl hv _ ih =>
   intro fst a b h;unfold joinG;have hk:(u.unk=false/\u.v.kind=2)↔(v.unk=false/\v.v.kind=2):=by
    cases hu:u.unk with
    | true =>
      cases hw:v.unk with
      | true=>simp
      | false=>simp[hv.ab hu hw hl]
    | false =>
      cases hw:v.unk with
      | true=>simp[hv.ba hw hu hl]
      | false=>simp[(hv.bo hu hw).kind]
   have hn:u.unk=false->u.v.kind=2->v.v.num=u.v.num:=fun hu h2=>((hv.bo hu (hk.1 ⟨hu,h2⟩).1).num h2).symm
   by_cases hc:u.unk=false/\u.v.kind=2/\nFits u.v.num=false
   .have:=hk.1 ⟨hc.1,hc.2.1⟩;have hc':v.unk=false/\v.v.kind=2/\nFits v.v.num=false:=⟨this.1,this.2,by rw[hn hc.1 hc.2.1];exact hc.2.2⟩
    rw[if_pos hc,if_pos hc'];exact .inl ⟨rfl,rfl⟩
   have hc':¬(v.unk=false/\v.v.kind=2/\nFits v.v.num=false):=fun e=>by have:=hk.2 ⟨e.1,e.2.1⟩;exact hc ⟨this.1,this.2,by rw[<-hn this.1 this.2];exact e.2.2⟩
   rw[if_neg hc,if_neg hc'];refine ih false ⟨?_,fun h1 h2=>?_,fun hm h1=>?_⟩
   .simp only;rw[h.1,hv.most]
   .simp only[bJ,Bool.not_eq_true'] at h1 h2;have hs:=h.2.1 h1.1 h2.1;have hx:(if u.unk=false/\u.v.kind=2 then nTx u.v.num else u.v.text).size<=(if v.unk=false/\v.v.kind=2 then nTx v.v.num else v.v.text).size:=by
     by_cases hq:u.unk=false/\u.v.kind=2
     .rw[if_pos hq,if_pos (hk.1 hq),hn hq.1 hq.2];exact aA _
     rw[if_neg hq,if_neg (fun e=>hq (hk.2 e))];exact(hv.bo h1.2 h2.2).text
    simp only[aY];cases fst
    .simp only[Bool.false_eq_true,if_false,aY];omega
    simp only[if_true];omega
   simp only[bJ,Bool.not_eq_true'] at h1 ⊢;obtain⟨h3,h4⟩:=h.2.2 hm h1.1;obtain⟨h5,h6⟩:=hv.eq hm h1.2;refine⟨⟨h3,h5⟩,?_⟩;rw[h4,h5,h6,h1.2]
theorem t8 (btw:ByteArray) (h:RS m s t) (hl:s.e=0->RL m l r):RA m (gA l btw s) (gA r btw t):=by
 unfold gA;by_cases h0:s.e=0
 .have h0':t.e=0:=by rw[<-h.e];exact h0
  rw[gT h0,gT h0'];rcases joinG_R btw (hl h0) true (a:=(ByteArray.empty,0,true)) (b:=(ByteArray.empty,0,true)) ⟨rfl,fun _ _=>aA _,fun _ _=>⟨rfl,rfl⟩⟩ with ⟨h1,h2⟩ | ⟨x,y,h1,h2,h3,h4,h5⟩
  .rw[h1,h2];exact RA.err h 121 (by decide)
  rw[h1,h2];simp only;rw[<-h3];split
  .exact RA.err h 3 (by decide)
  exact⟨h,fun _=>CL h4 h5⟩
 have h0':t.e≠0:=by rw[<-h.e];exact h0
 rw[if_er h0,if_er h0'];exact⟨h,fun e=>absurd e h0⟩
theorem QO {r:Va × Es} (h:RA m r q):RS m (gY r) (gY q)/\((gY r).e=0->r.1.v.num=q.1.v.num):=by
 unfold gY;by_cases h0:r.2.e=0
 .have hq0:q.2.e=0:=by rw[<-h.1.e];exact h0
  have hv:=h.2 h0;have key:(r.1.unk=true∨r.1.v.kind≠2)↔(q.1.unk=true∨q.1.v.kind≠2):=by
   cases hl:r.1.lst with
   | true=>have:=hv.lk hl;simp[this.1,this.2]
   | false =>
     cases hu:r.1.unk with
     | true =>
       cases hw:q.1.unk with
       | true=>simp
       | false=>simp[hv.ab hu hw hl]
     | false =>
       cases hw:q.1.unk with
       | true=>simp[hv.ba hw hu hl]
       | false=>rw[(hv.bo hu hw).kind]
  by_cases hc:r.1.unk=true∨r.1.v.kind≠2
  .rw[if_pos ⟨h0,hc⟩,if_pos ⟨hq0,key.1 hc⟩];exact⟨h.1.fail 121,fun h=>absurd h (es_fail (by decide))⟩
  rw[if_neg (fun e=>hc e.2),if_neg (fun e=>hc (key.2 e.2))];refine⟨h.1,fun _=>?_⟩;have hu:r.1.unk=false:=by cases hx:r.1.unk with | true=>exact absurd (.inl hx) hc | false=>rfl
  have hw:q.1.unk=false:=by cases hx:q.1.unk with | true=>exact absurd (key.2 (.inl hx)) hc | false=>rfl
  have hk:r.1.v.kind=2:=by by_cases hx:r.1.v.kind=2;exact hx;exact absurd (.inr hx) hc
  exact(hv.bo hu hw).num hk
 rw[if_neg (fun e=>h0 e.1),if_neg (fun e=>h0 (by rw[h.1.e];exact e.1))];exact⟨h.1,fun e=>absurd e h0⟩
theorem NH (hr:RR m ⟨G,P,i1,l1⟩ ⟨G,P,i2,l2⟩ r1 r2) (hk1:RK ⟨G,P,i1,l1⟩ r1) (hk2:RK ⟨G,P,i2,l2⟩ r2) (sc:Nat) (x:Ex) (h:RS m s t) (K1:KI ⟨G,P,i1,l1⟩ s) (K2:KI ⟨G,P,i2,l2⟩ t) :
 RA m (jW r1 ⟨G,P,i1,l1⟩ sc x s) (jW r2 ⟨G,P,i2,l2⟩ sc x t):=by
 unfold jW;split
 .next a b hxl =>
  simp only;obtain⟨h1,h2⟩:=QO (hr sc a s t h K1 K2);by_cases h0:(gY (r1 sc a s)).e=0
  .have h0':(gY (r2 sc a t)).e=0:=by rw[<-h1.e];exact h0
   rw[gT h0,gT h0',<-h2 h0];obtain⟨h3,h4⟩:=uI hr hk1 hk2 sc b h1 ((hk1 sc a s K1).1.of (nL _)) ((hk2 sc a t K2).1.of (nL _));by_cases h5:(elemsF r1 ⟨G,P,i1,l1⟩ sc b (gY (r1 sc a s))).2.e=0
   .have h5':(elemsF r2 ⟨G,P,i2,l2⟩ sc b (gY (r2 sc a t))).2.e=0:=by rw[<-h3.e];exact h5
    rw[gT h5,gT h5'];split
    .exact RA.err h3 121 (by decide)
    rcases (h4 h5).at (r1 sc a s).1.v.num.toNat with ⟨h6,h7⟩ | ⟨u,v,h6,h7,h8⟩
    .rw[h6,h7];exact RA.err h3 121 (by decide)
    rw[h6,h7];exact⟨h3,fun _=>h8⟩
   have h5':(elemsF r2 ⟨G,P,i2,l2⟩ sc b (gY (r2 sc a t))).2.e≠0:=by rw[<-h3.e];exact h5
   rw[if_er h5,if_er h5'];exact⟨h3,fun e=>absurd e h5⟩
  have h0':(gY (r2 sc a t)).e≠0:=by rw[<-h1.e];exact h0
  rw[if_er h0,if_er h0'];exact⟨h1,fun e=>absurd e h0⟩
 exact RA.err h 121 (by decide)
def LR (m:Bool) (a b:Bool × List Vl):Prop:=a.2.length=b.2.length/\(a.1=false->b.1=false->∀ (k:Nat) (x y:Vl),a.2[k]?=some x->b.2[k]?=some y->x.text.size<=y.text.size)/\(m=true->a.1=false->b.1=false/\b.2=a.2)
theorem listG_R (h:RL m l r):∀ {a b:Bool × List Vl},LR m a b->(listG l a=none/\listG r b=none)∨∃ x y,listG l a=some x/\listG r b=some y/\LR m x y:=by
 induction h with
 | nil=>exact fun {a b} h=>.inr ⟨a,b,rfl,rfl,h⟩
 | @cons u v l r hl hv _ ih =>
   intro a b h;unfold listG;have hk:(u.unk=false/\u.v.kind≠3)↔(v.unk=false/\v.v.kind≠3):=by
    cases hu:u.unk with
    | true =>
      cases hw:v.unk with
      | true=>simp
      | false=>simp[hv.ab hu hw hl]
    | false =>
      cases hw:v.unk with
      | true=>simp[hv.ba hw hu hl]
      | false=>simp[(hv.bo hu hw).kind]
   by_cases hc:u.unk=false/\u.v.kind≠3
   .rw[if_pos hc,if_pos (hk.1 hc)];exact .inl ⟨rfl,rfl⟩
   rw[if_neg hc,if_neg (fun e=>hc (hk.2 e))];refine ih ⟨by simp[h.1],fun h1 h2 k x y hx hy=>?_,fun hm h1=>?_⟩
   .simp only[dQ] at h1 h2;simp only at hx hy;by_cases hlt:k<a.2.length
    .rw[bZ hlt] at hx;rw[bZ (by rw[<-h.1];exact hlt)] at hy;exact h.2.1 h1.1 h2.1 k x y hx hy
    rw[bH (by omega)] at hx;rw[bH (by rw[<-h.1];omega),<-h.1] at hy;cases hkk:k-a.2.length with
    | zero =>
      rw[hkk] at hx hy;simp at hx hy;subst hx;subst hy;exact(hv.bo h1.2 h2.2).text
    | succ j=>rw[hkk] at hx;simp at hx
   simp only[dQ] at h1 ⊢;obtain⟨h3,h4⟩:=h.2.2 hm h1.1;obtain⟨h5,h6⟩:=hv.eq hm h1.2;exact⟨⟨h3,h5⟩,by rw[h4,h6]⟩
theorem J5 (hr:RR m ⟨G,P,i1,l1⟩ ⟨G,P,i2,l2⟩ r1 r2) (hk1:RK ⟨G,P,i1,l1⟩ r1) (hk2:RK ⟨G,P,i2,l2⟩ r2) (sc:Nat) (x:Ex) (h:RS m s t) (K1:KI ⟨G,P,i1,l1⟩ s) (K2:KI ⟨G,P,i2,l2⟩ t) :
 RA m (lE r1 ⟨G,P,i1,l1⟩ sc x s) (lE r2 ⟨G,P,i2,l2⟩ sc x t):=by
 unfold lE;simp only;obtain⟨h3,h4⟩:=uI hr hk1 hk2 sc x h K1 K2;by_cases h5:(elemsF r1 ⟨G,P,i1,l1⟩ sc x s).2.e=0
 .have h5':(elemsF r2 ⟨G,P,i2,l2⟩ sc x t).2.e=0:=by rw[<-h3.e];exact h5
  rw[gT h5,gT h5'];rcases listG_R (h4 h5) (a:=(false,[])) (b:=(false,[])) ⟨rfl,fun _ _ k x y h=>by simp at h,fun _ _=>⟨rfl,rfl⟩⟩ with ⟨h1,h2⟩ | ⟨u,v,h1,h2,h6,h7,h8⟩
  .rw[h1,h2];exact RA.err h3 121 (by decide)
  rw[h1,h2];refine⟨h3,fun _=>⟨rfl,rfl,fun _ _ h=>(by cases h),fun _ _ h=>(by cases h),fun hu hw=>⟨rfl,fun _=>rfl,aA _,h6,h7 hu hw⟩,fun _=>⟨rfl,rfl⟩,fun hm hu=>?_⟩⟩;obtain⟨h9,h10⟩:=h8 hm hu;exact⟨h9,by show (⟨4,false,0,ByteArray.empty,v.2,[]⟩:Vl)=⟨4,false,0,ByteArray.empty,u.2,[]⟩;rw[h10]⟩
 have h5':(elemsF r2 ⟨G,P,i2,l2⟩ sc x t).2.e≠0:=by rw[<-h3.e];exact h5
 rw[if_er h5,if_er h5'];exact⟨h3,fun e=>absurd e h5⟩
theorem K9 (hΓ:Eg.ok ⟨G,P,i1,l1⟩) (hI:RI m i1 i2 l1 l2) (hr:RR m ⟨G,P,i1,l1⟩ ⟨G,P,i2,l2⟩ r1 r2) (hk1:RK ⟨G,P,i1,l1⟩ r1) (hk2:RK ⟨G,P,i2,l2⟩ r2):RR m ⟨G,P,i1,l1⟩ ⟨G,P,i2,l2⟩ (exprF r1 ⟨G,P,i1,l1⟩) (exprF r2 ⟨G,P,i2,l2⟩):=by
 intro sc x s t h K1 K2;unfold exprF;by_cases h0:s.e=0
 .have h0':t.e=0:=by rw[<-h.e];exact h0
  rw[gT h0,gT h0'];unfold rN;by_cases k0:x.kind=0
  .rw[if_pos k0,if_pos k0];exact⟨h,fun _=>RV.refl rfl⟩
  rw[if_neg k0,if_neg k0];by_cases k1:x.kind=1
  .rw[if_pos k1,if_pos k1];exact⟨h,fun _=>RV.refl rfl⟩
  rw[if_neg k1,if_neg k1];by_cases k2:x.kind=2
  .rw[if_pos k2,if_pos k2];exact J5 hr hk1 hk2 sc x h K1 K2
  rw[if_neg k2,if_neg k2];by_cases k3:x.kind=3
  .rw[if_pos k3,if_pos k3];exact NL hΓ hI hr hk1 hk2 sc x h K1 K2
  rw[if_neg k3,if_neg k3];by_cases k4:x.kind=4
  .rw[if_pos k4,if_pos k4];exact O7 hI hr sc x h K1 K2
  rw[if_neg k4,if_neg k4];by_cases k5:x.kind=5
  .rw[if_pos k5,if_pos k5];obtain⟨h1,h2⟩:=tL hr hk1 hk2 sc x.l h K1 K2;exact t8 _ h1 h2
  rw[if_neg k5,if_neg k5];by_cases k6:x.kind=6
  .rw[if_pos k6,if_pos k6];unfold sO;have:=wV (G:=G) (P:=P) (i1:=i1) (i2:=i2) (l1:=l1) (l2:=l2) sc x h;simp only;rw[<-this.1];exact hr _ _ _ _ this.2 (K1.of (jI _ _ _)) (K2.of (jI _ _ _))
  rw[if_neg k6,if_neg k6];by_cases k7:x.kind=7
  .rw[if_pos k7,if_pos k7];unfold qA;split
   .next y hy =>
    obtain⟨h1,h2⟩:=uI hr hk1 hk2 sc y h K1 K2;exact t8 _ h1 h2
   exact RA.err h 121 (by decide)
  rw[if_neg k7,if_neg k7];by_cases k8:x.kind=8
  .rw[if_pos k8,if_pos k8];exact NH hr hk1 hk2 sc x h K1 K2
  rw[if_neg k8,if_neg k8];exact RA.err h 121 (by decide)
 have h0':t.e≠0:=by rw[<-h.e];exact h0
 rw[if_er h0,if_er h0'];exact⟨h,fun e=>absurd e h0⟩
theorem LF (hΓ:Eg.ok ⟨G,P,i1,l1⟩) (hI:RI m i1 i2 l1 l2):∀ n,RR m ⟨G,P,i1,l1⟩ ⟨G,P,i2,l2⟩ (evF n ⟨G,P,i1,l1⟩) (evF n ⟨G,P,i2,l2⟩)
 | 0=>fun sc x s t h _ _=>RA.err h 1 (by decide)
 | n+1=>K9 hΓ hI (LF hΓ hI n) (DC hΓ n) (DC (Γ:=⟨G,P,i2,l2⟩) ⟨hΓ.nm,hΓ.ar,hΓ.nb,hΓ.sp⟩ n)
