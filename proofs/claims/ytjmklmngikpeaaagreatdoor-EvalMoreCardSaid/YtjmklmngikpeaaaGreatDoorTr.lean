/- Part of the proof. -/
import Derived.Deep.Slices
import Derived.Lib.SmallJoins
import Derived.Test.YtjmklmngikpeaaaGreatDoorMem
import Derived.Test.YtjmklmngikpeaaaGreatDoorProg
import Derived.KernelRfl
set_option linter.unusedVariables false
set_option linter.unusedSimpArgs false
namespace Go.Proofs.YtjmklmngikpeaaaGreatDoor
open Go.RowKit Go.ChangeShapes Go.WideShapes Go.ChangeAt
variable {vs:List Value}{c n:Nat}{F:Nat->Prop}{A:Option Addr}
inductive Tr where
 | leaf (v:Value)
 | sl (sz b n:Nat) (ts:List Tr)
def mD:Value->Prop
 | .int k z=>(Lit.int k z).wf=true
 | .string s=>s.size<=9007199254740992
 | _=>True
mutual
def Tr.at (S:Nat->Prop) (w:World):Tr->Value->Prop
 | .leaf u,v=>v=u/\mD u
 | .sl sz b n ts,v=>∃ A c vs,v=.slice A n c/\Rd w sz A n c vs/\(0<sz/\n*b<=140737488351232)/\(∀ ad,A=some ad->0<n->S ad.block)/\Trs.at S w ts vs
def Trs.at (S:Nat->Prop) (w:World):List Tr->List Value->Prop
 | [],vs=>vs=[]
 | t::ts,vs=>∃ v vs',vs=v::vs'/\t.at S w v/\Trs.at S w ts vs'
end
variable {ts:List Tr}
section
variable {S S':Nat->Prop} {w w':World}
mutual
theorem Tr.at.keep (hk:∀ p:Addr,p.block<w.heap.size->S p.block->w'.cell? p=w.cell? p) (hS:∀ k,S k->S' k):∀ (t:Tr) (v:Value),t.at S w v->t.at S' w' v
 | .leaf u,v,h=>by simp only[Tr.at] at h ⊢;exact h
 | .sl sz b n ts,v,h=>by
   simp only[Tr.at] at h ⊢;obtain⟨A,c,vs,rfl,hr,hb,hs,ht⟩:=h;refine⟨A,c,vs,rfl,⟨hr.len,hr.cap,hr.max,fun j u hu=>?_⟩,hb,fun ad e h0=>hS _ (hs ad e h0),Trs.at.keep hk hS ts vs ht⟩;obtain⟨ad,e,hc⟩:=hr.at_ j u hu;have hn:0<n:=by
    rcases dG n with h0 | h0
    .have:=hr.len;rw[h0,Nat.zero_mul] at this;rw[bO this] at hu;cases hu
    exact h0
   exact⟨ad,e,(hk _ (aF w _ hc) (by rw[block_of_add];exact hs ad e hn)).trans hc⟩
theorem Trs.at.keep (hk:∀ p:Addr,p.block<w.heap.size->S p.block->w'.cell? p=w.cell? p) (hS:∀ k,S k->S' k):∀ (ts:List Tr) (vs:List Value),Trs.at S w ts vs->Trs.at S' w' ts vs
 | [],vs,h=>by simp only[Trs.at] at h ⊢;exact h
 | t::ts,vs,h=>by
   simp only[Trs.at] at h ⊢;obtain⟨v,vs',rfl,h1,h2⟩:=h;exact⟨v,vs',rfl,Tr.at.keep hk hS t v h1,Trs.at.keep hk hS ts vs' h2⟩
end
theorem Trs.at.below (h:Trs.at S w ts vs) (hb:Below w.heap.size w w'):Trs.at S w' ts vs:=Trs.at.keep (fun _ hp _=>hb.cell hp) (fun _ h=>h) ts vs h
theorem Trs.at.alloc {ts:List Tr} {vs:List Value} (h:Trs.at S w ts vs) (o:Obj):Trs.at S (w.alloc o) ts vs:=Trs.at.keep (fun p hp _=>cL w o p hp) (fun _ h=>h) ts vs h
theorem Trs.at.drewN {ts:List Tr} {vs:List Value} (h:Trs.at S w ts vs) (k:Nat):Trs.at S (w.drewN k) ts vs:=Trs.at.keep (w:=w) (w':=w.drewN k) (fun _ _ _=>rfl) (fun _ h=>h) ts vs h
theorem Trs.at.only (h:Trs.at S w ts vs) (ho:fP F w w') (hF:∀ k,S k->¬F k):Trs.at S w' ts vs :=
 Trs.at.keep (fun p hp hs=>by
  have:=ho.block p.block hp (hF _ hs);unfold World.cell?;rw[this]) (fun _ h=>h) ts vs h
theorem Trs.at.mono (h:Trs.at S w ts vs) (hS:∀ k,S k->S' k):Trs.at S' w ts vs:=Trs.at.keep (w':=w) (fun _ _ _=>rfl) hS ts vs h
theorem Trs.at.len:∀ {ts:List Tr} {vs:List Value},Trs.at S w ts vs->vs.length=ts.length
 | [],vs,h=>by simp only[Trs.at] at h;subst h;rfl
 | t::ts,vs,h=>by
   simp only[Trs.at] at h;obtain⟨v,vs',rfl,_,h2⟩:=h;simp[Trs.at.len h2]
theorem Trs.at.app:∀ {ts us:List Tr} {vs:List Value},Trs.at S w (ts++us) vs↔∃ a b,vs=a++b/\Trs.at S w ts a/\Trs.at S w us b
 | [],us,vs=>by
   constructor
   .intro h;exact⟨[],vs,rfl,by simp only[Trs.at],h⟩
   rintro⟨a,b,rfl,h1,h2⟩;simp only[Trs.at] at h1;subst h1;exact h2
 | t::ts,us,vs=>by
   constructor
   .intro h;simp only[bM,Trs.at] at h;obtain⟨v,vs',rfl,h1,h2⟩:=h;obtain⟨a,b,rfl,h3,h4⟩:=Trs.at.app.1 h2;exact⟨v::a,b,rfl,by simp only[Trs.at];exact⟨v,a,rfl,h1,h3⟩,h4⟩
   rintro⟨a,b,rfl,h1,h2⟩;simp only[Trs.at] at h1;obtain⟨v,a',rfl,h3,h4⟩:=h1;simp only[bM,Trs.at];exact⟨v,a'++b,rfl,h3,Trs.at.app.2 ⟨a',b,rfl,h4,h2⟩⟩
theorem Trs.at.elem {α:Type} {tr:α->List Tr} {sz:Nat} (hsz:∀ a,(tr a).length=sz):∀ {l:List α} {vs:List Value},Trs.at S w (l.flatMap tr) vs->∀ (i:Nat) (x:α),l[i]?=some x->Trs.at S w (tr x) ((vs.drop (i*sz)).take sz)
 | [],vs,_,i,x,hx=>by simp at hx
 | y::l,vs,h,i,x,hx=>by
   rw[aW] at h;obtain⟨a,b,rfl,h1,h2⟩:=Trs.at.app.1 h;have ha:a.length=sz:=by rw[h1.len,hsz]
   cases i with
   | zero =>
     simp at hx;subst hx;simp only[Nat.zero_mul,eI];rw[<-ha,List.take_left];exact h1
   | succ i =>
     have:=Trs.at.elem hsz h2 i x (by simpa using hx);rwa [fF,Nat.add_comm,<-List.drop_drop,<-ha,List.drop_left,ha]
theorem Rd.elem {α:Type} {tr:α->List Tr} {sz:Nat} (hsz:∀ a,(tr a).length=sz) (h0:0<sz) {A:Option Addr} {n c:Nat} {l:List α} {vs:List Value} (hr:Rd w sz A n c vs) (ht:Trs.at S w (l.flatMap tr) vs)
 {i:Nat} {x:α} (hx:l[i]?=some x):∃ ad cs,A=some ad/\Trs.at S w (tr x) cs/\cs.length=sz/\∀ (j:Nat) (u:Value),cs[j]?=some u->w.cell? ((ad.add (i*sz)).add j)=some u:=by
 have he:=Trs.at.elem hsz ht i x hx;have hlen:=he.len;rw[hsz] at hlen;have hcell:∀ (j:Nat) (u:Value),((vs.drop (i*sz)).take sz)[j]?=some u->vs[i*sz+j]?=some u:=fun j u hu=>by
  rw[cD] at hu;split at hu
  .rwa [dH] at hu
  cases hu
 obtain⟨u0,hu0⟩:∃ u,((vs.drop (i*sz)).take sz)[0]?=some u:=⟨_,aM (by omega)⟩;obtain⟨ad,rfl,_⟩:=hr.at_ _ _ (hcell 0 u0 hu0);exact⟨ad,_,rfl,he,hlen,fun j u hu=>by rw[mI];exact hr.get (hcell j u hu)⟩
theorem nW (a:Addr) {k:Nat} (hk:0<k):a.add k=⟨a.block,a.off+k,none⟩:=by unfold Addr.add;rw[if_neg (by omega)]
def i7 (w:World) (a:Addr) (cs:List Value):Prop:=∀ (j:Nat) (u:Value),cs[j]?=some u->w.cell? (if j=0 then a else ⟨a.block,a.off+j,none⟩)=some u
theorem i7.below {a:Addr} {cs:List Value} (h:i7 w a cs) (hb:Below w.heap.size w w'):i7 w' a cs:=fun j u hu=>by
 have:=h j u hu;rw[hb.cell (aF w _ this)];exact this
structure Ls {α:Type} (S:Nat->Prop) (w:World) (sz b:Nat) (tr:α->List Tr) (A:Option Addr) (c:Nat) (l:List α):Prop where
 sz0:0<sz
 bytes:l.length*b<=140737488351232
 cap:l.length<=c
 max:c<=maxLen
 blk:∀ ad,A=some ad->0<l.length->S ad.block
 cells:∃ vs,Rd w sz A l.length c vs/\Trs.at S w (l.flatMap tr) vs
section
variable {α:Type} {tr:α->List Tr} {sz b c:Nat} {A:Option Addr} {l:List α}
theorem wX {v:Value}:(Tr.sl sz b l.length (l.flatMap tr)).at S w v↔∃ A c,v=.slice A l.length c/\Ls S w sz b tr A c l:=by
 simp only[Tr.at];constructor
 .rintro⟨A,c,vs,rfl,hr,⟨h0,hb⟩,hs,ht⟩;exact⟨A,c,rfl,h0,hb,hr.cap,hr.max,hs,vs,hr,ht⟩
 rintro⟨A,c,rfl,h⟩;obtain⟨vs,hr,ht⟩:=h.cells;exact⟨A,c,vs,rfl,hr,⟨h.sz0,h.bytes⟩,h.blk,ht⟩
theorem Ls.keep (h:Ls S w sz b tr A c l) (hk:∀ p:Addr,p.block<w.heap.size->S p.block->w'.cell? p=w.cell? p) (hS:∀ k,S k->S' k):Ls S' w' sz b tr A c l:=by
 have h1:(Tr.sl sz b l.length (l.flatMap tr)).at S w (.slice A l.length c):=wX.2 ⟨A,c,rfl,h⟩;obtain⟨A',c',e,h2⟩:=wX.1 (Tr.at.keep hk hS _ _ h1);injection e with e1 _ e2;rw[e1,e2];exact h2
theorem Ls.below (h:Ls S w sz b tr A c l) (hb:Below w.heap.size w w'):Ls S w' sz b tr A c l:=h.keep (fun _ hp _=>hb.cell hp) (fun _ h=>h)
theorem Ls.alloc (h:Ls S w sz b tr A c l) (o:Obj):Ls S (w.alloc o) sz b tr A c l:=h.keep (fun p hp _=>cL w o p hp) (fun _ h=>h)
theorem Ls.drewN (h:Ls S w sz b tr A c l) (k:Nat):Ls S (w.drewN k) sz b tr A c l:=h.keep (w:=w) (w':=w.drewN k) (fun _ _ _=>rfl) (fun _ h=>h)
theorem Ls.mono (h:Ls S w sz b tr A c l) (hS:∀ k,S k->S' k):Ls S' w sz b tr A c l:=h.keep (w':=w) (fun _ _ _=>rfl) hS
theorem cell_only (ho:fP F w w') {p:Addr} (hp:p.block<w.heap.size) (hF:¬F p.block):w'.cell? p=w.cell? p:=by
 have:=ho.block p.block hp hF;unfold World.cell?;rw[this]
theorem Ls.only (h:Ls S w sz b tr A c l) (ho:fP F w w') (hF:∀ k,S k->¬F k):Ls S w' sz b tr A c l:=h.keep (fun p hp hs=>cell_only ho hp (hF _ hs)) (fun _ h=>h)
theorem Ls.nil (S:Nat->Prop) (w:World) (sz b:Nat) (h:0<sz) (tr:α->List Tr):Ls S w sz b tr none 0 []:=⟨h,by simp,by simp,by simp[maxLen],by simp,[],Rd.nil _ _,by simp[Trs.at]⟩
abbrev cF:=@Ls.nil
theorem Ls.elem (hsz:∀ a,(tr a).length=sz) (h:Ls S w sz b tr A c l) {i:Nat} {x:α} (hx:l[i]?=some x):∃ ad cs,A=some ad/\Trs.at S w (tr x) cs/\i7 w (ad.add (i*sz)) cs:=by
 obtain⟨vs,hr,ht⟩:=h.cells;obtain⟨ad,cs,h1,h2,h3,h4⟩:=Rd.elem hsz h.sz0 hr ht hx;refine⟨ad,cs,h1,h2,fun j u hu=>?_⟩;have:=h4 j u hu;split
 .next hj=>subst hj;simpa [Addr.add] using this
 next hj=>rw[<-nW _ (by omega)];exact this
theorem Ls.addr (hsz:∀ a,(tr a).length=sz) (h:Ls S w sz b tr A c l) (h0:0<l.length):∃ ad,A=some ad/\ad.block<w.heap.size:=by
 obtain⟨vs,hr,ht⟩:=h.cells;obtain⟨ad,rfl,_⟩:=hr.addr h0 h.sz0;exact⟨ad,rfl,hr.lt (by rw[hr.len];exact Nat.mul_pos h0 h.sz0)⟩
end
mutual
theorem Tr.at.bound:∀ (t:Tr) (v:Value),t.at S w v->t.at (fun k=>S k/\k<w.heap.size) w v
 | .leaf u,v,h=>by simp only[Tr.at] at h ⊢;exact h
 | .sl sz b n ts,v,h=>by
   simp only[Tr.at] at h ⊢;obtain⟨A,c,vs,rfl,hr,⟨h0,hb⟩,hs,ht⟩:=h;exact⟨A,c,vs,rfl,hr,⟨h0,hb⟩,fun ad e hn=>⟨hs ad e hn,by subst e;exact hr.lt (by rw[hr.len];exact Nat.mul_pos hn h0)⟩,Trs.at.bound ts vs ht⟩
theorem Trs.at.bound:∀ (ts:List Tr) (vs:List Value),Trs.at S w ts vs->Trs.at (fun k=>S k/\k<w.heap.size) w ts vs
 | [],vs,h=>by simp only[Trs.at] at h ⊢;exact h
 | t::ts,vs,h=>by
   simp only[Trs.at] at h ⊢;obtain⟨v,vs',rfl,h1,h2⟩:=h;exact⟨v,vs',rfl,Tr.at.bound t v h1,Trs.at.bound ts vs' h2⟩
end
theorem Ls.bound {α:Type} {tr:α->List Tr} {sz b c:Nat} {A:Option Addr} {l:List α} (h:Ls S w sz b tr A c l):Ls (fun k=>S k/\k<w.heap.size) w sz b tr A c l:=by
 obtain⟨A',c',e,h2⟩:=wX.1 (Tr.at.bound _ _ (wX.2 ⟨A,c,rfl,h⟩));injection e with e1 _ e2;rw[e1,e2];exact h2
def vL (s:ByteArray):List Tr:=[.leaf (.string s)]
def sTr (l:List ByteArray):Tr:=.sl 1 16 l.length (l.flatMap vL)
abbrev Ss (S:Nat->Prop) (w:World) (A:Option Addr) (c:Nat) (l:List ByteArray):Prop:=Ls S w 1 16 vL A c l
theorem sH:∀ {l:List ByteArray} {vs:List Value},Trs.at S w (l.flatMap vL) vs↔vs=l.map .string/\∀ s∈l,s.size<=9007199254740992
 | [],vs=>by simp[Trs.at]
 | s::l,vs=>by
   simp only[aW,vL,List.singleton_append,Trs.at,Tr.at,mD,bY];constructor
   .rintro⟨v,vs',rfl,⟨rfl,h1⟩,h2⟩;obtain⟨rfl,h3⟩:=sH.1 h2;exact⟨rfl,fun x hx=>(List.mem_cons.1 hx).elim (fun e=>e ▸ h1) (fun hx=>h3 x hx)⟩
   rintro⟨rfl,h⟩;exact⟨_,_,rfl,⟨rfl,h s (by simp)⟩,sH.2 ⟨rfl,fun x hx=>h x (by simp[hx])⟩⟩
theorem Ls.strs {l:List ByteArray} (h:Ss S w A c l):Rd w 1 A l.length c (l.map .string)/\∀ s∈l,s.size<=9007199254740992:=by
 obtain⟨vs,hr,ht⟩:=h.cells;obtain⟨rfl,h2⟩:=sH.1 ht;exact⟨hr,h2⟩
theorem Ls.str {l:List ByteArray} (h:Ss S w A c l) {i:Nat} {s:ByteArray} (hs:l[i]?=some s):∃ ad,A=some ad/\w.cell? (ad.add i)=some (.string s)/\s.size<=9007199254740992:=by
 obtain⟨hr,h2⟩:=h.strs;obtain⟨ad,rfl,hc⟩:=hr.at_ i (.string s) (by simp[hs]);exact⟨ad,rfl,hc,h2 s (aD hs)⟩
theorem Ls.mk_strs {l:List ByteArray} (hr:Rd w 1 A l.length c (l.map .string)) (hl:l.length<=8796093021952) (hs:∀ s∈l,s.size<=9007199254740992) (hS:∀ ad,A=some ad->0<l.length->S ad.block):Ss S w A c l :=
 ⟨by omega,by omega,hr.cap,hr.max,hS,_,hr,sH.2 ⟨rfl,hs⟩⟩
end
def QN:Value->Prop
 | .string s=>s.size<=140737488351232
 | _=>True
mutual
def Tr.sm:Tr->Prop
 | .leaf u=>QN u
 | .sl _ _ _ ts=>Trs.sm ts
def Trs.sm:List Tr->Prop
 | []=>True
 | t::ts=>t.sm/\Trs.sm ts
end
theorem Trs.sm.app:∀ {a b:List Tr},Trs.sm a->Trs.sm b->Trs.sm (a++b)
 | [],b,_,h=>h
 | t::a,b,h,h'=>⟨h.1,Trs.sm.app h.2 h'⟩
theorem Trs.sm.left:∀ {a b:List Tr},Trs.sm (a++b)->Trs.sm a
 | [],b,_=>trivial
 | t::a,b,h=>⟨h.1,Trs.sm.left h.2⟩
theorem Trs.sm.right:∀ {a b:List Tr},Trs.sm (a++b)->Trs.sm b
 | [],b,h=>h
 | t::a,b,h=>Trs.sm.right (a:=a) h.2
def uV (F:TypeId->List Tr->Prop):List Field->List Tr->Prop
 | [],ts=>ts=[]
 | f::fs,ts=>∃ p r,ts=p++r/\F f.type p/\uV F fs r
def hU (P:Program):Nat->TypeId->List Tr->Prop
 | 0,_,_=>False
 | n+1,t,ts=>match P.underlying t with
   | some .bool=>∃ b,ts=[.leaf (.bool b)]
   | some (.int k)=>∃ z,ts=[.leaf (.int k z)]
   | some .string=>∃ s,ts=[.leaf (.string s)]
   | some (.slice e)=>∃ l:List (List Tr),ts=[.sl (P.cellsOf e) (P.bytesOf e) l.length l.flatten]/\∀ r∈l,hU P n e r
   | some (.struct fs)=>uV (hU P n) fs.toList ts
   | _=>False
def qD (P:Program):Nat->List Field->Option Nat
 | o,[]=>some o
 | o,f::fs=>if f.offset==o then qD P (o+P.cellsOf f.type) fs else none
def qE (P:Program) (L:List TypeId):Bool :=
 L.all fun t=>match P.underlying t with
  | some .bool | some (.int _) | some .string=>P.cellsOf t==1
  | some (.slice e)=>P.cellsOf t==1&&L.contains e&&decide (0<P.cellsOf e)
  | some (.struct fs)=>(qD P 0 fs.toList==some (P.cellsOf t))&&fs.toList.all fun f=>L.contains f.type
  | _=>false
section
variable {H:Type} {enc:TypeId × Value->H} {P:Program} {w:World} {base:Nat} {held:Bool} {S:Nat->Prop}
theorem wAll_mem {e:TypeId}:∀ {es:List (DataW H)} {x:DataW H} {z:Nat},x∈es->z∈x.weights P e->z∈DataW.weightsAll P e es
 | y::es,x,z,hx,hz=>by
   unfold DataW.weightsAll;rw[dB];rcases List.mem_cons.1 hx with rfl | hx
   .exact .inl hz
   exact .inr (wAll_mem hx hz)
theorem wEach_mem:∀ {ts:List TypeId} {ds:List (DataW H)} {i:Nat} {t:TypeId} {d:DataW H} {z:Nat},ts[i]?=some t->ds[i]?=some d->z∈d.weights P t->z∈DataW.weightsEach P ts ds
 | t'::ts,d'::ds,0,t,d,z,ht,hd,hz=>by
   simp at ht hd;subst ht hd;unfold DataW.weightsEach;rw[dB];exact .inl hz
 | t'::ts,d'::ds,i+1,t,d,z,ht,hd,hz=>by
   unfold DataW.weightsEach;rw[dB];exact .inr (wEach_mem (i:=i) (by simpa using ht) (by simpa using hd) hz)
 | [],_,i,t,d,z,ht,hd,hz=>by simp at ht
 | _::_,[],i,t,d,z,ht,hd,hz=>by simp at hd
theorem rP {F:TypeId->List Tr->Prop} {T:Nat} {cs:List Value}:∀ (fs:List Field) (o:Nat),qD P o fs=some T->cs.length=T ->
 (∀ f∈fs,∃ p,F f.type p/\Trs.at S w p ((cs.drop f.offset).take (P.cellsOf f.type))/\Trs.sm p)->∃ ts,uV F fs ts/\Trs.at S w ts (cs.drop o)/\Trs.sm ts
 | [],o,hc,hl,_=>by
   simp only[qD,Option.some.injEq] at hc;exact⟨[],by simp only[uV],by simp only[Trs.at];exact aP (by omega),trivial⟩
 | f::fs,o,hc,hl,h=>by
   simp only[qD] at hc;split at hc
   .next ho =>
    have ho:f.offset=o:=by simpa using ho
    obtain⟨r,h1,h2,h5⟩:=rP fs _ hc hl (fun g hg=>h g (by simp[hg]));obtain⟨p,h3,h4,h6⟩:=h f (by simp);rw[ho] at h4;refine⟨p++r,⟨p,r,rfl,h3,h1⟩,Trs.at.app.2 ⟨_,_,?_,h4,h2⟩,Trs.sm.app h6 h5⟩;rw[<-List.drop_drop];exact(cJ _ _).symm
   cases hc
theorem sG {L:List TypeId} (hL:qE P L=true) (hS:∀ k,k<w.heap.size->S k):∀ (n:Nat) (t:TypeId) (cs:List Value) (x:DataW H × List MemPlace),L.contains t=true ->
 DataW.trod enc P w base (fun _=>true) held n t cs=some x->(∀ z∈x.1.weights P t,z<=140737488351232)->∃ ts,hU P n t ts/\Trs.at S w ts cs/\Trs.sm ts
 | 0,t,cs,x,_,h,_=>by simp[DataW.trod] at h
 | n+1,t,cs,x,ht,h,hz=>by
   have hc:=List.all_eq_true.1 hL t (by simpa using ht);split at hc
   .next hu =>
    obtain⟨b,rfl,_⟩:=DataW.trod_bool hu h;exact⟨[.leaf (.bool b)],by simp only[hU,hu];exact⟨b,rfl⟩,by simp[Trs.at,Tr.at,mD],trivial,trivial⟩
   .next k hu =>
    obtain⟨z,rfl,_,hw⟩:=DataW.trod_int hu h;exact⟨[.leaf (.int k z)],by simp only[hU,hu];exact⟨z,rfl⟩,by simp[Trs.at,Tr.at,mD,hw],trivial,trivial⟩
   .next hu =>
    obtain⟨s,rfl,rfl,hw⟩:=DataW.trod_string hu h;refine⟨[.leaf (.string s)],by simp only[hU,hu];exact⟨s,rfl⟩,?_,?_,trivial⟩
    .have:=hz s.size (by simp[DataW.weights]);simp[Trs.at,Tr.at,mD];omega
    exact hz s.size (by simp[DataW.weights])
   .next e hu =>
    simp only[bJ,beq_iff_eq,decide_eq_true_eq] at hc;obtain⟨⟨hc1,hc2⟩,hc3⟩:=hc;rcases DataW.trod_slice hu h with ⟨rfl,_⟩ | ⟨a,len,cap,elems,rest,n',hn,rfl,rfl,hb,hl,hm,hlen,hel,_,_⟩
    .refine⟨[.sl (P.cellsOf e) (P.bytesOf e) 0 []],by simp only[hU,hu];exact⟨[],by simp,by simp⟩,?_,trivial,trivial⟩;simp only[Trs.at,Tr.at];exact⟨_,_,rfl,⟨none,0,[],rfl,Rd.nil _ _,⟨hc3,by simp⟩,by simp,rfl⟩,rfl⟩
    obtain rfl:n=n':=(by omega);have hw1:(elems.length+rest.length)*P.bytesOf e<=140737488351232:=hz _ (by simp[DataW.weights,hu]);have key:∀ i,i<len->∃ (r:List Tr) (cs':List Value),hU P n e r/\(Trs.at S w r cs'/\Trs.sm r)/\cs'.length=P.cellsOf e/\∀ j,j<P.cellsOf e->w.cell? ((a.add (i*P.cellsOf e)).add j)=cs'[j]?:=fun i hi=>by
     have h1:=hel i hi;rw[aM (by omega)] at h1;obtain⟨cs',h2,h3⟩:=Option.bind_eq_some_iff.1 h1;obtain⟨_,h4,h5⟩:=World.cells?_some h2;obtain⟨r,h6,h7⟩:=sG hL hS n e cs' _ hc2 h3 (fun z hz'=>hz z (by
      simp only[DataW.weights,hu];refine List.mem_cons_of_mem _ (fC _ (wAll_mem ?_ hz'));exact List.mem_map.2 ⟨_,dJ (h:=by omega),rfl⟩))
     exact⟨r,cs',h6,h7,h4,fun j hj=>h5 j hj⟩
    obtain⟨R,hR⟩:=Deep.choose_lt (α:=List Tr × List Value) (n:=len) (p:=fun i rc=>hU P n e rc.1/\(Trs.at S w rc.1 rc.2/\Trs.sm rc.1)/\rc.2.length=P.cellsOf e/\∀ j,j<P.cellsOf e->w.cell? ((a.add (i*P.cellsOf e)).add j)=rc.2[j]?) (fun i hi=>by
     obtain⟨r,c,h1⟩:=key i hi;exact⟨(r,c),h1⟩)
    have hvl:∀ m,m<=len->(((List.range m).map fun i=>(R i).2).flatten).length=m*P.cellsOf e:=by
     intro m;induction m with
     | zero=>intro _;simp
     | succ m ih=>intro hm';rw[dP];simp only[cV,fE,aS,bY,eL,fJ,fM,bQ];rw[ih (by omega),(hR m (by omega)).2.2.1,fF]
    have hvg:∀ m,m<=len->∀ (j:Nat) (u:Value),(((List.range m).map fun i=>(R i).2).flatten)[j]?=some u->w.cell? (a.add j)=some u:=by
     intro m;induction m with
     | zero=>intro _ j u hu';simp at hu'
     | succ m ih =>
       intro hm' j u hu';rw[dP] at hu';simp only[cV,fE,bY,eL,fJ,fM,bQ] at hu';rcases bI j (((List.range m).map fun i=>(R i).2).flatten).length with hj | hj
       .rw[bZ hj] at hu';exact ih (by omega) j u hu'
       rw[bH hj,hvl m (by omega)] at hu';rw[hvl m (by omega)] at hj;obtain⟨_,_,h3,h4⟩:=hR m (by omega);have hlt:j-m*P.cellsOf e<(R m).2.length:=by
        rcases bI (j-m*P.cellsOf e) (R m).2.length with h | h
        .exact h
        rw[bN h] at hu';cases hu'
       have h5:=h4 (j-m*P.cellsOf e) (by omega);rw[mI,show m*P.cellsOf e+(j-m*P.cellsOf e)=j by omega] at h5;exact h5.trans hu'
    refine⟨[.sl (P.cellsOf e) (P.bytesOf e) len (((List.range len).map fun i=>(R i).1).flatten)],?_,?_,?_,trivial⟩
    .simp only[hU,hu];refine⟨(List.range len).map fun i=>(R i).1,by simp,fun r hr=>?_⟩;simp only[List.mem_map,List.mem_range] at hr;obtain⟨i,hi,rfl⟩:=hr;exact(hR i hi).1
    .have hat:∀ m,m<=len->Trs.at S w (((List.range m).map fun i=>(R i).1).flatten) (((List.range m).map fun i=>(R i).2).flatten):=by
      intro m
      induction m with
      | zero=>intro _;simp[Trs.at]
      | succ m ih =>
        intro hm';rw[dP];simp only[cV,fE,bY,eL,fJ,fM,bQ];exact Trs.at.app.2 ⟨_,_,rfl,ih (by omega),(hR m (by omega)).2.1.1⟩
     have hw2:len*P.bytesOf e<=140737488351232:=bB (bT _ (by omega)) hw1;simp only[Trs.at,Tr.at];refine⟨_,_,rfl,⟨some a,cap,((List.range len).map fun i=>(R i).2).flatten,rfl,⟨hvl len (aA _),hl,hm,fun j u hu'=>⟨a,rfl,hvg len (aA _) j u hu'⟩⟩,⟨hc3,hw2⟩,?_,hat len (aA _)⟩,rfl⟩;rintro ad e0 h0;injection e0 with e0;subst e0;obtain⟨_,_,h3,h4⟩:=hR 0 h0;have h5:=h4 0 hc3;rw[aM (by omega)] at h5;have:=aF w _ h5;rw[block_of_add,block_of_add] at this;exact hS _ this
    have hsm:∀ m,m<=len->Trs.sm (((List.range m).map fun i=>(R i).1).flatten):=by
     intro m;induction m with
     | zero=>intro _;exact trivial
     | succ m ih =>
       intro hm';rw[dP];simp only[cV,fE,bY,eL,fJ,fM,bQ];exact Trs.sm.app (ih (by omega)) (hR m (by omega)).2.1.2
    exact hsm len (aA _)
   .next fs hu =>
    simp only[bJ,beq_iff_eq] at hc;obtain⟨hc1,hc2⟩:=hc;obtain⟨xs,n',hn,rfl,hlen,hxl,hf⟩:=DataW.trod_struct hu h;obtain rfl:n=n':=(by omega);obtain⟨ts,h1,h2,h9⟩:=rP (F:=hU P n) (S:=S) (w:=w) fs.toList 0 hc1 hlen (fun f hf'=>by
     obtain⟨i,hi⟩:=List.mem_iff_getElem?.1 hf';have hi':fs[i]?=some f:=by simpa using hi
     have h3:=hf i f hi';have hil:i<fs.size:=(Array.getElem?_eq_some_iff.1 hi').1;rw[aM (by omega)] at h3;exact sG hL hS n f.type _ _ (List.all_eq_true.1 hc2 f hf') h3 (fun z hz'=>hz z (by
      simp only[DataW.weights,hu];exact wEach_mem (i:=i) (t:=f.type) (d:=(xs[i]'(by omega)).1) (by simp[hi']) (by rw[eG,aM (by omega)];rfl) hz')))
    exact⟨ts,by simp only[hU,hu];exact h1,by simpa using h2,h9⟩
   cases hc
theorem vI {L:List TypeId} (hL:qE P L=true) (hS:∀ k,k<w.heap.size->S k) (n:Nat) (t:TypeId) (cs:List Value) (x:DataW H × List MemPlace) (h1:L.contains t=true)
 (h2:DataW.trod enc P w base (fun _=>true) held n t cs=some x) (h3:∀ z∈x.1.weights P t,z<=140737488351232):∃ ts,hU P n t ts/\Trs.at S w ts cs:=by
 obtain⟨ts,h4,h5,_⟩:=sG hL hS n t cs x h1 h2 h3;exact⟨ts,h4,h5⟩
end
structure Vl where
 kind:Int
 bool:Bool
 num:Int
 text:ByteArray
 list:List Vl
 keys:List ByteArray
structure Ex where
 kind:Int
 text:ByteArray
 num:Int
 name:ByteArray
 attr:ByteArray
 l:List Ex
structure Cd where
 name:ByteArray
 kind:Int
 a:Ex
 b:Ex
 l:List Cd
structure Gv where
 name:ByteArray
 unknown:Bool
 v:Vl
structure Pm where
 name:ByteArray
 number:Bool
 has:Bool
 dflt:Vl
 allowed:List Vl
structure Pr where
 name:ByteArray
 e:Ex
structure Ou where
 name:ByteArray
 cond:ByteArray
 e:Ex
mutual
structure Rs where
 id:ByteArray
 type:ByteArray
 cond:ByteArray
 props:List Pr
 depends:List ByteArray
 retain:Bool
 inner:List Tm
structure Tm where
 params:List Pm
 conds:List Cd
 res:List Rs
 outs:List Ou
end
abbrev kP (x:Pm) (A0:Option Addr) (c0:Nat) (A1:Option Addr) (c1:Nat) (A2:Option Addr) (c2:Nat):Array Value:=#[.string x.name,.bool x.number,.bool x.has,.int .i8 x.dflt.kind,.bool x.dflt.bool,.int .i64 x.dflt.num,.string x.dflt.text,.slice A0 x.dflt.list.length c0,.slice A1 x.dflt.keys.length c1,.slice A2 x.allowed.length c2]
abbrev kG (x:Gv) (A0:Option Addr) (c0:Nat) (A1:Option Addr) (c1:Nat):Array Value:=#[.string x.name,.bool x.unknown,.int .i8 x.v.kind,.bool x.v.bool,.int .i64 x.v.num,.string x.v.text,.slice A0 x.v.list.length c0,.slice A1 x.v.keys.length c1]
abbrev kV (x:Vl) (A0:Option Addr) (c0:Nat) (A1:Option Addr) (c1:Nat):Array Value:=#[.int .i8 x.kind,.bool x.bool,.int .i64 x.num,.string x.text,.slice A0 x.list.length c0,.slice A1 x.keys.length c1]
abbrev kD (x:Cd) (A0:Option Addr) (c0:Nat) (A1:Option Addr) (c1:Nat) (A2:Option Addr) (c2:Nat):Array Value:=#[.string x.name,.int .i8 x.kind,.int .i8 x.a.kind,.string x.a.text,.int .i64 x.a.num,.string x.a.name,.string x.a.attr,.slice A0 x.a.l.length c0,.int .i8 x.b.kind,.string x.b.text,.int .i64 x.b.num,.string x.b.name,.string x.b.attr,.slice A1 x.b.l.length c1,.slice A2 x.l.length c2]
abbrev kX (x:Ex) (A0:Option Addr) (c0:Nat):Array Value:=#[.int .i8 x.kind,.string x.text,.int .i64 x.num,.string x.name,.string x.attr,.slice A0 x.l.length c0]
abbrev kT (x:Tm) (A0:Option Addr) (c0:Nat) (A1:Option Addr) (c1:Nat) (A2:Option Addr) (c2:Nat) (A3:Option Addr) (c3:Nat):Array Value:=#[.slice A0 x.params.length c0,.slice A1 x.conds.length c1,.slice A2 x.res.length c2,.slice A3 x.outs.length c3]
abbrev kR (x:Rs) (A0:Option Addr) (c0:Nat) (A1:Option Addr) (c1:Nat) (A2:Option Addr) (c2:Nat):Array Value:=#[.string x.id,.string x.type,.string x.cond,.slice A0 x.props.length c0,.slice A1 x.depends.length c1,.bool x.retain,.slice A2 x.inner.length c2]
abbrev zA:Array Value:=#[.bool false,.bool false,.int .i8 0,.bool false,.int .i64 0,.string ⟨#[]⟩,.slice none 0 0,.slice none 0 0,.int .i64 0]
abbrev zB:Array Value:=#[.string ⟨#[68,105,115,107]⟩,.string ⟨#[83,105,122,101]⟩,.int .i8 2,.bool false,.string ⟨#[68,105,115,107]⟩,.string ⟨#[84,97,103,115]⟩,.int .i8 4,.bool false,.string ⟨#[68,105,115,107]⟩,.string ⟨#[75,105,110,100]⟩,.int .i8 3,.bool true,.string ⟨#[78,101,116]⟩,.string ⟨#[76,97,98,101,108]⟩,.int .i8 3,.bool false,.string ⟨#[78,101,116]⟩,.string ⟨#[82,97,110,103,101]⟩,.int .i8 3,.bool true,.string ⟨#[78,111,100,101]⟩,.string ⟨#[67,111,117,110,116]⟩,.int .i8 2,.bool false,.string ⟨#[78,111,100,101]⟩,.string ⟨#[68,105,115,107]⟩,.int .i8 3,.bool false,.string ⟨#[78,111,100,101]⟩,.string ⟨#[73,109,97,103,101]⟩,.int .i8 3,.bool true,.string ⟨#[78,111,100,101]⟩,.string ⟨#[78,101,116]⟩,.int .i8 3,.bool true,.string ⟨#[82,117,108,101]⟩,.string ⟨#[78,111,100,101]⟩,.int .i8 3,.bool false,.string ⟨#[82,117,108,101]⟩,.string ⟨#[80,111,114,116]⟩,.int .i8 2,.bool true]
abbrev zC:Array Value:=#[.string ⟨#[]⟩,.bool false,.int .i8 0,.bool false,.int .i64 0,.string ⟨#[]⟩,.slice none 0 0,.slice none 0 0]
abbrev zD:Array Value:=#[.string ⟨#[]⟩,.int .i64 0,.string ⟨#[]⟩,.string ⟨#[]⟩,.string ⟨#[]⟩,.slice none 0 0,.slice none 0 0,.bool false,.slice none 0 0,.slice none 0 0,.slice none 0 0]
abbrev zE:Array Value:=#[.int .i8 0,.bool false,.int .i64 0,.string ⟨#[]⟩,.slice none 0 0,.slice none 0 0]
abbrev zF:Array Value:=#[.int .i8 0,.string ⟨#[]⟩,.int .i64 0,.string ⟨#[]⟩,.string ⟨#[]⟩,.slice none 0 0]
abbrev zG:Array Value:=#[.string ⟨#[]⟩,.bool false,.bool false,.int .i8 0,.bool false,.int .i64 0,.string ⟨#[]⟩,.slice none 0 0,.slice none 0 0,.slice none 0 0]
abbrev zH:Array Value:=#[.string ⟨#[65]⟩,.string ⟨#[68,105,115,107]⟩,.string ⟨#[]⟩,.slice none 0 0,.slice none 0 0,.bool false,.slice none 0 0]
abbrev lS (s:ByteArray):Tr:=.leaf (.string s)
abbrev lB (b:Bool):Tr:=.leaf (.bool b)
abbrev lI (z:Int):Tr:=.leaf (.int .i64 z)
abbrev lK (z:Int):Tr:=.leaf (.int .i8 z)
mutual
def Vl.tr:Vl->List Tr
 | ⟨k,b,n,t,l,ks⟩=>[lK k,lB b,lI n,lS t,.sl 6 80 l.length (Vl.trs l),sTr ks]
def Vl.trs:List Vl->List Tr
 | []=>[]
 | v::r=>v.tr++Vl.trs r
end
mutual
def Ex.tr:Ex->List Tr
 | ⟨k,t,n,nm,a,l⟩=>[lK k,lS t,lI n,lS nm,lS a,.sl 6 88 l.length (Ex.trs l)]
def Ex.trs:List Ex->List Tr
 | []=>[]
 | v::r=>v.tr++Ex.trs r
end
mutual
def Cd.tr:Cd->List Tr
 | ⟨n,k,a,b,l⟩=>lS n::lK k::(a.tr++(b.tr++[.sl 15 224 l.length (Cd.trs l)]))
def Cd.trs:List Cd->List Tr
 | []=>[]
 | v::r=>v.tr++Cd.trs r
end
theorem Vl.trs_eq:∀ l,Vl.trs l=l.flatMap Vl.tr
 | []=>rfl
 | v::r=>by rw[Vl.trs,Vl.trs_eq r];rfl
theorem Ex.trs_eq:∀ l,Ex.trs l=l.flatMap Ex.tr
 | []=>rfl
 | v::r=>by rw[Ex.trs,Ex.trs_eq r];rfl
theorem Cd.trs_eq:∀ l,Cd.trs l=l.flatMap Cd.tr
 | []=>rfl
 | v::r=>by rw[Cd.trs,Cd.trs_eq r];rfl
def Gv.tr (g:Gv):List Tr:=lS g.name::lB g.unknown::g.v.tr
def Pm.tr (p:Pm):List Tr:=lS p.name::lB p.number::lB p.has::(p.dflt.tr++[.sl 6 80 p.allowed.length (p.allowed.flatMap Vl.tr)])
def Pr.tr (p:Pr):List Tr:=lS p.name::p.e.tr
def Ou.tr (p:Ou):List Tr:=lS p.name::lS p.cond::p.e.tr
mutual
def Rs.tr:Rs->List Tr
 | ⟨i,t,c,ps,ds,r,l⟩=>[lS i,lS t,lS c,.sl 7 104 ps.length (ps.flatMap Pr.tr),sTr ds,lB r,.sl 4 96 l.length (Tm.trs l)]
def Rs.trs:List Rs->List Tr
 | []=>[]
 | v::r=>v.tr++Rs.trs r
def Tm.tr:Tm->List Tr
 | ⟨ps,cs,rs,os⟩=>[.sl 10 128 ps.length (ps.flatMap Pm.tr),.sl 15 224 cs.length (cs.flatMap Cd.tr),.sl 7 128 rs.length (Rs.trs rs),.sl 8 120 os.length (os.flatMap Ou.tr)]
def Tm.trs:List Tm->List Tr
 | []=>[]
 | v::r=>v.tr++Tm.trs r
end
theorem Rs.trs_eq:∀ l,Rs.trs l=l.flatMap Rs.tr
 | []=>rfl
 | v::r=>by rw[Rs.trs,Rs.trs_eq r];rfl
theorem Tm.trs_eq:∀ l,Tm.trs l=l.flatMap Tm.tr
 | []=>rfl
 | v::r=>by rw[Tm.trs,Tm.trs_eq r];rfl
theorem Vl.trlen (v:Vl):v.tr.length=6:=by cases v;rfl
abbrev dK:=@Vl.trlen
theorem Ex.trlen (v:Ex):v.tr.length=6:=by cases v;rfl
abbrev eB:=@Ex.trlen
theorem Cd.trlen (v:Cd):v.tr.length=15:=by cases v;simp[Cd.tr,Ex.trlen]
abbrev cY:=@Cd.trlen
theorem Gv.trlen (v:Gv):v.tr.length=8:=by cases v;simp[Gv.tr,Vl.trlen]
abbrev dA:=@Gv.trlen
theorem Pm.trlen (v:Pm):v.tr.length=10:=by cases v;simp[Pm.tr,Vl.trlen]
theorem Pr.trlen (v:Pr):v.tr.length=7:=by cases v;simp[Pr.tr,Ex.trlen]
theorem Ou.trlen (v:Ou):v.tr.length=8:=by cases v;simp[Ou.tr,Ex.trlen]
theorem Rs.trlen (v:Rs):v.tr.length=7:=by cases v;rfl
theorem Tm.trlen (v:Tm):v.tr.length=4:=by cases v;rfl
section
variable {P:Program} {n:Nat} {t e:TypeId} {ts:List Tr} {k:IntKind} {fs:Array Field}
theorem lZ (hu:P.underlying t=some .bool) (h:hU P n t ts):∃ b,ts=[.leaf (.bool b)]:=by
 cases n with
 | zero=>simp[hU] at h
 | succ n=>simpa only[hU,hu] using h
theorem nD (hu:P.underlying t=some (.int k)) (h:hU P n t ts):∃ z,ts=[.leaf (.int k z)]:=by
 cases n with
 | zero=>simp[hU] at h
 | succ n=>simpa only[hU,hu] using h
theorem gD (hu:P.underlying t=some .string) (h:hU P n t ts):∃ s,ts=[.leaf (.string s)]:=by
 cases n with
 | zero=>simp[hU] at h
 | succ n=>simpa only[hU,hu] using h
theorem C6 (hu:P.underlying t=some (.slice e)) (h:hU P n t ts):∃ (m:Nat) (l:List (List Tr)),n=m+1/\ts=[.sl (P.cellsOf e) (P.bytesOf e) l.length l.flatten]/\∀ r∈l,hU P m e r:=by
 cases n with
 | zero=>simp[hU] at h
 | succ n =>
   simp only[hU,hu] at h;obtain⟨l,h1,h2⟩:=h;exact⟨n,l,rfl,h1,h2⟩
theorem hH (hu:P.underlying t=some (.struct fs)) (h:hU P n t ts):∃ m,n=m+1/\uV (hU P m) fs.toList ts:=by
 cases n with
 | zero=>simp[hU] at h
 | succ n =>
   simp only[hU,hu] at h;exact⟨n,rfl,h⟩
theorem gX {α:Type} {tr:α->List Tr} {sz b:Nat} (hu:P.underlying t=some (.slice e)) (hc:P.cellsOf e=sz) (hb:P.bytesOf e=b) (h:hU P n t ts) (hel:∀ m r,m<n->hU P m e r->∃ a,r=tr a) :
 ∃ l:List α,ts=[.sl sz b l.length (l.flatMap tr)]:=by
 obtain⟨m,l,hn,rfl,hl⟩:=C6 hu h;subst hc hb;have key:∀ l:List (List Tr),(∀ r∈l,hU P m e r)->∃ l':List α,l=l'.map tr:=by
  intro l;induction l with
  | nil=>intro _;exact⟨[],rfl⟩
  | cons r l ih =>
    intro h;obtain⟨l',rfl⟩:=ih (fun x hx=>h x (by simp[hx]));obtain⟨a,rfl⟩:=hel m r (by omega) (h r (by simp));exact⟨a::l',rfl⟩
 obtain⟨l',rfl⟩:=key l hl;exact⟨l',by rw[cX,List.flatMap_def]⟩
end
theorem wM (h:hU Tryz.prog n 42 ts):∃ l:List ByteArray,ts=[sTr l]:=by
 obtain⟨l,rfl⟩:=gX (tr:=vL) Tryz.underlying42 (show Tryz.prog.cellsOf 9=1 by kernel_rfl) (show Tryz.prog.bytesOf 9=16 by kernel_rfl) h (fun m r _ hr=>gD Tryz.underlying9 hr);exact⟨l,rfl⟩
theorem oV:∀ (n:Nat) (ts:List Tr),hU Tryz.prog n 44 ts->∃ v:Vl,ts=v.tr:=by
 intro n;induction n using Nat.strongRecOn with
 | _ n ih =>
   intro ts h;obtain⟨m,rfl,p0,r0,rfl,h0,p1,r1,rfl,h1,p2,r2,rfl,h2,p3,r3,rfl,h3,p4,r4,rfl,h4,p5,r5,rfl,h5,rfl⟩:=hH Tryz.underlying44 h;obtain⟨k,rfl⟩:=nD Tryz.underlying29 h0;obtain⟨b,rfl⟩:=lZ Tryz.underlying4 h1;obtain⟨z,rfl⟩:=nD Tryz.underlying3 h2;obtain⟨s,rfl⟩:=gD Tryz.underlying9 h3;obtain⟨l,rfl⟩:=gX (tr:=Vl.tr) Tryz.underlying41 (show Tryz.prog.cellsOf 44=6 by kernel_rfl) (show Tryz.prog.bytesOf 44=80 by kernel_rfl) h4 (fun m' r hm hr=>ih m' (by omega) r hr);obtain⟨ks,rfl⟩:=wM h5;exact⟨⟨k,b,z,s,l,ks⟩,by simp[Vl.tr,Vl.trs_eq]⟩
theorem lY:∀ (n:Nat) (ts:List Tr),hU Tryz.prog n 32 ts->∃ v:Ex,ts=v.tr:=by
 intro n;induction n using Nat.strongRecOn with
 | _ n ih =>
   intro ts h;obtain⟨m,rfl,p0,r0,rfl,h0,p1,r1,rfl,h1,p2,r2,rfl,h2,p3,r3,rfl,h3,p4,r4,rfl,h4,p5,r5,rfl,h5,rfl⟩:=hH Tryz.underlying32 h;obtain⟨k,rfl⟩:=nD Tryz.underlying29 h0;obtain⟨s1,rfl⟩:=gD Tryz.underlying9 h1;obtain⟨z,rfl⟩:=nD Tryz.underlying3 h2;obtain⟨s2,rfl⟩:=gD Tryz.underlying9 h3;obtain⟨s3,rfl⟩:=gD Tryz.underlying9 h4;obtain⟨l,rfl⟩:=gX (tr:=Ex.tr) Tryz.underlying30 (show Tryz.prog.cellsOf 32=6 by kernel_rfl) (show Tryz.prog.bytesOf 32=88 by kernel_rfl) h5 (fun m' r hm hr=>ih m' (by omega) r hr);exact⟨⟨k,s1,z,s2,s3,l⟩,by simp[Ex.tr,Ex.trs_eq]⟩
theorem GT:∀ (n:Nat) (ts:List Tr),hU Tryz.prog n 148 ts->∃ v:Cd,ts=v.tr:=by
 intro n;induction n using Nat.strongRecOn with
 | _ n ih =>
   intro ts h;obtain⟨m,rfl,p0,r0,rfl,h0,p1,r1,rfl,h1,p2,r2,rfl,h2,p3,r3,rfl,h3,p4,r4,rfl,h4,rfl⟩:=hH Tryz.underlying148 h;obtain⟨s,rfl⟩:=gD Tryz.underlying9 h0;obtain⟨k,rfl⟩:=nD Tryz.underlying29 h1;obtain⟨a,rfl⟩:=lY _ _ h2;obtain⟨b,rfl⟩:=lY _ _ h3;obtain⟨l,rfl⟩:=gX (tr:=Cd.tr) Tryz.underlying23 (show Tryz.prog.cellsOf 148=15 by kernel_rfl) (show Tryz.prog.bytesOf 148=224 by kernel_rfl) h4 (fun m' r hm hr=>ih m' (by omega) r hr);exact⟨⟨s,k,a,b,l⟩,by simp[Cd.tr,Cd.trs_eq]⟩
theorem C8 (h:hU Tryz.prog n 46 ts):∃ v:Gv,ts=v.tr:=by
 obtain⟨m,rfl,p0,r0,rfl,h0,p1,r1,rfl,h1,p2,r2,rfl,h2,rfl⟩:=hH Tryz.underlying46 h;obtain⟨s,rfl⟩:=gD Tryz.underlying9 h0;obtain⟨b,rfl⟩:=lZ Tryz.underlying4 h1;obtain⟨v,rfl⟩:=oV _ _ h2;exact⟨⟨s,b,v⟩,by simp[Gv.tr]⟩
theorem AP (h:hU Tryz.prog n 28 ts):∃ l:List Gv,ts=[.sl 8 104 l.length (l.flatMap Gv.tr)] :=
 gX (tr:=Gv.tr) Tryz.underlying28 (show Tryz.prog.cellsOf 46=8 by kernel_rfl) (show Tryz.prog.bytesOf 46=104 by kernel_rfl) h (fun m r _ hr=>C8 hr)
theorem C9 (h:hU Tryz.prog n 23 ts):∃ l:List Cd,ts=[.sl 15 224 l.length (l.flatMap Cd.tr)] :=
 gX (tr:=Cd.tr) Tryz.underlying23 (show Tryz.prog.cellsOf 148=15 by kernel_rfl) (show Tryz.prog.bytesOf 148=224 by kernel_rfl) h (fun m r _ hr=>GT _ _ hr)
theorem C7 (h:hU Tryz.prog n 145 ts):∃ v:Pm,ts=v.tr:=by
 obtain⟨m,rfl,p0,r0,rfl,h0,p1,r1,rfl,h1,p2,r2,rfl,h2,p3,r3,rfl,h3,p4,r4,rfl,h4,rfl⟩:=hH Tryz.underlying145 h;obtain⟨s,rfl⟩:=gD Tryz.underlying9 h0;obtain⟨b,rfl⟩:=lZ Tryz.underlying4 h1;obtain⟨b2,rfl⟩:=lZ Tryz.underlying4 h2;obtain⟨v,rfl⟩:=oV _ _ h3;obtain⟨l,rfl⟩:=gX (tr:=Vl.tr) Tryz.underlying41 (show Tryz.prog.cellsOf 44=6 by kernel_rfl) (show Tryz.prog.bytesOf 44=80 by kernel_rfl) h4 (fun m' r hm hr=>oV _ _ hr);exact⟨⟨s,b,b2,v,l⟩,by simp[Pm.tr]⟩
theorem GS (h:hU Tryz.prog n 129 ts):∃ v:Pr,ts=v.tr:=by
 obtain⟨m,rfl,p0,r0,rfl,h0,p1,r1,rfl,h1,rfl⟩:=hH Tryz.underlying129 h;obtain⟨s,rfl⟩:=gD Tryz.underlying9 h0;obtain⟨v,rfl⟩:=lY _ _ h1;exact⟨⟨s,v⟩,by simp[Pr.tr]⟩
theorem AO (h:hU Tryz.prog n 91 ts):∃ v:Ou,ts=v.tr:=by
 obtain⟨m,rfl,p0,r0,rfl,h0,p1,r1,rfl,h1,p2,r2,rfl,h2,rfl⟩:=hH Tryz.underlying91 h;obtain⟨s,rfl⟩:=gD Tryz.underlying9 h0;obtain⟨s2,rfl⟩:=gD Tryz.underlying9 h1;obtain⟨v,rfl⟩:=lY _ _ h2;exact⟨⟨s,s2,v⟩,by simp[Ou.tr]⟩
theorem u9:∀ (n:Nat) (ts:List Tr),hU Tryz.prog n 27 ts->∃ v:Tm,ts=v.tr:=by
 intro n;induction n using Nat.strongRecOn with
 | _ n ih =>
   intro ts h;obtain⟨m,rfl,p0,r0,rfl,h0,p1,r1,rfl,h1,p2,r2,rfl,h2,p3,r3,rfl,h3,rfl⟩:=hH Tryz.underlying27 h;obtain⟨l0,rfl⟩:=gX (tr:=Pm.tr) Tryz.underlying22 (show Tryz.prog.cellsOf 145=10 by kernel_rfl) (show Tryz.prog.bytesOf 145=128 by kernel_rfl) h0 (fun m' r hm hr=>C7 hr);obtain⟨l1,rfl⟩:=C9 h1;obtain⟨l2,rfl⟩:=gX (tr:=Rs.tr) Tryz.underlying24 (show Tryz.prog.cellsOf 50=7 by kernel_rfl) (show Tryz.prog.bytesOf 50=128 by kernel_rfl) h2 (fun m' r hm hr=>by
    obtain⟨m2,rfl,p0,r0,rfl,h0,p1,r1,rfl,h1,p2,r2,rfl,h2,p3,r3,rfl,h3,p4,r4,rfl,h4,p5,r5,rfl,h5,p6,r6,rfl,h6,rfl⟩:=hH Tryz.underlying50 hr;obtain⟨s0,rfl⟩:=gD Tryz.underlying9 h0;obtain⟨s1,rfl⟩:=gD Tryz.underlying9 h1;obtain⟨s2,rfl⟩:=gD Tryz.underlying9 h2;obtain⟨q3,rfl⟩:=gX (tr:=Pr.tr) Tryz.underlying47 (show Tryz.prog.cellsOf 129=7 by kernel_rfl) (show Tryz.prog.bytesOf 129=104 by kernel_rfl) h3 (fun m' r hm hr=>GS hr);obtain⟨q4,rfl⟩:=wM h4;obtain⟨q5,rfl⟩:=lZ Tryz.underlying4 h5;obtain⟨q6,rfl⟩:=gX (tr:=Tm.tr) Tryz.underlying48 (show Tryz.prog.cellsOf 27=4 by kernel_rfl) (show Tryz.prog.bytesOf 27=96 by kernel_rfl) h6 (fun m' r hm hr=>ih m' (by omega) r hr);exact⟨⟨s0,s1,s2,q3,q4,q5,q6⟩,by simp[Rs.tr,Tm.trs_eq]⟩)
   obtain⟨l3,rfl⟩:=gX (tr:=Ou.tr) Tryz.underlying25 (show Tryz.prog.cellsOf 91=8 by kernel_rfl) (show Tryz.prog.bytesOf 91=120 by kernel_rfl) h3 (fun m' r hm hr=>AO hr);exact⟨⟨l0,l1,l2,l3⟩,by simp[Tm.tr,Rs.trs_eq]⟩
