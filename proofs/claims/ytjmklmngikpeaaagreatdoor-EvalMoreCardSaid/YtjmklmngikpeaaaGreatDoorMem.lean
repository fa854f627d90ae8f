/- Part of the proof. -/
import Derived.Deep.RegionLaw
import Derived.RangeFuncBox
import Derived.Test.YtjmklmngikpeaaaGreatDoorBase
import Derived.Deep.MidRow
import Derived.Deep.RegionHeld3
import Derived.StillTail
import Derived.Test.YtjmklmngikpeaaaGreatDoorProg
set_option linter.unusedVariables false
set_option linter.unusedSimpArgs false
namespace Go.Proofs.YtjmklmngikpeaaaGreatDoor
open Go.RowKit
variable {K:Act->World->Prop}{ops:Array Oper}{Q:Exit->Act->World->Prop}{rest:List Oper}{sz:Nat}{F:Nat->Prop}{o op:Oper}{row:Option Nat}{P:Program}{E:Prop}{e t:TypeId}{z:Value}{a b w:World}
def Blk (W:World) (q:Nat) (cs:Array Value) (t:TypeId):Prop:=W.heap[q]?=some (.cells cs t (0,0))
structure fP (F:Nat->Prop) (W W':World):Prop where
 os:W'.os=W.os
 tape:W'.tape=W.tape
 output:W'.output=W.output
 size:W.heap.size<=W'.heap.size
 block:∀ k,k<W.heap.size->¬F k->W'.heap[k]?=W.heap[k]?
theorem fP.refl (F:Nat->Prop) (W:World):fP F W W:=⟨rfl,rfl,rfl,aA _,fun _ _ _=>rfl⟩
abbrev bG:=@fP.refl
theorem fP.trans {F G:Nat->Prop} {a b c:World} (h:fP F a b) (k:fP G b c) (hG:∀ i,i<a.heap.size->G i->F i):fP F a c :=
 ⟨k.os.trans h.os,k.tape.trans h.tape,k.output.trans h.output,bB h.size k.size,fun i hi hf=>(k.block i (aO hi h.size) (fun hg=>hf (hG i hi hg))).trans (h.block i hi hf)⟩
theorem fP.mono {G:Nat->Prop} (h:fP F a b) (hG:∀ i,i<a.heap.size->F i->G i):fP G a b:=⟨h.os,h.tape,h.output,h.size,fun i hi hf=>h.block i hi (fun hg=>hf (hG i hi hg))⟩
theorem fP.below {B:Nat} (h:fP F a b) (hB:B<=a.heap.size) (hF:∀ i,F i->B<=i):Below B a b :=
 ⟨h.os,h.tape,h.output,h.size,fun k hk=>h.block k (aO hk hB) (fun hf=>by have:=hF k hf;omega)⟩
theorem fP.of_below (h:Below a.heap.size a b) (F:Nat->Prop):fP F a b:=⟨h.os,h.tape,h.output,h.size,fun k hk _=>h.block k hk⟩
abbrev aK:=@fP.of_below
theorem fP.of_grown (h:a.grownBy b row):fP (fun k=>some k=row) a b:=⟨h.os,h.tape,h.output,h.size,fun k hk hf=>h.block k hk hf⟩
abbrev bX:=@fP.of_grown
theorem fP.drewN {F:Nat->Prop} {a b:World} (h:fP F a b) (n:Nat):fP F a (b.drewN n):=⟨h.os,h.tape,h.output,h.size,h.block⟩
theorem fP.drew {F:Nat->Prop} {a b:World} (h:fP F a b):fP F a b.drew:=⟨h.os,h.tape,h.output,h.size,h.block⟩
theorem fP.alloc {F:Nat->Prop} {a b:World} (h:fP F a b) (o:Obj):fP F a (b.alloc o) :=
 h.trans (fP.of_below ((aB _ b).alloc (aA _) o) F) (fun _ _ h=>h)
theorem fP.setCell {F:Nat->Prop} {a b:World} (h:fP F a b) (p:Addr) (u:Value) (hp:p.block<a.heap.size->F p.block):fP F a (b.setCell p u) :=
 h.trans (G:=fun k=>k=p.block) ⟨rfl,rfl,rfl,by simp[World.setCell],fun k _ hk=>dL _ _ _ _ hk⟩ (fun i hi e=>by subst e;exact hp hi)
theorem fP.grown {c:World} (h:fP F a b) (k:b.grownBy c row) (hr:∀ g,row=some g->g<a.heap.size->F g):fP F a c :=
 h.trans (fP.of_grown k) (fun i hi e=>hr i e.symm hi)
section
variable {W W':World} {q:Nat} {cs:Array Value} {t:TypeId} {F:Nat->Prop}
theorem Blk.lt (h:Blk W q cs t):q<W.heap.size:=(Array.getElem?_eq_some_iff.1 h).1
theorem Blk.cell (h:Blk W q cs t) (i:Nat) {v:Value} (hv:cs[i]?=some v):W.cell? ⟨q,i,none⟩=some v:=by rw[cell_of_row W q i cs t _ h];exact hv
theorem Blk.frozen (h:Blk W q cs t) (i:Nat):W.frozen? ⟨q,i,none⟩=false:=frozen_of_row W q i cs t h
theorem Blk.only (h:Blk W q cs t) (ho:fP F W W') (hF:¬F q):Blk W' q cs t:=(ho.block q h.lt hF).trans h
theorem Blk.below (h:Blk W q cs t) (hb:Below W.heap.size W W'):Blk W' q cs t:=(hb.block q h.lt).trans h
theorem Blk.new (W:World) (cs:Array Value) (t:TypeId):Blk (W.alloc (.cells cs t)) W.heap.size cs t:=World.alloc_heap_new W _
abbrev aJ:=@Blk.new
theorem Blk.alloc (h:Blk W q cs t) (o:Obj):Blk (W.alloc o) q cs t:=(Below.heap_alloc W o q h.lt).trans h
theorem Blk.drew (h:Blk W q cs t):Blk W.drew q cs t:=h
theorem Blk.drewN (h:Blk W q cs t) (n:Nat):Blk (W.drewN n) q cs t:=h
theorem Blk.grown (h:Blk W q cs t) (hg:W.grownBy W' row) (hne:row≠some q):Blk W' q cs t:=(hg.block q h.lt (fun e=>hne e.symm)).trans h
theorem Blk.setOther (h:Blk W q cs t) (p:Addr) (u:Value) (hp:q≠p.block):Blk (W.setCell p u) q cs t:=(dL W p u q hp).trans h
theorem Blk.set (h:Blk W q cs t) (i:Nat) (u:Value):Blk (W.setCell ⟨q,i,none⟩ u) q (cs.setIfInBounds i u) t:=by
 obtain⟨hlt,hk⟩:=Array.getElem?_eq_some_iff.1 h;show (W.heap.modify q _)[q]?=_
 rw[Array.getElem?_eq_getElem (by rw[Array.size_modify];exact hlt),Array.getElem_modify_self,hk];rfl
theorem Blk.eq {cs':Array Value} (h:Blk W q cs t) (e:cs=cs'):Blk W q cs' t:=e ▸ h
end
theorem Rd.only {W W':World} {n c:Nat} {A:Option Addr} {xs:List Value} (h:Rd W sz A n c xs) (ho:fP F W W') (hF:∀ ad,A=some ad->0<n->¬F ad.block):Rd W' sz A n c xs :=
 ⟨h.len,h.cap,h.max,fun j u hu=>by
   obtain⟨ad,e,hc⟩:=h.at_ j u hu;have hlt:=aF W _ hc;rw[block_of_add] at hlt;refine⟨ad,e,(bU (a:=ad.add j) ?_).trans hc⟩;rw[block_of_add];refine ho.block _ hlt (hF ad e ?_);rcases dG n with h0 | h0
   .have hl:=h.len;rw[h0,Nat.zero_mul] at hl;rw[bO hl] at hu;cases hu
   exact h0⟩
theorem Rd.take {w:World} {sz n c m:Nat} {A:Option Addr} {xs:List Value} (h:Rd w sz A n c xs) (hm:m<=n):Rd w sz A m c (xs.take (m*sz)):=by
 refine⟨?_,bB hm h.cap,h.max,fun j u hu=>h.at_ j u ?_⟩
 .rw[cH,h.len];exact eR (bT _ hm)
 rw[cD] at hu;split at hu
 .exact hu
 cases hu
def Ow (w:World) (base:Nat) (e:TypeId) (sz:Nat) (A:Option Addr) (n c:Nat) (xs:List Value):Prop :=
 xs.length=n*sz/\((A=none/\n=0/\c=0) ∨
  ∃ g cur,A=some ⟨g,0,none⟩/\base<=g/\w.heap[g]?=some (.cells cur e (0,0))/\n<=c/\c<=maxLen/\c*sz<=cur.size/\cur.toList.take (n*sz)=xs)
def blk (A:Option Addr):Option Nat:=A.map (·.block)
@[simp] theorem TE:blk none=none:=rfl
@[simp] theorem TD (a:Addr):blk (some a)=some a.block:=rfl
section
variable {w w':World} {base n c sz:Nat} {e:TypeId} {A:Option Addr} {xs:List Value}
theorem Ow.nil (w:World) (base:Nat) (e:TypeId) (sz:Nat):Ow w base e sz none 0 0 []:=⟨by simp,.inl ⟨rfl,rfl,rfl⟩⟩
abbrev dF:=@Ow.nil
theorem Ow.of_own (h:w.ownsRow base e sz (.slice A n c) n xs):Ow w base e sz A n c xs:=by
 obtain⟨hl,h2⟩:=h;refine⟨hl,?_⟩;rcases h2 with ⟨hv,rfl⟩ | ⟨g,cap,cur,hv,hb,hg,hn,hm,hcs,ht⟩
 .injection hv with h1 h2 h3;exact .inl ⟨h1,rfl,h3⟩
 injection hv with h1 h2 h3;subst h1 h3;exact .inr ⟨g,cur,rfl,hb,hg,hn,hm,eK hcs.symm,ht⟩
theorem Ow.cap (h:Ow w base e sz A n c xs):n<=c:=by
 rcases h.2 with ⟨_,rfl,rfl⟩ | ⟨g,cur,_,_,_,hn,_⟩
 .exact aA _
 exact hn
theorem Ow.max (h:Ow w base e sz A n c xs):c<=maxLen:=by
 rcases h.2 with ⟨_,rfl,rfl⟩ | ⟨g,cur,_,_,_,_,hm,_⟩
 .exact eH _
 exact hm
theorem Ow.rd (h:Ow w base e sz A n c xs):Rd w sz A n c xs:=by
 obtain⟨hl,h2⟩:=h;rcases h2 with ⟨rfl,rfl,rfl⟩ | ⟨g,cur,rfl,hb,hg,hn,hm,hcs,ht⟩
 .have:xs=[]:=bO (by simpa using hl);subst this;exact Rd.nil w sz
 refine⟨hl,hn,hm,fun j u hu=>⟨_,rfl,?_⟩⟩;rw[nX,aZ,cell_of_row w g j cur e (0,0) hg];rw[<-ht] at hu;have hj:j<n*sz:=by
  rcases bI j (n*sz) with hj | hj
  .exact hj
  rw[cD,if_neg (by omega)] at hu;cases hu
 rw[eP hj] at hu;simpa using hu
theorem Ow.lt (h:Ow w base e sz A n c xs) {g:Nat} (hg:blk A=some g):base<=g/\g<w.heap.size:=by
 rcases h.2 with ⟨rfl,_⟩ | ⟨g',cur,rfl,hb,hg',_⟩
 .cases hg
 injection hg with hg;subst hg;exact⟨hb,(Array.getElem?_eq_some_iff.1 hg').1⟩
theorem Ow.le (h:Ow w base e sz A n c xs) {base':Nat} (hb:base'<=base):Ow w base' e sz A n c xs:=by
 refine⟨h.1,?_⟩;rcases h.2 with h2 | ⟨g,cur,hA,hbg,rest⟩
 .exact .inl h2
 exact .inr ⟨g,cur,hA,bB hb hbg,rest⟩
theorem Ow.only (h:Ow w base e sz A n c xs) (ho:fP F w w') (hF:∀ g,blk A=some g->¬F g):Ow w' base e sz A n c xs:=by
 refine⟨h.1,?_⟩;rcases h.2 with h2 | ⟨g,cur,hA,hbg,hg,rest⟩
 .exact .inl h2
 exact .inr ⟨g,cur,hA,hbg,(ho.block g (Array.getElem?_eq_some_iff.1 hg).1 (hF g (by rw[hA];rfl))).trans hg,rest⟩
theorem Ow.below (h:Ow w base e sz A n c xs) (hb:Below w.heap.size w w'):Ow w' base e sz A n c xs:=h.only (fP.of_below hb (fun _=>False)) (fun _ _ h=>h)
theorem Ow.drewN (h:Ow w base e sz A n c xs) (k:Nat):Ow (w.drewN k) base e sz A n c xs:=h
theorem Ow.drew (h:Ow w base e sz A n c xs):Ow w.drew base e sz A n c xs:=h
theorem Ow.alloc (h:Ow w base e sz A n c xs) (o:Obj):Ow (w.alloc o) base e sz A n c xs:=h.below ((aB _ w).alloc (aA _) o)
theorem Ow.grown (h:Ow w base e sz A n c xs) (hg:w.grownBy w' row) (hr:blk A=none∨blk A≠row):Ow w' base e sz A n c xs :=
 h.only (fP.of_grown hg) (fun g hg e => by
   rcases hr with hr | hr <;> rw [hg] at hr; · cases hr
   exact hr e)
theorem Ow.setOther (h:Ow w base e sz A n c xs) (p:Addr) (u:Value) (hp:blk A≠some p.block):Ow (w.setCell p u) base e sz A n c xs :=
 h.only (F:=fun k=>k=p.block) ⟨rfl,rfl,rfl,by simp[World.setCell],fun k _ hk=>dL _ _ _ _ hk⟩ (fun g hg e'=>hp (by rw[hg,e']))
theorem Ow.cut (h:Ow w base e sz A n c xs) {m x:Nat} (hm:m<=n) (hx:m<=x) (hxc:x<=c):Ow w base e sz A m x (xs.take (m*sz)):=by
 have hl:(xs.take (m*sz)).length=m*sz:=by rw[cH,h.1];exact eR (bT _ hm)
 refine⟨hl,?_⟩;rcases h.2 with ⟨hA,hn,hc⟩ | ⟨g,cur,hA,hbg,hg,hn,hcm,hcs,ht⟩
 .exact .inl ⟨hA,by omega,by omega⟩
 refine .inr ⟨g,cur,hA,hbg,hg,hx,by omega,bB (bT _ hxc) hcs,?_⟩;rw[<-ht,List.take_take,eR (bT _ hm)]
theorem Ow.ne_blk (h:Ow w base e sz A n c xs) {q:Nat} {cs:Array Value} (hb:Blk w q cs t) (hne:t≠e):blk A≠some q:=by
 intro hq;rcases h.2 with ⟨rfl,_⟩ | ⟨g,cur,rfl,_,hg,_⟩
 .cases hq
 injection hq with hq;subst hq;rw[show w.heap[g]?=_ from hb] at hg;injection hg with hg;injection hg with _ ht;exact hne ht
theorem Ow.len (h:Ow w base e sz A n c xs):xs.length=n*sz:=h.1
theorem Ow.blen {l:List UInt8} (h:Ow w base e 1 A n c (bv l)):l.length=n:=by have:=h.1;simpa using this
end
variable {a:Act}
section
variable {P:Program} (w:World)
theorem yW (t ty e:TypeId) (i:TypeInfo) (ht:P.underlying t=some (.slice e)) (hi:P.info? e=some i) (A0:Option Addr) (n c0 c:Nat) (hnc:n<=c0) :
 (Builtin.append_ #[t,t] ty #[.slice A0 n c0,.slice none 0 c]).run P w=.ok (.slice A0 n c0) w:=by
 cases A0 with
 | none=>simp[Builtin.append_,run_underlying ht,sizeOf,typeInfo,hi,Builtin.lenOf,Builtin.firstCells,hnc]
 | some ad=>simp[Builtin.append_,run_underlying ht,sizeOf,typeInfo,hi,Builtin.lenOf,Builtin.firstCells,hnc,storeCells]
theorem QR (base:Nat) (t ty e:TypeId) (i:TypeInfo) (z:Value) (size bytes:Nat) (ht:P.underlying t=some (.slice e)) (hi:P.info? e=some i) (hz:i.zero=some z)
 (hsize:i.size=size) (hby:i.bytes=bytes) (hzs:z.cells.size=size) (hsz:0<size)
 (A0:Option Addr) (c0 n:Nat) (xs:List Value) (hown:Ow w base e size A0 n c0 xs)
 (A:Option Addr) (m c:Nat) (news:List Value) (hr:Rd w size A m c news) (h1:∀ u∈news,u.oneCell'=true)
 (h63:n+m<=maxLen) (hbytes:(n+m)*bytes<=140737488355328) (hbase:base<=w.heap.size) :
 ∃ A' c' w',(Builtin.append_ #[t,t] ty #[.slice A0 n c0,.slice A m c]).run P w=.ok (.slice A' (n+m) c') w'/\Ow w' base e size A' (n+m) c' (xs++news) /\
   w.grownBy w' (blk A0)/\(A'=A0∨A'=some ⟨w.heap.size,0,none⟩):=by
 subst hsize
 subst hby
 have hlen:(xs++news).length=(n+m)*i.size:=by rw[aS,hown.1,hr.len,Nat.add_mul]
 cases hA:A with
 | none =>
   subst hA;have hm:m=0:=by
    rcases dG m with h0 | h0
    .exact h0
    obtain⟨ad,h,_⟩:=hr.addr h0 hsz;cases h
   subst hm;have hn:news=[]:=bO (by simpa using hr.len);subst hn;exact⟨A0,c0,w,yW w t ty e i ht hi A0 n c0 c hown.cap,by simpa using hown,⟨rfl,rfl,rfl,aA _,fun _ _ _=>rfl⟩,.inl rfl⟩
 | some ad =>
   subst hA;have hsmall:n+m<=9223372036854775807:=by simp only[maxLen] at h63;omega
   have hnews:∀ j u,news[j]?=some u->w.cell? (ad.add j)=some u:=fun j u hu=>hr.get hu
   have grown:∀ (old:Nat),old<n+m->∀ (row:Option Nat),
    Ow (w.drew.alloc (.cells (xs.toArray++news.toArray++Builtin.zeroCells z.cells (grownCap w (n+m) old e-(n+m))) e)) base e i.size
     (some ⟨w.heap.size,0,none⟩) (n+m) (grownCap w (n+m) old e) (xs++news) /\
    w.grownBy (w.drew.alloc (.cells (xs.toArray++news.toArray++Builtin.zeroCells z.cells (grownCap w (n+m) old e-(n+m))) e)) row:=by
    intro old ho row
    have hge:=grownCap_ge w (n+m) old e
    have hcm:grownCap w (n+m) old e<=maxLen:=grownCap_le_maxLen w (n+m) old e h63
    refine⟨⟨hlen,.inr ⟨w.heap.size,_,rfl,hbase,heap_alloc_new w.drew _,hge,hcm,?_,?_⟩⟩,⟨rfl,rfl,rfl,by simp,fun k hk _=>Below.heap_alloc w.drew _ k hk⟩⟩
    .simp only[Array.size_append,eF,size_zeroCells,hzs,hown.1,hr.len,<-Nat.add_mul];exact bT _ (by omega)
    simp only[Array.toList_append,dI]
    rw[<-dI,<-hlen]
    exact List.take_left
   rcases hown.2 with ⟨rfl,rfl,rfl⟩ | ⟨g,cur,rfl,hbg,hg,hnc,hcm,hcs,htake⟩
   .have hx:xs=[]:=bO (by simpa using hown.1);subst hx;by_cases hm:m=0
    .subst hm;have hn:news=[]:=bO (by simpa using hr.len);subst hn;refine⟨none,0,w,?_,Ow.nil w base e i.size,⟨rfl,rfl,rfl,aA _,fun _ _ _=>rfl⟩,.inl rfl⟩;simp[Builtin.append_,run_underlying ht,sizeOf,typeInfo,hi,Builtin.lenOf,Builtin.firstCells,loadCells,loadCellsFrom]
    have hrn:=run_append_nil (P:=P) w t ty e i z ht hi hz ad m c news hr.len hnews (by omega) (by omega) (by have hb:=hbytes;simp only[aZ] at hb;omega);have hgr:=grown 0 (by omega) (blk none);simp only[aZ,bP,Array.empty_append] at hgr ⊢;exact⟨_,_,_,hrn,hgr.1,hgr.2,.inr rfl⟩
   by_cases hroom:n+m<=c0
   .have hfit:n*i.size+news.length<=cur.size:=by rw[hr.len,<-Nat.add_mul];exact bB (bT _ hroom) hcs
    have hrn:=run_append_room (P:=P) w t ty e i ht hi g n c0 cur hg ad m c news hr.len hnews h1 hroom hfit;refine⟨_,_,_,hrn,⟨hlen,.inr ⟨g,_,rfl,hbg,setRow_heap w g cur _ e _ hg,hroom,hcm,?_,?_⟩⟩,⟨rfl,rfl,rfl,by simp,fun k _ hk=>setRow_other w g k _ (fun e=>hk (by simp[e]))⟩,.inl rfl⟩
    .simp only[eF,aS,cH,List.length_drop,Array.length_toList];omega
    rw[htake,<-hlen];exact List.take_left
   have holds:∀ j u,xs[j]?=some u->w.cell? ((⟨g,0,none⟩:Addr).add j)=some u:=fun j u hu=>hown.rd.get hu
   have hrn:=run_append_grow (P:=P) w t ty e i z ht hi hz ⟨g,0,none⟩ n c0 xs hown.1 holds ad m c news hr.len hnews (by omega) (by omega) (growslice_fits (by omega) hbytes);have hgr:=grown c0 (by omega) (blk (some ⟨g,0,none⟩));exact⟨_,_,_,hrn,hgr.1,hgr.2,.inr rfl⟩
theorem PL (s x:Operand) (t:TypeId)
 (ho:o.op=.call {callee:=.builtin .append,args:=#[s,x],argTypes:=#[t,t]})
 (base:Nat) (e:TypeId) (i:TypeInfo) (z:Value) (size bytes:Nat) (ht:P.underlying t=some (.slice e)) (hi:P.info? e=some i) (hz:i.zero=some z)
 (hsize:i.size=size) (hby:i.bytes=bytes) (hzs:z.cells.size=size) (hsz:0<size)
 (A0:Option Addr) (c0 n:Nat) (xs:List Value) (hs:a.eval s=.slice A0 n c0) (hown:Ow w base e size A0 n c0 xs)
 (A:Option Addr) (m c:Nat) (news:List Value) (hx:a.eval x=.slice A m c) (hr:Rd w size A m c news) (h1:∀ u∈news,u.oneCell'=true)
 (h63:n+m<=140737488355328) (hbytes:(n+m)*bytes<=140737488355328) (hbase:base<=w.heap.size)
 (h:∀ A' c' w',Ow w' base e size A' (n+m) c' (xs++news)->w.grownBy w' (blk A0)->(A'=A0∨A'=some ⟨w.heap.size,0,none⟩)->K (a.put o.dst (.slice A' (n+m) c')) w'):o.wp P a w K Q:=by
 obtain⟨A',c',w',hrun,h2,h3,h4⟩:=QR (P:=P) w base t o.type e i z size bytes ht hi hz hsize hby hzs hsz A0 c0 n xs hown A m c news hr h1 (by simp only[maxLen];omega) hbytes hbase;unfold Oper.wp execOp;simp only[ho,resolve,invoke,builtin,Sem.run_bind,Sem.run_pure,Result.andThen_ok,List.map_toArray,bY,eL,hs,hx,hrun];exact h A' c' w' h2 h3 h4
theorem E7 (hw:Region.wanted o (yielded ops a.tmps)=true) (s x:Operand) (t:TypeId)
 (ho:o.op=.call {callee:=.builtin .append,args:=#[s,x],argTypes:=#[t,t]})
 (base:Nat) (e:TypeId) (i:TypeInfo) (z:Value) (size bytes:Nat) (ht:P.underlying t=some (.slice e)) (hi:P.info? e=some i) (hz:i.zero=some z)
 (hsize:i.size=size) (hby:i.bytes=bytes) (hzs:z.cells.size=size) (hsz:0<size)
 (A0:Option Addr) (c0 n:Nat) (xs:List Value) (hs:a.eval s=.slice A0 n c0) (hown:Ow w base e size A0 n c0 xs)
 (A:Option Addr) (m c:Nat) (news:List Value) (hx:a.eval x=.slice A m c) (hr:Rd w size A m c news) (h1:∀ u∈news,u.oneCell'=true)
 (h63:n+m<=140737488355328) (hbytes:(n+m)*bytes<=140737488355328) (hbase:base<=w.heap.size)
 (h:∀ A' c' w',Ow w' base e size A' (n+m) c' (xs++news)->w.grownBy w' (blk A0)->(A'=A0∨A'=some ⟨w.heap.size,0,none⟩)->wpList P ops Q rest (a.put o.dst (.slice A' (n+m) c')) w') :
 wpList P ops Q (o::rest) a w:=by
 refine wpList_step fun K hK=>?_
 rw[if_pos hw];exact PL w s x t ho base e i z size bytes ht hi hz hsize hby hzs hsz A0 c0 n xs hs hown A m c news hx hr h1 h63 hbytes hbase fun A' c' w' h2 h3 h4=>hK _ _ (h A' c' w' h2 h3 h4)
theorem NC (hgd:o.guard=none) (s x:Operand) (t:TypeId)
 (ho:o.op=.call {callee:=.builtin .append,args:=#[s,x],argTypes:=#[t,t]})
 (base:Nat) (e:TypeId) (i:TypeInfo) (z:Value) (size bytes:Nat) (ht:P.underlying t=some (.slice e)) (hi:P.info? e=some i) (hz:i.zero=some z)
 (hsize:i.size=size) (hby:i.bytes=bytes) (hzs:z.cells.size=size) (hsz:0<size)
 (A0:Option Addr) (c0 n:Nat) (xs:List Value) (hs:a.eval s=.slice A0 n c0) (hown:Ow w base e size A0 n c0 xs)
 (A:Option Addr) (m c:Nat) (news:List Value) (hx:a.eval x=.slice A m c) (hr:Rd w size A m c news) (h1:∀ u∈news,u.oneCell'=true)
 (h63:n+m<=140737488355328) (hbytes:(n+m)*bytes<=140737488355328) (hbase:base<=w.heap.size)
 (h:∀ A' c' w',Ow w' base e size A' (n+m) c' (xs++news)->w.grownBy w' (blk A0)->(A'=A0∨A'=some ⟨w.heap.size,0,none⟩)->K (a.put o.dst (.slice A' (n+m) c')) w') :
 if Region.wanted o (yielded ops a.tmps)=true then Oper.wp P o a w K Q else E:=by
 have hw:Region.wanted o (yielded ops a.tmps)=true:=by simp[Region.wanted,hgd]
 rw[if_pos hw];exact PL w s x t ho base e i z size bytes ht hi hz hsize hby hzs hsz A0 c0 n xs hs hown A m c news hx hr h1 h63 hbytes hbase h
end
open Go
theorem is_store {ty:TypeId} {x y:Operand} {d:Option Tmp} {p:String} {e:Array Edge} {g:Option (Nat × Bool)}
 (h:wpList P ops Q (⟨d,.store ty x y,t,p,e,g⟩::rest) a w):wpList P ops Q (⟨d,.store ty x y,t,p,e,g⟩::rest) a w:=h
theorem oG (q:Nat):∀ (vs:List Value) (o:Nat) (w:World),fP (fun k=>k=q) w (w.setCells q o vs)
 | [],_,w=>⟨rfl,rfl,rfl,aA _,fun _ _ _=>rfl⟩
 | v::r,o,w=>by
   rw[World.setCells];exact((fP.of_below (aB _ w) (fun k=>k=q)).setCell ⟨q,o,none⟩ v (fun _=>rfl)).trans (oG q r (o+1) _) (fun _ _ h=>h)
theorem qG {q:Nat} {t:TypeId}:∀ (vs:List Value) (o:Nat) (w:World) (cs:Array Value),Blk w q cs t->o+vs.length<=cs.size->Blk (w.setCells q o vs) q ((cs.toList.take o++vs++cs.toList.drop (o+vs.length)).toArray) t
 | [],o,w,cs,h,hl=>by
   rw[World.setCells];exact h.eq (by simp)
 | v::r,o,w,cs,h,hl=>by
   rw[World.setCells];simp only[aQ] at hl;refine(qG r (o+1) _ _ (h.set o v) (by simp;omega)).eq ?_;apply Array.ext';simp only[eJ,dI];refine List.ext_getElem? fun i=>?_
   simp only[List.getElem?_append,cH,dZ,Array.length_toList,cD,dH,eY,aQ];have h1:min o cs.size=o:=by omega
   have h2:min (o+1) cs.size=o+1:=by omega
   rw[h1,h2];by_cases a:i<o
   .rw[if_pos (by omega),if_pos (by omega),if_neg (by omega),if_pos a,if_pos a]
   by_cases b:i=o
   .subst b;rw[if_pos (by omega),if_pos (by omega),if_pos rfl,if_pos (by omega),if_neg (by omega),if_pos (by omega)];simp
   rw[if_neg (by omega),if_neg a];by_cases c:i-(o+1)<r.length
   .rw[if_pos c,if_pos (by omega),show i-o=(i-(o+1))+1 by omega,dV]
   rw[if_neg c,if_neg (by omega),if_neg (by omega)];congr 1;omega
theorem pD (ty:TypeId) (x y:Operand) (ho:op.op=.store ty x y)
 (b:Nat) (cells cs:Array Value) (t:TypeId) (hx:a.eval x=.pointer (some ⟨b,0,none⟩)) (hy:a.eval y=.agg cells) (hb:Blk w b cs t) (hs:cells.size=cs.size)
 (hi:(P.info? ty).map (·.size)=some cells.size) (h1:cells.all (·.oneCell')=true)
 (h:∀ w',Blk w' b cells t->fP (fun k=>k=b) w w'->K (a.put op.dst undef) w'):op.wp P a w K Q :=
 wp_store_mid ty x y ho b 0 cells hx hy (fun j hj=>by
  have hj':j<cs.size:=by omega
  rw[aZ];exact⟨by rw[hb.cell j (Array.getElem?_eq_getElem hj')];rfl,hb.frozen j⟩) hi h1
  (h _ ((qG cells.toList 0 w cs hb (by simp;omega)).eq (by simp[hs,aP])) (oG b cells.toList 0 w))
theorem wpList_store_blk (hgd:op.guard=none) (ty:TypeId) (x y:Operand) (ho:op.op=.store ty x y)
 (b:Nat) (cells cs:Array Value) (t:TypeId) (hx:a.eval x=.pointer (some ⟨b,0,none⟩)) (hy:a.eval y=.agg cells) (hb:Blk w b cs t) (hs:cells.size=cs.size)
 (hi:(P.info? ty).map (·.size)=some cells.size) (h1:cells.all (·.oneCell')=true)
 (h:∀ w',Blk w' b cells t->fP (fun k=>k=b) w w'->wpList P ops Q rest (a.put op.dst undef) w'):wpList P ops Q (op::rest) a w :=
 wpList_plain hgd fun _ hK=>pD ty x y ho b cells cs t hx hy hb hs hi h1 (fun w' h2 h3=>hK _ _ (h w' h2 h3))
theorem gG (ty:TypeId) (x y:Operand) (hgd:o.guard=none) (ho:o.op=.store ty x y)
 (b:Nat) (cells cs:Array Value) (t:TypeId) (hx:a.eval x=.pointer (some ⟨b,0,none⟩)) (hy:a.eval y=.agg cells) (hb:Blk w b cs t) (hs:cells.size=cs.size)
 (hi:(P.info? ty).map (·.size)=some cells.size) (h1:cells.all (·.oneCell')=true)
 (h:∀ w',Blk w' b cells t->fP (fun k=>k=b) w w'->K (a.put o.dst undef) w'):if Region.wanted o (yielded ops a.tmps)=true then Oper.wp P o a w K Q else E:=by
 rw[if_pos (by unfold Region.wanted;rw[hgd])];exact pD ty x y ho b cells cs t hx hy hb hs hi h1 h
theorem fP.belowB {w2 w3:World} (ho:fP F w2 w3) (hb:Below w.heap.size w w2) (hF:∀ k,F k->w.heap.size<=k):Below w.heap.size w w3 :=
 hb.trans (ho.below hb.size hF)
variable {b:Nat}
theorem wpList_row
 (hinfo:(Tryz.prog.info? e).map (fun i=>(i.zero,i.size,i.bytes))=some (some z,sz,b)) (ht:Tryz.prog.underlying t=some (.slice e)) (hzs:z.cells.size=sz) (hsz:0<sz)
 (hw:Region.wanted o (yielded ops a.tmps)=true) (s x:Operand) (ho:o.op=.call {callee:=.builtin .append,args:=#[s,x],argTypes:=#[t,t]})
 (base:Nat) (A0:Option Addr) (c0 n:Nat) (xs:List Value) (hs:a.eval s=.slice A0 n c0) (hown:Ow w base e sz A0 n c0 xs)
 (A:Option Addr) (m c:Nat) (news:List Value) (hx:a.eval x=.slice A m c) (hr:Rd w sz A m c news) (h1:∀ u∈news,u.oneCell'=true) (hb:n+m<=140737488355328) (hb2:(n+m)*b<=140737488355328) (hbase:base<=w.heap.size)
 (h:∀ A' c' w',Ow w' base e sz A' (n+m) c' (xs++news)->w.grownBy w' (blk A0)->(A'=A0∨A'=some ⟨w.heap.size,0,none⟩)->wpList Tryz.prog ops Q rest (a.put o.dst (.slice A' (n+m) c')) w') :
 wpList Tryz.prog ops Q (o::rest) a w:=by
 obtain⟨i0,hi,hz0,hz1,hz2⟩:=info_parts hinfo;exact E7 w hw s x _ ho base _ i0 _ sz b ht hi hz0 hz1 hz2 hzs hsz A0 c0 n xs hs hown A m c news hx hr h1 hb hb2 hbase h
theorem jR
 (hinfo:(Tryz.prog.info? e).map (fun i=>(i.zero,i.size,i.bytes))=some (some z,sz,b)) (ht:Tryz.prog.underlying t=some (.slice e)) (hzs:z.cells.size=sz) (hsz:0<sz)
 (hgd:o.guard=none) (s x:Operand) (ho:o.op=.call {callee:=.builtin .append,args:=#[s,x],argTypes:=#[t,t]})
 (base:Nat) (A0:Option Addr) (c0 n:Nat) (xs:List Value) (hs:a.eval s=.slice A0 n c0) (hown:Ow w base e sz A0 n c0 xs)
 (A:Option Addr) (m c:Nat) (news:List Value) (hx:a.eval x=.slice A m c) (hr:Rd w sz A m c news) (h1:∀ u∈news,u.oneCell'=true) (hb:n+m<=140737488355328) (hb2:(n+m)*b<=140737488355328) (hbase:base<=w.heap.size)
 (h:∀ A' c' w',Ow w' base e sz A' (n+m) c' (xs++news)->w.grownBy w' (blk A0)->(A'=A0∨A'=some ⟨w.heap.size,0,none⟩)->K (a.put o.dst (.slice A' (n+m) c')) w') :
 if Region.wanted o (yielded ops a.tmps)=true then Oper.wp Tryz.prog o a w K Q else E:=by
 obtain⟨i0,hi,hz0,hz1,hz2⟩:=info_parts hinfo;exact NC w hgd s x _ ho base _ i0 _ sz b ht hi hz0 hz1 hz2 hzs hsz A0 c0 n xs hs hown A m c news hx hr h1 hb hb2 hbase h
