/- Part of the proof. -/
import Derived.Lib.ValidU
import Derived.Test.YtjmklmngikpeaaaGreatDoorNs3
set_option maxRecDepth 100000
set_option maxHeartbeats 8000000
set_option linter.unusedVariables false
set_option linter.unusedSimpArgs false
namespace Go.Proofs.YtjmklmngikpeaaaGreatDoor
variable {d s:ByteArray}{c:Cd}{l:List Cd}{n:List Nat}{cs:List Value}{B ac i k ob q r tg:Nat}{S:Nat->Prop}{A:Option Addr}{t:TypeId}{w:World}
def mJ (e:Ex):Bool:=fW e.text ByteArray.empty&&decide (e.num=0)&&fW e.name ByteArray.empty&&fW e.attr ByteArray.empty&&decide (e.l.length=0)
def gF (e:Ex):Bool :=
 if e.kind=0 then mJ ⟨e.kind,ByteArray.empty,e.num,e.name,e.attr,e.l⟩&&Lib.validD e.text.data.toList
 else if e.kind=1 then mJ ⟨e.kind,e.text,0,e.name,e.attr,e.l⟩&&decide (-9007199254740992<=e.num/\e.num<=9007199254740992)
 else if e.kind=3 then mJ ⟨e.kind,e.text,e.num,ByteArray.empty,e.attr,e.l⟩
 else false
def gQ (e:Ex):Bool:=decide (e.kind=0)&&mJ e
def fU:Nat->Cd->Bool
 | 0,_=>false
 | k+1,c =>
   if c.kind=0 then decide (c.l.length=0)&&(gF c.a&&gF c.b)
   else if c.kind=4 then (gQ c.a&&gQ c.b)&&(decide (c.l.length=0)&&!fW c.name ByteArray.empty)
   else (if c.kind=1∨c.kind=2 then decide (1<=c.l.length/\c.l.length<=4) else if c.kind=3 then decide (c.l.length=1) else false)&&(gQ c.a&&gQ c.b) &&
    c.l.all fun p=>(decide (p.kind=4)||fW p.name ByteArray.empty)&&fU k p
def addT (a:List ByteArray) (d:ByteArray):List ByteArray:=if jB d a then a else a++[d]
def cNm:Nat->Cd->List ByteArray
 | 0,_=>[]
 | k+1,c=>if c.kind=4 then [c.name] else c.l.flatMap (cNm k)
def xRef (e:Ex):List ByteArray:=if e.kind=3 then [e.name] else []
def cPs:Nat->Cd->List ByteArray
 | 0,_=>[]
 | k+1,c=>if c.kind=4 then [] else (if c.kind=0 then xRef c.a++xRef c.b else [])++c.l.flatMap (cPs k)
def names (c:Cd):List ByteArray:=(cNm 20 c).foldl addT []
def uZ (c:Cd):List ByteArray:=(cPs 20 c).foldl addT []
def plAt (l:List Cd) (s:ByteArray):Option Nat:=l.findIdx? fun c=>fW c.name s
def nextOf (l:List Cd) (i:Nat):List Nat :=
 match l[i]? with
 | some c=>if c.kind=4 then [] else (names c).filterMap (plAt l)
 | none=>[]
def lG (l:List Cd) (tg r:Nat) (n:List Nat) (i:Nat):Bool:=(nextOf l i).any fun k=>(decide (r=1)&&decide (k=tg))||(decide (1<r)&&decide (n.getD k 0=r-1))
def bkStep (l:List Cd) (tg r:Nat) (n:List Nat) (i:Nat):List Nat:=if n.getD i 0=0/\lG l tg r n i=true then n.set i r else n
def jJ (l:List Cd) (tg r:Nat) (n:List Nat):List Nat:=(List.range l.length).foldl (bkStep l tg r) n
def bk (l:List Cd) (tg:Nat):List Nat:=((List.range l.length).map (·+1)).foldl (fun n r=>jJ l tg r n) (List.replicate l.length 0)
def better (n:List Nat) (b:Option Nat) (k:Nat):Option Nat :=
 if 0<n.getD k 0 then (match b with | none=>some k | some j=>if n.getD k 0<n.getD j 0 then some k else some j) else b
def yA (n:List Nat) (ks:List Nat):Option Nat:=ks.foldl (better n) none
def lN (l:List Cd) (n:List Nat):Nat->Nat->List Nat
 | 0,_=>[]
 | f+1,here=>if 1<n.getD here 0 then (match yA n (nextOf l here) with | some k=>k::lN l n f k | none=>[]) else []
def jH (l:List Cd) (i:Nat):Bool:=decide (plAt l (((l[i]?).map Cd.name).getD ByteArray.empty)=some i)&&decide ((bk l i).getD i 0≠0)
def EU (l:List Cd):List Nat :=
 match (List.range l.length).find? (jH l) with
 | some i=>i::lN l (bk l i) (l.length+1) i
 | none=>[]
def zR (l:List Cd) (i:Nat):ByteArray:=((l[i]?).map Cd.name).getD ByteArray.empty
def l7 (l:List Cd):List ByteArray:=(EU l).map (zR l)
def mZ (b:Nat):Bool:=decide (97<=bits BinOp.or IntKind.u8 (b:Int) 32/\bits BinOp.or IntKind.u8 (b:Int) 32<=122)
def jF:Nat->List UInt8->Bool
 | _,[]=>true
 | i,b::r=>(mZ b.toNat||(decide (i≠0)&&decide (48<=b.toNat/\b.toNat<=57)))&&jF (i+1) r
def iI (s:ByteArray):Bool:=jF 0 s.data.toList&&decide (0<s.size/\s.size<=32)
theorem nP (h:plAt l s=some i):(∃ c,l[i]?=some c/\c.name=s)/\∀ j c,j<i->l[j]?=some c->c.name≠s:=by
 unfold plAt at h;obtain⟨hi,h1,h2⟩:=List.findIdx?_eq_some_iff_getElem.1 h;refine⟨⟨l[i],aM hi,bEq_iff.1 h1⟩,fun j c hj hc e=>?_⟩;have h3:=h2 j hj;have hjl:j<l.length:=by omega
 rw[aM hjl] at hc;injection hc with hc;rw[hc,bEq_iff.2 e] at h3;simp at h3
theorem plAt_lt (h:plAt l s=some i):i<l.length:=by
 obtain⟨⟨c,hc,_⟩,_⟩:=nP h;exact(List.getElem?_eq_some_iff.1 hc).1
theorem JZ (h:k∈nextOf l i):∃ c s,l[i]?=some c/\s∈names c/\plAt l s=some k:=by
 unfold nextOf at h;split at h
 .next c hc =>
  split at h
  .cases h
  obtain⟨s,h1,h2⟩:=List.mem_filterMap.1 h;exact⟨c,s,hc,h1,h2⟩
 cases h
theorem pT (h:k∈nextOf l i):k<l.length:=by
 obtain⟨_,_,_,_,h1⟩:=JZ h;exact plAt_lt h1
def Bk (l:List Cd) (tg:Nat) (n:List Nat):Prop:=n.length=l.length/\∀ i r,n[i]?=some r->0<r->(r=1/\tg∈nextOf l i)∨(1<r/\∃ k∈nextOf l i,n[k]?=some (r-1))
theorem Bk.step (h:Bk l tg n) (hr:0<r):Bk l tg (bkStep l tg r n i):=by
 unfold bkStep;split
 .next hc =>
  obtain⟨h0,hl⟩:=hc;refine⟨by rw[dZ];exact h.1,fun j q hj hq=>?_⟩;have keep:∀ k x,n[k]?=some x->0<x->(n.set i r)[k]?=some x:=fun k x hk hx=>by
   have hne:i≠k:=fun e=>by
    subst e;rw[aG,hk] at h0;simp at h0;omega
   rw[List.getElem?_set_ne hne];exact hk
  rcases Decidable.em (i=j) with rfl | hne
  .have hlt:i<n.length:=by
    have:=(List.getElem?_eq_some_iff.1 hj).1
    simpa using this
   rw[List.getElem?_set_self hlt] at hj;injection hj with hj;subst hj;obtain⟨k,hk,hk2⟩:=List.any_eq_true.1 hl;simp only[eD,bJ,decide_eq_true_eq] at hk2;rcases hk2 with ⟨e1,e2⟩ | ⟨e1,e2⟩
   .subst e2;exact .inl ⟨e1,hk⟩
   refine .inr ⟨e1,k,hk,?_⟩;have hkl:k<n.length:=by rw[h.1];exact pT hk
   have hnk:n[k]?=some (r-1):=by
    rw[aM hkl];rw[aG,aM hkl] at e2;simpa using e2
   exact keep k _ hnk (by omega)
  rw[List.getElem?_set_ne hne] at hj;rcases h.2 j q hj hq with h1 | ⟨h1,k,hk,hk2⟩
  .exact .inl h1
  exact .inr ⟨h1,k,hk,keep k _ hk2 (by omega)⟩
 exact h
theorem Bk.round (h:Bk l tg n) (hr:0<r):Bk l tg (jJ l tg r n):=by
 unfold jJ;generalize List.range l.length=is;induction is generalizing n with
 | nil=>exact h
 | cons i is ih=>exact ih (h.step hr)
theorem L5 (l:List Cd) (tg:Nat):Bk l tg (bk l tg):=by
 unfold bk;have key:∀ (rs:List Nat) (n:List Nat),(∀ r∈rs,0<r)->Bk l tg n->Bk l tg (rs.foldl (fun n r=>jJ l tg r n) n):=by
  intro rs;induction rs with
  | nil=>intro n _ h;exact h
  | cons r rs ih=>intro n hr h;exact ih _ (fun r' h'=>hr r' (by simp[h'])) (h.round (hr r (by simp)))
 refine key _ _ (fun r hr=>?_) ⟨by simp,fun i r hi hr=>?_⟩
 .obtain⟨x,_,rfl⟩:=List.mem_map.1 hr;omega
 have:=aD hi;rw[List.mem_replicate] at this;omega
theorem H2 (h:∀ k,n.getD k 0<=B) (hr:r<=B):∀ k,(bkStep l tg r n i).getD k 0<=B:=by
 intro k;unfold bkStep;split
 .rw[aG,eY];split
  .split<;>simp<;>omega
  rw[<-aG];exact h k
 exact h k
theorem PU (l:List Cd) (tg i:Nat):(bk l tg).getD i 0<=l.length:=by
 unfold bk;have key:∀ (rs:List Nat) (n:List Nat),(∀ r∈rs,r<=l.length)->(∀ k,n.getD k 0<=l.length)->∀ k,(rs.foldl (fun n r=>jJ l tg r n) n).getD k 0<=l.length:=by
  intro rs;induction rs with
  | nil=>intro n _ h;exact h
  | cons r rs ih =>
    intro n hr h;refine ih _ (fun r' h'=>hr r' (by simp[h'])) ?_;unfold jJ;have hr0:=hr r (by simp);generalize List.range l.length=is;induction is generalizing n with
    | nil=>exact h
    | cons i is ih2=>exact ih2 _ (H2 h hr0)
 refine key _ _ (fun r hr=>?_) (fun k=>?_) i
 .obtain⟨x,hx,rfl⟩:=List.mem_map.1 hr;have:=List.mem_range.1 hx;omega
 rw[aG,dU];split<;>simp
theorem BD {n:List Nat}:∀ (ks:List Nat) (b:Option Nat),(∀ j,b=some j->0<n.getD j 0)->(ks.foldl (better n) b=none->b=none/\∀ k∈ks,n.getD k 0=0) /\
 ∀ k,ks.foldl (better n) b=some k->(k∈ks∨b=some k)/\0<n.getD k 0/\(∀ j∈ks,0<n.getD j 0->n.getD k 0<=n.getD j 0)/\∀ j,b=some j->n.getD k 0<=n.getD j 0
 | [],b,hb=>⟨fun h=>⟨h,by simp⟩,fun k h=>by
   simp only[List.foldl_nil] at h;subst h;exact⟨.inr rfl,hb k rfl,by simp,fun j hj=>by injection hj with hj;subst hj;exact aA _⟩⟩
 | x::ks,b,hb=>by
   have hb':∀ j,better n b x=some j->0<n.getD j 0:=by
    intro j hj;unfold better at hj;split at hj
    .split at hj
     .injection hj with hj;subst hj;assumption
     split at hj<;>(injection hj with hj;subst hj)
     .assumption
     exact hb _ rfl
    exact hb j hj
   obtain⟨h1,h2⟩:=BD ks (better n b x) hb';simp only[bR];constructor
   .intro h;obtain⟨h3,h4⟩:=h1 h;unfold better at h3;split at h3
    .split at h3
     .cases h3
     split at h3<;>cases h3
    next hx =>
    refine⟨h3,fun k hk=>?_⟩;rcases List.mem_cons.1 hk with rfl | hk
    .omega
    exact h4 k hk
   intro k h;obtain⟨h3,h4,h5,h6⟩:=h2 k h;have hx:0<n.getD x 0->n.getD k 0<=n.getD x 0:=fun hx=>by
    cases b with
    | none =>
      have e:better n none x=some x:=by unfold better;rw[if_pos hx]
      exact h6 x e
    | some j =>
      by_cases hlt:n.getD x 0<n.getD j 0
      .have e:better n (some j) x=some x:=by unfold better;rw[if_pos hx];exact if_pos hlt
       exact h6 x e
      have e:better n (some j) x=some j:=by unfold better;rw[if_pos hx];exact if_neg hlt
      have:=h6 j e;omega
   have hbk:∀ j,b=some j->n.getD k 0<=n.getD j 0:=fun j hj=>by
    subst hj;by_cases hx0:0<n.getD x 0
    .by_cases hlt:n.getD x 0<n.getD j 0
     .have e:better n (some j) x=some x:=by unfold better;rw[if_pos hx0];exact if_pos hlt
      have:=h6 x e;omega
     have e:better n (some j) x=some j:=by unfold better;rw[if_pos hx0];exact if_neg hlt
     exact h6 j e
    have e:better n (some j) x=some j:=by unfold better;rw[if_neg hx0]
    exact h6 j e
   refine⟨?_,h4,fun j hj hj0=>?_,hbk⟩
   .rcases h3 with h3 | h3
    .exact .inl (List.mem_cons_of_mem _ h3)
    unfold better at h3;split at h3
    .split at h3
     .injection h3 with h3;subst h3;exact .inl (by simp)
     split at h3
     .injection h3 with h3;subst h3;exact .inl (by simp)
     exact .inr h3
    exact .inr h3
   rcases List.mem_cons.1 hj with rfl | hj
   .exact hx hj0
   exact h5 j hj hj0
theorem best_next (h:Bk l tg n) (hi:1<n.getD i 0):∃ k,yA n (nextOf l i)=some k/\k∈nextOf l i/\0<n.getD k 0/\n.getD k 0<n.getD i 0:=by
 have hs:n[i]?=some (n.getD i 0):=by
  rw[aG] at hi ⊢;cases hx:n[i]? with
  | none=>rw[hx] at hi;simp at hi
  | some x=>simp
 rcases h.2 i _ hs (by omega) with ⟨h1,_⟩ | ⟨_,k,hk,hk2⟩
 .omega
 have hkv:n.getD k 0=n.getD i 0-1:=by rw[aG (l:=n) (i:=k),hk2];rfl
 obtain⟨g1,g2⟩:=BD (n:=n) (nextOf l i) none (fun j hj=>by cases hj);cases hb:yA n (nextOf l i) with
 | none =>
   have:=(g1 hb).2 k hk;omega
 | some b =>
   obtain⟨h3,h4,h5,_⟩:=g2 b hb;have:=h5 k hk (by omega);refine⟨b,rfl,h3.resolve_right (by simp),h4,by omega⟩
open Go.RowKit
def R8 (B:Nat) (A:Option Addr) (l':List ByteArray) (w:World) (e:Ending) (w':World):Prop :=
 ∃ A' c',e=.returned (.slice A' l'.length c')/\Ow w' B 9 1 A' l'.length c' (l'.map .string)/\fP (fun k=>blk A=some k) w w'/\∀ k,k<w.heap.size->blk A'=some k->blk A=some k
theorem BI (a:List ByteArray) (d:ByteArray):(addT a d).length<=a.length+1:=by unfold addT;split<;>simp
theorem D7 (B mc:Nat) (A:Option Addr) (c:Nat) (l:List ByteArray) (d:ByteArray) (M:Addr) (w:World) (ho:Ow w B 9 1 A l.length c (l.map .string)) (hd:w.cell? M=some (.string d)) (hl:l.length<=1000000)
 (hs:∀ x∈l,x.size<=9007199254740992) (hB:B<=w.heap.size) (hmc:1<=mc) :
 Calls Tryz.prog 199 #[.slice A l.length c,.slice (some M) 1 mc] w (R8 B A (addT l d) w):=by
 have HO:=Hd ho;have hc:=ho.cap;have HSC:=Hd (vM (fun _=>True) A c l d w (Ls.mk_strs ho.rd (by omega) hs (fun _ _ _=>trivial)) (by omega));clear ho hs;go_enter Tryz.func199,Tryz.ntmps199;go_wp2_with fail;go_loopg [9,0] 1 (fun g i v wr=>(g=1/\i=.int .i64 0/\v=.slice A l.length c/\wr=w)∨(g=0/\i=.int .i64 1/\∃ A' c',v=.slice A' (addT l d).length c'/\Hid (Ow wr B 9 1 A' (addT l d).length c' ((addT l d).map .string))/\Hid (fP (fun k=>blk A=some k) w wr)/\Hid (∀ k,k<w.heap.size->blk A'=some k->blk A=some k)))
 case atStart=>exact .inl ⟨rfl,rfl,rfl,rfl⟩
 case round =>
  rcases hrel with ⟨rfl,rfl,rfl,rfl⟩ | ⟨rfl,rfl,A',c',rfl,HO2,HN2,HL2⟩
  .cases hh:jB d l with
   | true =>
     have HH:Hid (addT l d=l):=Hd (by unfold addT;rw[hh];simp);rw[hh] at HSC;clear hh;go_wp2_with fail;refine HSC.o.mono ?_;rintro e w2 ⟨rfl,rfl⟩;go_wp2_with fail;go_roundg 0
     case measure=>omega
     case rel=>exact .inr ⟨rfl,rfl,A,c,by rw[HH.o],by rw[HH.o];exact HO,Hd (bG _ _),Hd (fun _ _ h=>h)⟩
   | false =>
     have HH:Hid (addT l d=l++[d]):=Hd (by unfold addT;rw[hh];simp);rw[hh] at HSC;clear hh;go_wp2_with fail;refine HSC.o.mono ?_;rintro e w2 ⟨rfl,rfl⟩;have HRN:=Hd (cQ wr 1 1 #[.string d] 9 (0,0) rfl (by simp[maxLen]));go_wp2_with (at_builtin;refine wpList_row info_str Tryz.underlying42 rfl (by omega) rfl (.tmp 17) (.tmp 19) rfl B A c l.length (l.map .string) rfl (HO.o.alloc _) (some ⟨wr.heap.size,0,none⟩) 1 1 [.string d] rfl HRN.o (by simp[Value.oneCell']) (by omega) (by omega) (by simp;omega) ?_;intro A' c' w6 ho hg hat;have HO6:=Hd ho;have HG6:=Hd hg;have HT6:=Hd hat;clear ho hg hat);go_roundg 0
     case measure=>omega
     case rel =>
      have hon:fP (fun k=>blk A=some k) wr w6:=((bG _ wr).alloc _).grown HG6.o (fun g hg _=>hg);refine .inr ⟨rfl,rfl,A',c',by rw[HH.o];simp,by rw[HH.o];exact Hd (by simpa using HO6.o),Hd hon,Hd (fun k hk hb=>?_)⟩;rcases HT6.o with rfl | rfl
      .exact hb
      simp[blk] at hb;omega
  go_wp2;go_ret;exact⟨A',c',rfl,HO2.o,HN2.o,HL2.o⟩
def Fo (ob:Nat) (A:Option Addr) (k:Nat):Prop:=k=ob∨blk A=some k
structure rT (B ob:Nat) (A:Option Addr) (ac:Nat) (l:List ByteArray) (w:World):Prop where
 box:Blk w ob #[.slice A l.length ac] 42
 own:Ow w B 9 1 A l.length ac (l.map .string)
 hq:B<=ob
def wY (B ob:Nat) (A:Option Addr) (l':List ByteArray) (w:World) (e:Ending) (w':World):Prop:=e=.returned (.tuple #[])/\∃ A' ac',rT B ob A' ac' l' w'/\lP (Fo ob A) (Fo ob A') w w'
theorem rT.big {l:List ByteArray} (h:rT B ob A ac l w):B<=w.heap.size:=Nat.le_of_lt (Nat.lt_of_le_of_lt h.hq h.box.lt)
theorem rT.below {B ob ac:Nat} {A:Option Addr} {l:List ByteArray} {w w':World} (h:rT B ob A ac l w) (hb:Below w.heap.size w w'):rT B ob A ac l w':=⟨h.box.below hb,h.own.below hb,h.hq⟩
theorem rT.ne {l:List ByteArray} (h:rT B ob A ac l w):blk A≠some ob:=h.own.ne_blk h.box (by decide)
theorem rT.set {B ob ac:Nat} {A:Option Addr} {l l':List ByteArray} {w w1 w2:World} (h:rT B ob A ac l w) (hb:Below w.heap.size w w1) {A':Option Addr} {c':Nat} (ho:Ow w2 B 9 1 A' l'.length c' (l'.map .string)) (hon:fP (fun k=>blk A=some k) w1 w2) (hlt:∀ k,k<w1.heap.size->blk A'=some k->blk A=some k) :
 rT B ob A' c' l' (w2.setCell ⟨ob,0,none⟩ (.slice A' l'.length c'))/\lP (Fo ob A) (Fo ob A') w (w2.setCell ⟨ob,0,none⟩ (.slice A' l'.length c')):=by
 have h1:=h.below hb;have hbx:=h1.box.only hon h1.ne;have hne:blk A'≠some ob:=ho.ne_blk hbx (by decide);refine⟨⟨(hbx.set 0 _).eq (by simp),ho.setOther _ _ hne,h.hq⟩,(bL hb).trans ⟨(hon.mono (fun k _ e=>.inr e)).setCell _ _ (fun _=>.inl rfl),fun k hk hf=>?_⟩⟩;rcases hf with hf | hf
 .exact .inl hf
 exact .inr (hlt k hk hf)
def NmCl (ob:Nat):Value:=.func (.func 201) #[] #[.pointer (some ⟨ob,0,none⟩)]
theorem N1 (B ob:Nat) (a:Addr) (A:Option Addr) (ac:Nat) (l:List ByteArray) (nm:ByteArray) (kd:Int) (w:World) (h:rT B ob A ac l w) (c0:w.cell? a=some (.string nm)) (c1:w.cell? ⟨a.block,a.off+1,none⟩=some (.int .i8 kd)) (hna:¬Fo ob A a.block)
 (hl:l.length<=1000000) (hs:∀ x∈l,x.size<=9007199254740992) :
 Calls Tryz.prog 201 #[.pointer (some a),.pointer (some ⟨ob,0,none⟩)] w (wY B ob A (if kd=4 then addT l nm else l) w):=by
 have cb:=h.box.cell 0 (v:=.slice A l.length ac) rfl;have fb:=h.box.frozen 0;have H:=Hd h;have HS:=Hd hs;have HNA:=Hd hna;have hal:a.block<w.heap.size:=aF w _ c0;have hbl:=h.box.lt;have hbig:=h.big;clear h hs hna;by_cases hk:kd=4
 .subst hk;have e4:((4:Int)==4)=true:=rfl;have HSET:=Hd (D7 B 1 A ac l nm ⟨w.heap.size,0,none⟩ ((w.alloc (.cells #[.string nm] 9)).drew) (H.out.own.alloc _).drew (Blk.cell (aJ w #[.string nm] 9).drew 0 rfl) (by omega) HS.o (by simp;omega) (by omega));rw[if_pos rfl];go_enter Tryz.func201,Tryz.ntmps201;go_wp2_with fail;refine cK 7 (fun w'=>w'.cell? ⟨ob,0,none⟩=some (.slice A l.length ac)/\w'.cell? a=some (.string nm)) (by kernel_rfl) (by go_keep) (fun hH0=>?_);simp only[aQ,bC,aX,bA,aZ,Nat.reduceAdd];refine aL hH0 0 ?_;refine aL hH0 1 ?_;refine aL hH0 2 ?_;refine aL hH0 3 ?_;refine aL hH0 4 ?_;refine cT 5 fun K hK=>?_
  go_simp;refine cM hK fun hH1=>?_
  clear hK K hH0;try simp only[Act.put,aE,aH,aI]
  refine cT 6 fun K hK=>?_
  go_simp;(with_reducible refine HSET.o.mono ?_);rintro e w3 ⟨A3,c3,rfl,ho3,hn3,hl3⟩;have HO3:=Hd ho3;have HN3:=Hd hn3;have HL3:=Hd hl3;have k0:w3.cell? ⟨ob,0,none⟩=some (.slice A l.length ac):=(by rw[cell_only hn3 (by simp;omega) H.out.ne];exact(cL w _ _ hbl).trans cb);have k1:w3.cell? a=some (.string nm):=(by rw[cell_only hn3 (by simp;omega) (fun e=>HNA.o (.inr e))];exact(cL w _ _ hal).trans c0);have k2:w3.frozen? ⟨ob,0,none⟩=false:=((H.out.box.alloc (.cells #[.string nm] 9)).drew.only hn3 H.out.ne).frozen 0;clear ho3 hn3 hl3;dsimp only;refine cM hK fun hH2=>?_
  clear hK K hH1;try simp only[Act.put,aE,aH,aI]
  refine dY fun K hK=>?_
  go_simp;refine hK.out _ _ ?_;clear hK K hH2;go_wp2_with fail;go_end0;have hst:=H.out.set (((aB _ w).alloc (aA _) (.cells #[.string nm] 9)).drew) HO3.o HN3.o HL3.o;exact⟨rfl,A3,c3,hst.1,hst.2⟩
 have e4:(kd==4)=false:=by simpa using hk
 rw[if_neg hk];clear hk;go_enter Tryz.func201,Tryz.ntmps201;go_wp2_with fail;go_end0;exact⟨rfl,A,ac,H.out,lP.refl _ _⟩
theorem nE {a:Addr} {v:Cd} (h:Trs.at S w v.tr cs) (hc:i7 w a cs) :
 ∃ L lc,w.cell? a=some (.string v.name)/\w.cell? ⟨a.block,a.off+1,none⟩=some (.int .i8 v.kind)/\w.cell? ⟨a.block,a.off+14,none⟩=some (.slice L v.l.length lc)/\Ls S w 15 224 Cd.tr L lc v.l/\v.name.size<=9007199254740992:=by
 obtain⟨xs,ys,L,lc,rfl,h1,_,h3,h4,h5⟩:=Cd.at_iff.1 h;have hx:xs.length=6:=h3.len.trans (eB _);have hy:ys.length=6:=h4.len.trans (eB _);refine⟨L,lc,?_,?_,?_,h5,h1⟩
 .have:=hc 0 _ rfl;simpa using this
 .have:=hc 1 _ rfl;simpa using this
 have:=hc 14 (.slice L v.l.length lc) (by
  rw[dV,dV,bH (by omega),bH (by omega),hx,hy];rfl)
 simpa using this
def Cd.deep:Nat->Cd->Prop
 | 0,_=>False
 | k+1,c=>∀ p∈c.l,Cd.deep k p
def UU (B ob k:Nat):Prop:=∀ (c:Cd) (cs:List Value) (a:Addr) (A:Option Addr) (ac:Nat) (l:List ByteArray) (w:World),c.deep k->Trs.at (Sf 0 (Fo ob A) w) w c.tr cs->i7 w a cs->¬Fo ob A a.block->rT B ob A ac l w ->
 l.length+(cNm k c).length<=1000000->(∀ x∈l,x.size<=9007199254740992)->Calls Tryz.prog 197 #[.pointer (some a),NmCl ob] w (wY B ob A ((cNm k c).foldl addT l) w)
theorem addT_mem {a:List ByteArray} {z:ByteArray} (h:z∈addT a d):z∈a∨z=d:=by
 unfold addT at h;split at h
 .exact .inl h
 rcases List.mem_append.1 h with h | h
 .exact .inl h
 rw[aR] at h;exact .inr h
theorem foldT_len:∀ (ds a:List ByteArray),(ds.foldl addT a).length<=a.length+ds.length
 | [],a=>by simp
 | d::ds,a=>by
   have h1:=foldT_len ds (addT a d);have h2:=BI a d;simp only[bR,aQ];omega
theorem foldT_mem:∀ {ds a:List ByteArray} {z:ByteArray},z∈ds.foldl addT a->z∈a∨z∈ds
 | [],a,z,h=>.inl h
 | d::ds,a,z,h=>by
   rcases foldT_mem (ds:=ds) h with h | h
   .rcases addT_mem h with h | h
    .exact .inl h
    exact .inr (by simp[h])
   exact .inr (by simp[h])
theorem cNm_sizes {S:Nat->Prop} {w:World}:∀ (k:Nat) (c:Cd) (cs:List Value),Trs.at S w c.tr cs->∀ z∈cNm k c,z.size<=9007199254740992
 | 0,c,cs,_,z,hz=>by simp[cNm] at hz
 | k+1,c,cs,h,z,hz=>by
   obtain⟨_,_,L,lc,_,h1,_,_,_,h5⟩:=Cd.at_iff.1 h;simp only[cNm] at hz;split at hz
   .rw[aR] at hz;subst hz;exact h1
   obtain⟨p,hp,hz⟩:=List.mem_flatMap.1 hz;obtain⟨i,hi⟩:=List.mem_iff_getElem?.1 hp;obtain⟨_,ps,_,hpt,_⟩:=h5.elem cY hi;exact cNm_sizes k p ps hpt z hz
theorem M7 (B ob k:Nat) (IH:UU B ob k) (c:Cd) (cs:List Value) (a:Addr) (A:Option Addr) (ac:Nat) (l:List ByteArray) (w:World) (hd:c.deep (k+1)) (htr:Trs.at (Sf 0 (Fo ob A) w) w c.tr cs) (hcel:i7 w a cs) (hna:¬Fo ob A a.block) (h:rT B ob A ac l w)
 (hlen:l.length+(cNm (k+1) c).length<=1000000) (hs:∀ x∈l,x.size<=9007199254740992) :
 Calls Tryz.prog 197 #[.pointer (some a),NmCl ob] w (wY B ob A ((cNm (k+1) c).foldl addT l) w):=by
 obtain⟨L,lc,c0,c1,c14,hls,hnm⟩:=nE htr hcel;have HN1:=Hd (N1 B ob a A ac l c.name c.kind w h c0 c1 hna (by omega) hs);have H:=Hd h;have HS:=Hd hs;have HNA:=Hd hna;have HCEL:=Hd hcel;have HTR:=Hd htr;have HD:=Hd hd;have hcap:=hls.cap;have hbyt:=hls.bytes;have HLS:=Hd hls;unfold NmCl;clear h hs hna htr hd hls hcel;by_cases h4:c.kind=4
 .have e0:(c.kind==0)=false:=by rw[h4];rfl
  have e4:(c.kind==4)=true:=by rw[h4];rfl
  have HE:Hid ((cNm (k+1) c).foldl addT l=addT l c.name):=Hd (by simp only[cNm];rw[if_pos h4];rfl);rw[if_pos h4] at HN1;clear h4;go_enter Tryz.func197,Tryz.ntmps197;go_wp2_with fail;refine HN1.o.mono ?_;rintro e w2 ⟨rfl,A2,ac2,hst,hgo⟩;have hc2:=HCEL.o.go hgo HNA.o;have HST:=Hd hst;have HGO:=Hd hgo;obtain⟨_,_,d0,d1,_⟩:=nE (HTR.o.go hgo) hc2;clear hst hgo hc2;go_wp2_with fail;go_end0;rw[HE.o];exact⟨rfl,A2,ac2,HST.o,HGO.o⟩
 have e4:(c.kind==4)=false:=by simpa using h4
 have hE:cNm (k+1) c=c.l.flatMap (cNm k):=by simp only[cNm];rw[if_neg h4]
 have HE:Hid ((cNm (k+1) c).foldl addT l=(c.l.flatMap (cNm k)).foldl addT l):=Hd (by rw[hE]);rw[hE] at hlen;have HLEN:=Hd hlen;rw[if_neg h4] at HN1;clear h4 hE hlen;by_cases h0:c.kind=0
 .have e0:(c.kind==0)=true:=by rw[h0];rfl
  clear h0;go_enter Tryz.func197,Tryz.ntmps197;go_wp2_with fail;refine HN1.o.mono ?_;rintro e w2 ⟨rfl,A2,ac2,hst,hgo⟩;have d1:=(cell_only hgo.only (aF w _ c1) HNA.o).trans c1;have d14:=(cell_only hgo.only (aF w _ c14) HNA.o).trans c14;have HST:=Hd hst;have HGO:=Hd hgo;clear hst hgo;go_wp2_with fail;clear d1 d14 e0;go_loopg [30] c.l.length (fun g i wr=>∃ (j:Nat) (A3:Option Addr) (ac3:Nat) (l3:List ByteArray),j+g=c.l.length/\i=.int .i64 (j:Nat)/\Hid ((c.l.flatMap (cNm k)).foldl addT l=((c.l.drop j).flatMap (cNm k)).foldl addT l3)/\Hid (rT B ob A3 ac3 l3 wr)/\Hid (lP (Fo ob A) (Fo ob A3) w wr) /\
   Hid (l3.length+((c.l.drop j).flatMap (cNm k)).length<=1000000)/\Hid (∀ x∈l3,x.size<=9007199254740992))
  case atStart=>exact⟨0,A2,ac2,l,by omega,rfl,Hd (by simp),HST,HGO,Hd (by rw[eI];exact HLEN.o),HS⟩
  case round =>
   obtain⟨j,A3,ac3,l3,hj,rfl,HE3,HST3,HGO3,HL3,HS3⟩:=hrel;rename World=>wo
   clear HST HGO;cases gk with
   | zero =>
     have hjj:¬((j:Int)<(c.l.length:Int)):=by omega
     have HEE:Hid ((cNm (k+1) c).foldl addT l=l3):=Hd (by rw[HE.o,HE3.o,aP (by omega)];rfl);go_wp2_with fail;go_end0;rw[HEE.o];exact⟨rfl,A3,ac3,HST3.o,HGO3.o⟩
   | succ g =>
     have hjj:(j:Int)<(c.l.length:Int):=by omega
     obtain⟨p,hp⟩:=fO (l:=c.l) (i:=j) (by omega);have hdp:=HD.o p (aD hp);obtain⟨ad,pcs,rfl,hpt,hpc⟩:=(HLS.o.go HGO3.o).elem cY hp;have hblk:=(HLS.o.go HGO3.o).blk ad rfl (by omega);have hdrop:(c.l.drop j).flatMap (cNm k)=cNm k p++(c.l.drop (j+1)).flatMap (cNm k):=by rw[fS hp];rfl
     have hl3:=HL3.o;rw[hdrop,aS] at hl3;have hih:=IH p pcs (ad.add (j*15)) A3 ac3 l3 wo hdp hpt hpc (by rw[block_of_add];exact hblk.1) HST3.o (by omega) HS3.o;have HIH:=Hd hih;have HDR:=Hd hdrop;have HSZ:=Hd (cNm_sizes k p pcs hpt);have c14':=(cell_only HGO3.o.only (aF w _ c14) HNA.o).trans c14;have hfl:=foldT_len (cNm k p) l3;unfold NmCl at HIH;clear hp hdp hpt hpc hblk hdrop hih;go_wp2_with fail;refine HIH.o.mono ?_;rintro e w4 ⟨rfl,A4,ac4,hst4,hgo4⟩;have HST4:=Hd hst4;have HGO4:=Hd (HGO3.o.trans hgo4);clear hst4 hgo4 c14';go_wp2_with fail;go_roundg g
     case measure=>omega
     case rel =>
      refine⟨j+1,A4,ac4,(cNm k p).foldl addT l3,by omega,by go_num,Hd (by rw[HE3.o,HDR.o,cS]),HST4,HGO4,Hd (by omega),Hd (fun x hx=>?_)⟩;rcases foldT_mem hx with hx | hx
      .exact HS3.o x hx
      exact HSZ.o x hx
 have e0:(c.kind==0)=false:=by simpa using h0
 obtain⟨A2,hA2⟩:∃ A2,A2=A:=⟨_,rfl⟩;obtain⟨ac2,hac2⟩:∃ ac2,ac2=ac:=⟨_,rfl⟩;have HST:Hid (rT B ob A2 ac2 l w):=Hd (by rw[hA2,hac2];exact H.out);have HGO:Hid (lP (Fo ob A) (Fo ob A2) w w):=Hd (by rw[hA2];exact lP.refl _ _);clear h0 hA2 hac2;go_enter Tryz.func197,Tryz.ntmps197;go_wp2_with fail;clear e0;go_loopg [30] c.l.length (fun g i wr=>∃ (j:Nat) (A3:Option Addr) (ac3:Nat) (l3:List ByteArray),j+g=c.l.length/\i=.int .i64 (j:Nat)/\Hid ((c.l.flatMap (cNm k)).foldl addT l=((c.l.drop j).flatMap (cNm k)).foldl addT l3)/\Hid (rT B ob A3 ac3 l3 wr)/\Hid (lP (Fo ob A) (Fo ob A3) w wr) /\
  Hid (l3.length+((c.l.drop j).flatMap (cNm k)).length<=1000000)/\Hid (∀ x∈l3,x.size<=9007199254740992))
 case atStart=>exact⟨0,A2,ac2,l,by omega,rfl,Hd (by simp),HST,HGO,Hd (by rw[eI];exact HLEN.o),HS⟩
 case round =>
  obtain⟨j,A3,ac3,l3,hj,rfl,HE3,HST3,HGO3,HL3,HS3⟩:=hrel;rename World=>wo
  clear HST HGO;cases gk with
  | zero =>
    have hjj:¬((j:Int)<(c.l.length:Int)):=by omega
    have HEE:Hid ((cNm (k+1) c).foldl addT l=l3):=Hd (by rw[HE.o,HE3.o,aP (by omega)];rfl);go_wp2_with fail;go_end0;rw[HEE.o];exact⟨rfl,A3,ac3,HST3.o,HGO3.o⟩
  | succ g =>
    have hjj:(j:Int)<(c.l.length:Int):=by omega
    obtain⟨p,hp⟩:=fO (l:=c.l) (i:=j) (by omega);have hdp:=HD.o p (aD hp);obtain⟨ad,pcs,rfl,hpt,hpc⟩:=(HLS.o.go HGO3.o).elem cY hp;have hblk:=(HLS.o.go HGO3.o).blk ad rfl (by omega);have hdrop:(c.l.drop j).flatMap (cNm k)=cNm k p++(c.l.drop (j+1)).flatMap (cNm k):=by rw[fS hp];rfl
    have hl3:=HL3.o;rw[hdrop,aS] at hl3;have hih:=IH p pcs (ad.add (j*15)) A3 ac3 l3 wo hdp hpt hpc (by rw[block_of_add];exact hblk.1) HST3.o (by omega) HS3.o;have HIH:=Hd hih;have HDR:=Hd hdrop;have HSZ:=Hd (cNm_sizes k p pcs hpt);have c14':=(cell_only HGO3.o.only (aF w _ c14) HNA.o).trans c14;have hfl:=foldT_len (cNm k p) l3;unfold NmCl at HIH;clear hp hdp hpt hpc hblk hdrop hih;go_wp2_with fail;refine HIH.o.mono ?_;rintro e w4 ⟨rfl,A4,ac4,hst4,hgo4⟩;have HST4:=Hd hst4;have HGO4:=Hd (HGO3.o.trans hgo4);clear hst4 hgo4 c14';go_wp2_with fail;go_roundg g
    case measure=>omega
    case rel =>
     refine⟨j+1,A4,ac4,(cNm k p).foldl addT l3,by omega,by go_num,Hd (by rw[HE3.o,HDR.o,cS]),HST4,HGO4,Hd (by omega),Hd (fun x hx=>?_)⟩;rcases foldT_mem hx with hx | hx
     .exact HS3.o x hx
     exact HSZ.o x hx
theorem walkN_any (B ob:Nat):∀ k,UU B ob k:=by
 intro k;induction k with
 | zero=>intro c cs a A ac l w hd;exact absurd hd (by simp[Cd.deep])
 | succ k ih=>exact fun c cs a A ac l w hd htr hcel hna h hlen hs=>M7 B ob k ih c cs a A ac l w hd htr hcel hna h hlen hs
theorem uS {cs:Array Value} (h:Blk w q cs t):i7 w ⟨q,0,none⟩ cs.toList:=fun j u hu=>by
 have h1:=h.cell j (v:=u) (by simpa using hu);split
 .next hj=>subst hj;exact h1
 show w.cell? ⟨q,0+j,none⟩=some u
 rw[aZ];exact h1
def kY (l:List ByteArray) (w:World) (e:Ending) (w':World):Prop :=
 ∃ A c,e=.returned (.slice A l.length c)/\Ow w' w.heap.size 9 1 A l.length c (l.map .string)/\Below w.heap.size w w'/\∀ x∈l,x.size<=9007199254740992
theorem wA (S:Nat->Prop) (c:Cd) (cs:Array Value) (w:World) (hd:c.deep 20) (htr:Trs.at S w c.tr cs.toList) (hlen:(cNm 20 c).length<=1000000) :
 Calls Tryz.prog 168 #[.agg cs] w (kY (names c) w):=by
 have hb:Below w.heap.size w ((w.alloc (.cells cs 148)).alloc (.cells #[.slice none 0 0] 42)):=((aB _ w).alloc (aA _) _).alloc (by simp) _;have hbx:Blk ((w.alloc (.cells cs 148)).alloc (.cells #[.slice none 0 0] 42)) (w.heap.size+1) #[.slice none 0 0] 42:=by
  have:=aJ (w.alloc (.cells cs 148)) #[.slice none 0 0] 42;rw[show (w.alloc (.cells cs 148)).heap.size=w.heap.size+1 by simp] at this;exact this
 have hst:rT (w.heap.size+1) (w.heap.size+1) none 0 [] ((w.alloc (.cells cs 148)).alloc (.cells #[.slice none 0 0] 42)):=⟨hbx,dF _ _ _ _,aA _⟩
 have hcel:=uS ((aJ w cs 148).alloc (.cells #[.slice none 0 0] 42));have hS:∀ k,S k/\k<w.heap.size->Sf 0 (Fo (w.heap.size+1) none) ((w.alloc (.cells cs 148)).alloc (.cells #[.slice none 0 0] 42)) k:=fun k hk=>by
  refine⟨fun hf=>?_,by simp;omega,by omega⟩;rcases hf with hf | hf
  .omega
  simp[blk] at hf
 have HW:=Hd (walkN_any (w.heap.size+1) (w.heap.size+1) 20 c cs.toList ⟨w.heap.size,0,none⟩ none 0 [] _ hd ((htr.bound.below hb).mono hS) hcel (fun hf=>by
  rcases hf with hf | hf
  .simp at hf
  simp[blk] at hf) hst (by simpa using hlen) (by simp))
 have HB:=Hd hb;have HS:=Hd (cNm_sizes 20 c cs.toList htr);unfold NmCl at HW;clear hd htr hlen hb hbx hst hcel hS;go_enter Tryz.func168,Tryz.ntmps168;go_wp2_with fail;refine HW.o.mono ?_;rintro e w3 ⟨rfl,A,ac,hst,hgo⟩;have hb3:Below w.heap.size w w3:=HB.o.trans (hgo.only.below HB.o.size (fun k hk=>by
  rcases hk with hk | hk
  .omega
  simp[blk] at hk))
 have c0:=hst.box.cell 0 (v:=.slice A ((cNm 20 c).foldl addT []).length ac) rfl;have f0:=hst.box.frozen 0;have HST:=Hd hst;have HB3:=Hd hb3;have c1:=((hst.box.set 0 (.slice A ((cNm 20 c).foldl addT []).length ac)).eq (cs':=#[.slice A ((cNm 20 c).foldl addT []).length ac]) (by simp)).cell 0 (v:=.slice A ((cNm 20 c).foldl addT []).length ac) rfl;clear hst hgo hb3;go_wp2_with fail;refine bodyPost_ret (v:=.slice A ((cNm 20 c).foldl addT []).length ac) (by simp[results,Tryz.results168,go_sem,c1]) rfl ?_;refine⟨A,ac,rfl,(HST.o.own.setOther _ _ HST.o.ne).le (by omega),HB3.o.setCell (by simp) _,fun x hx=>?_⟩;rcases foldT_mem hx with hx | hx
 .cases hx
 exact HS.o x hx
def PmCl (ob:Nat):Value:=.func (.func 198) #[] #[.pointer (some ⟨ob,0,none⟩)]
def pmAdd (c:Cd):List ByteArray:=if c.kind=0 then xRef c.a++xRef c.b else []
theorem iF {e:Ex} (h:Trs.at S w e.tr cs):∃ A c,cs=[.int .i8 e.kind,.string e.text,.int .i64 e.num,.string e.name,.string e.attr,.slice A e.l.length c]/\e.name.size<=9007199254740992:=by
 obtain⟨A,c,rfl,_,_,_,h4,_⟩:=Ex.at_iff.1 h;exact⟨A,c,rfl,h4⟩
theorem LX {cs:Array Value} (h:Blk w q cs t) (o:Nat) (l:List Value) (hl:(cs.toList.drop o).take l.length=l):i7 w ⟨q,o,none⟩ l:=fun j u hu=>by
 have hj:=(List.getElem?_eq_some_iff.1 hu).1;rw[<-hl,cD,if_pos hj,dH] at hu;have h1:=h.cell (o+j) (v:=u) (by simpa using hu);split
 .next h0=>subst h0;exact h1
 exact h1
theorem ED (B ob:Nat) (c:Cd) (cs:List Value) (a:Addr) (A:Option Addr) (ac:Nat) (l:List ByteArray) (w:World) (h:rT B ob A ac l w) (htr:Trs.at (Sf 0 (Fo ob A) w) w c.tr cs) (hcel:i7 w a cs) (hna:¬Fo ob A a.block)
 (hl:l.length+2<=1000000) (hs:∀ x∈l,x.size<=9007199254740992) :
 Calls Tryz.prog 198 #[.pointer (some a),.pointer (some ⟨ob,0,none⟩)] w (wY B ob A ((pmAdd c).foldl addT l) w):=by
 obtain⟨xs,ys,L,lc,rfl,_,_,hxa,hxb,_⟩:=Cd.at_iff.1 htr;obtain⟨A1,n1,rfl,hsa⟩:=iF hxa;obtain⟨B1,n2,rfl,hsb⟩:=iF hxb;obtain⟨c0,c1,c2,c3,c4,c5,c6,c7,c8,c9,c10,c11,c12,c13,c14⟩:=gP hcel;have H:=Hd h;have HS:=Hd hs;have HNA:=Hd hna;have hal:a.block<w.heap.size:=aF w _ c0;have HC1:=Hd c1;have hbig:=h.big;clear h hs hna htr hcel hxa hxb c0;go_enter Tryz.func198,Tryz.ntmps198;go_wp2_with fail;go_region_held3 (fun w'=>w'.cell? ⟨a.block,a.off+2,none⟩=some (.int .i8 c.a.kind)/\w'.cell? ⟨a.block,a.off+3,none⟩=some (.string c.a.text)/\w'.cell? ⟨a.block,a.off+4,none⟩=some (.int .i64 c.a.num)/\w'.cell? ⟨a.block,a.off+5,none⟩=some (.string c.a.name)/\w'.cell? ⟨a.block,a.off+6,none⟩=some (.string c.a.attr)/\w'.cell? ⟨a.block,a.off+7,none⟩=some (.slice A1 c.a.l.length n1) /\
  w'.cell? ⟨a.block,a.off+8,none⟩=some (.int .i8 c.b.kind)/\w'.cell? ⟨a.block,a.off+9,none⟩=some (.string c.b.text)/\w'.cell? ⟨a.block,a.off+10,none⟩=some (.int .i64 c.b.num)/\w'.cell? ⟨a.block,a.off+11,none⟩=some (.string c.b.name)/\w'.cell? ⟨a.block,a.off+12,none⟩=some (.string c.b.attr)/\w'.cell? ⟨a.block,a.off+13,none⟩=some (.slice B1 c.b.l.length n2)) (go_keep) (fail)
 have hW1:Below w.heap.size w ((w.alloc (.cells #[.int .i8 c.a.kind,.string c.a.text,.int .i64 c.a.num,.string c.a.name,.string c.a.attr,.slice A1 c.a.l.length n1,.int .i8 c.b.kind,.string c.b.text,.int .i64 c.b.num,.string c.b.name,.string c.b.attr,.slice B1 c.b.l.length n2] 32)).drew):=((aB _ w).alloc (aA _) _).drew;have HST0:=Hd (H.out.below hW1);have HGO0:=Hd (bL (F:=Fo ob A) hW1);have HRB0:Hid (Blk ((w.alloc (.cells #[.int .i8 c.a.kind,.string c.a.text,.int .i64 c.a.num,.string c.a.name,.string c.a.attr,.slice A1 c.a.l.length n1,.int .i8 c.b.kind,.string c.b.text,.int .i64 c.b.num,.string c.b.name,.string c.b.attr,.slice B1 c.b.l.length n2] 32)).drew) w.heap.size #[.int .i8 c.a.kind,.string c.a.text,.int .i64 c.a.num,.string c.a.name,.string c.a.attr,.slice A1 c.a.l.length n1,.int .i8 c.b.kind,.string c.b.text,.int .i64 c.b.num,.string c.b.name,.string c.b.attr,.slice B1 c.b.l.length n2] 32):=Hd (aJ w _ _).drew;have HNR:Hid (w.heap.size≠ob):=Hd (by have:=H.out.box.lt;omega);have HPM:Hid ((pmAdd c).foldl addT l=(([c.a,c.b].drop 0).flatMap fun e=>if c.kind=0 then xRef e else []).foldl addT l):=Hd (by
  unfold pmAdd;by_cases h0:c.kind=0
  .simp[h0]
  simp[h0])
 have HKEY:Hid (∀ j e,[c.a,c.b][j]?=some e->e.name.size<=9007199254740992/\∃ E en,∀ wo,Blk wo w.heap.size #[.int .i8 c.a.kind,.string c.a.text,.int .i64 c.a.num,.string c.a.name,.string c.a.attr,.slice A1 c.a.l.length n1,.int .i8 c.b.kind,.string c.b.text,.int .i64 c.b.num,.string c.b.name,.string c.b.attr,.slice B1 c.b.l.length n2] 32->i7 wo ⟨w.heap.size,j*6,none⟩ [.int .i8 e.kind,.string e.text,.int .i64 e.num,.string e.name,.string e.attr,.slice E e.l.length en]):=Hd (fun j e hj=>by
  match j,hj with
  | 0,hj=>simp at hj;subst hj;exact⟨hsa,A1,n1,fun wo hb=>LX hb 0 _ rfl⟩
  | 1,hj=>simp at hj;subst hj;exact⟨hsb,B1,n2,fun wo hb=>LX hb 6 _ rfl⟩
  | j+2,hj=>simp at hj)
 clear c2 c3 c4 c5 c6 c7 c8 c9 c10 c11 c12 c13 c14 hW1 hsa hsb;go_wp2_with fail;go_loopg [15] 2 (fun g i wr=>∃ (j:Nat) (A3:Option Addr) (ac3:Nat) (l3:List ByteArray),j+g=2/\i=.int .i64 (j:Nat)/\Hid ((pmAdd c).foldl addT l=(([c.a,c.b].drop j).flatMap fun e=>if c.kind=0 then xRef e else []).foldl addT l3)/\Hid (rT B ob A3 ac3 l3 wr)/\Hid (lP (Fo ob A) (Fo ob A3) w wr) /\
  Hid (Blk wr w.heap.size #[.int .i8 c.a.kind,.string c.a.text,.int .i64 c.a.num,.string c.a.name,.string c.a.attr,.slice A1 c.a.l.length n1,.int .i8 c.b.kind,.string c.b.text,.int .i64 c.b.num,.string c.b.name,.string c.b.attr,.slice B1 c.b.l.length n2] 32)/\Hid (l3.length<=l.length+j)/\Hid (∀ x∈l3,x.size<=9007199254740992)/\Hid (w.heap.size<wr.heap.size))
 case atStart=>exact⟨0,A,ac,l,by omega,rfl,HPM,HST0,HGO0,HRB0,Hd (by omega),HS,Hd (by simp)⟩
 case round =>
  obtain⟨j,A3,ac3,l3,hj,rfl,HE3,HST3,HGO3,HRB3,HL3,HS3,HZ3⟩:=hrel;rename World=>wo
  clear HST0 HGO0 HRB0 HPM;cases gk with
  | zero =>
    have hjj:¬((j:Int)<2):=by omega
    have HEE:Hid ((pmAdd c).foldl addT l=l3):=Hd (by rw[HE3.o,show j=2 by omega];rfl);go_wp2_with fail;go_end0;rw[HEE.o];exact⟨rfl,A3,ac3,HST3.o,HGO3.o⟩
  | succ g =>
    have hjj:(j:Int)<2:=by omega
    obtain⟨e,he⟩:=fO (l:=[c.a,c.b]) (i:=j) (by simp;omega);obtain⟨hns,E,en,hce⟩:=HKEY.o j e he;obtain⟨k0,k1,k2,k3,k4,k5⟩:=iA (hce wo HRB3.o);have d1:=((cell_only HGO3.o.only (aF w _ HC1.o) HNA.o).trans HC1.o)
    have hdr:(([c.a,c.b].drop j).flatMap fun e=>if c.kind=0 then xRef e else [])=(if c.kind=0 then xRef e else [])++(([c.a,c.b].drop (j+1)).flatMap fun e=>if c.kind=0 then xRef e else []):=by rw[fS he];rfl
    have HDR:=Hd hdr;have hwe:Below wo.heap.size wo (wo.alloc (.cells (kX e E en) 32)):=(aB _ wo).alloc (aA _) _;have d1':=(cL wo (.cells (kX e E en) 32) _ (aF wo _ d1)).trans d1;have HSTE:=Hd (HST3.o.below hwe);have HRBE:=Hd (HRB3.o.below hwe);have HGOE:=Hd (HGO3.o.trans (bL (F:=Fo ob A3) hwe));have HWE:=Hd hwe;clear he hce hdr hwe d1;by_cases h03:c.kind=0/\e.kind=3
    .obtain⟨h0,h3⟩:=h03;have e0:(c.kind==0)=true:=by rw[h0];rfl
     have e3:(e.kind==3)=true:=by rw[h3];rfl
     have HE4:Hid ((pmAdd c).foldl addT l=(([c.a,c.b].drop (j+1)).flatMap fun e=>if c.kind=0 then xRef e else []).foldl addT (addT l3 e.name)):=Hd (by
      rw[HE3.o,HDR.o,if_pos h0,cS];unfold xRef;rw[if_pos h3];rfl)
     have hw2:Below wo.heap.size wo ((wo.alloc (.cells (kX e E en) 32)).alloc (.cells #[.string e.name] 9)):=HWE.o.alloc HWE.o.size _;have hnm:Blk ((wo.alloc (.cells (kX e E en) 32)).alloc (.cells #[.string e.name] 9)) (wo.heap.size+1) #[.string e.name] 9:=by
      have:=aJ (wo.alloc (.cells (kX e E en) 32)) #[.string e.name] 9;rw[show (wo.alloc (.cells (kX e E en) 32)).heap.size=wo.heap.size+1 by simp] at this;exact this
     have HSET:=Hd (D7 B 1 A3 ac3 l3 e.name ⟨wo.heap.size+1,0,none⟩ _ (HST3.o.own.below hw2) (hnm.cell 0 rfl) (by have:=HL3.o;omega) HS3.o (by simp;have:=HST3.o.big;omega) (by omega));have cb:=HSTE.o.box.cell 0 (v:=.slice A3 l3.length ac3) rfl;have HW2:=Hd hw2;clear h0 h3 hw2 hnm;go_wp2_with fail;refine HSET.o.mono ?_;rintro e' w3 ⟨A4,c4,rfl,ho4,hn4,hl4⟩;have hst4:=HST3.o.set HW2.o ho4 hn4 hl4;have f4:w3.frozen? ⟨ob,0,none⟩=false:=((HST3.o.box.below HW2.o).only hn4 HST3.o.ne).frozen 0;have g4:w3.cell? ⟨ob,0,none⟩=some (.slice A3 l3.length ac3):=((HST3.o.box.below HW2.o).only hn4 HST3.o.ne).cell 0 rfl;have HST4:=Hd hst4.1;have HGO4:=Hd (HGO3.o.trans hst4.2);have HRB4:=Hd (HRB3.o.go hst4.2 (fun hf=>by
      rcases hf with hf | hf
      .exact HNR.o hf
      exact HST3.o.own.ne_blk HRB3.o (by decide) hf))
     have HSZ4:=Hd (aO HZ3.o hst4.2.only.size);clear ho4 hn4 hl4 hst4 cb k0 k1 k2 k3 k4 k5 d1';go_wp2_with fail;go_roundg g
     case measure=>omega
     case rel =>
      refine⟨j+1,A4,c4,addT l3 e.name,by omega,by go_num,HE4,HST4,HGO4,HRB4,Hd (by have:=BI l3 e.name;have:=HL3.o;omega),Hd (fun x hx=>?_),HSZ4⟩;rcases addT_mem hx with hx | rfl
      .exact HS3.o x hx
      exact hns
    have HE4:Hid ((pmAdd c).foldl addT l=(([c.a,c.b].drop (j+1)).flatMap fun e=>if c.kind=0 then xRef e else []).foldl addT l3):=Hd (by
     rw[HE3.o,HDR.o];by_cases h0:c.kind=0
     .have h3:¬e.kind=3:=fun h3=>h03 ⟨h0,h3⟩
      rw[if_pos h0];unfold xRef;rw[if_neg h3];rfl
     rw[if_neg h0];rfl)
    by_cases h0:c.kind=0
    .have e0:(c.kind==0)=true:=by rw[h0];rfl
     have e3:(e.kind==3)=false:=by
      have h3:¬e.kind=3:=fun h3=>h03 ⟨h0,h3⟩
      simpa using h3
     clear h0 h03;go_wp2_with fail;go_roundg g
     case measure=>omega
     case rel=>exact⟨j+1,A3,ac3,l3,by omega,by go_num,HE4,HSTE,HGOE,HRBE,Hd (by have:=HL3.o;omega),HS3,Hd (by simp;have:=HZ3.o;omega)⟩
    have e0:(c.kind==0)=false:=by simpa using h0
    clear h0 h03;go_wp2_with fail;go_roundg g
    case measure=>omega
    case rel=>exact⟨j+1,A3,ac3,l3,by omega,by go_num,HE4,HSTE,HGOE,HRBE,Hd (by have:=HL3.o;omega),HS3,Hd (by simp;have:=HZ3.o;omega)⟩
def UT (B ob k:Nat):Prop:=∀ (c:Cd) (cs:List Value) (a:Addr) (A:Option Addr) (ac:Nat) (l:List ByteArray) (w:World),c.deep k->Trs.at (Sf 0 (Fo ob A) w) w c.tr cs->i7 w a cs->¬Fo ob A a.block->rT B ob A ac l w ->
 l.length+(cPs k c).length<=900000->(∀ x∈l,x.size<=9007199254740992)->Calls Tryz.prog 197 #[.pointer (some a),PmCl ob] w (wY B ob A ((cPs k c).foldl addT l) w)
theorem pmAdd_sizes (h:Trs.at S w c.tr cs):∀ z∈pmAdd c,z.size<=9007199254740992:=by
 obtain⟨xs,ys,L,lc,_,_,_,hxa,hxb,_⟩:=Cd.at_iff.1 h;obtain⟨_,_,_,hsa⟩:=iF hxa;obtain⟨_,_,_,hsb⟩:=iF hxb;intro z hz;unfold pmAdd at hz;split at hz
 .rcases List.mem_append.1 hz with hz | hz<;>unfold xRef at hz<;>split at hz
  .rw[aR] at hz;subst hz;exact hsa
  .cases hz
  .rw[aR] at hz;subst hz;exact hsb
  cases hz
 cases hz
theorem FX (c:Cd):(pmAdd c).length<=2:=by
 have:∀ e,(xRef e).length<=1:=fun e=>by unfold xRef;split<;>simp
 unfold pmAdd;split
 .rw[aS];have h1:=this c.a;have h2:=this c.b;omega
 simp
theorem DK (k:Nat) (c:Cd):cPs (k+1) c=if c.kind=4 then [] else pmAdd c++c.l.flatMap (cPs k):=rfl
theorem nV {S:Nat->Prop} {w:World}:∀ (k:Nat) (c:Cd) (cs:List Value),Trs.at S w c.tr cs->∀ z∈cPs k c,z.size<=9007199254740992
 | 0,c,cs,_,z,hz=>by simp[cPs] at hz
 | k+1,c,cs,h,z,hz=>by
   obtain⟨_,_,L,lc,_,h1,_,_,_,h5⟩:=Cd.at_iff.1 h;rw[DK] at hz;split at hz
   .cases hz
   rcases List.mem_append.1 hz with hz | hz
   .exact pmAdd_sizes h z hz
   obtain⟨p,hp,hz⟩:=List.mem_flatMap.1 hz;obtain⟨i,hi⟩:=List.mem_iff_getElem?.1 hp;obtain⟨_,ps,_,hpt,_⟩:=h5.elem cY hi;exact nV k p ps hpt z hz
theorem M6 (B ob k:Nat) (IH:UT B ob k) (c:Cd) (cs:List Value) (a:Addr) (A:Option Addr) (ac:Nat) (l:List ByteArray) (w:World) (hd:c.deep (k+1)) (htr:Trs.at (Sf 0 (Fo ob A) w) w c.tr cs) (hcel:i7 w a cs) (hna:¬Fo ob A a.block) (h:rT B ob A ac l w)
 (hlen:l.length+(cPs (k+1) c).length<=900000) (hs:∀ x∈l,x.size<=9007199254740992) :
 Calls Tryz.prog 197 #[.pointer (some a),PmCl ob] w (wY B ob A ((cPs (k+1) c).foldl addT l) w):=by
 obtain⟨L,lc,c0,c1,c14,hls,hnm⟩:=nE htr hcel;have hpl:=FX c;have H:=Hd h;have HS:=Hd hs;have HNA:=Hd hna;have HCEL:=Hd hcel;have HTR:=Hd htr;have HD:=Hd hd;have hcap:=hls.cap;have hbyt:=hls.bytes;have HLS:=Hd hls;unfold PmCl;clear h hs hna htr hd hls hcel;by_cases h4:c.kind=4
 .have e0:(c.kind==0)=false:=by rw[h4];rfl
  have e4:(c.kind==4)=true:=by rw[h4];rfl
  have HE:Hid ((cPs (k+1) c).foldl addT l=l):=Hd (by rw[DK,if_pos h4];rfl);have hpa:pmAdd c=[]:=by unfold pmAdd;rw[if_neg (by rw[h4];decide)]
  have HN1:=Hd (ED B ob c cs a A ac l w H.out HTR.o HCEL.o HNA.o (by omega) HS.o);rw[hpa] at HN1;clear h4 hpa;go_enter Tryz.func197,Tryz.ntmps197;go_wp2_with fail;refine HN1.o.mono ?_;rintro e w2 ⟨rfl,A2,ac2,hst,hgo⟩;have d1:=(cell_only hgo.only (aF w _ c1) HNA.o).trans c1;have HST:=Hd hst;have HGO:=Hd hgo;clear hst hgo;go_wp2_with fail;go_end0;rw[HE.o];exact⟨rfl,A2,ac2,HST.o,HGO.o⟩
 have e4:(c.kind==4)=false:=by simpa using h4
 have hE:=DK k c;rw[if_neg h4] at hE;have HE:Hid ((cPs (k+1) c).foldl addT l=(c.l.flatMap (cPs k)).foldl addT ((pmAdd c).foldl addT l)):=Hd (by rw[hE,cS]);rw[hE,aS] at hlen;have hfl:=foldT_len (pmAdd c) l;have HLEN:Hid (((pmAdd c).foldl addT l).length+(c.l.flatMap (cPs k)).length<=900000):=Hd (by omega);have HSP:Hid (∀ x∈(pmAdd c).foldl addT l,x.size<=9007199254740992):=Hd (fun x hx=>by
  rcases foldT_mem hx with hx | hx
  .exact HS.o x hx
  exact pmAdd_sizes HTR.o x hx)
 have HN1:=Hd (ED B ob c cs a A ac l w H.out HTR.o HCEL.o HNA.o (by omega) HS.o);clear h4 hE hlen hfl hpl;by_cases h0:c.kind=0
 .have e0:(c.kind==0)=true:=by rw[h0];rfl
  obtain⟨l2,hl2⟩:∃ l2,l2=(pmAdd c).foldl addT l:=⟨_,rfl⟩;rw[<-hl2] at HE HLEN HSP HN1;have HE2:=HE;have HLEN2:=HLEN;have HS2:=HSP;clear h0 hl2 HE HLEN HSP;go_enter Tryz.func197,Tryz.ntmps197;go_wp2_with fail;refine HN1.o.mono ?_;rintro e w2 ⟨rfl,A2,ac2,hst,hgo⟩;have d1:=(cell_only hgo.only (aF w _ c1) HNA.o).trans c1;have d14:=(cell_only hgo.only (aF w _ c14) HNA.o).trans c14;have HST:=Hd hst;have HGO:=Hd hgo;clear hst hgo;go_wp2_with fail;clear d1 d14 e0;go_loopg [30] c.l.length (fun g i wr=>∃ (j:Nat) (A3:Option Addr) (ac3:Nat) (l3:List ByteArray),j+g=c.l.length/\i=.int .i64 (j:Nat)/\Hid ((c.l.flatMap (cPs k)).foldl addT l2=((c.l.drop j).flatMap (cPs k)).foldl addT l3)/\Hid (rT B ob A3 ac3 l3 wr)/\Hid (lP (Fo ob A) (Fo ob A3) w wr) /\
   Hid (l3.length+((c.l.drop j).flatMap (cPs k)).length<=900000)/\Hid (∀ x∈l3,x.size<=9007199254740992))
  case atStart=>exact⟨0,A2,ac2,l2,by omega,rfl,Hd (by simp),HST,HGO,Hd (by rw[eI];exact HLEN2.o),HS2⟩
  case round =>
   obtain⟨j,A3,ac3,l3,hj,rfl,HE3,HST3,HGO3,HL3,HS3⟩:=hrel;rename World=>wo
   clear HST HGO;cases gk with
   | zero =>
     have hjj:¬((j:Int)<(c.l.length:Int)):=by omega
     have HEE:Hid ((cPs (k+1) c).foldl addT l=l3):=Hd (by rw[HE2.o,HE3.o,aP (by omega)];rfl);go_wp2_with fail;go_end0;rw[HEE.o];exact⟨rfl,A3,ac3,HST3.o,HGO3.o⟩
   | succ g =>
     have hjj:(j:Int)<(c.l.length:Int):=by omega
     obtain⟨p,hp⟩:=fO (l:=c.l) (i:=j) (by omega);have hdp:=HD.o p (aD hp);obtain⟨ad,pcs,rfl,hpt,hpc⟩:=(HLS.o.go HGO3.o).elem cY hp;have hblk:=(HLS.o.go HGO3.o).blk ad rfl (by omega);have hdrop:(c.l.drop j).flatMap (cPs k)=cPs k p++(c.l.drop (j+1)).flatMap (cPs k):=by rw[fS hp];rfl
     have hl3:=HL3.o;rw[hdrop,aS] at hl3;have hih:=IH p pcs (ad.add (j*15)) A3 ac3 l3 wo hdp hpt hpc (by rw[block_of_add];exact hblk.1) HST3.o (by omega) HS3.o;have HIH:=Hd hih;have HDR:=Hd hdrop;have HSZ:=Hd (nV k p pcs hpt);have c14':=(cell_only HGO3.o.only (aF w _ c14) HNA.o).trans c14;have hfl:=foldT_len (cPs k p) l3;unfold PmCl at HIH;clear hp hdp hpt hpc hblk hdrop hih;go_wp2_with fail;refine HIH.o.mono ?_;rintro e w4 ⟨rfl,A4,ac4,hst4,hgo4⟩;have HST4:=Hd hst4;have HGO4:=Hd (HGO3.o.trans hgo4);clear hst4 hgo4 c14';go_wp2_with fail;go_roundg g
     case measure=>omega
     case rel =>
      refine⟨j+1,A4,ac4,(cPs k p).foldl addT l3,by omega,by go_num,Hd (by rw[HE3.o,HDR.o,cS]),HST4,HGO4,Hd (by omega),Hd (fun x hx=>?_)⟩;rcases foldT_mem hx with hx | hx
      .exact HS3.o x hx
      exact HSZ.o x hx
 have e0:(c.kind==0)=false:=by simpa using h0
 have hpa:pmAdd c=[]:=by unfold pmAdd;rw[if_neg h0]
 rw[hpa] at HE HLEN HSP;obtain⟨A2,hA2⟩:∃ A2,A2=A:=⟨_,rfl⟩;obtain⟨ac2,hac2⟩:∃ ac2,ac2=ac:=⟨_,rfl⟩;obtain⟨l2,hl2⟩:∃ l2,l2=l:=⟨_,rfl⟩;have HST:Hid (rT B ob A2 ac2 l2 w):=Hd (by rw[hA2,hac2,hl2];exact H.out);have HGO:Hid (lP (Fo ob A) (Fo ob A2) w w):=Hd (by rw[hA2];exact lP.refl _ _);have HE2:Hid ((cPs (k+1) c).foldl addT l=(c.l.flatMap (cPs k)).foldl addT l2):=Hd (by rw[HE.o,hl2];rfl);have HLEN2:Hid (l2.length+(c.l.flatMap (cPs k)).length<=900000):=Hd (by rw[hl2];exact HLEN.o);have HS2:Hid (∀ x∈l2,x.size<=9007199254740992):=Hd (by rw[hl2];exact HSP.o);clear h0 hA2 hac2 hl2 hpa HE HLEN HSP HN1;go_enter Tryz.func197,Tryz.ntmps197;go_wp2_with fail;clear e0;go_loopg [30] c.l.length (fun g i wr=>∃ (j:Nat) (A3:Option Addr) (ac3:Nat) (l3:List ByteArray),j+g=c.l.length/\i=.int .i64 (j:Nat)/\Hid ((c.l.flatMap (cPs k)).foldl addT l2=((c.l.drop j).flatMap (cPs k)).foldl addT l3)/\Hid (rT B ob A3 ac3 l3 wr)/\Hid (lP (Fo ob A) (Fo ob A3) w wr) /\
  Hid (l3.length+((c.l.drop j).flatMap (cPs k)).length<=900000)/\Hid (∀ x∈l3,x.size<=9007199254740992))
 case atStart=>exact⟨0,A2,ac2,l2,by omega,rfl,Hd (by simp),HST,HGO,Hd (by rw[eI];exact HLEN2.o),HS2⟩
 case round =>
  obtain⟨j,A3,ac3,l3,hj,rfl,HE3,HST3,HGO3,HL3,HS3⟩:=hrel;rename World=>wo
  clear HST HGO;cases gk with
  | zero =>
    have hjj:¬((j:Int)<(c.l.length:Int)):=by omega
    have HEE:Hid ((cPs (k+1) c).foldl addT l=l3):=Hd (by rw[HE2.o,HE3.o,aP (by omega)];rfl);go_wp2_with fail;go_end0;rw[HEE.o];exact⟨rfl,A3,ac3,HST3.o,HGO3.o⟩
  | succ g =>
    have hjj:(j:Int)<(c.l.length:Int):=by omega
    obtain⟨p,hp⟩:=fO (l:=c.l) (i:=j) (by omega);have hdp:=HD.o p (aD hp);obtain⟨ad,pcs,rfl,hpt,hpc⟩:=(HLS.o.go HGO3.o).elem cY hp;have hblk:=(HLS.o.go HGO3.o).blk ad rfl (by omega);have hdrop:(c.l.drop j).flatMap (cPs k)=cPs k p++(c.l.drop (j+1)).flatMap (cPs k):=by rw[fS hp];rfl
    have hl3:=HL3.o;rw[hdrop,aS] at hl3;have hih:=IH p pcs (ad.add (j*15)) A3 ac3 l3 wo hdp hpt hpc (by rw[block_of_add];exact hblk.1) HST3.o (by omega) HS3.o;have HIH:=Hd hih;have HDR:=Hd hdrop;have HSZ:=Hd (nV k p pcs hpt);have c14':=(cell_only HGO3.o.only (aF w _ c14) HNA.o).trans c14;have hfl:=foldT_len (cPs k p) l3;unfold PmCl at HIH;clear hp hdp hpt hpc hblk hdrop hih;go_wp2_with fail;refine HIH.o.mono ?_;rintro e w4 ⟨rfl,A4,ac4,hst4,hgo4⟩;have HST4:=Hd hst4;have HGO4:=Hd (HGO3.o.trans hgo4);clear hst4 hgo4 c14';go_wp2_with fail;go_roundg g
    case measure=>omega
    case rel =>
     refine⟨j+1,A4,ac4,(cPs k p).foldl addT l3,by omega,by go_num,Hd (by rw[HE3.o,HDR.o,cS]),HST4,HGO4,Hd (by omega),Hd (fun x hx=>?_)⟩;rcases foldT_mem hx with hx | hx
     .exact HS3.o x hx
     exact HSZ.o x hx
theorem walkP_any (B ob:Nat):∀ k,UT B ob k:=by
 intro k;induction k with
 | zero=>intro c cs a A ac l w hd;exact absurd hd (by simp[Cd.deep])
 | succ k ih=>exact fun c cs a A ac l w hd htr hcel hna h hlen hs=>M6 B ob k ih c cs a A ac l w hd htr hcel hna h hlen hs
theorem CI (S:Nat->Prop) (c:Cd) (cs:List Value) (a:Addr) (w:World) (hd:c.deep 20) (htr:Trs.at S w c.tr cs) (hcel:i7 w a cs) (hlen:(cPs 20 c).length<=900000) :
 Calls Tryz.prog 165 #[.pointer (some a)] w (kY (uZ c) w):=by
 have hb:Below w.heap.size w (w.alloc (.cells #[.slice none 0 0] 42)):=(aB _ w).alloc (aA _) _;have hbx:=aJ w #[.slice none 0 0] 42;have hst:rT w.heap.size w.heap.size none 0 [] (w.alloc (.cells #[.slice none 0 0] 42)):=⟨hbx,dF _ _ _ _,aA _⟩
 have hal:a.block<w.heap.size:=by
  obtain⟨_,_,c0,_⟩:=nE htr hcel;exact aF w _ c0
 have hS:∀ k,S k/\k<w.heap.size->Sf 0 (Fo w.heap.size none) (w.alloc (.cells #[.slice none 0 0] 42)) k:=fun k hk=>by
  refine⟨fun hf=>?_,by simp;omega,by omega⟩;rcases hf with hf | hf
  .omega
  simp[blk] at hf
 have HW:=Hd (walkP_any w.heap.size w.heap.size 20 c cs a none 0 [] _ hd ((htr.bound.below hb).mono hS) (hcel.below hb) (fun hf=>by
  rcases hf with hf | hf
  .omega
  simp[blk] at hf) hst (by simpa using hlen) (by simp))
 have HB:=Hd hb;have HS:=Hd (nV 20 c cs htr);unfold PmCl at HW;clear hd htr hlen hb hbx hst hcel hS hal;go_enter Tryz.func165,Tryz.ntmps165;go_wp2_with fail;refine HW.o.mono ?_;rintro e w3 ⟨rfl,A,ac,hst,hgo⟩;have hb3:Below w.heap.size w w3:=HB.o.trans (hgo.only.below HB.o.size (fun k hk=>by
  rcases hk with hk | hk
  .omega
  simp[blk] at hk))
 have c0:=hst.box.cell 0 (v:=.slice A ((cPs 20 c).foldl addT []).length ac) rfl;have f0:=hst.box.frozen 0;have HST:=Hd hst;have HB3:=Hd hb3;have c1:=((hst.box.set 0 (.slice A ((cPs 20 c).foldl addT []).length ac)).eq (cs':=#[.slice A ((cPs 20 c).foldl addT []).length ac]) (by simp)).cell 0 (v:=.slice A ((cPs 20 c).foldl addT []).length ac) rfl;clear hst hgo hb3;go_wp2_with fail;refine bodyPost_ret (v:=.slice A ((cPs 20 c).foldl addT []).length ac) (by simp[results,Tryz.results165,go_sem,c1]) rfl ?_;refine⟨A,ac,rfl,(HST.o.own.setOther _ _ HST.o.ne),HB3.o.setCell (by simp) _,fun x hx=>?_⟩;rcases foldT_mem hx with hx | hx
 .cases hx
 exact HS.o x hx
theorem zero_intS (w:World):(zeroValue 3).run Tryz.prog w=.ok (.int .i64 0) w:=by kernel_rfl
def MP (w:World) (b n:Nat) (f:ByteArray->Option Nat):Prop :=
 ∃ D:DataW Unit,w.ownsMap Tryz.prog 9 (plainElem Tryz.prog 3) b n D/\Go.Maps.IsMap D/\∀ s:ByteArray,D.atKey (.string s.data.toList) (.lit (.int .i64 0))=.lit (.int .i64 ((f s).getD 0:Nat))/\Go.Maps.has D (.string s.data.toList)=(f s).isSome
section
variable {w w':World} {b n:Nat} {f:ByteArray->Option Nat}
theorem MP.new (w:World):MP (w.alloc (.map #[] 0)) w.heap.size 0 (fun _=>none):=⟨.map [],World.ownsMap_made _ _ _ _,⟨[],rfl⟩,fun k=>⟨rfl,rfl⟩⟩
theorem MP.only {F:Nat->Prop} (h:MP w b n f) (ho:fP F w w') (hF:¬F b):MP w' b n f:=by
 obtain⟨D,h1,h2,h3⟩:=h;exact⟨D,gS h1 (ho.block b h1.lt hF),h2,h3⟩
theorem MP.lt (h:MP w b n f):b<w.heap.size:=by obtain⟨D,h1,_⟩:=h;exact h1.lt
theorem MP.below (h:MP w b n f) (hb:Below w.heap.size w w'):MP w' b n f:=h.only (aK hb (fun _=>False)) (fun h=>h)
theorem MP.eq {g:ByteArray->Option Nat} (h:MP w b n f) (e:∀ s,f s=g s):MP w b n g:=by
 have:f=g:=funext e;exact this ▸ h
theorem MP.look (h:MP w b n f) (hd:d.size<=maxLen):(Instr.lookup 193 (.map (some b)) (.string d) false).run Tryz.prog w=.ok (.int .i64 ((f d).getD 0:Nat)) w:=by
 obtain⟨D,g1,g2,g3⟩:=h;obtain⟨c,hrun,hc,_⟩:=g1.lookup_int iQ Tryz.underlying193 Tryz.underlying3 (zero_intS w) (iP hd);rw[(g3 d).1] at hc;have hc2:=(Lit.int.inj (DataW.lit.inj hc)).2;rw[hc2];exact hrun
theorem MP.lookok (h:MP w b n f) (hd:d.size<=maxLen):(Instr.lookup 193 (.map (some b)) (.string d) true).run Tryz.prog w=.ok (.tuple #[.int .i64 ((f d).getD 0:Nat),.bool (f d).isSome]) w:=by
 obtain⟨D,g1,g2,g3⟩:=h;obtain⟨v,ps,hrun,hv⟩:=g1.look_ok iQ Tryz.underlying193 (zero_intS w) (plainElem_int Tryz.underlying3 (WalkArith.wf_i64 ⟨by omega,by omega⟩)) (iP hd);rw[(g3 d).1] at hv;obtain⟨z,rfl,hz,_⟩:=plainElem_int_inv Tryz.underlying3 hv;have hz1:=congrArg Prod.fst hz;have hz2:=(Lit.int.inj (DataW.lit.inj hz1)).2;rw[(g3 d).2] at hrun;rw[hz2];exact hrun
end
section
variable {w:World} {ops:Array Oper} {rest:List Oper} {o:Oper} {a:Act} {Q:Exit->Act->World->Prop}
theorem put_MP (hg:o.guard=none) (m x v:Operand) (hop:o.op=Op.mapUpdate 193 m x v) (b n:Nat) (f:ByteArray->Option Nat) (hm:a.eval m=.map (some b)) (h:MP w b n f) (hn:n<maxLen)
 (d:ByteArray) (hd:d.size<=maxLen) (hx:a.eval x=.string d) (y:Nat) (hy:y<=9223372036854775807) (hv:a.eval v=.int .i64 (y:Int))
 (hK:∀ w',MP w' b (n+1) (fun s=>if s=d then some y else f s)->w.grownBy w' (some b)->wpList Tryz.prog ops Q rest (a.put o.dst undef) w'):wpList Tryz.prog ops Q (o::rest) a w:=by
 obtain⟨D,g1,g2,g3⟩:=h;refine wpList_mapUpdate_own w hg m x v 193 hop 9 3 iQ Tryz.underlying193 _ b n D hm g1 hn _ _ (.string d.data.toList) hx hv (iP hd) (.lit (.int .i64 (y:Int))) [] (plainElem_int Tryz.underlying3 (WalkArith.wf_i64 ⟨by omega,by omega⟩)) (fun w' h1 h2=>hK w' ⟨_,h1,g2.put _ _,fun s=>?_⟩ h2);by_cases hj:s=d
 .subst hj;exact⟨by rw[Go.Maps.atKey_put_same g2 (i5 _)];simp,by rw[Go.Maps.has_put_same g2 (i5 _)];simp⟩
 have hne:(Lit.string s.data.toList)≠(Lit.string d.data.toList):=fun e=>qF hj (by injection e)
 exact⟨by rw[Go.Maps.atKey_put_other hne,(g3 s).1];simp[hj],by rw[Go.Maps.has_put_other hne,(g3 s).2];simp[hj]⟩
end
theorem FZ {j:Nat} (h:l[j]?=some c) (s:ByteArray):plAt (l.take (j+1)) s=(plAt (l.take j) s).or (if fW c.name s then some j else none):=by
 have hj:=(List.getElem?_eq_some_iff.1 h).1;unfold plAt;rw[aT,h,cO];congr 1;simp only[cA,dW,cH];split<;>simp<;>omega
theorem F0 (h:plAt l s=none):∀ c∈l,c.name≠s:=by
 intro c hc e;unfold plAt at h;rw[dC] at h;have:=h c hc;rw[bEq_iff.2 e] at this;cases this
theorem MP.le {b n m:Nat} {f:ByteArray->Option Nat} (h:MP w b n f) (hm:n<=m):MP w b m f:=by
 obtain⟨D,h1,h2⟩:=h;obtain⟨es,clock,g1,g2,g3,g4⟩:=h1;exact⟨D,⟨es,clock,g1,g2,bB g3 hm,g4⟩,h2⟩
theorem oR (S:Nat->Prop) (A:Option Addr) (ac:Nat) (l:List Cd) (w:World) (hls:Ls S w 15 224 Cd.tr A ac l) :
 Calls Tryz.prog 119 #[.slice A l.length ac] w fun e w'=>e=.returned (.map (some w.heap.size))/\MP w' w.heap.size l.length (plAt l)/\Below w.heap.size w w':=by
 have hmm:=@run_makeMap Tryz.prog;have hcap:=hls.cap;have hbyt:=hls.bytes;have HLS:=Hd hls;have HM0:=Hd (MP.new w);have HW0:Hid (Below w.heap.size w (w.alloc (.map #[] 0))):=Hd ((aB _ w).alloc (aA _) _);clear hls;go_enter Tryz.func119,Tryz.ntmps119;go_wp2_with fail;go_loopg [11] l.length (fun g i wr=>∃ j:Nat,j+g=l.length/\i=.int .i64 (j:Nat)/\Hid (MP wr w.heap.size j (plAt (l.take j)))/\Hid (Below w.heap.size w wr))
 case atStart=>exact⟨0,by omega,rfl,Hd (HM0.o.eq (fun s=>by simp[plAt])),HW0⟩
 case round =>
  obtain⟨j,hj,rfl,HM,HW⟩:=hrel;rename World=>wo
  clear HM0 HW0;cases gk with
  | zero =>
    have hjj:¬((j:Int)<(l.length:Int)):=by omega
    have HMM:Hid (MP wo w.heap.size l.length (plAt l)):=Hd (by
     have:=HM.o;rw[aN (by omega),show j=l.length by omega] at this;exact this)
    go_wp2;go_ret;exact⟨rfl,HMM.o,HW.o⟩
  | succ g =>
    have hjj:(j:Int)<(l.length:Int):=by omega
    obtain⟨c,hc⟩:=fO (l:=l) (i:=j) (by omega);obtain⟨ad,cs,rfl,hct,hcc⟩:=(HLS.o.below HW.o).elem cY hc;obtain⟨xs,ys,L,lc,rfl,hns,_,hxa,hxb,_⟩:=Cd.at_iff.1 hct;obtain⟨A1,n1,rfl,_⟩:=iF hxa;obtain⟨B1,n2,rfl,_⟩:=iF hxb;obtain⟨c0,c1,c2,c3,c4,c5,c6,c7,c8,c9,c10,c11,c12,c13,c14⟩:=gP hcc;have HCC:Hid (MP (wo.alloc (.cells (kD c A1 n1 B1 n2 L lc) 148)) w.heap.size j (plAt (l.take j))):=Hd (HM.o.below ((aB _ wo).alloc (aA _) _));have HWC:Hid (Below w.heap.size w (wo.alloc (.cells (kD c A1 n1 B1 n2 L lc) 148))):=Hd (HW.o.alloc HW.o.size _);have hlk:=HCC.o.lookok (d:=c.name) (by unfold maxLen;omega);have HPT:=Hd (FZ hc);have hlo:=HW.o.size;clear hc hct hcc hxa hxb;cases hp:plAt (l.take j) c.name with
    | some i0 =>
      rw[hp] at hlk;have HM2:Hid (MP (wo.alloc (.cells (kD c A1 n1 B1 n2 L lc) 148)) w.heap.size (j+1) (plAt (l.take (j+1)))):=Hd ((HCC.o.eq (fun s=>by
       rw[HPT.o s];by_cases hb:fW c.name s=true
       .rw[<-bEq_iff.1 hb,hp];rfl
       rw[if_neg hb];cases plAt (l.take j) s<;>rfl)).le (by omega))
      clear hp;go_wp2_with fail;go_roundg g
      case measure=>omega
      case rel=>exact⟨j+1,by omega,by go_num,HM2,HWC⟩
    | none =>
      rw[hp] at hlk;have HF2:Hid (∀ s,(if s=c.name then some j else plAt (l.take j) s)=plAt (l.take (j+1)) s):=Hd (fun s=>by
       rw[HPT.o s];by_cases hb:s=c.name
       .rw[if_pos hb,hb,hp,bEq_iff.2 rfl];rfl
       rw[if_neg hb,if_neg (by rw[bEq_iff];exact fun e=>hb e.symm)];cases plAt (l.take j) s<;>rfl)
      clear hp;go_wp2_with (at_mapUpdate;refine put_MP rfl _ _ _ rfl w.heap.size j (plAt (l.take j)) rfl HCC.o (by unfold maxLen;omega) c.name (by unfold maxLen;omega) rfl j (by omega) rfl ?_;intro w6 hm6 hg6;have HM6:=Hd hm6;have HG6:=Hd hg6;clear hm6 hg6);go_roundg g
      case measure=>omega
      case rel=>exact⟨j+1,by omega,by go_num,Hd (HM6.o.eq HF2.o),Hd (HWC.o.grown HG6.o (by simp;omega) (fun k hk=>by injection hk with hk;omega))⟩
def CsOk (l:List Cd):Prop:=∀ c∈l,c.deep 20/\(cNm 20 c).length<=100000/\(cPs 20 c).length<=100000
def PH (O:List Nat) (w:World) (e:Ending) (w':World):Prop:=∃ A c,e=.returned (.slice A O.length c)/\Ow w' w.heap.size 3 1 A O.length c (cN O)/\Below w.heap.size w w'
theorem zU (S:Nat->Prop) (A:Option Addr) (ac:Nat) (l:List Cd) (mb mn i:Nat) (w:World) (hls:Ls S w 15 224 Cd.tr A ac l) (hm:MP w mb mn (plAt l)) (hi:i<l.length) (hok:CsOk l) :
 Calls Tryz.prog 203 #[.slice A l.length ac,.map (some mb),.int .i64 (i:Int)] w (PH (nextOf l i) w):=by
 have hcap:=hls.cap;have hbyt:=hls.bytes;have hii:(i:Int)<(l.length:Int):=by omega
 obtain⟨c,hc⟩:=fO (l:=l) (i:=i) hi;obtain⟨hd,hln,_⟩:=hok c (aD hc);obtain⟨ad,cs,rfl,hct,hcc⟩:=hls.elem cY hc;have hnm:=wA S c cs.toArray w hd (by simpa using hct) (by omega);have hfl:=foldT_len (cNm 20 c) [];obtain⟨xs,ys,L,lc,rfl,hns,_,hxa,hxb,_⟩:=Cd.at_iff.1 hct;obtain⟨A1,n1,rfl,_⟩:=iF hxa;obtain⟨B1,n2,rfl,_⟩:=iF hxb;obtain⟨c0,c1,c2,c3,c4,c5,c6,c7,c8,c9,c10,c11,c12,c13,c14⟩:=gP hcc;have HNM:Hid (Calls Tryz.prog 168 #[.agg (kD c A1 n1 B1 n2 L lc)] w (kY (names c) w)):=Hd hnm;have HM:=Hd hm;have hnl:(names c).length<=100000:=by
  have:(names c).length<=0+(cNm 20 c).length:=hfl;omega
 by_cases h4:c.kind=4
 .have e4:(c.kind==4)=true:=by rw[h4];rfl
  have HE:Hid (nextOf l i=[]):=Hd (by unfold nextOf;rw[hc];simp only;rw[if_pos h4]);clear hls hm hok hc hct hcc hxa hxb hnm h4 hfl;go_enter Tryz.func203,Tryz.ntmps203;go_wp2;go_ret;rw[HE.o];exact⟨none,0,rfl,dF _ _ _ _,aB _ _⟩
 have e4:(c.kind==4)=false:=by simpa using h4
 have HE:Hid (nextOf l i=(names c).filterMap (plAt l)):=Hd (by unfold nextOf;rw[hc];simp only;rw[if_neg h4]);clear hls hm hok hc hct hcc hxa hxb hnm h4 hfl;go_enter Tryz.func203,Tryz.ntmps203;go_wp2_with fail;refine HNM.o.mono ?_;rintro e w2 ⟨NA,nc,rfl,hno,hnb,hnsz⟩;have hncap:=hno.cap;have HNO:=Hd hno;have HNB:=Hd hnb;have HNS:=Hd hnsz;have HM2:=Hd (HM.o.below hnb);have hns2:=hnb.size;obtain⟨N,hN⟩:∃ N,N=names c:=⟨_,rfl⟩;rw[<-hN] at HNO HNS HE hnl hncap;rw[<-hN];clear hno hnb hnsz hN HM HNM c0 c1 c2 c3 c4 c5 c6 c7 c8 c9 c10 c11 c12 c13 c14;go_wp2_with fail;go_loopg [23,6] N.length (fun g i v wr=>∃ (j:Nat) (Ao:Option Addr) (co:Nat) (O:List Nat),j+g=N.length/\i=.int .i64 (j:Nat)/\v=.slice Ao O.length co/\O.length<=j/\Hid (N.filterMap (plAt l)=O++(N.drop j).filterMap (plAt l))/\Hid (Ow wr w2.heap.size 3 1 Ao O.length co (cN O))/\Hid (Below w2.heap.size w2 wr))
 case atStart=>exact⟨0,none,0,[],by omega,rfl,rfl,by simp,Hd (by simp),Hd (dF _ _ _ _),Hd (aB _ _)⟩
 case round =>
  obtain⟨j,Ao,co,O,hj,rfl,rfl,hOj,HO,HOW,HW⟩:=hrel;rename World=>wo
  cases gk with
  | zero =>
    have hjj:¬((j:Int)<(N.length:Int)):=by omega
    have HEE:Hid (nextOf l i=O):=Hd (by rw[HE.o,HO.o,aP (by omega)];simp);go_wp2;go_ret;rw[HEE.o];exact⟨Ao,co,rfl,HOW.o.le hns2,HNB.o.trans (HW.o.mono hns2)⟩
  | succ g =>
    have hjj:(j:Int)<(N.length:Int):=by omega
    obtain⟨s,hs⟩:=fO (l:=N) (i:=j) (by omega);obtain⟨na,rfl,hsc⟩:=(HNO.o.below HW.o).rd.at_ j (.string s) (by simp[hs]);have hss:=HNS.o s (aD hs);have hlk:=(HM2.o.below HW.o).lookok (d:=s) (by unfold maxLen;omega);have hdr:(N.drop j).filterMap (plAt l)=(plAt l s).toList++(N.drop (j+1)).filterMap (plAt l):=by
     rw[fS hs,List.filterMap_cons];cases plAt l s<;>rfl
    have HDR:=Hd hdr;clear hs hdr;cases hp:plAt l s with
    | none =>
      rw[hp] at hlk HDR;clear hp;go_wp2_with fail;go_roundg g
      case measure=>omega
      case rel=>exact⟨j+1,Ao,co,O,by omega,by go_num,rfl,by omega,Hd (by rw[HO.o,HDR.o];rfl),HOW,HW⟩
    | some i0 =>
      have hi0:=plAt_lt hp;rw[hp] at hlk HDR;have HRN:=Hd (cQ wo 1 1 #[.int .i64 (i0:Int)] 3 (0,0) rfl (by simp[maxLen]));have hw2:=HW.o.size;clear hp;go_wp2_with (at_builtin;refine wpList_row info_int Tryz.underlying116 rfl (by omega) rfl (.tmp 34) (.tmp 36) rfl w2.heap.size Ao co O.length (cN O) rfl (HOW.o.alloc _) (some ⟨wo.heap.size,0,none⟩) 1 1 [.int .i64 (i0:Int)] rfl HRN.o (by simp[Value.oneCell']) (by omega) (by omega) (by simp;omega) ?_;intro A' c' w6 ho hg hat;have HO6:=Hd ho;have HG6:=Hd hg;clear ho hg hat);go_roundg g
      case measure=>omega
      case rel=>exact⟨j+1,A',c',O++[i0],by omega,by go_num,by simp,by simp;omega,Hd (by rw[HO.o,HDR.o];simp),Hd (by have:=HO6.o;simpa [cN] using this),Hd ((HW.o.alloc HW.o.size _).grown HG6.o (by simp;omega) (fun k hk=>(HOW.o.lt hk).1))⟩
