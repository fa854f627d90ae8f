/- Part of the proof. -/
import Derived.Test.YtjmklmngikpeaaaGreatDoorCn21
import Derived.Test.YtjmklmngikpeaaaGreatDoorEq5
set_option linter.unusedVariables false
set_option linter.unusedSimpArgs false
namespace Go.Proofs.YtjmklmngikpeaaaGreatDoor
variable {d s:ByteArray}{c:Cd}{L:List (List Nat)}{a ns:List ByteArray}{l:List Cd}{ps:List Gv}{O T n:List Nat}{i k r t tg x:Nat}{α:Type}
def lean' (L:List (List Nat)) (i:Nat):List Nat:=L.getD i []
def TQ (L:List (List Nat)):Prop:=∀ i x,x∈lean' L i->x<L.length
def yY (L:List (List Nat)) (T:List Nat) (i:Nat):Bool:=!T.contains i&&(lean' L i).all fun x=>T.contains x
theorem yX:yY L T i=true↔i∉T/\∀ x∈lean' L i,x∈T:=by simp[yY]
def tS (L:List (List Nat)) (T:List Nat):Option Nat:=(List.range L.length).find? (yY L T)
def tP (L:List (List Nat)):Nat->List Nat->Option (List Nat)
 | 0,T=>some T
 | f+1,T=>match tS L T with
   | none=>none
   | some i=>tP L f (T++[i])
def JU (L:List (List Nat)):Option (List Nat):=tP L L.length []
structure gB (L:List (List Nat)) (T:List Nat):Prop where
 nd:T.Nodup
 lt:∀ x∈T,x<L.length
 pre:∀ (A:List Nat) (i:Nat) (B:List Nat),T=A++i::B->∀ x∈lean' L i,x∈A
theorem gB.nil (L:List (List Nat)):gB L []:=⟨List.nodup_nil,by simp,fun A i B h=>by cases A<;>cases h⟩
theorem gB.snoc (h:gB L T) (hi:i<L.length) (hr:yY L T i=true):gB L (T++[i]):=by
 obtain⟨h1,h2⟩:=yX.1 hr;refine⟨?_,?_,?_⟩
 .rw[List.nodup_append];exact⟨h.nd,by simp,fun a ha b hb=>by rw[aR] at hb;subst hb;rintro rfl;exact h1 ha⟩
 .intro x hx;rcases List.mem_append.1 hx with hx | hx
  .exact h.lt x hx
  rw[aR] at hx;subst hx;exact hi
 intro A j B e x hx;rcases List.eq_nil_or_concat B with rfl | ⟨B',b,rfl⟩
 .have:=List.append_inj' e rfl;obtain⟨rfl,h3⟩:=this;injection h3 with h3;subst h3;exact h2 x hx
 have e':T++[i]=(A++j::B')++[b]:=by rw[e];simp
 obtain⟨e1,_⟩:=List.append_inj' e' rfl;exact h.pre A j B' e1 x hx
theorem tR (h:tS L T=some i):i<L.length/\yY L T i=true/\∀ j,j<i->yY L T j=false:=by
 unfold tS at h;have h1:=eA h;have h2:=bK h;rw[List.mem_range] at h2;refine⟨h2,h1,fun j hj=>?_⟩;rw[List.find?_range_eq_some] at h;simpa using h.2.2 j hj
theorem CN (h:tS L T=none):∀ j,j<L.length->yY L T j=false:=by
 unfold tS at h;rw[eU] at h;intro j hj;have:=h j (List.mem_range.2 hj);simpa using this
theorem tO:∀ (f:Nat) (L:List (List Nat)) (T O:List Nat),gB L T->tP L f T=some O->gB L O/\O.length=T.length+f
 | 0,L,T,O,h,e=>by simp only[tP,Option.some.injEq] at e;subst e;exact⟨h,rfl⟩
 | f+1,L,T,O,h,e=>by
   unfold tP at e;split at e
   .cases e
   rename_i i hi;obtain⟨h1,h2,_⟩:=tR hi;obtain⟨h3,h4⟩:=tO f L (T++[i]) O (h.snoc h1 h2) e;exact⟨h3,by rw[h4,aS,dE];omega⟩
theorem zK (h:JU L=some O):gB L O/\O.length=L.length:=by
 obtain⟨h1,h2⟩:=tO _ _ _ _ (gB.nil L) h;exact⟨h1,by simpa using h2⟩
theorem j8:∀ (n:Nat) (T:List Nat),T.Nodup->(∀ x∈T,x<n)->T.length<=n
 | 0,T,_,h=>by
   cases T with
   | nil=>exact aA _
   | cons a T=>have:=h a (by simp);omega
 | n+1,T,hn,h=>by
   by_cases hm:n∈T
   .have h1:=j8 n (T.erase n) (hn.erase n) (fun x hx=>by
     rw[hn.mem_erase_iff] at hx
     have:=h x hx.2
     omega)
    rw[eO hm] at h1;omega
   have:=j8 n T hn (fun x hx=>by
    have h2:=h x hx;have:x≠n:=fun e=>hm (e ▸ hx)
    omega)
   omega
theorem vY:∀ (A B:List Nat),A.Nodup->(∀ x∈A,x∈B)->A.length<=B.length
 | [],B,_,_=>eH _
 | a::A,B,hn,h=>by
   have ha:=h a (by simp);have h1:=vY A (B.erase a) (List.nodup_cons.1 hn).2 (fun x hx=>by
    have hne:x≠a:=by rintro rfl;exact(List.nodup_cons.1 hn).1 hx
    exact(List.mem_erase_of_ne hne).2 (h x (by simp[hx])))
   rw[eO ha] at h1;have:=List.length_pos_of_mem ha;rw[aQ];omega
theorem gB.all (h:gB L T) (hl:T.length=L.length):∀ i,i<L.length->i∈T:=by
 intro i hi;by_cases hm:i∈T
 .exact hm
 have:=j8 L.length (i::T) (List.nodup_cons.2 ⟨hm,h.nd⟩) (fun x hx=>by
  rcases List.mem_cons.1 hx with rfl | hx
  .exact hi
  exact h.lt x hx)
 rw[aQ,hl] at this;omega
inductive Walk (L:List (List Nat)) (t:Nat):Nat->Nat->Prop
 | one {i:Nat}:t∈lean' L i->Walk L t 1 i
 | more {i n k:Nat}:n∈lean' L i->Walk L t k n->Walk L t (k+1) i
theorem Walk.snoc (h:Walk L t k i) (hx:x∈lean' L t):Walk L x (k+1) i:=by
 induction h with
 | one h=>exact .more h (.one hx)
 | more h _ ih=>exact .more h ih
theorem nS (h:x∈lean' L i):i<L.length:=by
 rcases bI i L.length with hi | hi
 .exact hi
 unfold lean' at h;rw[aG,bN hi] at h;cases h
theorem Walk.lt (h:Walk L t k i):i<L.length:=by
 cases h with
 | one h=>exact nS h
 | more h _=>exact nS h
theorem gB.edge (h:gB L O) (hi:i∈O) (hx:x∈lean' L i):O.idxOf x<O.idxOf i:=by
 obtain⟨A,B,rfl⟩:=List.append_of_mem hi;have hxA:=h.pre A i B rfl x hx;have hiA:i∉A:=fun hm=>by
  have:=(List.nodup_append.1 h.nd).2.2 i hm i (by simp);exact this rfl
 rw[List.idxOf_append,List.idxOf_append,if_pos hxA,if_neg hiA,List.idxOf_cons_self];have:=List.idxOf_lt_length_of_mem hxA;omega
theorem stuck_walk (hok:TQ L) (hn:tS L T=none) (i0:Nat) (hi0:i0<L.length) (hT:i0∉T) :
 ∀ m:Nat,(∃ s k,Walk L s k s)∨∃ (p:Nat) (P:List Nat),(p::P).Nodup/\(p::P).length=m+1/\(∀ q∈p::P,q<L.length/\q∉T)/\∀ q∈P,∃ k,Walk L p k q:=by
 intro m;induction m with
 | zero=>exact .inr ⟨i0,[],by simp,by simp,by simp[hi0,hT],by simp⟩
 | succ m ih =>
   rcases ih with h | ⟨p,P,hnd,hlen,hq,hw⟩
   .exact .inl h
   obtain⟨hp1,hp2⟩:=hq p (by simp);have hr:=CN hn p hp1;have hx:∃ x∈lean' L p,x∉T:=by
    by_cases hh:∃ x∈lean' L p,x∉T
    .exact hh
    exfalso;have:yY L T p=true:=yX.2 ⟨hp2,fun x hx=>by
     by_cases hxT:x∈T
     .exact hxT
     exact absurd ⟨x,hx,hxT⟩ hh⟩
    rw[hr] at this;cases this
   obtain⟨x,hx,hxT⟩:=hx;have hxl:=hok p x hx;by_cases hm:x∈p::P
   .left;rcases List.mem_cons.1 hm with rfl | hm
    .exact⟨x,1,.one hx⟩
    obtain⟨k,hk⟩:=hw x hm;exact⟨x,k+1,hk.snoc hx⟩
   right;refine⟨x,p::P,List.nodup_cons.2 ⟨hm,hnd⟩,by rw[aQ,hlen],?_,?_⟩
   .intro q hq';rcases List.mem_cons.1 hq' with rfl | hq'
    .exact⟨hxl,hxT⟩
    exact hq q hq'
   intro q hq';rcases List.mem_cons.1 hq' with rfl | hq'
   .exact⟨1,.one hx⟩
   obtain⟨k,hk⟩:=hw q hq';exact⟨k+1,hk.snoc hx⟩
theorem xF (hok:TQ L) (hn:tS L T=none) (i0:Nat) (hi0:i0<L.length) (hT:i0∉T):∃ s k,Walk L s k s:=by
 rcases stuck_walk hok hn i0 hi0 hT L.length with h | ⟨p,P,hnd,hlen,hq,_⟩
 .exact h
 exfalso;have:=j8 L.length (p::P) hnd (fun q h=>(hq q h).1);omega
theorem ordGo_none:∀ (f:Nat) (L:List (List Nat)) (T:List Nat),TQ L->gB L T->T.length+f=L.length->tP L f T=none->∃ s k,Walk L s k s
 | 0,L,T,_,_,_,e=>by cases e
 | f+1,L,T,hok,hp,hl,e=>by
   unfold tP at e;split at e
   .rename_i hn;have:∃ i0,i0<L.length/\i0∉T:=by
     by_cases hh:∃ i0,i0<L.length/\i0∉T
     .exact hh
     exfalso;have h1:=vY (List.range L.length) T List.nodup_range (fun x hx=>by
      by_cases hx':x∈T
      .exact hx'
      exact absurd ⟨x,List.mem_range.1 hx,hx'⟩ hh)
     rw[List.length_range] at h1;omega
    obtain⟨i0,h1,h2⟩:=this;exact xF hok hn i0 h1 h2
   rename_i i hi;obtain⟨h1,h2,_⟩:=tR hi;exact ordGo_none f L (T++[i]) hok (hp.snoc h1 h2) (by rw[aS,dE];omega) e
structure Bj (l:List Cd) (tg r j:Nat) (n:List Nat):Prop where
 len:n.length=l.length
 le:∀ k,n.getD k 0<=r
 old:∀ i,i<l.length->∀ k∈nextOf l i,n.getD k 0≠0->n.getD k 0+1<r->n.getD i 0≠0
 tgo:1<r->∀ i,i<l.length->tg∈nextOf l i->n.getD i 0≠0
 now:∀ i,i<j->∀ k∈nextOf l i,n.getD k 0≠0->n.getD k 0+1=r->n.getD i 0≠0
 tgn:r=1->∀ i,i<j->tg∈nextOf l i->n.getD i 0≠0
theorem KR:(n.set i r).getD k 0=if i=k/\k<n.length then r else n.getD k 0:=by
 rw[aG,eY,aG];by_cases h:i=k
 .subst h;by_cases h2:i<n.length
  .simp[h2]
  simp[h2]
 simp[h]
theorem Bj.step {j:Nat} (h:Bj l tg r j n) (hr:0<r) (hj:j<l.length):Bj l tg r (j+1) (bkStep l tg r n j):=by
 unfold bkStep;split
 .next hc =>
  obtain⟨h0,hl⟩:=hc;have hg:∀ k,(n.set j r).getD k 0=if j=k/\k<n.length then r else n.getD k 0:=fun k=>KR
  have hne:∀ k,n.getD k 0≠0->(n.set j r).getD k 0≠0:=fun k hk=>by
   rw[hg];split
   .omega
   exact hk
  have hsame:∀ k,(n.set j r).getD k 0+1<=r->(n.set j r).getD k 0=n.getD k 0:=fun k hk=>by
   rw[hg] at hk ⊢;split at hk
   .omega
   next e=>rw[if_neg e]
  have hjj:(n.set j r).getD j 0≠0:=by rw[hg,if_pos ⟨rfl,by rw[h.len];exact hj⟩];omega
  refine⟨by rw[dZ];exact h.len,fun k=>by rw[hg];split;exact aA _;exact h.le k,fun i hi k hk h1 h2=>?_,fun h1 i hi ht=>hne _ (h.tgo h1 i hi ht),fun i hi k hk h1 h2=>?_,fun e i hi ht=>?_⟩
  .rw[hsame k (by omega)] at h1 h2;exact hne _ (h.old i hi k hk h1 h2)
  .rw[hsame k (by omega)] at h1 h2;rcases bI i j with hij | hij
   .exact hne _ (h.now i hij k hk h1 h2)
   have:i=j:=by omega
   subst this;exact hjj
  rcases bI i j with hij | hij
  .exact hne _ (h.tgn e i hij ht)
  have:i=j:=by omega
  subst this;exact hjj
 next hc =>
 have hc2:n.getD j 0≠0∨∀ k∈nextOf l j,¬(r=1/\k=tg)/\¬(1<r/\n.getD k 0=r-1):=by
  by_cases h0:n.getD j 0=0
  .refine .inr (fun k hk=>?_);have hb:lG l tg r n j=false:=by
    cases hb:lG l tg r n j with
    | false=>rfl
    | true=>exact absurd ⟨h0,hb⟩ hc
   unfold lG at hb;have:=List.any_eq_false.1 hb k hk;simp only[eD,bJ,decide_eq_true_eq,not_or] at this;exact this
  exact .inl h0
 refine⟨h.len,h.le,h.old,h.tgo,fun i hi k hk h1 h2=>?_,fun e i hi ht=>?_⟩
 .rcases bI i j with hij | hij
  .exact h.now i hij k hk h1 h2
  have:i=j:=by omega
  subst this;rcases hc2 with hc2 | hc2
  .exact hc2
  exact absurd ⟨by omega,by omega⟩ (hc2 k hk).2
 rcases bI i j with hij | hij
 .exact h.tgn e i hij ht
 have:i=j:=by omega
 subst this;rcases hc2 with hc2 | hc2
 .exact hc2
 exact absurd ⟨e,rfl⟩ (hc2 tg ht).1
theorem Bj.round (h:Bj l tg r 0 n) (hr:0<r):Bj l tg r l.length (jJ l tg r n):=by
 have key:∀ m,m<=l.length->Bj l tg r m ((List.range m).foldl (bkStep l tg r) n):=by
  intro m;induction m with
  | zero=>intro _;exact h
  | succ m ih =>
    intro hm;rw[dP,cS,bR,List.foldl_nil];exact(ih (by omega)).step hr (by omega)
 exact key _ (aA _)
theorem Bj.up (h:Bj l tg r l.length n) (hr:0<r):Bj l tg (r+1) 0 n:=by
 refine⟨h.len,fun k=>by have:=h.le k;omega,fun i hi k hk h1 h2=>?_,fun _ i hi ht=>?_,fun i hi=>absurd hi (by omega),fun e=>absurd e (by omega)⟩
 .by_cases h3:n.getD k 0+1<r
  .exact h.old i hi k hk h1 h3
  exact h.now i hi k hk h1 (by omega)
 by_cases h3:1<r
 .exact h.tgo h3 i hi ht
 exact h.tgn (by omega) i hi ht
theorem TF (l:List Cd) (tg:Nat):Bj l tg (l.length+1) 0 (bk l tg):=by
 unfold bk;have key:∀ m,Bj l tg (m+1) 0 (((List.range m).map (·+1)).foldl (fun n r=>jJ l tg r n) (List.replicate l.length 0)):=by
  intro m;induction m with
  | zero =>
    have hz:∀ k,(List.replicate l.length 0).getD k 0=0:=fun k=>by rw[aG,dU];split<;>rfl
    exact⟨by simp,fun k=>by simp only[List.range_zero,eL,List.foldl_nil];rw[hz];omega,fun i hi k hk h1=>absurd (hz k) h1,fun e=>absurd e (by omega),fun i hi=>absurd hi (by omega),fun _ i hi=>absurd hi (by omega)⟩
  | succ m ih =>
    rw[dP,cV,bY,eL,cS,bR,List.foldl_nil];exact(ih.round (by omega)).up (by omega)
 exact key _
theorem L6 (h:Bk l tg n):∀ (r i:Nat),n.getD i 0=r+1->∃ C:List Nat,C.length=r+1/\C.Nodup/\∀ q∈C,q<l.length/\0<n.getD q 0/\n.getD q 0<=r+1:=by
 intro r;induction r with
 | zero =>
   intro i hi;have hlt:i<l.length:=by
    rw[<-h.1];rcases bI i n.length with h1 | h1
    .exact h1
    rw[aG,bN h1] at hi;simp at hi
   exact⟨[i],rfl,by simp,fun q hq=>by rw[aR] at hq;subst hq;omega⟩
 | succ r ih =>
   intro i hi;have hlt:i<n.length:=by
    rcases bI i n.length with h1 | h1
    .exact h1
    rw[aG,bN h1] at hi;simp at hi
   have hs:n[i]?=some (r+1+1):=by
    rw[aG,aM hlt] at hi;rw[aM hlt];simpa using hi
   rcases h.2 i _ hs (by omega) with ⟨e,_⟩ | ⟨_,k,hk,hk2⟩
   .omega
   have hk3:n.getD k 0=r+1:=by rw[aG,hk2];simp
   obtain⟨C,h1,h2,h3⟩:=ih k hk3;refine⟨i::C,by rw[aQ,h1],List.nodup_cons.2 ⟨fun hm=>?_,h2⟩,fun q hq=>?_⟩
   .have:=(h3 i hm).2.2;omega
   rcases List.mem_cons.1 hq with rfl | hq
   .rw[h.1] at hlt;omega
   have:=h3 q hq;omega
theorem O3 (hi:i<l.length) (hk:k∈nextOf l i) (h0:(bk l tg).getD k 0≠0):(bk l tg).getD i 0≠0:=by
 have hj:=TF l tg;have hle:=PU l tg k;by_cases h1:(bk l tg).getD k 0+1<l.length+1
 .exact hj.old i hi k hk h0 h1
 obtain⟨C,h2,h3,h4⟩:=L6 (L5 l tg) (l.length-1) k (by omega);by_cases hm:i∈C
 .have:=(h4 i hm).2.1;omega
 have:=j8 l.length (i::C) (List.nodup_cons.2 ⟨hm,h3⟩) (fun x hx=>by
  rcases List.mem_cons.1 hx with rfl | hx
  .exact hi
  exact(h4 x hx).1)
 rw[aQ,h2] at this;omega
def zP (l:List Cd):List (List Nat):=(List.range l.length).map (nextOf l)
theorem nxL_at (hi:i<l.length):lean' (zP l) i=nextOf l i:=by
 unfold lean' zP;rw[aG,eG,fD hi];rfl
theorem j0 (l:List Cd):(zP l).length=l.length:=by simp[zP]
theorem QY (l:List Cd):TQ (zP l):=fun i x hx=>by
 have hi:=nS hx;rw[j0] at hi ⊢;rw[nxL_at hi] at hx;exact pT hx
theorem walk_bk (h:Walk (zP l) tg k i):(bk l tg).getD i 0≠0:=by
 induction h with
 | one hx =>
   have hi:=nS hx;rw[j0] at hi;rw[nxL_at hi] at hx;exact(TF l tg).tgo (by omega) _ hi hx
 | more hx _ ih =>
   have hi:=nS hx;rw[j0] at hi;rw[nxL_at hi] at hx;exact O3 hi hx ih
theorem O2:∀ (r i:Nat),(bk l tg).getD i 0=r+1->Walk (zP l) tg (r+1) i:=by
 have h:=L5 l tg;intro r;induction r with
 | zero =>
   intro i hi;have hlt:i<(bk l tg).length:=by
    rcases bI i (bk l tg).length with h1 | h1
    .exact h1
    rw[aG,bN h1] at hi;simp at hi
   have hs:(bk l tg)[i]?=some 1:=by
    rw[aG,aM hlt] at hi;rw[aM hlt];simpa using hi
   rcases h.2 i _ hs (by omega) with ⟨_,e⟩ | ⟨e,_⟩
   .exact .one (by rw[nxL_at (by rw[<-h.1];exact hlt)];exact e)
   omega
 | succ r ih =>
   intro i hi;have hlt:i<(bk l tg).length:=by
    rcases bI i (bk l tg).length with h1 | h1
    .exact h1
    rw[aG,bN h1] at hi;simp at hi
   have hs:(bk l tg)[i]?=some (r+1+1):=by
    rw[aG,aM hlt] at hi;rw[aM hlt];simpa using hi
   rcases h.2 i _ hs (by omega) with ⟨e,_⟩ | ⟨_,k,hk,hk2⟩
   .omega
   exact .more (by rw[nxL_at (by rw[<-h.1];exact hlt)];exact hk) (ih k (by rw[aG,hk2];simp))
theorem G4 (hu:∀ i c,l[i]?=some c->plAt l c.name=some i):l7 l=[]↔∀ s k,¬Walk (zP l) s k s:=by
 have hnil:l7 l=[]↔∀ i,i<l.length->(bk l i).getD i 0=0:=by
  unfold l7 EU;constructor
  .intro h i hi;cases hf:(List.range l.length).find? (jH l) with
   | some j=>rw[hf] at h;simp at h
   | none =>
     have:=List.find?_eq_none.1 hf i (List.mem_range.2 hi);unfold jH at this;rw[aM hi] at this;simp only[cE,dT] at this;have e:=hu i _ (aM hi);simpa [e] using this
  intro h;rw[List.find?_eq_none.2 (fun i hi=>by
   unfold jH;rw[h i (List.mem_range.1 hi)];simp)]
  rfl
 rw[hnil];constructor
 .intro h s k hw;exact walk_bk hw (h s (by have:=hw.lt;rwa [j0] at this))
 intro h i hi;cases hb:(bk l i).getD i 0 with
 | zero=>rfl
 | succ r=>exact absurd (O2 r i hb) (h i _)
theorem BV (h:∀ s k,¬Walk (zP l) s k s):∃ O,gB (zP l) O/\O.length=(zP l).length:=by
 cases ho:JU (zP l) with
 | some O=>exact⟨O,zK ho⟩
 | none =>
   obtain⟨s,k,hw⟩:=ordGo_none (zP l).length (zP l) [] (QY l) (gB.nil _) (by simp) ho;exact absurd hw (h s k)
def lk (l:List Cd) (s:ByteArray):Option Cd:=l.find? fun c=>fW c.name s
theorem J4:∀ (l:List Cd) (s:ByteArray),lk l s=(plAt l s).bind (fun i=>l[i]?)
 | [],s=>rfl
 | c::l,s=>by
   have ih:=J4 l s;unfold lk plAt at ih ⊢;rw[cP,List.findIdx?_cons];cases fW c.name s with
   | true=>rfl
   | false =>
     simp only[Bool.false_eq_true,if_false];rw[ih];cases l.findIdx? (fun c=>fW c.name s) with
     | none=>rfl
     | some i=>rfl
theorem JO {d:Cd}:lk l s=some d↔∃ i,plAt l s=some i/\l[i]?=some d:=by
 rw[J4];cases plAt l s with
 | none=>simp
 | some i=>simp
theorem wE (l:List Cd) (s:ByteArray):(lk l s).isSome=(plAt l s).isSome:=by
 rw[J4];cases h:plAt l s with
 | none=>rfl
 | some i =>
   obtain⟨⟨c,h1,_⟩,_⟩:=nP h;simp[h1]
def UqN (l:List Cd):Prop:=l.Pairwise (fun a b=>a.name≠b.name)
theorem sW:∀ {l:List Cd},(∀ i c,l[i]?=some c->plAt l c.name=some i)↔UqN l:=by
 intro l;constructor
 .intro h;unfold UqN;rw[fH];intro i j hi hj hij e;have h1:=h i _ (aM hi);have h2:=h j _ (aM hj);rw[e,h2] at h1;injection h1 with h1;omega
 intro h i c hc;cases hp:plAt l c.name with
 | none =>
   have:=List.findIdx?_eq_none_iff.1 hp c (aD hc);rw[bEq_iff.2 rfl] at this;cases this
 | some j =>
   obtain⟨⟨d,h1,h2⟩,h3⟩:=nP hp;unfold UqN at h;rw[fH] at h;obtain⟨hi,rfl⟩:=List.getElem?_eq_some_iff.1 hc;obtain⟨hj,rfl⟩:=List.getElem?_eq_some_iff.1 h1;rcases Nat.lt_trichotomy i j with hl | hl | hl
   .exact absurd h2.symm (h i j hi hj hl)
   .rw[hl]
   exact absurd h2 (h j i hj hi hl)
def Fd (l:List Cd):Nat->Cd->Prop
 | 0,_=>False
 | m+1,c=>∀ s∈names c,∀ d,lk l s=some d->Fd l m d
theorem Fd.succ {l:List Cd}:∀ {m:Nat} {c:Cd},Fd l m c->Fd l (m+1) c
 | 0,_,h=>h.elim
 | m+1,c,h=>fun s hs d hd=>Fd.succ (h s hs d hd)
theorem Fd.le {m n:Nat} (h:Fd l m c) (hmn:m<=n):Fd l n c:=by
 induction hmn with
 | refl=>exact h
 | step _ ih=>exact ih.succ
theorem Fd.congr {l l':List Cd} (hl:∀ s,lk l s=lk l' s):∀ {m:Nat} {c:Cd},Fd l m c->Fd l' m c
 | 0,_,h=>h
 | m+1,c,h=>fun s hs d hd=>Fd.congr hl (h s hs d ((hl s).trans hd))
theorem ET (hu:UqN l) (hk:∀ c∈l,c.kind≠4):l7 l=[]↔∃ m,∀ c∈l,Fd l m c:=by
 rw[G4 (sW.2 hu)];have hnx:∀ i c,l[i]?=some c->nextOf l i=(names c).filterMap (plAt l):=fun i c hc=>by
  unfold nextOf;rw[hc];exact if_neg (hk c (aD hc))
 constructor
 .intro h;obtain⟨O,hp,hl⟩:=BV h;rw[j0] at hl;have key:∀ (r i:Nat) (c:Cd),l[i]?=some c->O.idxOf i<r->Fd l r c:=by
   intro r;induction r with
   | zero=>intro i c _ h;omega
   | succ r ih =>
     intro i c hc hr s hs d hd;obtain⟨j,h1,h2⟩:=JO.1 hd;have hi:=(List.getElem?_eq_some_iff.1 hc).1;have hj:j∈lean' (zP l) i:=by
      rw[nxL_at hi,hnx i c hc];exact List.mem_filterMap.2 ⟨s,hs,h1⟩
     have:=hp.edge (hp.all (by rw[j0];exact hl) i (by rw[j0];exact hi)) hj;exact ih j d h2 (by omega)
  refine⟨l.length+1,fun c hc=>?_⟩;obtain⟨i,hi,rfl⟩:=List.getElem_of_mem hc;refine key _ i _ (aM hi) ?_;have:=List.idxOf_le_length (a:=i) (l:=O);omega
 rintro⟨m,hm⟩ s k hw;have hs:=hw.lt;rw[j0] at hs;have step:∀ {t k i:Nat},Walk (zP l) t k i->∀ (m:Nat) (c:Cd),l[i]?=some c->Fd l m c->∃ (m':Nat) (d:Cd),m'<m/\l[t]?=some d/\Fd l m' d:=by
  intro t k i hw;have one:∀ {i t:Nat},t∈lean' (zP l) i->∀ (m:Nat) (c:Cd),l[i]?=some c->Fd l m c->∃ (m':Nat) (d:Cd),m'<m/\l[t]?=some d/\Fd l m' d:=by
   intro i t hx m c hc hf;have hi:=nS hx;rw[j0] at hi;rw[nxL_at hi,hnx i c hc] at hx;obtain⟨s,hs,hs2⟩:=List.mem_filterMap.1 hx;obtain⟨⟨d,h1,h2⟩,_⟩:=nP hs2;cases m with
   | zero=>exact hf.elim
   | succ m=>exact⟨m,d,by omega,h1,hf s hs d (JO.2 ⟨t,hs2,h1⟩)⟩
  induction hw with
  | one hx=>exact one hx
  | more hx _ ih =>
    intro m c hc hf;obtain⟨m1,d1,h1,h2,h3⟩:=one hx m c hc hf;obtain⟨m2,d2,h4,h5,h6⟩:=ih m1 d1 h2 h3;exact⟨m2,d2,by omega,h5,h6⟩
 have no:∀ (m:Nat) (c:Cd),l[s]?=some c->¬Fd l m c:=by
  intro m;induction m using Nat.strongRecOn with
  | _ m ih =>
    intro c hc hf;obtain⟨m',d,h1,h2,h3⟩:=step hw m c hc hf;exact ih m' h1 d h2 h3
 exact no m _ (aM hs) (hm _ (dJ hs))
theorem uO {l:List Cd} {ns:List ByteArray}:∀ (r:List Cd) (i:Nat),ckGo l ns i r=none↔∀ j c,r[j]?=some c->qZ l ns (i+j) c=none
 | [],i=>by simp[ckGo]
 | c::r,i=>by
   rw[ckGo,Option.or_eq_none_iff,uO r (i+1)];constructor
   .rintro⟨h1,h2⟩ j d hd;cases j with
    | zero=>simp at hd;subst hd;exact h1
    | succ j=>have:=h2 j d (by simpa using hd);rwa [show i+1+j=i+(j+1) by omega] at this
   intro h;exact⟨h 0 c rfl,fun j d hd=>by have:=h (j+1) d (by simpa using hd);rwa [show i+(j+1)=i+1+j by omega] at this⟩
def MV (l:List Cd) (ns:List ByteArray) (c:Cd):Prop:=iI c.name=true/\c.kind≠4/\fU 6 c=true/\lL l ns c=false
theorem uP:qZ l ns i c=none↔plAt l c.name=some i/\MV l ns c:=by
 unfold qZ MV;by_cases h1:plAt l c.name=some i
 .by_cases h2:iI c.name=false
  .simp[h1,h2]
  by_cases h3:c.kind=4
  .simp[h1,h2,h3]
  by_cases h4:fU 6 c=false
  .simp[h1,h2,h3,h4]
  by_cases h5:lL l ns c=true
  .simp[h1,h2,h3,h4,h5]
  simp[h1,h2,h3,h4,h5]
 simp[h1]
theorem EV:csCheck l ns=0↔l.length<=6/\UqN l/\(∀ c∈l,MV l ns c)/\∃ m,∀ c∈l,Fd l m c:=by
 unfold csCheck;by_cases h6:6<l.length
 .rw[if_pos h6];constructor
  .intro h;cases h
  rintro⟨h,_⟩;omega
 rw[if_neg h6];constructor
 .intro h;cases hc:ckGo l ns 0 l with
  | some e =>
    rw[hc] at h;exfalso;have:∀ (r:List Cd) (i e:Nat),ckGo l ns i r=some e->e≠0:=by
     intro r;induction r with
     | nil=>intro i e h;cases h
     | cons c r ih =>
       intro i e h;rw[ckGo] at h;cases ha:qZ l ns i c with
       | none=>rw[ha] at h;exact ih _ _ h
       | some x =>
         rw[ha] at h;simp at h;subst h;unfold qZ at ha;repeat (split at ha;· injection ha with ha;omega)
         cases ha
    exact this l 0 e hc h
  | none =>
    rw[hc] at h;simp only at h;have hcirc:l7 l=[]:=by
     by_cases hh:l7 l=[]
     .exact hh
     rw[if_neg hh] at h;cases h
    have h1:=(uO l 0).1 hc;have hall:∀ c∈l,MV l ns c:=fun c hm=>by
     obtain⟨i,hi,rfl⟩:=List.getElem_of_mem hm;exact(uP.1 (h1 i _ (aM hi))).2
    have hu:UqN l:=sW.1 (fun i c hic=>by
     have:=(uP.1 (h1 i c hic)).1;simpa using this)
    exact⟨by omega,hu,hall,(ET hu (fun c hm=>(hall c hm).2.1)).1 hcirc⟩
 rintro⟨_,hu,hall,hf⟩;have:ckGo l ns 0 l=none:=(uO l 0).2 (fun j c hj=>uP.2 ⟨by
  rw[aZ];exact sW.2 hu j c hj,hall c (aD hj)⟩)
 rw[this];exact if_pos ((ET hu (fun c hm=>(hall c hm).2.1)).2 hf)
theorem addT_in:d∈addT a d:=by
 unfold addT;split
 .next h=>exact pL.1 h
 simp
theorem addT_sub {z:ByteArray} (h:z∈a):z∈addT a d:=by
 unfold addT;split
 .exact h
 simp[h]
theorem uF:∀ {ds a:List ByteArray} {z:ByteArray},z∈a∨z∈ds->z∈ds.foldl addT a
 | [],a,z,h=>by simpa using h
 | d::ds,a,z,h=>by
   rw[bR];refine uF ?_;rcases h with h | h
   .exact .inl (addT_sub h)
   rcases List.mem_cons.1 h with rfl | h
   .exact .inl addT_in
   exact .inr h
theorem mem_names:s∈names c↔s∈cNm 20 c:=⟨fun h=>(foldT_mem h).resolve_left (by simp),fun h=>uF (.inr h)⟩
theorem zZ:s∈uZ c↔s∈cPs 20 c:=⟨fun h=>(foldT_mem h).resolve_left (by simp),fun h=>uF (.inr h)⟩
theorem J3:lL l ns c=false↔(∀ s∈cPs 20 c,s∈ns)/\∀ s∈cNm 20 c,∃ d,lk l s=some d:=by
 unfold lL;rw[dQ,eZ,eZ];constructor
 .rintro⟨h1,h2⟩;refine⟨fun s hs=>?_,fun s hs=>?_⟩
  .have:=h1 s (zZ.2 hs);simp at this;exact pL.1 this
  have:=h2 s (mem_names.2 hs);rw[<-wE] at this;simp only[Bool.not_eq_true',Bool.not_eq_false] at this;exact Option.isSome_iff_exists.1 this
 rintro⟨h1,h2⟩;refine⟨fun s hs=>?_,fun s hs=>?_⟩
 .simp[pL.2 (h1 s (zZ.1 hs))]
 rw[<-wE];obtain⟨d,hd⟩:=h2 s (mem_names.1 hs);simp[hd]
theorem txtV_small (s:ByteArray):fR (jO s):=by
 have h:vWalk 24 (jO s)=[jO s]:=rfl;unfold fR;rw[h];refine⟨by simp,fun x hx=>?_⟩;rw[List.mem_singleton.1 hx];exact⟨by simp[jO],by simp[jO]⟩
theorem numV_small (n:Int):fR (oA n):=by
 have h:vWalk 24 (oA n)=[oA n]:=rfl;unfold fR;rw[h];refine⟨by simp,fun x hx=>?_⟩;rw[List.mem_singleton.1 hx];exact⟨by simp[oA],by simp[oA]⟩
theorem rH {e:Ex} (h:gF e=true) (hr:∀ s∈xRef e,s∈gNames ps) (hg:∀ p∈ps,fR p.v):∃ x,plainG e ps=some x/\fR x.v:=by
 unfold plainG;rw[h];simp only[Bool.true_eq_false,if_false];by_cases h0:e.kind=0
 .rw[if_pos h0];exact⟨_,rfl,txtV_small _⟩
 rw[if_neg h0];by_cases h1:e.kind=1
 .rw[if_pos h1];exact⟨_,rfl,numV_small _⟩
 rw[if_neg h1];have h3:e.kind=3:=by
  unfold gF at h;rw[if_neg h0,if_neg h1] at h;split at h
  .assumption
  cases h
 have hm:=hr e.name (by unfold xRef;rw[if_pos h3];simp);obtain⟨p,hp,hp2⟩:=List.mem_map.1 hm;cases hf:BO ps e.name with
 | none =>
   have:=List.findIdx?_eq_none_iff.1 hf p hp;rw[bEq_iff.2 hp2] at this;cases this
 | some k =>
   have hk:=(List.findIdx?_eq_some_iff_getElem.1 hf).1;simp only[aM hk,cE];exact⟨_,rfl,hg ps[k] (dJ hk)⟩
theorem EE {l:List Cd} {ps:List Gv} (hg:∀ p∈ps,fR p.v) {K:Nat}:∀ (k j:Nat) (c:Cd),k<=j->fU k c=true->(∀ s∈cPs j c,s∈gNames ps)->(∀ s∈cNm j c,∃ d,lk l s=some d/\Dp l ps fR K d)->Dp l ps fR (K+k) c
 | 0,j,c,_,h,_,_=>by cases h
 | k+1,0,c,hj,_,_,_=>by omega
 | k+1,j+1,c,hj,h,hp,hn=>by
   unfold fU at h;by_cases h0:c.kind=0
   .rw[if_pos h0] at h;simp only[bJ,decide_eq_true_eq] at h;obtain⟨hl,ha,hb⟩:=h;have hx:∀ s,s∈xRef c.a∨s∈xRef c.b->s∈gNames ps:=fun s hs=>hp s (by
     unfold cPs;rw[if_neg (by omega),if_pos h0];simp only[dB];exact .inl hs)
    obtain⟨x,hx1,hx2⟩:=rH ha (fun s hs=>hx s (.inl hs)) hg;obtain⟨y,hy1,hy2⟩:=rH hb (fun s hs=>hx s (.inr hs)) hg;exact⟨fun _=>⟨x,y,hx1,hy1,hx2,hy2⟩,fun e=>by omega,fun e=>absurd h0 e⟩
   rw[if_neg h0] at h;by_cases h4:c.kind=4
   .refine⟨fun e=>absurd e h0,fun _=>?_,fun _ e=>absurd h4 e⟩;obtain⟨d,h1,h2⟩:=hn c.name (by unfold cNm;rw[if_pos h4];simp);obtain⟨i,h3,h5⟩:=JO.1 h1;exact⟨i,d,h3,h5,(h2.more (eq:=pF) k).1⟩
   rw[if_neg h4] at h;simp only[bJ] at h;obtain⟨⟨h1,_⟩,h2⟩:=h;refine⟨fun e=>absurd e h0,fun e=>absurd e h4,fun _ _=>⟨?_,fun p hpm=>?_⟩⟩
   .by_cases h5:c.kind=1∨c.kind=2
    .omega
    rw[if_neg h5] at h1;by_cases h6:c.kind=3
    .omega
    rw[if_neg h6] at h1;cases h1
   have h3:=List.all_eq_true.1 h2 p hpm;simp only[bJ] at h3;refine EE hg k j p (by omega) h3.2 (fun s hs=>hp s ?_) (fun s hs=>hn s ?_)
   .unfold cPs;rw[if_neg h4];simp only[dB,List.mem_flatMap];exact .inr ⟨p,hpm,hs⟩
   unfold cNm;rw[if_neg h4];exact List.mem_flatMap.2 ⟨p,hpm,hs⟩
theorem PS {l:List Cd} {ps:List Gv} (hg:∀ p∈ps,fR p.v) (hok:∀ c∈l,MV l (gNames ps) c):∀ (m:Nat) (c:Cd),c∈l->Fd l m c->Dp l ps fR (6*m) c
 | 0,c,_,h=>h.elim
 | m+1,c,hc,h=>by
   obtain⟨_,_,h3,h4⟩:=hok c hc;obtain⟨h5,h6⟩:=J3.1 h4;refine EE hg (K:=6*m) 6 20 c (by omega) h3 h5 (fun s hs=>?_);obtain⟨d,hd⟩:=h6 s hs;exact⟨d,hd,PS hg hok m d (bK hd) (h s (mem_names.2 hs) d hd)⟩
theorem RW (hg:∀ p∈ps,fR p.v) (h:csCheck l (gNames ps)=0):∃ K,(∀ c∈l,Dp l ps fR K c)/\∀ i c,l[i]?=some c->plAt l c.name=some i:=by
 obtain⟨_,hu,hok,m,hm⟩:=EV.1 h;exact⟨6*m,fun c hc=>PS hg hok m c hc (hm c hc),sW.2 hu⟩
theorem rE {α β:Type} {f:α->List β} {g:α->Nat}:∀ (l:List α),(∀ x∈l,(f x).length<=g x)->(l.flatMap f).length<=(l.map g).sum
 | [],_=>by simp
 | x::l,h=>by
   rw[aW,aS,bY,List.sum_cons];have:=h x (by simp);have:=rE l (fun y hy=>h y (by simp[hy]));omega
theorem CO {f:α->Nat} {l:List α} {x:α} (h:x∈l):f x<=(l.map f).sum:=kE h
theorem xE:∀ (k j:Nat) (v:Vl),j<=k->vW k v<=9999->(vWalk j v).length<=vW k v/\∀ x∈vWalk j v,x.keys.length<=3000/\x.list.length<=3000
 | _,0,v,_,_=>by simp[vWalk]
 | 0,j+1,v,hj,_=>by omega
 | k+1,j+1,v,hj,h=>by
   simp only[vW] at h ⊢;split at h
   .omega
   next hl =>
   rw[if_neg hl];have h2:=qX (f:=vW k) v.list (1+min v.text.size 10000+(v.keys.map fun s=>min s.size 10000).sum) (by omega);rw[h2] at h ⊢;have hx:∀ x∈v.list,vW k x<=9999:=fun x hx=>by have:=CO (f:=vW k) hx;omega
   refine⟨?_,fun x hx2=>?_⟩
   .have:=rE (f:=vWalk j) (g:=vW k) v.list (fun x hxm=>(xE k j x (by omega) (hx x hxm)).1);simp only[vWalk,aQ];omega
   simp only[vWalk,List.mem_cons,List.mem_flatMap] at hx2;rcases hx2 with rfl | ⟨y,hy,hxy⟩
   .omega
   exact(xE k j y (by omega) (hx y hy)).2 x hxy
theorem pJ {v:Vl} (h:iS v=false):fR v:=by
 unfold iS at h;simp only[decide_eq_false_iff_not] at h;obtain⟨h1,h2⟩:=xE 30 24 v (by omega) (by omega);exact⟨by omega,fun x hx=>by have:=h2 x hx;omega⟩
theorem LN (S:Nat->Prop) (A:Option Addr) (ac:Nat) (l:List Cd) (PA:Option Addr) (pc:Nat) (ps:List Gv) (w:World) (hV:j4 w) (hls:Ls S w 15 224 Cd.tr A ac l) (hps:Ls S w 8 104 Gv.tr PA pc ps) (hpl:ps.length<=1000000) (hg:∀ p∈ps,fR p.v) (hok:CsOk l) (K:Nat) (hK:csCheck l (gNames ps)=0->∀ c∈l,Dp l ps fR K c) :
 Calls Tryz.prog 81 #[.slice A l.length ac,.slice PA ps.length pc] w (DS (jT l ps pF K) w) :=
 NK S A ac l PA pc ps pF fR K w hV (qU w hV) hls hps hpl hok (fun h=>⟨hK h,sW.2 (EV.1 h).2.1⟩)
