/- Part of the proof. -/
import Derived.Test.YtjmklmngikpeaaaGreatDoorNs1
import Derived.Deep.RegionHeld3
import Derived.StillTail
import Derived.Deep.CutRange
import Derived.Deep.QuietTactic
import Derived.BigQuiet
import Derived.StillTailTactics
import Derived.Maps.OwnSet
import Derived.Maps.OwnOps
import Derived.Maps.Views
import Derived.StringKeys
set_option linter.unusedVariables false
set_option linter.unusedSimpArgs false
namespace Go.Proofs.YtjmklmngikpeaaaGreatDoor
variable {d s:ByteArray}{cs xs:List Value}{B b base c g n q sz:Nat}{F S:Nat->Prop}{v:Nd}{A A':Option Addr}{H α:Type}{e:TypeId}{w w' w1:World}
structure Ar where
 scope:Nat
 guards:List Gd
 after:List ByteArray
 depth:Nat
structure BS where
 sc:List Sc
 nd:List Nd
 wt:List (List ByteArray)
def mB:ByteArray:=⟨#[83,116,97,99,107]⟩
def U2 (x:Ar) (r:Rs):List Gd:=if fW r.cond ByteArray.empty then x.guards else x.guards++[⟨x.scope,r.cond⟩]
def U3 (pre:ByteArray) (x:Ar) (r:Rs):List ByteArray:=x.after++r.depends.map fun d=>pre++d
def jK (t:Tm):Tm:=⟨t.params,t.conds,[],t.outs⟩
def BS.node (s:BS) (pre:ByteArray) (x:Ar) (r:Rs):BS:=⟨s.sc,s.nd++[⟨pre++r.id,x.scope,r,U2 x r,[]⟩],s.wt++[U3 pre x r]⟩
def BS.scope (s:BS) (pre:ByteArray) (x:Ar) (r:Rs) (t:Tm):BS:=⟨s.sc++[⟨x.scope,pre++r.id++oJ,jK t,r.props⟩],s.nd,s.wt⟩
def BS.big (s:BS) (n:Nat):Prop:=s.sc.length<=n/\s.nd.length<=n/\s.wt.length<=n
structure Ar.ok (x:Ar) (s:BS):Prop where
 depth:x.depth<=2
 guards:x.guards.length<=x.depth
 after:x.after.length<=60*x.depth
 sizes:∀ d∈x.after,d.size<=20000
 names:∀ g∈x.guards,g.name.size<=20000/\0<=g.scope/\g.scope<=1000000
 scope:∃ c,s.sc[x.scope]?=some c/\c.pre.size<=3002*x.depth
structure BS.ok (s:BS):Prop where
 ids:∀ n∈s.nd,n.id.size<=20000
 wts:∀ l∈s.wt,l.length<=180/\∀ d∈l,d.size<=20000
 len:s.wt.length=s.nd.length
 afs:∀ n∈s.nd,n.after=[]
theorem mT (a b:ByteArray):(a++b).size=a.size+b.size:=aY
theorem Ar.ok.more {x:Ar} {s s':BS} (h:x.ok s) (hp:∃ l,s'.sc=s.sc++l):x.ok s':=by
 obtain⟨l,hl⟩:=hp;obtain⟨c,h1,h2⟩:=h.scope;exact⟨h.depth,h.guards,h.after,h.sizes,h.names,c,by rw[hl,bZ (List.getElem?_eq_some_iff.1 h1).1];exact h1,h2⟩
open Go.RowKit
def Sf (B:Nat) (F:Nat->Prop) (w:World) (k:Nat):Prop:=¬F k/\k<w.heap.size/\k+1≠B
def Mu (q:Nat) (A1 A2 A3:Option Addr) (k:Nat):Prop:=k=q∨blk A1=some k∨blk A2=some k∨blk A3=some k
structure lP (F F':Nat->Prop) (w w':World):Prop where
 only:fP F w w'
 less:∀ k,k<w.heap.size->F' k->F k
theorem lP.refl (F:Nat->Prop) (w:World):lP F F w w:=⟨bG F w,fun _ _ h=>h⟩
theorem lP.trans {F F' F'':Nat->Prop} {a b c:World} (h:lP F F' a b) (k:lP F' F'' b c):lP F F'' a c :=
 ⟨h.only.trans k.only h.less,fun i hi hf=>h.less i hi (k.less i (aO hi h.only.size) hf)⟩
theorem lP.of_below {F:Nat->Prop} {a b:World} (h:Below a.heap.size a b):lP F F a b:=⟨aK h F,fun _ _ h=>h⟩
abbrev bL:=@lP.of_below
section
variable {B:Nat} {F F':Nat->Prop} {w w':World}
theorem lP.sf (h:lP F F' w w'):∀ k,Sf B F w k->Sf B F' w' k:=fun k hk=>⟨fun hf=>hk.1 (h.less k hk.2.1 hf),aO hk.2.1 h.only.size,hk.2.2⟩
theorem Trs.at.go (h:lP F F' w w') {ts:List Tr} {vs:List Value} (ht:Trs.at (Sf B F w) w ts vs):Trs.at (Sf B F' w') w' ts vs :=
 Trs.at.keep (fun p hp hs=>cell_only h.only hp hs.1) h.sf ts vs ht
theorem Ls.go {tr:α->List Tr} {l:List α} (h:lP F F' w w') (hl:Ls (Sf B F w) w sz b tr A c l):Ls (Sf B F' w') w' sz b tr A c l :=
 hl.keep (fun p hp hs=>cell_only h.only hp hs.1) h.sf
theorem Blk.go (h:lP F F' w w') {cs:Array Value} {t:TypeId} (hb:Blk w q cs t) (hq:¬F q):Blk w' q cs t:=hb.only h.only hq
theorem i7.go (h:lP F F' w w') {a:Addr} (hc:i7 w a cs) (hq:¬F a.block):i7 w' a cs:=fun j u hu=>by
 have h1:=hc j u hu;rw[cell_only h.only (aF w _ h1) (by split<;>exact hq)];exact h1
end
theorem Ow.ne {B':Nat} {e':TypeId} {sz' n' c':Nat} {xs':List Value} (h:Ow w B e sz A n c xs) (h':Ow w B' e' sz' A' n' c' xs') (hne:e≠e'):blk A=none∨blk A≠blk A':=by
 rcases h.2 with ⟨rfl,_,_⟩ | ⟨g,cur,rfl,_,hg,_⟩
 .exact .inl rfl
 rcases h'.2 with ⟨rfl,_,_⟩ | ⟨g',cur',rfl,_,hg',_⟩
 .right;simp[blk]
 right;intro he;simp[blk] at he;subst he;rw[hg] at hg';injection hg' with hg';injection hg' with _ ht;exact hne ht
structure Rw where
 A1:Option Addr
 c1:Nat
 x1:List Value
 A2:Option Addr
 c2:Nat
 x2:List Value
 A3:Option Addr
 c3:Nat
 x3:List Value
def Rw.mu (R:Rw) (q:Nat):Nat->Prop:=Mu q R.A1 R.A2 R.A3
section
variable {B q:Nat} {R:Rw} {s:BS} {w w':World}
theorem EH {w2:World} (hg:w1.grownBy w2 (blk A)) (i:Nat) (u:Value) (hq:F q) (hA:∀ k,blk A=some k->F k) :
 fP F w1 (w2.setCell ⟨q,i,none⟩ u) :=
 ((bX hg).mono (fun k _ e=>hA k e.symm)).setCell _ _ (fun _=>hq)
theorem mu_new (hat:A'=A∨A'=some ⟨w1.heap.size,0,none⟩) {k:Nat} (hk:k<w1.heap.size) (h:blk A'=some k):blk A=some k:=by
 rcases hat with rfl | rfl
 .exact h
 simp[blk] at h;omega
end
theorem mu_grown (hg:w.grownBy w' (blk A)) (hA:∀ k,blk A=some k->F k):lP F F w w':=⟨(bX hg).mono (fun k _ e=>hA k e.symm),fun _ _ h=>h⟩
theorem Q5 {i:Nat} {u:Value} (hq:F q):lP F F w (w.setCell ⟨q,i,none⟩ u):=⟨(bG _ w).setCell _ _ (fun _=>hq),fun _ _ h=>h⟩
theorem Sc.at_iff {v:Sc}:Trs.at S w v.tr cs↔∃ ts A c,cs=.int .i64 v.parent::.string v.pre::(ts++[.slice A v.args.length c])/\(Lit.int .i64 v.parent).wf=true/\v.pre.size<=9007199254740992/\Trs.at S w v.t.tr ts/\Ls S w 7 104 Pr.tr A c v.args:=by
 unfold Sc.tr;constructor
 .intro h;obtain⟨_,rfl,h0,h⟩:=fQ.1 h;obtain⟨_,rfl,h1,h⟩:=fQ.1 h;obtain⟨ts,_,rfl,h2,h⟩:=Trs.at.app.1 h;obtain⟨A,c,_,rfl,h4,h⟩:=gL.1 h;obtain rfl:=gJ.1 h;exact⟨ts,A,c,rfl,h0,h1,h2,h4⟩
 rintro⟨ts,A,c,rfl,h0,h1,h2,h4⟩;exact fQ.2 ⟨_,rfl,h0,fQ.2 ⟨_,rfl,h1,Trs.at.app.2 ⟨_,_,rfl,h2,gL.2 ⟨_,_,_,rfl,h4,gJ.2 rfl⟩⟩⟩⟩
theorem Ow.blk_lt (h:Ow w B e sz A n c xs):∀ ad,A=some ad->B<=ad.block/\ad.block<w.heap.size:=by
 rintro ad rfl;exact h.lt rfl
theorem sc_tr {z:Int} {pr:ByteArray} {t:Tm} {args:List Pr} {Q1 Q2 Q3 Q4 P1:Option Addr} {e1 e2 e3 e4 p1:Nat} (hz:0<=z/\z<=1000000) (hp:pr.size<=9007199254740992)
 (ht:Trs.at S w t.tr [.slice Q1 t.params.length e1,.slice Q2 t.conds.length e2,.slice Q3 t.res.length e3,.slice Q4 t.outs.length e4]) (ha:Ls S w 7 104 Pr.tr P1 p1 args) :
 Trs.at S w (Sc.tr ⟨z,pr,jK t,args⟩) [.int .i64 z,.string pr,.slice Q1 t.params.length e1,.slice Q2 t.conds.length e2,.slice none 0 0,.slice Q4 t.outs.length e4,.slice P1 args.length p1]:=by
 obtain⟨A,a,B,b,C,c,D,d,he,h1,h2,h3,h4⟩:=Tm.at_iff.1 ht;simp only[List.cons.injEq,Value.slice.injEq,true_and,and_true] at he;obtain⟨⟨rfl,rfl⟩,⟨rfl,rfl⟩,⟨rfl,rfl⟩,rfl,rfl⟩:=he;exact Sc.at_iff.2 ⟨[.slice Q1 t.params.length e1,.slice Q2 t.conds.length e2,.slice none 0 0,.slice Q4 t.outs.length e4],P1,p1,rfl,by simp[Lit.wf,IntKind.min,IntKind.max,IntKind.bits,IntKind.signed];omega,by show pr.size<=_;omega,
  Tm.at_iff.2 ⟨Q1,e1,Q2,e2,none,0,Q4,e4,rfl,h1,h2,cF _ _ _ _ (by omega) _,h4⟩,ha⟩
def uT (a:List ByteArray) (d:ByteArray):List ByteArray:=if jB d a then a else a++[d]
theorem DN {a:List ByteArray} {z:ByteArray} (h:z∈uT a d):z∈a∨z=d:=by
 unfold uT at h;split at h
 .exact .inl h
 rcases List.mem_append.1 h with h | h
 .exact .inl h
 rw[aR] at h;exact .inr h
open Go.Maps (Keyed)
open Go.WideMaps (keyOf_string_mk)
theorem zero_bool (w:World):(zeroValue 4).run Tryz.prog w=.ok (.bool false) w:=by kernel_rfl
theorem iQ:Keyed Tryz.prog 9:=Go.Maps.string_keyed Tryz.underlying9
theorem iP (hs:s.size<=maxLen):keyOf Tryz.prog 9 (.string s)=some (.string s.data.toList):=keyOf_string_mk Tryz.underlying9 hs
theorem i5 (l:List UInt8):WideAt.IsKeyLit (.string l):=by unfold WideAt.IsKeyLit;trivial
theorem gS {P:Program} {k:TypeId} {R:Value->Option (DataW H × List MemPlace)} {D:DataW H} (h:w.ownsMap P k R b n D) (hb:w'.heap[b]?=w.heap[b]?):w'.ownsMap P k R b n D:=by
 obtain⟨es,clock,h1,h2⟩:=h;exact⟨es,clock,hb.trans h1,h2⟩
def MS (w:World) (b n:Nat) (l:List ByteArray):Prop :=
 ∃ D:DataW Unit,w.ownsMap Tryz.prog 9 (plainElem Tryz.prog 4) b n D/\Go.Maps.IsMap D/\∀ s:ByteArray,D.atKey (.string s.data.toList) (.lit (.bool false))=.lit (.bool (jB s l))
section
variable {w w':World} {b n:Nat} {l:List ByteArray}
theorem MS.new (w:World):MS (w.alloc (.map #[] 0)) w.heap.size 0 []:=⟨.map [],World.ownsMap_made _ _ _ _,⟨[],rfl⟩,fun k=>rfl⟩
theorem MS.only (h:MS w b n l) (ho:fP F w w') (hF:¬F b):MS w' b n l:=by
 obtain⟨D,h1,h2,h3⟩:=h;exact⟨D,gS h1 (ho.block b h1.lt hF),h2,h3⟩
theorem MS.lt (h:MS w b n l):b<w.heap.size:=by obtain⟨D,h1,_⟩:=h;exact h1.lt
theorem MS.below (h:MS w b n l) (hb:Below w.heap.size w w'):MS w' b n l:=h.only (aK hb (fun _=>False)) (fun h=>h)
theorem MS.ne {m:Nat} (h:MS w b n l) (ho:Ow w B e sz A m c xs):blk A≠some b:=by
 obtain⟨D,⟨es,clock,h1,_⟩,_⟩:=h;rcases ho.2 with ⟨rfl,_,_⟩ | ⟨g,cur,rfl,_,hg,_⟩
 .simp[blk]
 simp only[blk,cE];intro e;injection e with e;subst e;rw[hg] at h1;cases h1
theorem MS.look (h:MS w b n l) (hd:d.size<=maxLen):(Instr.lookup 195 (.map (some b)) (.string d) false).run Tryz.prog w=.ok (.bool (jB d l)) w:=by
 obtain⟨D,g1,g2,g3⟩:=h;obtain⟨v,ps,hrun,hv⟩:=g1.lookup iQ Tryz.underlying195 (zero_bool w) (plainElem_bool Tryz.underlying4 false) (iP hd);rw[g3 d] at hv;rw[hrun];have hu:Tryz.prog.underlying 4=some .bool:=Tryz.underlying4;unfold plainElem at hv;rw[hu] at hv;cases v<;>simp_all
end
theorem qF (h:s≠d):s.data.toList≠d.data.toList:=fun e=>h (by
 cases s;cases d;simp at e;rw[e])
section
variable {w:World} {ops:Array Oper} {rest:List Oper} {o:Oper} {a:Act} {Q:Exit->Act->World->Prop}
end
theorem Nd.at_iff:Trs.at S w v.tr cs↔∃ rcs G gc A c,cs=.string v.id::.int .i64 v.scope::(rcs++[.slice G v.guards.length gc,.slice A v.after.length c])/\v.id.size<=9007199254740992/\(Lit.int .i64 v.scope).wf=true/\Trs.at S w v.r.tr rcs/\Ls S w 2 24 Gd.tr G gc v.guards/\Ss S w A c v.after:=by
 unfold Nd.tr;constructor
 .intro h;obtain⟨_,rfl,h0,h⟩:=fQ.1 h;obtain⟨_,rfl,h1,h⟩:=fQ.1 h;obtain⟨ts,_,rfl,h2,h⟩:=Trs.at.app.1 h;obtain⟨G,gc,_,rfl,h4,h⟩:=gL.1 h;obtain⟨A,c,_,rfl,h5,h⟩:=oW.1 h;obtain rfl:=gJ.1 h;exact⟨ts,G,gc,A,c,rfl,h0,h1,h2,h4,h5⟩
 rintro⟨ts,G,gc,A,c,rfl,h0,h1,h2,h4,h5⟩;exact fQ.2 ⟨_,rfl,h0,fQ.2 ⟨_,rfl,h1,Trs.at.app.2 ⟨_,_,rfl,h2,gL.2 ⟨_,_,_,rfl,h4,oW.2 ⟨_,_,_,rfl,h5,gJ.2 rfl⟩⟩⟩⟩⟩
theorem Nd.cells (h:Trs.at S w v.tr cs):∃ x:Nc,cs=x.cs/\x.id=v.id:=by
 obtain⟨rcs,G,gc,A,c,rfl,h0,h1,h2,h4,h5⟩:=Nd.at_iff.1 h;obtain⟨A1,a,B1,b,C1,c1,rfl,_⟩:=Rs.at_iff.1 h2;exact⟨⟨v.id,v.scope,_,_,_,A1,_,a,B1,_,b,_,C1,_,c1,G,_,gc,A,_,c⟩,rfl,rfl⟩
theorem zV {S:Nat->Prop} {w:World}:∀ {l:List Nd} {vs:List Value},Trs.at S w (l.flatMap Nd.tr) vs->∃ xs:List Nc,vs=xs.flatMap Nc.cs/\xs.map Nc.id=l.map Nd.id
 | [],vs,h=>⟨[],gJ.1 h,rfl⟩
 | n::l,vs,h=>by
   rw[aW] at h;obtain⟨cs,vs',rfl,h1,h2⟩:=Trs.at.app.1 h;obtain⟨x,rfl,h3⟩:=Nd.cells h1;obtain⟨xs,rfl,h4⟩:=zV h2;exact⟨x::xs,by simp,by simp[h3,h4]⟩
theorem J0 {S:Nat->Prop} {w:World} {A:Option Addr} {c:Nat} {af:List ByteArray} (ha:Ss S w A c af):∀ {l:List Nd} {vs:List Value} {i:Nat} {n:Nd},Trs.at S w (l.flatMap Nd.tr) vs->l[i]?=some n ->
 Trs.at S w ((l.set i ⟨n.id,n.scope,n.r,n.guards,af⟩).flatMap Nd.tr) (vs.set (i*11+10) (.slice A af.length c))
 | [],vs,i,n,h,hn=>by simp at hn
 | m::l,vs,i,n,h,hn=>by
   rw[aW] at h;obtain⟨cs,vs',rfl,h1,h2⟩:=Trs.at.app.1 h;have hcl:cs.length=11:=h1.len.trans m.trlen;cases i with
   | zero =>
     simp at hn;subst hn;rw[aH,aW,List.set_append_left _ _ (by omega)];refine Trs.at.app.2 ⟨_,_,rfl,?_,h2⟩;obtain⟨rcs,G,gc,A0,c0,rfl,g0,g1,g2,g4,g5⟩:=Nd.at_iff.1 h1;obtain⟨A1,a,B1,b,C1,c1,rfl,_⟩:=Rs.at_iff.1 g2;exact Nd.at_iff.2 ⟨_,G,gc,A,c,rfl,g0,g1,g2,g4,ha⟩
   | succ i =>
     rw[aI,aW,List.set_append_right _ _ (by omega),hcl,show (i+1)*11+10-11=i*11+10 by omega];exact Trs.at.app.2 ⟨_,_,rfl,h1,J0 ha h2 (by simpa using hn)⟩
theorem Ow.setAt {j:Nat} (h:Ow w base e sz (some ⟨g,0,none⟩) n c xs) (u:Value):Ow (w.setCell ⟨g,j,none⟩ u) base e sz (some ⟨g,0,none⟩) n c (xs.set j u):=by
 obtain⟨hl,h2⟩:=h;refine⟨by simpa using hl,?_⟩;rcases h2 with ⟨h0,_⟩ | ⟨g',cur,hA,hb,hg,hn,hm,hcs,ht⟩
 .cases h0
 injection hA with hA;injection hA with hA;subst hA;have hb2:Blk w g cur e:=hg;refine .inr ⟨g,cur.setIfInBounds j u,rfl,hb,hb2.set j u,hn,hm,by simpa using hcs,?_⟩;rw[eJ,List.take_set,ht]
theorem Ow.fro (h:Ow w base e sz (some ⟨g,0,none⟩) n c xs) (j:Nat):w.frozen? ⟨g,j,none⟩=false:=by
 rcases h.2 with ⟨h0,_⟩ | ⟨g',cur,hA,hb,hg,_⟩
 .cases h0
 injection hA with hA;injection hA with hA;subst hA;have hb2:Blk w g cur e:=hg;exact hb2.frozen j
section
variable {B q i:Nat} {R:Rw} {s:BS} {pre:List Nd} {xb:List Value} {A:Option Addr} {c:Nat} {l:List ByteArray} {w w':World}
