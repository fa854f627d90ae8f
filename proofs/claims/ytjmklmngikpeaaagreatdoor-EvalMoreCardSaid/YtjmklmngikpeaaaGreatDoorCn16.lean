/- Part of the proof. -/
import Derived.Test.YtjmklmngikpeaaaGreatDoorCn14
set_option linter.unusedVariables false
set_option linter.unusedSimpArgs false
namespace Go.Proofs.YtjmklmngikpeaaaGreatDoor
open Go.RowKit
variable {b:Bool}{s:ByteArray}{f:ByteArray->Option Bool}{d:Cd}{i j k:Nat}
def MB (w:World) (b n:Nat) (f:ByteArray->Option Bool):Prop :=
 ∃ D:DataW Unit,w.ownsMap Tryz.prog 9 (plainElem Tryz.prog 4) b n D/\Go.Maps.IsMap D/\∀ s:ByteArray,D.atKey (.string s.data.toList) (.lit (.bool false))=.lit (.bool ((f s).getD false))/\Go.Maps.has D (.string s.data.toList)=(f s).isSome
section
variable {w w':World} {b n:Nat} {f:ByteArray->Option Bool}
theorem MB.new (w:World):MB (w.alloc (.map #[] 0)) w.heap.size 0 (fun _=>none):=⟨.map [],World.ownsMap_made _ _ _ _,⟨[],rfl⟩,fun k=>⟨rfl,rfl⟩⟩
theorem MB.only {F:Nat->Prop} (h:MB w b n f) (ho:fP F w w') (hF:¬F b):MB w' b n f:=by
 obtain⟨D,h1,h2,h3⟩:=h;exact⟨D,gS h1 (ho.block b h1.lt hF),h2,h3⟩
theorem MB.lt (h:MB w b n f):b<w.heap.size:=by obtain⟨D,h1,_⟩:=h;exact h1.lt
theorem MB.below (h:MB w b n f) (hb:Below w.heap.size w w'):MB w' b n f:=h.only (aK hb (fun _=>False)) (fun h=>h)
theorem MB.lookok (h:MB w b n f) {d:ByteArray} (hd:d.size<=maxLen):(Instr.lookup 195 (.map (some b)) (.string d) true).run Tryz.prog w=.ok (.tuple #[.bool ((f d).getD false),.bool (f d).isSome]) w:=by
 obtain⟨D,g1,g2,g3⟩:=h;obtain⟨v,ps,hrun,hv⟩:=g1.look_ok iQ Tryz.underlying195 (zero_bool w) (plainElem_bool Tryz.underlying4 false) (iP hd);rw[(g3 d).1] at hv;rw[(g3 d).2] at hrun;rw[hrun];have hu:Tryz.prog.underlying 4=some .bool:=Tryz.underlying4;unfold plainElem at hv;rw[hu] at hv;cases v<;>simp_all
end
section
variable {w:World} {ops:Array Oper} {rest:List Oper} {o:Oper} {a:Act} {Q:Exit->Act->World->Prop}
theorem wp_put_MB (hg:o.guard=none) (m x v:Operand) (hop:o.op=Op.mapUpdate 195 m x v) (b n:Nat) (f:ByteArray->Option Bool) (hm:a.eval m=.map (some b)) (h:MB w b n f) (hn:n<maxLen)
 (d:ByteArray) (hd:d.size<=maxLen) (hx:a.eval x=.string d) (y:Bool) (hv:a.eval v=.bool y)
 (hK:∀ w',MB w' b (n+1) (fun s=>if s=d then some y else f s)->w.grownBy w' (some b)->wpList Tryz.prog ops Q rest (a.put o.dst undef) w'):wpList Tryz.prog ops Q (o::rest) a w:=by
 obtain⟨D,g1,g2,g3⟩:=h;refine wpList_mapUpdate_own w hg m x v 195 hop 9 4 iQ Tryz.underlying195 _ b n D hm g1 hn _ _ (.string d.data.toList) hx hv (iP hd) (.lit (.bool y)) [] (plainElem_bool Tryz.underlying4 y) (fun w' h1 h2=>hK w' ⟨_,h1,g2.put _ _,fun s=>?_⟩ h2);by_cases hj:s=d
 .subst hj;exact⟨by rw[Go.Maps.atKey_put_same g2 (i5 _)];simp,by rw[Go.Maps.has_put_same g2 (i5 _)];simp⟩
 have hne:(Lit.string s.data.toList)≠(Lit.string d.data.toList):=fun e=>qF hj (by injection e)
 exact⟨by rw[Go.Maps.atKey_put_other hne,(g3 s).1];simp[hj],by rw[Go.Maps.has_put_other hne,(g3 s).2];simp[hj]⟩
end
section
variable (l:List Cd) (ps:List Gv) (eq:Vl->Vl->Bool) (G:Vl->Prop)
def i6 (f:Cd->Option Bool):List Cd->Option Nat
 | []=>some 0
 | c::r=>match f c with
   | none=>none
   | some b=>(i6 f r).map (·+b.toNat)
def S6 (c:Cd):Option Bool:=match plainG c.a ps,plainG c.b ps with
 | some x,some y=>if x.unknown||y.unknown then none else some (eq x.v y.v)
 | _,_=>none
def AV (c:Cd) (n:Nat):Bool:=if c.kind=1 then decide (n=c.l.length) else if c.kind=2 then decide (0<n) else decide (n=0)
def evC:Nat->Cd->Option Bool
 | 0,_=>none
 | k+1,c=>if c.kind=0 then S6 ps eq c else if c.kind=4 then (match plAt l c.name with
     | some i=>match l[i]? with
       | some d=>evC k d
       | none=>none
     | none=>none) else (i6 (evC k) c.l).map (AV c)
def Dp:Nat->Cd->Prop
 | 0,_=>False
 | k+1,c=>(c.kind=0->∃ x y,plainG c.a ps=some x/\plainG c.b ps=some y/\G x.v/\G y.v)/\(c.kind=4->∃ i d,plAt l c.name=some i/\l[i]?=some d/\Dp k d) /\
   (c.kind≠0->c.kind≠4->(c.kind=1∨c.kind=2∨c.kind=3)/\∀ p∈c.l,Dp k p)
variable {l ps eq G}
theorem rS {f g:Cd->Option Bool}:∀ {r:List Cd},(∀ c∈r,f c=g c)->i6 f r=i6 g r
 | [],_=>rfl
 | c::r,h=>by
   unfold i6;rw[h c (by simp),rS (r:=r) (fun d hd=>h d (by simp[hd]))]
theorem Dp.succ:∀ {k:Nat} {c:Cd},Dp l ps G k c->Dp l ps G (k+1) c/\evC l ps eq (k+1) c=evC l ps eq k c
 | 0,_,h=>h.elim
 | k+1,c,h=>by
   obtain⟨h0,h4,hn⟩:=h;refine⟨⟨h0,fun e=>?_,fun e0 e4=>⟨(hn e0 e4).1,fun p hp=>(Dp.succ ((hn e0 e4).2 p hp)).1⟩⟩,?_⟩
   .obtain⟨i,d,h1,h2,h3⟩:=h4 e;exact⟨i,d,h1,h2,(Dp.succ h3).1⟩
   rw[evC,evC];split
   .rfl
   next e0 =>
   split
   .next e4 =>
    obtain⟨i,d,h1,h2,h3⟩:=h4 e4;rw[h1];simp only[h2];exact(Dp.succ h3).2
   next e4=>rw[rS (fun p hp=>(Dp.succ ((hn e0 e4).2 p hp)).2)]
theorem Dp.more {k:Nat} {c:Cd} (h:Dp l ps G k c):∀ j,Dp l ps G (k+j) c/\evC l ps eq (k+j) c=evC l ps eq k c
 | 0=>⟨h,rfl⟩
 | j+1=>by
   obtain⟨h1,h2⟩:=Dp.more h j;obtain⟨h3,h4⟩:=Dp.succ (eq:=eq) h1;exact⟨h3,h4.trans h2⟩
theorem Dp.same {c:Cd} (h:Dp l ps G k c) (h':Dp l ps G j c):evC l ps eq k c=evC l ps eq j c:=by
 have h1:=(Dp.more (eq:=eq) h j).2;have h2:=(Dp.more (eq:=eq) h' k).2;rw[<-h1,<-h2,Nat.add_comm]
variable (l ps eq G) in
def nG (f:ByteArray->Option Bool):Prop:=∀ s b,f s=some b->∃ k i d,plAt l s=some i/\l[i]?=some d/\Dp l ps G k d/\evC l ps eq k d=some b
theorem nG.put (h:nG l ps eq G f) (h1:plAt l s=some i) (h2:l[i]?=some d) (h3:Dp l ps G k d) (h4:evC l ps eq k d=some b) :
 nG l ps eq G (fun z=>if z=s then some b else f z):=fun z c hz=>by
 simp only at hz
 split at hz
 .next e=>subst e;injection hz with hz;subst hz;exact⟨k,i,d,h1,h2,h3,h4⟩
 exact h z c hz
theorem nG.val (h:nG l ps eq G f) (hf:f s=some b) (h1:plAt l s=some i) (h2:l[i]?=some d) (h3:Dp l ps G k d):evC l ps eq k d=some b:=by
 obtain⟨k',i',d',g1,g2,g3,g4⟩:=h s b hf;rw[h1] at g1;injection g1 with g1;subst g1;rw[h2] at g2;injection g2 with g2;subst g2;exact(Dp.same h3 g3).trans g4
end
def cntK (l:List Cd) (f:ByteArray->Option Bool):Nat:=l.countP (fun c=>(f c.name).isSome)
theorem OS (l:List Cd) (f:ByteArray->Option Bool):cntK l f<=l.length:=List.countP_le_length
theorem LO {l:List Cd} (b:Bool) (hf:f s=none) (h1:plAt l s=some i):cntK l f+1<=cntK l (fun z=>if z=s then some b else f z):=by
 have key:∀ (l:List Cd),(∃ c∈l,c.name=s)->cntK l f+1<=cntK l (fun z=>if z=s then some b else f z):=by
  intro l;induction l with
  | nil=>rintro⟨c,hc,_⟩;cases hc
  | cons c r ih =>
    rintro⟨d,hd,hn⟩;have mono:cntK r f<=cntK r (fun z=>if z=s then some b else f z):=by
     unfold cntK;refine List.countP_mono_left fun x _ hx=>?_
     simp only;split
     .rfl
     exact hx
    unfold cntK at ih mono ⊢;rw[fN,fN];by_cases e:c.name=s
    .have e1:(f c.name).isSome=false:=by rw[e,hf];rfl
     rw[if_neg (by rw[e1];simp),if_pos (by simp[e])];omega
    have hr:∃ c∈r,c.name=s:=by
     rcases List.mem_cons.1 hd with rfl | hd
     .exact absurd hn e
     exact⟨d,hd,hn⟩
    have h2:=ih hr;simp only[if_neg e] at h2 ⊢;omega
 refine key l ?_;unfold plAt at h1;rw[eV] at h1;obtain⟨hi,hp,_⟩:=h1;exact⟨l[i],dJ hi,bEq_iff.1 hp⟩
def TS (G:Vl->Prop) (eq:Vl->Vl->Bool) (w:World):Prop:=∀ (S:Nat->Prop) (x y:Vl) (xs ys:List Value) (w':World),G x->G y->Below w.heap.size w w'->Trs.at S w' x.tr xs->Trs.at S w' y.tr ys ->
 Calls Tryz.prog 170 #[.agg xs.toArray,.agg ys.toArray] w' (BoolB (eq x y) w')
structure DT (l:List Cd) (ps:List Gv) (S:Nat->Prop) (w0:World) (A:Option Addr) (ac:Nat) (PA:Option Addr) (pc mb mn ev kb:Nat) (w:World):Prop where
 bel:Below w0.heap.size w0 w
 kb0:w0.heap.size<=kb
 ls:Ls S w 15 224 Cd.tr A ac l
 pr:Ls S w 8 104 Gv.tr PA pc ps
 pl:MP w mb mn (plAt l)
 box:Blk w ev #[.slice A l.length ac,.map (some mb),.slice PA ps.length pc,.map (some kb)] 197
 hS:∀ k,S k->k≠kb
 nev:ev≠kb
 nmb:mb≠kb
section
variable {l:List Cd} {ps:List Gv} {S:Nat->Prop} {w0 w w':World} {A:Option Addr} {ac:Nat} {PA:Option Addr} {pc mb mn ev kb:Nat}
theorem DT.only (h:DT l ps S w0 A ac PA pc mb mn ev kb w) (ho:fP (fun k=>k=kb) w w'):DT l ps S w0 A ac PA pc mb mn ev kb w' :=
 ⟨h.bel.trans (ho.below h.bel.size (fun k hk=>by subst hk;exact h.kb0)),h.kb0,h.ls.keep (fun p hp hs=>bU (ho.block p.block hp (h.hS _ hs))) (fun _ h=>h),
   h.pr.keep (fun p hp hs=>bU (ho.block p.block hp (h.hS _ hs))) (fun _ h=>h),h.pl.only ho h.nmb,h.box.only ho h.nev,h.hS,h.nev,h.nmb⟩
theorem DT.below (h:DT l ps S w0 A ac PA pc mb mn ev kb w) (hb:Below w.heap.size w w'):DT l ps S w0 A ac PA pc mb mn ev kb w':=h.only (aK hb _)
end
def uU (l:List Cd) (ps:List Gv) (G:Vl->Prop) (k:Nat) (f f':ByteArray->Option Bool):Prop:=∀ s,f s=none->f' s≠none->∃ i d j,plAt l s=some i/\l[i]?=some d/\j<k/\Dp l ps G j d
section
variable {l:List Cd} {ps:List Gv} {G:Vl->Prop} {k:Nat} {f f' f'':ByteArray->Option Bool}
theorem uU.refl:uU l ps G k f f:=fun s h1 h2=>absurd h1 h2
theorem uU.trans (h:uU l ps G k f f') (h':uU l ps G k f' f''):uU l ps G k f f'':=fun s h1 h2=>by
 cases e:f' s with
 | none=>exact h' s e h2
 | some b=>exact h s h1 (by rw[e];simp)
theorem uU.mono {k':Nat} (h:uU l ps G k f f') (hk:k<=k'):uU l ps G k' f f':=fun s h1 h2=>by
 obtain⟨i,d,j,a,b,c,e⟩:=h s h1 h2;exact⟨i,d,j,a,b,by omega,e⟩
theorem Dp.least:∀ (k:Nat),Dp l ps G k d->∃ j,j<=k/\Dp l ps G j d/\∀ i,i<j->¬Dp l ps G i d:=by
 intro k;induction k using Nat.strongRecOn with
 | ind k ih =>
   intro h;by_cases e:∃ i,i<k/\Dp l ps G i d
   .obtain⟨i,hi,hd⟩:=e;obtain⟨j,h1,h2,h3⟩:=ih i hi hd;exact⟨j,by omega,h2,h3⟩
   exact⟨k,aA _,h,fun i hi hd=>e ⟨i,hi,hd⟩⟩
theorem uU.put (h:uU l ps G j f f') (h1:plAt l s=some i) (h2:l[i]?=some d) (h3:Dp l ps G j d) (hk:j<k):uU l ps G k f (fun z=>if z=s then some b else f' z):=fun z e1 e2=>by
 simp only at e2;split at e2
 .next e=>subst e;exact⟨i,d,j,h1,h2,hk,h3⟩
 obtain⟨i',d',j',a1,a2,a3,a4⟩:=h z e1 e2;exact⟨i',d',j',a1,a2,by omega,a4⟩
theorem uU.none (h:uU l ps G j f f') (h1:plAt l s=some i) (h2:l[i]?=some d) (h3:∀ i,i<j->¬Dp l ps G i d) (hf:f s=none):f' s=none:=by
 cases e:f' s with
 | none=>rfl
 | some b =>
   obtain⟨i',d',j',a1,a2,a3,a4⟩:=h s hf (by rw[e];simp);rw[h1] at a1;injection a1 with a1;subst a1;rw[h2] at a2;injection a2 with a2;subst a2;exact absurd a4 (h3 _ a3)
end
def PaOut (l:List Cd) (ps:List Gv) (eq:Vl->Vl->Bool) (G:Vl->Prop) (kb k:Nat) (f:ByteArray->Option Bool) (o:Option Bool) (w:World) (e:Ending) (w':World):Prop :=
 ∃ f' n',MB w' kb n' f'/\nG l ps eq G f'/\n'<=cntK l f'/\fP (fun k=>k=kb) w w'/\uU l ps G k f f'/\e=match o with
   | some b=>.returned (.bool b)
   | none=>.panicked [{v:=.iface 191 (.agg #[]),recovered:=false}]
def UI (l:List Cd) (ps:List Gv) (eq:Vl->Vl->Bool) (G:Vl->Prop) (S:Nat->Prop) (w0:World) (A:Option Addr) (ac:Nat) (PA:Option Addr) (pc mb mn ev kb k:Nat):Prop :=
 ∀ (c:Cd) (cs:List Value) (a:Addr) (f:ByteArray->Option Bool) (n:Nat) (w:World),Dp l ps G k c->DT l ps S w0 A ac PA pc mb mn ev kb w->MB w kb n f->nG l ps eq G f->n<=cntK l f->Trs.at S w c.tr cs->i7 w a cs->a.block≠kb ->
   Calls Tryz.prog 120 #[.pointer (some ⟨ev,0,none⟩),.pointer (some a)] w (PaOut l ps eq G kb k f (evC l ps eq k c) w)
theorem PaOut.returned {l:List Cd} {ps:List Gv} {eq:Vl->Vl->Bool} {G:Vl->Prop} {kb k:Nat} {f:ByteArray->Option Bool} {w:World} {e:Ending} {w':World} {b:Bool} (h:PaOut l ps eq G kb k f (some b) w e w') :
 ∃ f' n',MB w' kb n' f'/\nG l ps eq G f'/\n'<=cntK l f'/\fP (fun k=>k=kb) w w'/\uU l ps G k f f'/\e=.returned (.bool b):=h
theorem PaOut.panicked {l:List Cd} {ps:List Gv} {eq:Vl->Vl->Bool} {G:Vl->Prop} {kb k:Nat} {f:ByteArray->Option Bool} {w:World} {e:Ending} {w':World} (h:PaOut l ps eq G kb k f none w e w') :
 ∃ f' n',MB w' kb n' f'/\nG l ps eq G f'/\n'<=cntK l f'/\fP (fun k=>k=kb) w w'/\uU l ps G k f f'/\e=.panicked [{v:=.iface 191 (.agg #[]),recovered:=false}]:=h
theorem MB.drewN {w:World} {b n:Nat} {f:ByteArray->Option Bool} (h:MB w b n f) (j:Nat):MB (w.drewN j) b n f:=h.only (F:=fun _=>False) ⟨rfl,rfl,rfl,aA _,fun _ _ _=>rfl⟩ (fun h=>h)
theorem MB.drew {w:World} {b n:Nat} {f:ByteArray->Option Bool} (h:MB w b n f):MB w.drew b n f:=h.only (F:=fun _=>False) ⟨rfl,rfl,rfl,aA _,fun _ _ _=>rfl⟩ (fun h=>h)
def yB (S:Nat->Prop) (x:Gv) (w:World) (e:Ending) (w':World):Prop:=Below w.heap.size w w'/\∃ GL lc GK kc,e=.returned (.tuple #[.agg (kG x GL lc GK kc),.int .i64 0])/\Trs.at S w' x.v.tr [.int .i8 x.v.kind,.bool x.v.bool,.int .i64 x.v.num,.string x.v.text,.slice GL x.v.list.length lc,.slice GK x.v.keys.length kc]
theorem kZ.some {S:Nat->Prop} {x:Gv} {w:World} {e:Ending} {w':World} (h:kZ S (some x) w e w'):yB S x w e w':=by
 obtain⟨hb,cs,rfl,ht⟩:=h;obtain⟨vs,rfl,_,hv⟩:=Gv.at_iff.1 ht;have hv2:=hv;obtain⟨GL,lc,GK,kc,rfl,_⟩:=Vl.at_iff.1 hv;exact⟨hb,GL,lc,GK,kc,by simp,hv2⟩
