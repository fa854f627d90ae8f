/- Part of the proof. -/
import Derived.RangeFuncNested
import Derived.RangeFuncBox
import Derived.RangeFuncLeaves
import Derived.RangeFuncCalls
import Derived.OwnWalkIn
import Derived.TacticsInMore
import Derived.LoopNIn
import Derived.LoopIn
import Derived.Test.YtjmklmngikpeaaaGreatDoorBase
import Derived.StillTail
import Derived.StillTailTactics
import Derived.OrdersIn
set_option linter.unusedVariables false
set_option linter.unusedSimpArgs false
namespace Go.Proofs.YtjmklmngikpeaaaGreatDoor
open Go.RowKit
variable {a:Act}{K':Act->World->Prop}{Q:Exit->Act->World->Prop}{B:Nat}{K:Nat->Prop}{row:Option Nat}{W W':World}
structure gK (K:Nat->Prop) (W W':World):Prop where
 os:W'.os=W.os
 tape:W'.tape=W.tape
 output:W'.output=W.output
 size:W.heap.size<=W'.heap.size
 block:∀ k,K k->W'.heap[k]?=W.heap[k]?
theorem gK.refl (K:Nat->Prop) (W:World):gK K W W:=⟨rfl,rfl,rfl,aA _,fun _ _=>rfl⟩
theorem gK.trans {K:Nat->Prop} {A B C:World} (h:gK K A B) (k:gK K B C):gK K A C :=
 ⟨k.os.trans h.os,k.tape.trans h.tape,k.output.trans h.output,bB h.size k.size,fun i hi=>(k.block i hi).trans (h.block i hi)⟩
theorem gK.of_below (h:Below B W W') (hK:∀ k,K k->k<B):gK K W W' :=
 ⟨h.os,h.tape,h.output,h.size,fun k hk=>h.block k (hK k hk)⟩
theorem gK.below (h:gK (· < B) W W'):Below B W W':=⟨h.os,h.tape,h.output,h.size,h.block⟩
theorem gK.mono {K':Nat->Prop} (h:gK K W W') (hK:∀ k,K' k->K k):gK K' W W':=⟨h.os,h.tape,h.output,h.size,fun k hk=>h.block k (hK k hk)⟩
theorem gK.grown (hg:W.grownBy W' row) (hK:∀ k,K k->k<W.heap.size) (hr:∀ k,row=some k->¬K k):gK K W W' :=
 ⟨hg.os,hg.tape,hg.output,hg.size,fun k hk=>hg.block k (hK k hk) (fun e=>hr k e.symm hk)⟩
def E4 {β:Type} (J:β->World->Prop):Prop:=∀ s W W',J s W->Below W.heap.size W W'->J s W'
theorem grown_none_of_below (h:Below W.heap.size W W'):W.grownBy W' none:=⟨h.os,h.tape,h.output,h.size,fun k hk _=>h.block k hk⟩
def O1 {α:Type} (B:Nat) (K:Nat->Prop) (I:List α->World->Prop) (Ix:Code->List α->World->Prop) (xs:List α) (W:World):Exit->Act->World->Prop
 | .normal,_,W'=>KeepsFrom B W W'/\gK K W W'/\I xs W'
 | .ret,_,W'=>KeepsFrom B W W'/\Ix .ret xs W'
 | .exit id,_,W'=>KeepsFrom B W W'/\Ix (.exit id) xs W'
 | .goto t,_,W'=>KeepsFrom B W W'/\Ix (.goto t) xs W'
 | .panic _,_,_=>False
 | .outgrown,_,_=>False
def qH (rec:LoopState->Option Code->Loop) (l D:Nat) (st:LoopState) (p:Option Code) (W:World):Prop :=
 W.heap[l]?=some (.loop (rec st p))/\W.heap[D]?=some (.deferred (some []))
theorem gK.putObj {K:Nat->Prop} {l:Nat} (hl:¬K l) (W:World) (o:Obj):gK K W (W.putObj l o) :=
 ⟨rfl,rfl,rfl,by simp,fun _ hk=>World.putObj_heap_other (fun e=>hl (e ▸ hk))⟩
section
variable {α:Type} {P:Program} {n:Nat} {g:Operand} {ps:Array Tmp} {assign body:Code} {Q:Exit->Act->World->Prop} {a:Act} {w:World}
end
theorem Rd.own {w w':World} {sz n c:Nat} {A:Option Addr} {xs:List Value} (h:Rd w sz A n c xs) (hg:w.grownBy w' row) (hr:∀ r,row=some r->∃ o:Obj,w.heap[r]?=some o/\o.isCells=false):Rd w' sz A n c xs :=
 ⟨h.len,h.cap,h.max,fun j u hu=>by obtain⟨ad,e,hc⟩:=h.at_ j u hu;exact⟨ad,e,cell_kept hc hg hr⟩⟩
open Go
section
variable {F:Fence} {n:Nat} {P:Program} {ops:Array Oper} {w:World} {md:Region.Mode}
theorem wpIn_of_still {o:Oper} {K:Act->Prop} (hF:∀ f,F.fn f) (hd:F.depth=none) (hc:∀ {f args} {R:Ending->World->Prop},Calls P f args w R->CallsIn F (n-1) P f args w R)
 (ho:∀ c,o.op≠.defer c) (hK:∀ a',K a'->K' a' w) (h:o.still P a w K):o.wpIn F n P a w K' Q:=by
 unfold Oper.wpIn;refine⟨fun f _=>hF f,?_⟩;rw[Oper.semAt_eq _ _ _ ho];unfold Oper.still at h;generalize (execOp a.eval o).run P w=r at h ⊢;cases r with
 | halt x w'=>simp only[Oper.stillUpon] at h
 | ok nx w' =>
   cases nx<;>simp only[Oper.stillUpon] at h
   case value v=>obtain⟨rfl,h⟩:=h;exact hK _ h
   case skip=>obtain⟨rfl,h⟩:=h;exact hK _ h
   case enter f args =>
    obtain⟨rfl,v,h1,h2⟩:=h;refine⟨fun e=>(by rw[hd] at e;cases e),(hc h1).mono ?_⟩;rintro e w'' ⟨rfl,rfl⟩;exact hK _ h2
theorem sS {i:Nat} {K:Act->Prop} {Q':Exit->Act->World->Prop} (hF:∀ f,F.fn f) (hd:F.depth=none) (hc:∀ {f args} {R:Ending->World->Prop},Calls P f args w R->CallsIn F (n-1) P f args w R)
 (ho:∀ o∈ops.toList,∀ c,o.op≠.defer c) (h:∀ a,K a->K' a w) (hh:stOp P ops w i K a):wpOpIn F n P ops Q' i K' a w:=by
 unfold stOp at hh;unfold wpOpIn;cases hi:ops[i]? with
 | none=>rw[hi] at hh;exact h _ hh
 | some o =>
   rw[hi] at hh;simp only at hh ⊢;have hod:=ho o (by simpa using Array.mem_of_getElem? hi);split
   .rename_i hw;rw[if_pos hw] at hh;exact wpIn_of_still hF hd hc hod h hh
   rename_i hw;rw[if_neg hw] at hh;exact⟨fun f _=>hF f,h _ hh⟩
theorem mK {m g:Nat} {L:Array Bool->Act->Prop} {Q':Exit->Act->World->Prop} (hF:∀ f,F.fn f) (hd:F.depth=none) (hc:∀ {f args} {R:Ending->World->Prop},Calls P f args w R->CallsIn F (n-1) P f args w R)
 (ho:∀ o∈ops.toList,∀ c,o.op≠.defer c) (hL:∀ listed a,L listed a->wpAnyIn F n P md ops Q' g listed a w) :
 ∀ (f:Nat) (listed:Array Bool) (a:Act),wpAnyL P md ops w m L f listed a->wpAnyIn F n P md ops Q' (f+g) listed a w
 | 0,listed,a,h=>by rw[aZ];exact hL _ _ h
 | f+1,listed,a,h=>by
   rw[show f+1+g=(f+g)+1 by omega];exact⟨fun h0=>absurd h0 h.1,fun i hi=>sS hF hd hc ho (fun a' h'=>mK hF hd hc ho hL f _ a' h') (h.2 i hi).2⟩
theorem mP {Q':Exit->Act->World->Prop}:∀ (l:List Oper) (k:Nat) (listed:Array Bool) (a:Act) (w:World),(∀ j,l[j]?=ops[k+j]?) ->
 Region.seqB md ops l.length k listed=true->wpListIn F n P ops Q' l a w->wpAnyIn F n P md ops Q' l.length listed a w
 | [],_,_,_,_,_,hB,h=>⟨by simpa [Region.seqB] using hB,h⟩
 | o::l,k,listed,a,w,hl,hB,h=>by
   have h0:ops[k]?=some o:=by simpa using (hl 0).symm
   simp only[aQ,Region.seqB,bJ,decide_eq_true_eq] at hB;refine⟨fun h1=>(by rw[hB.1] at h1;cases h1),fun i hi=>?_⟩;rw[hB.1] at hi;have hik:i=k:=by simpa using hi
   subst hik;have hw:wpOpIn F n P ops Q' i (wpListIn F n P ops Q' l) a w:=by unfold wpOpIn;simp only[h0];exact h
   exact wpOpIn_mono (fun a' w' h'=>mP l (i+1) _ a' w' (fun j=>by have:=hl (j+1);simpa [Nat.add_assoc,Nat.add_comm 1 j] using this) hB.2 h') hw
theorem wpIn_region_still_tail {id:Nat} {l:List Oper} (hF:∀ f,F.fn f) (hd:F.depth=none) (hc:∀ {f args w} {R:Ending->World->Prop},Calls P f args w R->CallsIn F (n-1) P f args w R)
 (k:Nat) (hm:P.follows .mixedOrders=true) (hB:Region.lexTailB .any l.toArray k=true) (hdf:l.all (fun o=>match o.op with | .defer _=>false | _=>true)=true)
 (h:wpStill P l.toArray w.drew (fun a'=>wpListIn F n P l.toArray Q (l.drop k) a' w.drew) (l.take k) a):(Code.region id l.toArray true).wpIn F n P Q a w:=by
 simp only[Region.lexTailB,bJ,decide_eq_true_eq] at hB;obtain⟨⟨⟨⟨hsel,hn⟩,hs⟩,hcb⟩,hlex⟩:=hB;have ho:∀ o∈l.toArray.toList,∀ c,o.op≠.defer c:=by
  intro o hom c e;have:=List.all_eq_true.1 hdf o hom;rw[e] at this;cases this
 have hn':k<l.length:=by simpa using hn
 have htl:(l.take k).length=k:=by simp;omega
 have hdl:(l.drop k).length=l.toArray.size-k:=by simp
 have inv0:HeadInv .any l.toArray k (Array.replicate l.toArray.size false) :=
  ⟨by simp,fun j oj _ hl=>(by rw[getD_replicate_false] at hl;cases hl),fun t _ ht=>getD_in (by simpa using ht) (getD_replicate_false _ _)⟩
 have H:=wpAnyL_lex (md:=.any) (g:=l.toArray.size-k) hsel hs hcb hn (l.take k) 0 _ a (fun j hj=>by
  have hj':j<k:=by rw[htl] at hj;exact hj
  simp[hj']) (by simpa using htl) inv0 (by rw[htl];exact hlex) h
 refine wpIn_region_any hm ?_;have:=mK (F:=F) (n:=n) (Q':=Q) (g:=l.toArray.size-k) hF hd hc ho (fun listed a' hL=>by
  have:=mP (F:=F) (n:=n) (md:=.any) (Q':=Q) (l.drop k) k listed a' w.drew (fun j=>by simp[dH]) (by rw[hdl];exact hL.1) hL.2;rwa [hdl] at this) _ _ _ H
 rw[htl,show k+(l.toArray.size-k)=l.toArray.size by omega] at this;exact this
end
def P4 {α:Type} (P:Program) (g:Nat) (lb:Array Value) (encs:α->Array Value) (K:Nat->Prop) (V:Nat->List α->α->World->Prop) (S Sp:List α->Prop) (w:World):Prop :=
 ∀ (n l:Nat) (J:Nat->List α->World->Prop) (Jx:List α->World->Prop) (W:World),Below w.heap.size w W->(∀ D,E4 (J D))->E4 Jx ->
   (∀ D pre x W1,W.heap.size<=D->D<=W1.heap.size->J D pre W1->V D pre x W1->YieldAt Fence.wide (n-1) P l (encs x) W1 fun e W' =>
     (e=.returned (.bool true)/\J D (pre++[x]) W'/\gK (fun k=>K k∨(W.heap.size<=k/\k<D)) W1 W')∨(e=.returned (.bool false)/\Jx (pre++[x]) W')) ->
   (∀ D,W.heap.size<=D->J D [] W) ->
   CallsIn Fence.wide n P g (#[.func (.yield l) #[] #[]]++lb) W fun e W'=>(∃ v,e=.returned v)/\((∃ D xs,S xs/\J D xs W')∨(∃ pre,Sp pre/\Jx pre W'))
section
variable {α:Type} {P:Program} {n:Nat} {g:Operand} {ps:Array Tmp} {assign body:Code} {Q:Exit->Act->World->Prop} {a:Act} {w:World}
end
section
variable {α:Type} {P:Program} {n:Nat} {g:Operand} {ps:Array Tmp} {assign body:Code} {Q:Exit->Act->World->Prop} {a:Act} {w:World}
theorem yG {gf:Nat} {lb:Array Value} (hg:a.eval g=.func (.func gf) #[] lb) (eg:∀ args w,(callFunc gf args).run P w=.ok (.enter gf args) w)
 {encs:α->Array Value} {V:Nat->List α->α->World->Prop} {S Sp:List α->Prop} {w0:World} (hseq:P4 P gf lb encs K V S Sp w0)
 (hK:∀ k,K k->k<w.heap.size) (hb0:Below w0.heap.size w0 w) (hps:∀ x,(encs x).size=ps.size)
 (hV:∀ D,OwnFrom w.heap.size (fun (s:List α × α) W=>V D s.1 s.2 W))
 (I:Nat->List α->World->Prop) (Ix:Code->List α->World->Prop) (hI:∀ D,OwnFrom w.heap.size (I D)) (hIx:∀ c,OwnFrom w.heap.size (Ix c)) (h0:∀ D,w.heap.size<=D->I D [] w) (Ax:α × Act->World->Prop) (hAx:OwnFrom w.heap.size Ax)
 (hassign:∀ (l:Nat) (x:α) (W:World) (K:Act->World->Prop),w.heap.size+2<=W.heap.size->(∀ a' W',Below W.heap.size W W'->Ax (x,a') W'->K a' W') ->
   assign.wpIn (Fence.wide.inRound l) (n-1-1) P (Exit.then K (fun _ _ _=>False)) {tmps:=(ps.zip (encs x)).foldl (fun t (p,v)=>t.setIfInBounds p v) a.tmps,defers:=[]} W)
 (hbody:∀ (l Dn:Nat) (pre:List α) (x:α) (a₁:Act) (W:World),I Dn pre W->V Dn pre x W->Ax (x,a₁) W->w.heap.size+2<=Dn->Dn<=W.heap.size->body.wpIn (Fence.wide.inRound l) (n-1-1) P (O1 w.heap.size (fun k=>K k∨(w.heap.size+2<=k/\k<Dn)) (I Dn) Ix (pre++[x]) W) a₁ W)
 (hdone:∀ (D Dn:Nat) (xs:List α) (W:World),w.heap.size<=D->S xs->I Dn xs W->W.heap[D]?=some (.deferred (some []))->Q .normal {a with defers:={target:=.collected D,args:=#[]}::a.defers} W)
 (hstop:∀ (D:Nat) (c:Code) (pre:List α) (W:World),w.heap.size<=D->Sp pre->Ix c pre W->W.heap[D]?=some (.deferred (some []))->c.wpIn Fence.wide n P Q {a with defers:={target:=.collected D,args:=#[]}::a.defers} W) :
 (Code.rangeFunc g ps assign body).wpIn Fence.wide n P Q a w:=by
 refine wpIn_rangeFunc fun fn _=>?_
 let rec_:LoopState->Option Code->Loop:=fun st pe=>{state:=st,pending:=pe,fn,tmps:=a.tmps,params:=ps,assign,body,defers:=w.heap.size}
 let W1:=(w.alloc (.deferred (some []))).alloc (.loop (rec_ .ready none));have hr1:qH rec_ (w.heap.size+1) w.heap.size .ready none W1:=by
  refine⟨?_,(Below.heap_alloc _ _ _ (by simp)).trans (World.alloc_heap_new w _)⟩;have:=World.alloc_heap_new (w.alloc (.deferred (some []))) (.loop (rec_ .ready none));rwa [World.size_alloc] at this
 have hK1:∀ Dn:Nat,¬(K (w.heap.size+1)∨(w.heap.size+2<=w.heap.size+1/\w.heap.size+1<Dn)):=fun Dn h=>by
  rcases h with h | h
  .have:=hK _ h;omega
  omega
 have hsW1:W1.heap.size=w.heap.size+2:=by simp[W1]
 have lasts:∀ {st p} {X Y:World},qH rec_ (w.heap.size+1) w.heap.size st p X->Below X.heap.size X Y->qH rec_ (w.heap.size+1) w.heap.size st p Y:=by
  intro st p X Y h hb;exact⟨(hb.block _ (Array.getElem?_eq_some_iff.1 h.1).1).trans h.1,(hb.block _ (Array.getElem?_eq_some_iff.1 h.2).1).trans h.2⟩
 have turned:∀ {st p} (st':LoopState) (p':Option Code) {X:World},qH rec_ (w.heap.size+1) w.heap.size st p X->qH rec_ (w.heap.size+1) w.heap.size st' p' (X.putObj (w.heap.size+1) (.loop (rec_ st' p'))):=by
  intro st p st' p' X h;exact⟨World.putObj_heap_same (Array.getElem?_eq_some_iff.1 h.1).1,(World.putObj_heap_other (by omega)).trans h.2⟩
 have own_put:∀ {β:Type} {J:β->World->Prop} {s:β} {st p} {X:World} (o:Obj),OwnFrom w.heap.size J->qH rec_ (w.heap.size+1) w.heap.size st p X->J s X->J s (X.putObj (w.heap.size+1) o) :=
  fun o hJ hr hs=>hJ.putObj o hs (by omega) hr.1 rfl
 have hbW1:Below w.heap.size w W1:=((aB _ w).alloc (aA _) _).alloc (by simp) _;refine⟨w.heap.size+1,[{target:=.collected w.heap.size,args:=#[]}],W1,{target:=.fn (.func gf) lb,args:=#[.func (.yield (w.heap.size+1)) #[] #[]]},W1,gf,
  #[.func (.yield (w.heap.size+1)) #[] #[]]++lb,W1,run_enterLoop_outer _ _ _ _ _,?_,fun _ _=>trivial,?_,(fun h=>by cases h),?_⟩
 .simp only[resolve,hg];simp[go_sem]
 .simp[invoke,go_sem,eg]
 refine(hseq (n-1) (w.heap.size+1)
  (fun Dn pre W=>(I Dn pre W/\w.heap.size<=W.heap.size)/\qH rec_ (w.heap.size+1) w.heap.size .ready none W)
  (fun pre W=>∃ c,Ix c pre W/\qH rec_ (w.heap.size+1) w.heap.size .done (some c) W)
  W1 (hb0.trans (hbW1.mono hb0.size)) ?_ ?_ ?_ (fun Dn hDn=>⟨⟨((hI Dn).alloc _ ((hI Dn).alloc _ (h0 Dn (bB hbW1.size hDn)))),hbW1.size⟩,hr1⟩)).mono ?_
 .intro Dn s X Y hs hb;exact⟨⟨hI Dn s X Y none hs.1.1 (grown_none_of_below hb) (fun r e=>by cases e),bB hs.1.2 hb.size⟩,lasts hs.2 hb⟩
 .rintro s X Y ⟨c,hc,hr⟩ hb;exact⟨c,hIx c s X Y none hc (grown_none_of_below hb) (fun r e=>by cases e),lasts hr hb⟩
 .rintro Dn pre x W hD1 hD2 ⟨⟨hi,hle⟩,hr⟩ hv;rw[hsW1] at hD1;refine⟨fn,_,assign,body,run_yield (P:=P) (args:=encs x) hr.1 (hps x),roundIn_of_wpIn trivial (hassign _ x W _ (by omega) (fun a₁ Wa hba hax=>⟨_,run_beginRound (lasts hr hba).1 rfl,?_⟩))⟩;have hra:=lasts hr hba;have hia:=hI Dn pre W Wa none hi (grown_none_of_below hba) (fun r e=>by cases e);have hva:V Dn pre x Wa:=hV Dn (pre,x) W Wa none hv (grown_none_of_below hba) (fun r e=>by cases e);have hsa:=hba.size;have hKa:gK (fun k=>K k∨(w.heap.size+2<=k/\k<Dn)) W Wa:=gK.of_below hba (fun k hk=>by
   rcases hk with hk | hk
   .have:=hK k hk;omega
   omega)
  have hr2:=turned .busy none hra;have fin:∀ (jump:Option Code) (W3:World),KeepsFrom w.heap.size (Wa.putObj (w.heap.size+1) (.loop (rec_ .busy none))) W3 ->
   qH rec_ (w.heap.size+1) w.heap.size .busy none W3:=fun jump W3 hk3=>⟨hk3.same _ _ (by omega) hr2.1 rfl,hk3.same _ _ (aA _) hr2.2 rfl⟩
  refine wpIn_mono (hbody _ Dn pre x a₁ _ (own_put _ (hI Dn) hra hia) (own_put (J:=fun (s:List α × α) W=>V Dn s.1 s.2 W) (s:=(pre,x)) _ (hV Dn) hra hva) (own_put _ hAx hra hax) hD1 (by simp;omega)) ?_;rintro e a3 W3 hp;cases e with
  | normal =>
    obtain⟨hk3,hkp,hi3⟩:=hp;have hr3:=fin none W3 hk3;refine⟨_,_,run_endRound none hr3.1,.inl ⟨rfl,⟨⟨own_put _ (hI Dn) hr3 hi3,?_⟩,turned .ready none hr3⟩,by rw[hsW1];exact hKa.trans (((gK.putObj (hK1 Dn) _ _).trans hkp).trans (gK.putObj (hK1 Dn) _ _))⟩⟩;have:=hk3.size;simp at this ⊢;omega
  | ret =>
    have hr3:=fin (some .ret) W3 hp.1;exact⟨_,_,run_endRound (some .ret) hr3.1,.inr ⟨rfl,.ret,own_put _ (hIx _) hr3 hp.2,turned .done (some .ret) hr3⟩⟩
  | exit id =>
    have hr3:=fin (some (.exit id)) W3 hp.1;exact⟨_,_,run_endRound (some (.exit id)) hr3.1,.inr ⟨rfl,.exit id,own_put _ (hIx _) hr3 hp.2,turned .done (some (.exit id)) hr3⟩⟩
  | goto t =>
    have hr3:=fin (some (.goto t)) W3 hp.1;exact⟨_,_,run_endRound (some (.goto t)) hr3.1,.inr ⟨rfl,.goto t,own_put _ (hIx _) hr3 hp.2,turned .done (some (.goto t)) hr3⟩⟩
  | panic ch=>exact hp.elim
  | outgrown=>exact hp.elim
 rintro e W2 ⟨⟨v,rfl⟩,(⟨Dn,xs,hS,⟨hi,_⟩,hr⟩ | ⟨pre,hSp,c,hi,hr⟩)⟩
 .exact⟨none,_,run_endLoop hr.1 (by simp[rec_]),hdone _ Dn xs _ (aA _) hS (own_put _ (hI Dn) hr hi) ((World.putObj_heap_other (by omega)).trans hr.2)⟩
 exact⟨some c,_,run_endLoop hr.1 (by simp[rec_]),hstop _ c pre _ (aA _) hSp (own_put _ (hIx c) hr hi) ((World.putObj_heap_other (by omega)).trans hr.2)⟩
