/- Part of the proof. -/
import Derived.Test.YtjmklmngikpeaaaGreatDoorPnc
set_option maxRecDepth 100000
set_option maxHeartbeats 4000000
set_option linter.unusedVariables false
set_option linter.unusedSimpArgs false
namespace Go.Proofs.YtjmklmngikpeaaaGreatDoor
open Go.RowKit
variable {i:Int}{α:Type}{l:List α}{p:α->Bool}
structure lQ where
 sc:List Sc
 nd:List Nd
 O:List (List (ByteArray × Bool))
 on:List Bool
structure Pk where
 out:Bool
 scope:Int
 name:ByteArray
structure Wst where
 got:Int->Bool
 seen:Pk->Nat
 e:Nat
instance:DecidableEq Pk:=fun a b =>
 if h:a.out=b.out/\a.scope=b.scope/\a.name=b.name then isTrue (by cases a;cases b;simp_all) else isFalse (fun e=>h (by subst e;exact⟨rfl,rfl,rfl⟩))
def Wst.fail (s:Wst) (e:Nat):Wst:={s with e:=if s.e=0 then e else s.e}
def Wst.mark (s:Wst) (p:Pk) (n:Nat):Wst:={s with seen:=fun q=>if q=p then n else s.seen q}
def Wst.hit (s:Wst) (k:Nat):Wst:={s with got:=KY s.got (k:Int) true}
def QP (Γ:lQ) (sc:Int):Option Sc:=if 0<=sc then Γ.sc[sc.toNat]? else none
def AN (Γ:lQ) (sc:Int) (name:ByteArray):Option Nat:=match QP Γ sc with
 | none=>none
 | some s=>Γ.nd.findIdx? fun n=>decide (n.scope=sc)&&fW n.id (s.pre++name)
def u6 (Γ:lQ) (sc:Int) (name:ByteArray):Option Nat:=match QP Γ sc with
 | none=>none
 | some s=>Γ.sc.findIdx? fun n=>decide (n.parent=sc)&&fW n.pre (s.pre++name++oJ)
def KP (Γ:lQ) (sc:Nat) (name:ByteArray):Bool × Bool:=match (Γ.O.getD sc []).find? (fun x=>fW x.1 name) with
 | none=>(fW name ByteArray.empty,false)
 | some x=>(x.2,true)
inductive Tk
 | ex (sc:Nat) (x:Ex)
 | exs (sc:Nat) (l:List Ex)
 | ent (p:Pk) (sc:Nat) (x:Ex)
inductive Ac
 | stay
 | bad
 | hit (k:Nat)
 | task (t:Tk)
def pO:ByteArray:=⟨#[79,117,116,112,117,116,115,46]⟩
def PO (Γ:lQ) (sc:Int) (name:ByteArray):Ac:=match AN Γ sc name with
 | none=>.bad
 | some k=>if Γ.on.getD k false then .hit k else .bad
def TY (Γ:lQ) (sc:Nat) (x:Ex):Ac:=match Γ.sc[sc]? with
 | none=>.stay
 | some c=>if c.t.params.any (fun p=>fW p.name x.name) then
  (match c.args.find? (fun a=>fW a.name x.name) with
    | none=>.stay
    | some a=>if sc=0 then .stay else .task (.ent ⟨false,(sc:Int),x.name⟩ c.parent.toNat a.e))
   else PO Γ (sc:Int) x.name
def T7 (Γ:lQ) (sc:Nat) (x:Ex):Ac:=match u6 Γ (sc:Int) x.name with
 | none=>PO Γ (sc:Int) x.name
 | some k=>match Γ.sc[k]? with
   | none=>.stay
   | some c=>if CX x.attr pO=false∨fW (OP x.attr pO) ByteArray.empty=true then .bad else
     match c.t.outs.find? (fun o=>fW o.name (OP x.attr pO)) with
     | none=>.bad
     | some o=>if (KP Γ k o.cond).1 then .task (.ent ⟨true,(k:Int),OP x.attr pO⟩ k o.e) else .bad
def U1 (Γ:lQ) (sc:Nat) (x:Ex):Ac :=
 if (KP Γ sc x.name).2=false then .bad else
  match x.l with
  | [a,b]=>.task (.ex sc (if (KP Γ sc x.name).1 then a else b))
  | _=>.bad
def TI (Γ:lQ) (sc:Nat) (x:Ex):Ac :=
 if x.kind=3 then TY Γ sc x else if x.kind=4 then T7 Γ sc x else if x.kind=6 then U1 Γ sc x else .task (.exs sc x.l)
inductive Wk (Γ:lQ):Wst->Tk->Wst->Prop
 | nil {s:Wst} {sc:Nat}:Wk Γ s (.exs sc []) s
 | cons {s s1 s2:Wst} {sc:Nat} {x:Ex} {l:List Ex}:Wk Γ s (.ex sc x) s1->Wk Γ s1 (.exs sc l) s2->Wk Γ s (.exs sc (x::l)) s2
 | err {s:Wst} {sc:Nat} {x:Ex}:s.e≠0->Wk Γ s (.ex sc x) s
 | stay {s:Wst} {sc:Nat} {x:Ex}:s.e=0->TI Γ sc x=.stay->Wk Γ s (.ex sc x) s
 | bad {s:Wst} {sc:Nat} {x:Ex}:s.e=0->TI Γ sc x=.bad->Wk Γ s (.ex sc x) (s.fail 160)
 | hit {s:Wst} {sc:Nat} {x:Ex} {k:Nat}:s.e=0->TI Γ sc x=.hit k->Wk Γ s (.ex sc x) (s.hit k)
 | go {s s':Wst} {sc:Nat} {x:Ex} {t:Tk}:s.e=0->TI Γ sc x=.task t->Wk Γ s t s'->Wk Γ s (.ex sc x) s'
 | cyc {s:Wst} {p:Pk} {sc:Nat} {x:Ex}:s.seen p=1->Wk Γ s (.ent p sc x) (s.fail 200)
 | done {s:Wst} {p:Pk} {sc:Nat} {x:Ex}:s.seen p≠0->s.seen p≠1->Wk Γ s (.ent p sc x) s
 | ent {s s':Wst} {p:Pk} {sc:Nat} {x:Ex}:s.seen p=0->Wk Γ (s.mark p 1) (.ex sc x) s'->Wk Γ s (.ent p sc x) (s'.mark p 2)
variable {Γ:lQ}
theorem OL {sc:Int} {name:ByteArray} {k:Nat} (h:AN Γ sc name=some k):k<Γ.nd.length:=by
 unfold AN at h;split at h
 .cases h
 exact(List.findIdx?_eq_some_iff_getElem.1 h).1
theorem Wk.seen {Γ:lQ} {s s':Wst} {t:Tk} (h:Wk Γ s t s'):∀ p,s.seen p≠0->s'.seen p≠0:=by
 induction h with
 | nil=>exact fun p h=>h
 | cons _ _ i1 i2=>exact fun p h=>i2 p (i1 p h)
 | err _=>exact fun p h=>h
 | stay _ _=>exact fun p h=>h
 | bad _ _=>exact fun p h=>h
 | hit _ _=>exact fun p h=>h
 | go _ _ _ ih=>exact ih
 | cyc _=>exact fun p h=>h
 | done _ _=>exact fun p h=>h
 | @ent s s' q sc x hq _ ih =>
   intro p hp;unfold Wst.mark;simp only;split
   .decide
   next hne=>exact ih p (by unfold Wst.mark;simp only;rw[if_neg hne];exact hp)
def tJ (i:Nat) (s:Sc):List Pk:=s.args.map (fun a=>⟨false,(i:Int),a.name⟩)++s.t.outs.map (fun o=>⟨true,(i:Int),o.name⟩)
def places:Nat->List Sc->List Pk
 | _,[]=>[]
 | i,s::r=>tJ i s++places (i+1) r
theorem kF:∀ {l:List Sc} {i j:Nat} {s:Sc} {p:Pk},l[j]?=some s->p∈tJ (i+j) s->p∈places i l
 | [],i,j,s,p,h,_=>by simp at h
 | x::r,i,0,s,p,h,hp=>by
   simp at h;subst h;unfold places;exact fC _ (by simpa using hp)
 | x::r,i,j+1,s,p,h,hp=>by
   unfold places;refine fA _ (kF (j:=j) (s:=s) (by simpa using h) ?_);rwa [show i+1+j=i+(j+1) by omega]
def left (Γ:lQ) (s:Wst):Nat:=(places 0 Γ.sc).countP fun p=>decide (s.seen p=0)
theorem G0 {q:α->Bool} (h:∀ a∈l,p a=true->q a=true):l.countP p<=l.countP q:=List.countP_mono_left h
theorem wT {α:Type}:∀ {l:List α} {p q:α->Bool} {a:α},(∀ a∈l,p a=true->q a=true)->a∈l->p a=false->q a=true->l.countP p<l.countP q
 | [],p,q,a,_,h,_,_=>by cases h
 | x::l,p,q,a,h,hm,hp,hq=>by
   rw[fN,fN];have hx:=h x (.head _);have hl:=G0 (l:=l) (p:=p) (q:=q) (fun b hb=>h b (.tail _ hb));rcases List.mem_cons.1 hm with rfl | hm
   .rw[hp,hq];simp;omega
   have:=wT (fun b hb=>h b (.tail _ hb)) hm hp hq;cases hpx:p x with
   | false=>simp;cases q x<;>simp<;>omega
   | true=>rw[hx hpx];simp;omega
def TA (Γ:lQ) (p:Pk):Option (Nat × Ex):=match QP Γ p.scope with
 | none=>none
 | some c=>if p.out then (c.t.outs.find? (fun o=>fW o.name p.name)).map (fun o=>(p.scope.toNat,o.e))
   else (c.args.find? (fun a=>fW a.name p.name)).map (fun a=>(c.parent.toNat,a.e))
def Tk.wf (Γ:lQ):Tk->Prop
 | .ent p sc x=>TA Γ p=some (sc,x)
 | _=>True
variable {t:Tk}{s s':Wst}
theorem Wk.keep (h:Wk Γ s t s'):∀ p,s.seen p≠0->s'.seen p=s.seen p:=by
 induction h with
 | nil=>exact fun _ _=>rfl
 | cons _ _ i1 i2=>intro p h;rw[i2 p (by rw[i1 p h];exact h),i1 p h]
 | err _=>exact fun _ _=>rfl
 | stay _ _=>exact fun _ _=>rfl
 | bad _ _=>exact fun _ _=>rfl
 | hit _ _=>exact fun _ _=>rfl
 | go _ _ _ ih=>exact ih
 | cyc _=>exact fun _ _=>rfl
 | done _ _=>exact fun _ _=>rfl
 | @ent s s' q sc x h0 _ ih =>
   intro p hp;have hne:p≠q:=fun e=>by subst e;exact hp h0
   have h1:(s.mark q 1).seen p=s.seen p:=by simp[Wst.mark,hne]
   have h2:(s'.mark q 2).seen p=s'.seen p:=by simp[Wst.mark,hne]
   rw[h2,ih p (by rw[h1];exact hp),h1]
theorem Wk.more (h:Wk Γ s t s'):∀ k,s.got k=true->s'.got k=true:=by
 induction h with
 | nil=>exact fun _ h=>h
 | cons _ _ i1 i2=>exact fun k h=>i2 k (i1 k h)
 | err _=>exact fun _ h=>h
 | stay _ _=>exact fun _ h=>h
 | bad _ _=>exact fun _ h=>h
 | @hit s sc x k _ _ =>
   intro j hj;by_cases e:j=(k:Int)
   .subst e;exact wL _ _ _
   unfold Wst.hit;simp only;rw[uE _ _ e];exact hj
 | go _ _ _ ih=>exact ih
 | cyc _=>exact fun _ h=>h
 | done _ _=>exact fun _ h=>h
 | ent _ _ ih=>exact ih
def two (s:Wst) (p:Pk):Prop:=s.seen p≠0/\s.seen p≠1
section
variable (Γ:lQ) (D:Pk->Prop) (G:Int->Prop)
def lH:Nat->Tk->Prop
 | 0,_=>False
 | n+1,.exs sc l=>∀ x∈l,lH n (.ex sc x)
 | n+1,.ent p sc x=>D p/\lH n (.ex sc x)
 | n+1,.ex sc x=>match TI Γ sc x with
   | .stay=>True
   | .bad=>False
   | .hit k=>G (k:Int)
   | .task t=>lH n t
theorem lH.succ:∀ {n:Nat} {t:Tk},lH Γ D G n t->lH Γ D G (n+1) t
 | 0,t,h=>h.elim
 | n+1,.exs sc l,h=>fun x hx=>lH.succ (h x hx)
 | n+1,.ent p sc x,h=>⟨h.1,lH.succ h.2⟩
 | n+1,.ex sc x,h=>by
   unfold lH at h ⊢;split at h
   .trivial
   .exact h
   .exact h
   exact lH.succ h
theorem lH.le {n m:Nat} (h:lH Γ D G n t) (hm:n<=m):lH Γ D G m t:=by
 obtain⟨k,rfl⟩:=Nat.exists_eq_add_of_le hm;clear hm;induction k with
 | zero=>exact h
 | succ k ih=>exact lH.succ Γ D G ih
theorem least {P:Nat->Prop}:∀ {n:Nat},P n->∃ m,m<=n/\P m/\∀ k,k<m->¬P k:=by
 intro n;induction n using Nat.strongRecOn with
 | ind n ih =>
   intro h;by_cases hk:∃ k,k<n/\P k
   .obtain⟨k,h1,h2⟩:=hk;obtain⟨m,h3,h4⟩:=ih k h1 h2;exact⟨m,by omega,h4⟩
   exact⟨n,aA _,h,fun k h1 h2=>hk ⟨k,h1,h2⟩⟩
def UF (s u:Wst):Prop:=s.e=u.e/\(s.e=0->(∀ k,u.got k=true↔s.got k=true∨G k)/\∀ p,(D p->s.seen p≠1/\two u p)/\(¬D p->u.seen p=s.seen p))
theorem UF.mark {s u:Wst} {p:Pk} {n:Nat} (h:UF D G s u) (hp:¬D p):UF D G (s.mark p n) (u.mark p n):=by
 refine⟨h.1,fun he=>⟨(h.2 he).1,fun q=>?_⟩⟩;have h2:=(h.2 he).2 q;by_cases e:q=p
 .subst e;exact⟨fun h=>absurd h hp,fun _=>by simp[Wst.mark]⟩
 unfold two Wst.mark;simp only[if_neg e];exact h2
end
def scL (l:List Sc) (i:Int):Option Sc:=if 0<=i then l[i.toNat]? else none
def PosB (o:Option Nat) (w:World) (e:Ending) (w':World):Prop:=e=.returned (.tuple #[.int .i64 ((o.getD 0:Nat):Int),.bool o.isSome])/\Below w.heap.size w w'
def posF {α:Type} (sc:List Sc) (l:List α) (scope:Int) (p:Sc->α->Bool):Option Nat:=match scL sc scope with
 | none=>none
 | some s=>l.findIdx? (p s)
theorem nO {sc:List Sc} {scope:Int} {p:Sc->α->Bool} (h:scL sc scope=none):posF sc l scope p=none:=by unfold posF;rw[h]
theorem nN {sc:List Sc} {scope:Int} {p:Sc->α->Bool} {s:Sc} (h:scL sc scope=some s):posF sc l scope p=l.findIdx? (p s):=by unfold posF;rw[h]
variable {l:List Sc}
theorem D9 (h:i<0):scL l i=none:=by unfold scL;rw[if_neg (by omega)]
theorem EC (h:(l.length:Int)<=i):scL l i=none:=by unfold scL;rw[if_pos (by omega),bN (by omega)]
theorem EB {i:Nat}:scL l (i:Int)=l[i]?:=by unfold scL;rw[if_pos (by omega)];rfl
variable {l:List α}
theorem AG (h:∀ (i:Nat) (x:α),l[i]?=some x->p x=false):l.findIdx? p=none :=
 List.findIdx?_eq_none_iff.2 (fun x hx=>by obtain⟨i,hi⟩:=List.mem_iff_getElem?.1 hx;exact h i x hi)
theorem AF {j:Nat} {k:α} (hk:l[j]?=some k) (hq:p k=true) (h:∀ (i:Nat) (x:α),i<j->l[i]?=some x->p x=false):l.findIdx? p=some j:=by
 obtain⟨hj,rfl⟩:=List.getElem?_eq_some_iff.1 hk;exact List.findIdx?_eq_some_iff_getElem.2 ⟨hj,hq,fun i hi=>by rw[h i _ hi (aM (by omega))];decide⟩
theorem GW (S:Nat->Prop) (fb:Nat) (SA NA A:Option Addr) (sC n2 nC c:Nat) (sc:List Sc) (l:List Nd) (scope:Int) (fid:FuncId) (caps:Array Value) (p:Sc->Nd->Bool) (w:World) (hfb:Blk w fb #[.slice SA sc.length sC,.slice NA n2 nC] 36)
 (hsc:Ls S w 7 144 Sc.tr SA sC sc) (hl:Ls S w 11 200 Nd.tr A c l) (hsn:sc.length<=1000000) (hn:l.length<=1000000) (hcf:∀ args w',(callFunc fid args).run Tryz.prog w'=.ok (.enter fid args) w')
 (hf:∀ s,scL sc scope=some s->∀ (ad:Addr) (i:Nat) (x:Nd),A=some ad->l[i]?=some x->∀ w',Below w.heap.size w w'->Calls Tryz.prog fid (#[.pointer (some (ad.add (i*11))),.string s.pre]++caps) w' (BoolB (p s x) w')) :
 Calls Tryz.prog 180 #[.pointer (some ⟨fb,0,none⟩),.int .i64 scope,.slice A l.length c,.func (.func fid) #[] caps] w (PosB (posF sc l scope p) w):=by
 have HSC:=Hd hsc;have HL:=Hd hl;have HFB:=Hd hfb;have HF:=Hd hf;have hscap:=hsc.cap;have hsmax:=hsc.max;unfold maxLen at hsmax;have hcap:=hl.cap;have hmax:=hl.max;unfold maxLen at hmax;obtain⟨f0,-⟩:=gO hfb;clear hsc hl hf hfb;by_cases h0:scope<0
 .have hd0:decide (scope<0)=true:=decide_eq_true h0;have HE:=Hd (nO (l:=l) (p:=p) (D9 (l:=sc) h0));clear h0;go_enter Tryz.func180,Tryz.ntmps180;go_wp2_with fail;refine bodyPost_ret (v:=.tuple #[.int .i64 0,.bool false]) (by simp[results,Tryz.results180,go_sem]) rfl ?_;rw[HE.o];exact⟨rfl,aB _ _⟩
 have hd0:decide (scope<0)=false:=decide_eq_false h0;by_cases h1:(sc.length:Int)<=scope
 .have hd1:decide ((sc.length:Int)<=scope)=true:=decide_eq_true h1;have HE:=Hd (nO (l:=l) (p:=p) (EC (l:=sc) h1));clear h0 h1;go_enter Tryz.func180,Tryz.ntmps180;go_wp2_with fail;refine bodyPost_ret (v:=.tuple #[.int .i64 0,.bool false]) (by simp[results,Tryz.results180,go_sem]) rfl ?_;rw[HE.o];exact⟨rfl,aB _ _⟩
 have hd1:decide ((sc.length:Int)<=scope)=false:=decide_eq_false h1;obtain⟨q,rfl⟩:∃ q:Nat,scope=(q:Int):=⟨scope.toNat,by omega⟩;have hqi:(0:Int)<=(q:Int)/\(q:Int)<(sc.length:Int):=by omega
 obtain⟨s,hs⟩:=fO (l:=sc) (i:=q) (by omega);have HSL:Hid (scL sc (q:Int)=some s):=Hd (by rw[EB,hs]);have HS:=Hd hs;have hd2:decide (sc.length<=q)=false:=decide_eq_false (by omega);clear h0 h1 hs;go_enter Tryz.func180,Tryz.ntmps180;go_wp2_with fail;clear hd0 hd1 hd2 f0;go_loopg [24] l.length (fun g i wr=>∃ j:Nat,j+g=l.length/\i=.int .i64 (j:Nat)/\Hid (∀ (i:Nat) (x:Nd),i<j->l[i]?=some x->p s x=false)/\Hid (Below w.heap.size w wr))
 case atStart=>exact⟨0,by omega,rfl,Hd (fun i x hi _=>absurd hi (by omega)),Hd (aB _ _)⟩
 obtain⟨j,hj,rfl,HN,HB⟩:=hrel;rename World=>wo
 cases gk with
 | zero =>
   have hjj:¬((j:Int)<(l.length:Int)):=by omega
   have HE:Hid (posF sc l (q:Int) p=none):=Hd (by rw[nN HSL.o];exact AG (fun i x hx=>HN.o i x (by have:=(List.getElem?_eq_some_iff.1 hx).1;omega) hx));go_wp2_with fail;refine bodyPost_ret (v:=.tuple #[.int .i64 0,.bool false]) (by simp[results,Tryz.results180,go_sem]) rfl ?_;rw[HE.o];exact⟨rfl,HB.o⟩
 | succ g =>
   have hjj:(j:Int)<(l.length:Int):=by omega
   have hji:(0:Int)<=(j:Int)/\(j:Int)<(l.length:Int):=by omega
   obtain⟨k,hk⟩:=fO (l:=l) (i:=j) (by omega);obtain⟨ad,cs,rfl,hxt,hxc⟩:=(HL.o.below HB.o).elem Nd.trlen hk;obtain⟨sd,ss,hSA,hst,hsd⟩:=(HSC.o.below HB.o).elem dS HS.o;subst hSA;obtain⟨B1,B2,B3,B4,B5,d1,d2,d3,d4,d5,rfl,-,-,-,-,-,-⟩:=jA hst;obtain⟨e0,e1,e2,e3,e4,e5,e6⟩:=lO hsd;obtain⟨f0,-⟩:=gO (HFB.o.below HB.o);have HCL:=Hd (HF.o s HSL.o ad j k rfl hk wo.drew HB.o.drew);have HBD:=Hd HB.o.drew;have HE:Hid (p s k=true->posF sc l (q:Int) p=some j):=Hd (fun hq=>by rw[nN HSL.o];exact AF hk hq HN.o);have HN2:Hid (p s k=false->∀ (i:Nat) (x:Nd),i<j+1->l[i]?=some x->p s x=false):=Hd (fun hq i x hi hx=>by
    rcases bI i j with h | h
    .exact HN.o i x h hx
    rw[show i=j by omega,hk] at hx;injection hx with hx;rw[<-hx];exact hq)
   clear hk hxt hxc hst hsd;go_wp2_with fail;go_still_tail 12,(by kernel_rfl);change wpList _ _ _ _ _ wo.drew;generalize wo.drew=wz at HCL HBD ⊢;cases hp:p s k with
   | true =>
     rw[hp] at HCL;have HE2:=Hd (HE.o hp);clear hp HE;go_wp2_with fail;refine HCL.o.mono ?_;rintro e w2 ⟨rfl,hb2⟩;have HB2:=Hd (HBD.o.trans (hb2.mono HBD.o.size));clear hb2;go_wp2_with fail;refine bodyPost_ret (v:=.tuple #[.int .i64 (j:Int),.bool true]) (by simp[results,Tryz.results180,go_sem]) rfl ?_;rw[HE2.o];exact⟨rfl,HB2.o⟩
   | false =>
     rw[hp] at HCL;have HN3:=Hd (HN2.o hp);clear hp HE;go_wp2_with fail;refine HCL.o.mono ?_;rintro e w2 ⟨rfl,hb2⟩;have HB2:=Hd (HBD.o.trans (hb2.mono HBD.o.size));clear hb2;go_wp2_with fail;go_roundg g
     case measure=>omega
     case rel=>exact⟨j+1,by omega,by go_num,HN3,HB2⟩
theorem GU (S:Nat->Prop) (fb:Nat) (SA NA A:Option Addr) (sC n2 nC c:Nat) (sc:List Sc) (l:List Sc) (scope:Int) (fid:FuncId) (caps:Array Value) (p:Sc->Sc->Bool) (w:World) (hfb:Blk w fb #[.slice SA sc.length sC,.slice NA n2 nC] 36)
 (hsc:Ls S w 7 144 Sc.tr SA sC sc) (hl:Ls S w 7 144 Sc.tr A c l) (hsn:sc.length<=1000000) (hn:l.length<=1000000) (hcf:∀ args w',(callFunc fid args).run Tryz.prog w'=.ok (.enter fid args) w')
 (hf:∀ s,scL sc scope=some s->∀ (ad:Addr) (i:Nat) (x:Sc),A=some ad->l[i]?=some x->∀ w',Below w.heap.size w w'->Calls Tryz.prog fid (#[.pointer (some (ad.add (i*7))),.string s.pre]++caps) w' (BoolB (p s x) w')) :
 Calls Tryz.prog 137 #[.pointer (some ⟨fb,0,none⟩),.int .i64 scope,.slice A l.length c,.func (.func fid) #[] caps] w (PosB (posF sc l scope p) w):=by
 have HSC:=Hd hsc;have HL:=Hd hl;have HFB:=Hd hfb;have HF:=Hd hf;have hscap:=hsc.cap;have hsmax:=hsc.max;unfold maxLen at hsmax;have hcap:=hl.cap;have hmax:=hl.max;unfold maxLen at hmax;obtain⟨f0,-⟩:=gO hfb;clear hsc hl hf hfb;by_cases h0:scope<0
 .have hd0:decide (scope<0)=true:=decide_eq_true h0;have HE:=Hd (nO (l:=l) (p:=p) (D9 (l:=sc) h0));clear h0;go_enter Tryz.func137,Tryz.ntmps137;go_wp2_with fail;refine bodyPost_ret (v:=.tuple #[.int .i64 0,.bool false]) (by simp[results,Tryz.results137,go_sem]) rfl ?_;rw[HE.o];exact⟨rfl,aB _ _⟩
 have hd0:decide (scope<0)=false:=decide_eq_false h0;by_cases h1:(sc.length:Int)<=scope
 .have hd1:decide ((sc.length:Int)<=scope)=true:=decide_eq_true h1;have HE:=Hd (nO (l:=l) (p:=p) (EC (l:=sc) h1));clear h0 h1;go_enter Tryz.func137,Tryz.ntmps137;go_wp2_with fail;refine bodyPost_ret (v:=.tuple #[.int .i64 0,.bool false]) (by simp[results,Tryz.results137,go_sem]) rfl ?_;rw[HE.o];exact⟨rfl,aB _ _⟩
 have hd1:decide ((sc.length:Int)<=scope)=false:=decide_eq_false h1;obtain⟨q,rfl⟩:∃ q:Nat,scope=(q:Int):=⟨scope.toNat,by omega⟩;have hqi:(0:Int)<=(q:Int)/\(q:Int)<(sc.length:Int):=by omega
 obtain⟨s,hs⟩:=fO (l:=sc) (i:=q) (by omega);have HSL:Hid (scL sc (q:Int)=some s):=Hd (by rw[EB,hs]);have HS:=Hd hs;have hd2:decide (sc.length<=q)=false:=decide_eq_false (by omega);clear h0 h1 hs;go_enter Tryz.func137,Tryz.ntmps137;go_wp2_with fail;clear hd0 hd1 hd2 f0;go_loopg [24] l.length (fun g i wr=>∃ j:Nat,j+g=l.length/\i=.int .i64 (j:Nat)/\Hid (∀ (i:Nat) (x:Sc),i<j->l[i]?=some x->p s x=false)/\Hid (Below w.heap.size w wr))
 case atStart=>exact⟨0,by omega,rfl,Hd (fun i x hi _=>absurd hi (by omega)),Hd (aB _ _)⟩
 obtain⟨j,hj,rfl,HN,HB⟩:=hrel;rename World=>wo
 cases gk with
 | zero =>
   have hjj:¬((j:Int)<(l.length:Int)):=by omega
   have HE:Hid (posF sc l (q:Int) p=none):=Hd (by rw[nN HSL.o];exact AG (fun i x hx=>HN.o i x (by have:=(List.getElem?_eq_some_iff.1 hx).1;omega) hx));go_wp2_with fail;refine bodyPost_ret (v:=.tuple #[.int .i64 0,.bool false]) (by simp[results,Tryz.results137,go_sem]) rfl ?_;rw[HE.o];exact⟨rfl,HB.o⟩
 | succ g =>
   have hjj:(j:Int)<(l.length:Int):=by omega
   have hji:(0:Int)<=(j:Int)/\(j:Int)<(l.length:Int):=by omega
   obtain⟨k,hk⟩:=fO (l:=l) (i:=j) (by omega);obtain⟨ad,cs,rfl,hxt,hxc⟩:=(HL.o.below HB.o).elem dS hk;obtain⟨sd,ss,hSA,hst,hsd⟩:=(HSC.o.below HB.o).elem dS HS.o;subst hSA;obtain⟨B1,B2,B3,B4,B5,d1,d2,d3,d4,d5,rfl,-,-,-,-,-,-⟩:=jA hst;obtain⟨e0,e1,e2,e3,e4,e5,e6⟩:=lO hsd;obtain⟨f0,-⟩:=gO (HFB.o.below HB.o);have HCL:=Hd (HF.o s HSL.o ad j k rfl hk wo.drew HB.o.drew);have HBD:=Hd HB.o.drew;have HE:Hid (p s k=true->posF sc l (q:Int) p=some j):=Hd (fun hq=>by rw[nN HSL.o];exact AF hk hq HN.o);have HN2:Hid (p s k=false->∀ (i:Nat) (x:Sc),i<j+1->l[i]?=some x->p s x=false):=Hd (fun hq i x hi hx=>by
    rcases bI i j with h | h
    .exact HN.o i x h hx
    rw[show i=j by omega,hk] at hx;injection hx with hx;rw[<-hx];exact hq)
   clear hk hxt hxc hst hsd;go_wp2_with fail;go_still_tail 12,(by kernel_rfl);change wpList _ _ _ _ _ wo.drew;generalize wo.drew=wz at HCL HBD ⊢;cases hp:p s k with
   | true =>
     rw[hp] at HCL;have HE2:=Hd (HE.o hp);clear hp HE;go_wp2_with fail;refine HCL.o.mono ?_;rintro e w2 ⟨rfl,hb2⟩;have HB2:=Hd (HBD.o.trans (hb2.mono HBD.o.size));clear hb2;go_wp2_with fail;refine bodyPost_ret (v:=.tuple #[.int .i64 (j:Int),.bool true]) (by simp[results,Tryz.results137,go_sem]) rfl ?_;rw[HE2.o];exact⟨rfl,HB2.o⟩
   | false =>
     rw[hp] at HCL;have HN3:=Hd (HN2.o hp);clear hp HE;go_wp2_with fail;refine HCL.o.mono ?_;rintro e w2 ⟨rfl,hb2⟩;have HB2:=Hd (HBD.o.trans (hb2.mono HBD.o.size));clear hb2;go_wp2_with fail;go_roundg g
     case measure=>omega
     case rel=>exact⟨j+1,by omega,by go_num,HN3,HB2⟩
open Go.Maps
def pKey (p:Pk):Value:=.agg #[.bool p.out,.int .i64 p.scope,.string p.name]
theorem tM {p q:Pk} (h:pKey p=pKey q):p=q:=by
 unfold pKey at h;injection h with h;have h1:=congrArg (fun a=>a.toList) h;simp at h1;cases p;cases q;simp_all
section
variable {w w':World} {b n:Nat} {f:Pk->Nat}
end
inductive exOk:Ex->Prop
 | mk {x:Ex}:x.name.size<=1000000->x.attr.size<=1000000->x.l.length<=1000000->(∀ y∈x.l,exOk y)->exOk x
structure lQ.ok (Γ:lQ):Prop where
 hO:Γ.O.length=Γ.sc.length
 hon:Γ.on.length=Γ.nd.length
 scl:Γ.sc.length<=1000
 ndl:Γ.nd.length<=1000
 orl:∀ r∈Γ.O,r.length<=1000000
 par:∀ (j:Nat) (s:Sc),0<j->Γ.sc[j]?=some s->0<=s.parent/\s.parent<(j:Int)
 par':∀ s∈Γ.sc,s.t.params.length<=1000000/\s.args.length<=1000000/\s.t.outs.length<=1000000/\s.pre.size<=1000000
 ex:∀ s∈Γ.sc,(∀ a∈s.args,exOk a.e)/\∀ o∈s.t.outs,exOk o.e
 pl:(places 0 Γ.sc).length<=1000000
structure Wh where
 fb:Nat
 wb:Nat
 gb:Nat
 sb:Nat
 SA:Option Addr
 sC:Nat
 NA:Option Addr
 nC:Nat
 CA:Option Addr
 cC:Nat
 EA:Option Addr
 eC:Nat
def Wh.F (W:Wh):Nat->Prop:=fun k=>k=W.wb∨k=W.gb∨k=W.sb
structure MR (Γ:lQ) (W:Wh) (w:World):Prop where
 fb:W.fb<W.wb
 gb:W.wb<W.gb
 sb:W.wb<W.sb
 ne:W.gb≠W.sb
 fl:Blk w W.fb #[.slice W.SA Γ.sc.length W.sC,.slice W.NA Γ.nd.length W.nC] 36
 sc:Ls (fun k=>k<W.wb) w 7 144 Sc.tr W.SA W.sC Γ.sc
 nd:Ls (fun k=>k<W.wb) w 11 200 Nd.tr W.NA W.nC Γ.nd
 cs:∃ xs,Rd w 1 W.CA Γ.O.length W.cC xs/\(∀ ad,W.CA=some ad->0<Γ.O.length->ad.block<W.wb)/\Trs.at (fun k=>k<W.wb) w (Γ.O.flatMap rY) xs
 on:Rd w 1 W.EA Γ.on.length W.eC (Γ.on.map .bool)
 onb:∀ ad,W.EA=some ad->0<Γ.on.length->ad.block<W.wb
section
variable {Γ:lQ} {W:Wh} {w w':World} {s:Wst}
theorem MR.lo (h:MR Γ W w):∀ k,W.F k->W.wb<=k:=fun k hk=>by
 rcases hk with rfl | rfl | rfl
 .exact aA _
 .have:=h.gb;omega
 have:=h.sb;omega
theorem MR.only {F:Nat->Prop} (h:MR Γ W w) (ho:fP F w w') (hF:∀ k,F k->W.wb<=k):MR Γ W w':=by
 have hS:∀ k,k<W.wb->¬F k:=fun k hk hf=>by have:=hF k hf;omega
 obtain⟨xs,h1,h2,h3⟩:=h.cs;exact⟨h.fb,h.gb,h.sb,h.ne,h.fl.only ho (hS _ h.fb),h.sc.only ho hS,h.nd.only ho hS,⟨xs,h1.only ho (fun ad e hn hf=>hS _ (h2 ad e hn) hf),h2,h3.only ho hS⟩,h.on.only ho (fun ad e hn hf=>hS _ (h.onb ad e hn) hf),h.onb⟩
theorem MR.step (h:MR Γ W w) (ho:fP W.F w w'):MR Γ W w':=h.only ho h.lo
theorem MR.below (h:MR Γ W w) (hb:Below w.heap.size w w'):MR Γ W w':=h.only (F:=fun _=>False) (aK hb _) (fun k hk=>hk.elim)
end
def OK (sc:List Sc) (nd:List Nd) (scope:Int) (name:ByteArray):Option Nat:=posF sc nd scope fun s n=>decide (n.scope=scope)&&fW n.id (s.pre++name)
def N9 (sc:List Sc) (scope:Int) (name:ByteArray):Option Nat:=posF sc sc scope fun s n=>decide (n.parent=scope)&&fW n.pre (s.pre++name++oJ)
theorem OJ (Γ:lQ) (scope:Int) (name:ByteArray):OK Γ.sc Γ.nd scope name=AN Γ scope name:=rfl
theorem N8 (Γ:lQ) (scope:Int) (name:ByteArray):N9 Γ.sc scope name=u6 Γ scope name:=rfl
theorem nfind1_any (S:Nat->Prop) (x:Nd) (cs:List Value) (a:Addr) (pre name:ByteArray) (scope:Int) (b1 b2:Nat) (w:World) (hx:Trs.at S w x.tr cs) (hc:i7 w a cs) (h1:Blk w b1 #[.int .i64 scope] 3) (h2:Blk w b2 #[.string name] 9) (hp:pre.size<=9007199254740992) (hn:name.size<=1000000) :
 Calls Tryz.prog 181 (#[.pointer (some a),.string pre]++#[.pointer (some ⟨b1,0,none⟩),.pointer (some ⟨b2,0,none⟩)]) w (BoolB (decide (x.scope=scope)&&fW x.id (pre++name)) w):=by
 obtain⟨C1,C2,C3,C4,C5,q1,q2,q3,q4,q5,rfl,-,-,-,-,-⟩:=mE hx;obtain⟨e0,e1,e2,e3,e4,e5,e6,e7,e8,e9,e10⟩:=EW hc;have m1:=i9 h1;have m2:=i9 h2;have HT:=Hd (jL x.id (pre++name));clear hx hc h1 h2;simp only[bV,bS,bM,bP];by_cases hs:x.scope=scope
 .have hq:(x.scope==scope)=true:=by simpa using hs
  have HE:Hid ((decide (x.scope=scope)&&fW x.id (pre++name))=(x.id.toList==(pre++name).toList)):=Hd (by rw[HT.o,decide_eq_true hs];rfl);clear hs;go_enter Tryz.func181,Tryz.ntmps181;go_wp2_with fail;go_quiet (fail);go_wp2;go_ret;exact⟨by rw[HE.o];try rfl,(aB _ w).drewN _⟩
 have hq:(x.scope==scope)=false:=by simpa using hs
 have HE:Hid ((decide (x.scope=scope)&&fW x.id (pre++name))=false):=Hd (by rw[decide_eq_false hs];rfl);clear hs;go_enter Tryz.func181,Tryz.ntmps181;go_wp2_with fail;go_quiet (fail);go_wp2;go_ret;exact⟨by rw[HE.o];try rfl,(aB _ w).drewN _⟩
theorem GE (S:Nat->Prop) (SA NA:Option Addr) (sC nC:Nat) (sc:List Sc) (nd:List Nd) (scope:Int) (name:ByteArray) (w:World) (hsc:Ls S w 7 144 Sc.tr SA sC sc) (hnd:Ls S w 11 200 Nd.tr NA nC nd)
 (hsn:sc.length<=1000000) (hnn:nd.length<=1000000) (hn:name.size<=1000000) (hp:∀ s∈sc,s.pre.size<=9007199254740992) :
 Calls Tryz.prog 136 #[.agg #[.slice SA sc.length sC,.slice NA nd.length nC],.int .i64 scope,.string name] w (PosB (OK sc nd scope name) w):=by
 obtain⟨W3,hW3⟩:∃ W3,W3=((w.alloc (.cells #[.slice SA sc.length sC,.slice NA nd.length nC] 36)).alloc (.cells #[.int .i64 scope] 3)).alloc (.cells #[.string name] 9):=⟨_,rfl⟩;have hb1:Below w.heap.size w W3:=by rw[hW3];exact(((aB _ w).alloc (aA _) _).alloc (by simp) _).alloc (by simp;omega) _
 have hfb:Blk W3 w.heap.size #[.slice SA sc.length sC,.slice NA nd.length nC] 36:=by rw[hW3];exact((aJ w _ _).alloc _).alloc _
 have hs1:Blk W3 (w.heap.size+1) #[.int .i64 scope] 3:=by
  rw[hW3];have:=aJ (w.alloc (.cells #[.slice SA sc.length sC,.slice NA nd.length nC] 36)) #[.int .i64 scope] 3;rw[show (w.alloc (.cells #[.slice SA sc.length sC,.slice NA nd.length nC] 36)).heap.size=w.heap.size+1 by simp] at this;exact this.alloc _
 have hs2:Blk W3 (w.heap.size+1+1) #[.string name] 9:=by
  rw[hW3];have:=aJ ((w.alloc (.cells #[.slice SA sc.length sC,.slice NA nd.length nC] 36)).alloc (.cells #[.int .i64 scope] 3)) #[.string name] 9;rwa [show ((w.alloc (.cells #[.slice SA sc.length sC,.slice NA nd.length nC] 36)).alloc (.cells #[.int .i64 scope] 3)).heap.size=w.heap.size+1+1 by simp] at this
 have HCL:=Hd (GW S w.heap.size SA NA NA sC nd.length nC nC sc nd scope 181 #[.pointer (some ⟨w.heap.size+1,0,none⟩),.pointer (some ⟨w.heap.size+1+1,0,none⟩)] (fun s n=>decide (n.scope=scope)&&fW n.id (s.pre++name)) W3 hfb (hsc.below hb1) (hnd.below hb1) hsn hnn (callFunc_go Tryz.func181 rfl rfl)
  (fun s hs ad i x hA hx w' hb=>by
    obtain⟨ad',cs,e,ht,hc⟩:=((hnd.below hb1).below hb).elem Nd.trlen hx;rw[hA] at e;injection e with e;subst e;exact nfind1_any S x cs (ad.add (i*11)) s.pre name scope _ _ w' ht hc (hs1.below hb) (hs2.below hb) (by
     unfold scL at hs;split at hs
     .exact hp s (aD hs)
     cases hs) hn))
 have HB1:=Hd hb1;have HW3:=Hd hW3;obtain⟨f0,f1⟩:=gO hfb;have f2:=i9 hs1;have HE:Hid (posF sc nd scope (fun s n=>decide (n.scope=scope)&&fW n.id (s.pre++name))=OK sc nd scope name):=Hd rfl;rw[HE.o] at HCL;obtain⟨o,ho⟩:∃ o,o=OK sc nd scope name:=⟨_,rfl⟩;rw[<-ho] at HCL ⊢;clear hsc hnd hb1 hfb hs1 hs2 hW3 HE ho hp;go_enter Tryz.func136,Tryz.ntmps136;go_upto_region 1 with fail;rw[<-HW3.o];go_wp2_with fail;refine HCL.o.mono ?_;rintro e w4 ⟨rfl,hb4⟩;have HB4:=Hd (HB1.o.trans (hb4.mono HB1.o.size));clear hb4;go_wp2_with fail;refine bodyPost_ret (v:=.tuple #[.int .i64 ((o.getD 0:Nat):Int),.bool o.isSome]) (by simp[results,Tryz.results136,go_sem]) rfl ?_;exact⟨rfl,HB4.o⟩
theorem ninner1_any (S:Nat->Prop) (x:Sc) (cs:List Value) (a:Addr) (pre name:ByteArray) (scope:Int) (b1 b2:Nat) (w:World) (hx:Trs.at S w x.tr cs) (hc:i7 w a cs) (h1:Blk w b1 #[.int .i64 scope] 3) (h2:Blk w b2 #[.string name] 9) (hp:pre.size<=9007199254740992) (hn:name.size<=1000000) :
 Calls Tryz.prog 138 (#[.pointer (some a),.string pre]++#[.pointer (some ⟨b1,0,none⟩),.pointer (some ⟨b2,0,none⟩)]) w (BoolB (decide (x.parent=scope)&&fW x.pre (pre++name++oJ)) w):=by
 obtain⟨B1,B2,B3,B4,B5,d1,d2,d3,d4,d5,rfl,-,-,-,-,-,-⟩:=jA hx;obtain⟨e0,e1,e2,e3,e4,e5,e6⟩:=lO hc;have m1:=i9 h1;have m2:=i9 h2;have HT:=Hd (jL x.pre (pre++name++oJ));clear hx hc h1 h2;simp only[bV,bS,bM,bP];by_cases hs:x.parent=scope
 .have hq:(x.parent==scope)=true:=by simpa using hs
  have HE:Hid ((decide (x.parent=scope)&&fW x.pre (pre++name++oJ))=(x.pre.toList==(pre++name++oJ).toList)):=Hd (by rw[HT.o,decide_eq_true hs];rfl);clear hs;go_enter Tryz.func138,Tryz.ntmps138;go_wp2_with fail;go_quiet (fail);go_wp2;go_ret;exact⟨by rw[HE.o];try rfl,(aB _ w).drewN _⟩
 have hq:(x.parent==scope)=false:=by simpa using hs
 have HE:Hid ((decide (x.parent=scope)&&fW x.pre (pre++name++oJ))=false):=Hd (by rw[decide_eq_false hs];rfl);clear hs;go_enter Tryz.func138,Tryz.ntmps138;go_wp2_with fail;go_quiet (fail);go_wp2;go_ret;exact⟨by rw[HE.o];try rfl,(aB _ w).drewN _⟩
theorem CM (S:Nat->Prop) (SA NA:Option Addr) (sC nC:Nat) (sc:List Sc) (nd:List Nd) (scope:Int) (name:ByteArray) (w:World) (hsc:Ls S w 7 144 Sc.tr SA sC sc) (hnd:Ls S w 11 200 Nd.tr NA nC nd)
 (hsn:sc.length<=1000000) (hnn:nd.length<=1000000) (hn:name.size<=1000000) (hp:∀ s∈sc,s.pre.size<=9007199254740992) :
 Calls Tryz.prog 93 #[.agg #[.slice SA sc.length sC,.slice NA nd.length nC],.int .i64 scope,.string name] w (PosB (N9 sc scope name) w):=by
 obtain⟨W3,hW3⟩:∃ W3,W3=((w.alloc (.cells #[.slice SA sc.length sC,.slice NA nd.length nC] 36)).alloc (.cells #[.int .i64 scope] 3)).alloc (.cells #[.string name] 9):=⟨_,rfl⟩;have hb1:Below w.heap.size w W3:=by rw[hW3];exact(((aB _ w).alloc (aA _) _).alloc (by simp) _).alloc (by simp;omega) _
 have hfb:Blk W3 w.heap.size #[.slice SA sc.length sC,.slice NA nd.length nC] 36:=by rw[hW3];exact((aJ w _ _).alloc _).alloc _
 have hs1:Blk W3 (w.heap.size+1) #[.int .i64 scope] 3:=by
  rw[hW3];have:=aJ (w.alloc (.cells #[.slice SA sc.length sC,.slice NA nd.length nC] 36)) #[.int .i64 scope] 3;rw[show (w.alloc (.cells #[.slice SA sc.length sC,.slice NA nd.length nC] 36)).heap.size=w.heap.size+1 by simp] at this;exact this.alloc _
 have hs2:Blk W3 (w.heap.size+1+1) #[.string name] 9:=by
  rw[hW3];have:=aJ ((w.alloc (.cells #[.slice SA sc.length sC,.slice NA nd.length nC] 36)).alloc (.cells #[.int .i64 scope] 3)) #[.string name] 9;rwa [show ((w.alloc (.cells #[.slice SA sc.length sC,.slice NA nd.length nC] 36)).alloc (.cells #[.int .i64 scope] 3)).heap.size=w.heap.size+1+1 by simp] at this
 have HCL:=Hd (GU S w.heap.size SA NA SA sC nd.length nC sC sc sc scope 138 #[.pointer (some ⟨w.heap.size+1,0,none⟩),.pointer (some ⟨w.heap.size+1+1,0,none⟩)] (fun s n=>decide (n.parent=scope)&&fW n.pre (s.pre++name++oJ)) W3 hfb (hsc.below hb1) (hsc.below hb1) hsn hsn (callFunc_go Tryz.func138 rfl rfl)
  (fun s hs ad i x hA hx w' hb=>by
    obtain⟨ad',cs,e,ht,hc⟩:=((hsc.below hb1).below hb).elem dS hx;rw[hA] at e;injection e with e;subst e;exact ninner1_any S x cs (ad.add (i*7)) s.pre name scope _ _ w' ht hc (hs1.below hb) (hs2.below hb) (by
     unfold scL at hs;split at hs
     .exact hp s (aD hs)
     cases hs) hn))
 have HB1:=Hd hb1;have HW3:=Hd hW3;obtain⟨f0,f1⟩:=gO hfb;have f2:=i9 hs1;have HE:Hid (posF sc sc scope (fun s n=>decide (n.parent=scope)&&fW n.pre (s.pre++name++oJ))=N9 sc scope name):=Hd rfl;rw[HE.o] at HCL;obtain⟨o,ho⟩:∃ o,o=N9 sc scope name:=⟨_,rfl⟩;rw[<-ho] at HCL ⊢;clear hsc hnd hb1 hfb hs1 hs2 hW3 HE ho hp;go_enter Tryz.func93,Tryz.ntmps93;go_upto_region 1 with fail;rw[<-HW3.o];go_wp2_with fail;refine HCL.o.mono ?_;rintro e w4 ⟨rfl,hb4⟩;have HB4:=Hd (HB1.o.trans (hb4.mono HB1.o.size));clear hb4;go_wp2_with fail;refine bodyPost_ret (v:=.tuple #[.int .i64 ((o.getD 0:Nat):Int),.bool o.isSome]) (by simp[results,Tryz.results93,go_sem]) rfl ?_;exact⟨rfl,HB4.o⟩
