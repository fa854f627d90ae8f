/- Part of the proof. -/
import Derived.Test.YtgdfkbalnpfdgaaGreatDoorDjT
import Derived.Test.YtgdfkbalnpfdgaaGreatDoorDfA
set_option linter.unusedVariables false
set_option linter.unusedSimpArgs false
namespace Go.Proofs.YtgdfkbalnpfdgaaGreatDoor
open Go.RowKit
theorem xW_exOk:∀ (k:Nat) (x:Ex),xW k x≤9999→exOk x
 | 0,x,h=>by simp[xW] at h
 | k+1,x,h=>by
   simp only[xW] at h
   split at h
   ·omega
   ·next hl =>
    have h1:=efold_ge (f:=xW k) x.l (1+min (x.text.size+x.name.size+x.attr.size) 10000)
    have h2:=efold_sum (f:=xW k) x.l (1+min (x.text.size+x.name.size+x.attr.size) 10000) (by omega)
    have h4:=@Nat.min_def (x.text.size+x.name.size+x.attr.size) 10000
    refine exOk.mk ?_ ?_ (by omega) (fun y hy=>xW_exOk k y (by have:=sum_mem_le (f:=xW k) hy;omega))
    all_goals (split at h4<;>omega)
theorem xGreat_exOk {x : Ex} (h : xGreat x = false) : exOk x := xW_exOk 30 x (by have : ¬ 3000 < xW 30 x := by simpa [xGreat] using h
                                                                                 omega)
theorem prGo_ok:∀ (l:List Pr) (n m:Nat),prGo n l=some m→∀ p∈l,exOk p.e
 | [],n,m,_=>fun p hp=>by cases hp
 | q::r,n,m,h=>by
   simp only[prGo] at h
   split at h
   ·cases h
   ·next hx =>
    intro p hp
    rcases List.mem_cons.1 hp with rfl | hp
    ·exact xGreat_exOk (by simpa using hx)
    ·exact prGo_ok r _ m h p hp
theorem ouGo_ok:∀ (l:List Ou) (n:Nat),ouGo n l≤3000→∀ o∈l,exOk o.e
 | [],n,_=>fun p hp=>by cases hp
 | q::r,n,h=>by
   simp only[ouGo] at h
   split at h
   ·omega
   ·next hx =>
    intro p hp
    rcases List.mem_cons.1 hp with rfl | hp
    ·exact xGreat_exOk (by simpa using hx)
    ·exact ouGo_ok r _ h p hp
def Tm.gd:Nat→Tm→Prop
 | 0,_=>False
 | k+1,t=>pmsGreat t.params=false∧csGreat t.conds=false∧t.params.length≤60∧t.outs.length≤60∧(∀ o∈t.outs,exOk o.e)∧t.res.length≤60 ∧
     ∀ r∈t.res,r.props.length≤60∧(∀ p∈r.props,exOk p.e)∧rZ r∧∀ t'∈r.inner,Tm.gd k t'
theorem tW_gd:∀ (k:Nat) (t:Tm),tW k t≤3000→t.gd k
 | 0,t,h=>by simp[tW] at h
 | k+1,t,h=>by
   obtain⟨hrl,hok⟩:=ok_rs (tW_ok (k+1) t h)
   simp only[tW] at h
   split at h
   ·omega
   ·next hg =>
    have hp:pmsGreat t.params=false:=by cases hq:pmsGreat t.params with | false=>rfl | true=>exact absurd (by simp[hq]) hg
    have hc:csGreat t.conds=false:=by cases hq:csGreat t.conds with | false=>rfl | true=>exact absurd (by simp[hq]) hg
    have key:∀ (l:List Rs) (n:Nat),rsGo (tW k) t.outs n l≤3000→(∀ r∈l,(∀ p∈r.props,exOk p.e)∧∀ t'∈r.inner,tW k t'≤3000)∧∀ o∈t.outs,exOk o.e:=by
     intro l
     induction l with
     | nil=>intro n h;exact⟨fun r hr=>(by cases hr),ouGo_ok _ n h⟩
     | cons r rs ih =>
       intro n h
       simp only[rsGo] at h
       split at h
       ·omega
       ·split at h
        ·omega
        ·next m hm =>
         split at h
         ·omega
         ·have h2:=rsGo_ge (tW k) t.outs rs _ h
          have h3:=ih _ h
          refine⟨fun r' hr'=>?_,h3.2⟩
          rcases List.mem_cons.1 hr' with rfl | hr'
          ·have h4:=efold_sum (f:=tW k) r'.inner (m+(r'.depends.map fun s=>min s.size 10000).sum) (by omega)
           refine⟨prGo_ok _ _ _ hm,fun t' ht'=>?_⟩
           have h6:=sum_mem_le (f:=tW k) ht'
           omega
          ·exact h3.1 r' hr'
    obtain⟨h5,h6⟩:=key _ _ h
    refine⟨hp,hc,by omega,by omega,h6,hrl,fun r hr=>?_⟩
    obtain⟨k1,k2,k3,k4,k5,k6⟩:=hok r hr
    exact⟨k1,(h5 r hr).1,⟨k4,k2,k5⟩,fun t' ht'=>tW_gd k t' ((h5 r hr).2 t' ht')⟩
theorem pm_smalls {l:List Pm} (h:pmsGreat l=false):l.length≤40∧∀ p∈l,pSmall p:=by
 unfold pmsGreat at h
 simp only[Bool.or_eq_false_iff,decide_eq_false_iff_not] at h
 refine⟨by omega,fun p hp=>?_⟩
 have h2:=(List.any_eq_false.1 h.2) p hp
 unfold pmGreat at h2
 simp only[Bool.or_eq_true,decide_eq_true_eq,not_or,Bool.not_eq_true] at h2
 obtain⟨⟨⟨h3,h4⟩,h5⟩,h6⟩:=h2
 exact⟨by omega,small_of h3,fun v hv=>small_of (by simpa using (List.any_eq_false.1 h6) v hv)⟩
def scD (s:Sc):Prop:=(s.t.params.length≤400∧s.args.length≤400∧s.t.outs.length≤400)∧s.t.conds.length≤1000000∧CsOk s.t.conds∧(∀ p∈s.t.params,pSmall p)∧(∀ a∈s.args,exOk a.e)∧∀ o∈s.t.outs,exOk o.e
def ndD (n:Nd):Prop:=(n.id.size≤20000∧n.after.length≤300∧∀ a∈n.after,a.size≤60000)∧n.guards.length≤1000∧n.r.props.length≤1000∧∀ p∈n.r.props,exOk p.e
def ndE (n:Nd):Prop:=n.guards.length≤1000∧n.r.props.length≤1000∧n.after.length≤100000∧∀ p∈n.r.props,exOk p.e
theorem ndD_E (n:Nd) (af:List ByteArray) (h:ndD n) (ha:af.length≤5100):ndE ⟨n.id,n.scope,n.r,n.guards,af⟩:=⟨h.2.1,h.2.2.1,by show af.length≤_;omega,h.2.2.2⟩
theorem scD_of {k:Nat} {t:Tm} (h:t.gd (k+1)) {z:Int} {pre:ByteArray} {args:List Pr} (ha:args.length≤60) (he:∀ a∈args,exOk a.e):scD ⟨z,pre,bareT t,args⟩:=by
 obtain⟨h1,h2,h3,h4,h5,-⟩:=h
 obtain⟨c1,c2⟩:=cs_ok h2
 exact⟨⟨by show t.params.length≤_;omega,by show args.length≤_;omega,by show t.outs.length≤_;omega⟩,by show t.conds.length≤_;omega,c2,(pm_smalls h1).2,he,h5⟩
theorem TmZ_of:∀ (k d j:Nat) (t:Tm),k+d≤4→t.gd (k+j+1)→TmZ scD ndD k d t
 | 0,d,j,t,hd,h=>by
   obtain⟨-,-,-,-,-,h6,h7⟩:=h
   refine⟨by omega,fun r hr=>?_⟩
   obtain⟨h8,h9,h10,h11⟩:=h7 r hr
   exact⟨h10,fun id z gs af hi hg ha hs=>⟨⟨hi,by show af.length≤_;omega,hs⟩,by show gs.length≤_;omega,by show r.props.length≤_;omega,h9⟩⟩
 | k+1,d,j,t,hd,h=>by
   obtain⟨-,-,-,-,-,h6,h7⟩:=h
   refine⟨by omega,fun r hr=>?_⟩
   obtain⟨h8,h9,h10,h11⟩:=h7 r hr
   refine⟨⟨h10,fun id z gs af hi hg ha hs=>⟨⟨hi,by show af.length≤_;omega,hs⟩,by show gs.length≤_;omega,by show r.props.length≤_;omega,h9⟩⟩,fun τ hτ=>?_⟩
   have h12:τ.gd (k+j+1):=by
    have:=h11 τ hτ
    rwa [show k+1+j=k+j+1 by omega] at this
   exact⟨fun z pre _=>scD_of h12 h8 h9,TmZ_of k (d+1) j τ (by omega) h12⟩
theorem flatOk_of {sc:List Sc} {nd:List Nd} (h1:sc.length≤1000) (h2:nd.length≤1000) (h3:∀ s∈sc,scD s∧s.pre.size≤40000) (h4:∀ n∈nd,ndE n):FlatOk sc nd where
 scl:=h1
 ndl:=h2
 par:=fun s hs=>by obtain⟨⟨⟨a,b,c⟩,-⟩,d⟩:=h3 s hs;exact⟨a,b,c,by omega⟩
 gd:=fun n hn=>by have:=(h4 n hn).1;omega
 cn:=fun s hs=>(h3 s hs).1.2.1
 co:=fun s hs=>(h3 s hs).1.2.2.1
 ps:=fun s hs=>by obtain⟨⟨⟨a,b,c⟩,-,-,d,-⟩,-⟩:=h3 s hs;exact⟨by omega,d,by omega⟩
 ex:=fun s hs=>(h3 s hs).1.2.2.2.2
 nx:=fun n hn=>by obtain⟨a,b,c,d⟩:=h4 n hn;exact⟨b,by omega,d⟩
end Go.Proofs.YtgdfkbalnpfdgaaGreatDoor
