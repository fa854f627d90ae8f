/- Part of the proof. -/
import Derived.Test.YtgdfkbalnpfdgaaGreatDoorNs1
import Derived.Maps.OwnSet
import Derived.Maps.OwnOps
import Derived.Maps.Views
import Derived.StringKeys
set_option linter.unusedVariables false
set_option linter.unusedSimpArgs false
namespace Go.Proofs.YtgdfkbalnpfdgaaGreatDoor
structure Ar where
 scope:Nat
 guards:List Gd
 after:List ByteArray
 depth:Nat
structure BS where
 sc:List Sc
 nd:List Nd
 wt:List (List ByteArray)
def stackT:ByteArray:=⟨#[83,116,97,99,107]⟩
def gOf (x:Ar) (r:Rs):List Gd:=if bEq r.cond ByteArray.empty then x.guards else x.guards++[⟨x.scope,r.cond⟩]
def aOf (pre:ByteArray) (x:Ar) (r:Rs):List ByteArray:=x.after++r.depends.map fun d=>pre++d
def bareT (t:Tm):Tm:=⟨t.params,t.conds,[],t.outs⟩
def yOf (pre:ByteArray) (x:Ar) (r:Rs) (n:Nat):Ar:=⟨n,gOf x r,aOf pre x r,x.depth+1⟩
def BS.node (s:BS) (pre:ByteArray) (x:Ar) (r:Rs):BS:=⟨s.sc,s.nd++[⟨pre++r.id,x.scope,r,gOf x r,[]⟩],s.wt++[aOf pre x r]⟩
def BS.scope (s:BS) (pre:ByteArray) (x:Ar) (r:Rs) (t:Tm):BS:=⟨s.sc++[⟨x.scope,pre++r.id++dot,bareT t,r.props⟩],s.nd,s.wt⟩
def rsPut (f:Tm→Ar→BS→Option BS) (pre:ByteArray) (x:Ar):List Rs→BS→Option BS
 | [],s=>some s
 | r::rs,s =>
   if bEq r.type stackT then
    match r.inner with
    | [t]=>if x.depth=2 then none else
      match f t (yOf pre x r s.sc.length) (s.scope pre x r t) with
      | none=>none
      | some s'=>rsPut f pre x rs s'
    | _=>none
   else if 0<r.inner.length then none else rsPut f pre x rs (s.node pre x r)
def putF:Nat→Tm→Ar→BS→Option BS
 | 0,_,_,_=>none
 | k+1,t,x,s=>rsPut (putF k) ((s.sc[x.scope]?.map Sc.pre).getD ByteArray.empty) x t.res s
def cp:Nat→Nat
 | 0=>250000
 | 1=>4000
 | 2=>60
 | _=>0
def BS.big (s:BS) (n:Nat):Prop:=s.sc.length≤n∧s.nd.length≤n∧s.wt.length≤n
structure Ar.ok (x:Ar) (s:BS):Prop where
 depth:x.depth≤2
 guards:x.guards.length≤x.depth
 after:x.after.length≤60*x.depth
 sizes:∀ d∈x.after,d.size≤20000
 names:∀ g∈x.guards,g.name.size≤20000∧0≤g.scope∧g.scope≤1000000
 scope:∃ c,s.sc[x.scope]?=some c∧c.pre.size≤3002*x.depth
structure BS.ok (s:BS):Prop where
 ids:∀ n∈s.nd,n.id.size≤20000
 wts:∀ l∈s.wt,l.length≤180∧∀ d∈l,d.size≤20000
 len:s.wt.length=s.nd.length
 afs:∀ n∈s.nd,n.after=[]
def rOk (k:Nat) (r:Rs):Prop:=r.props.length≤60∧r.depends.length≤60∧r.inner.length≤3∧r.id.size+r.type.size+r.cond.size≤3000∧(∀ d∈r.depends,d.size≤3000)∧∀ t'∈r.inner,Tm.ok k t'
theorem size_app (a b:ByteArray):(a++b).size=a.size+b.size:=ByteArray.size_append
theorem gOf_len (x:Ar) (r:Rs):(gOf x r).length≤x.guards.length+1:=by unfold gOf;split<;>simp
theorem aOf_len (pre:ByteArray) (x:Ar) (r:Rs):(aOf pre x r).length=x.after.length+r.depends.length:=by unfold aOf;simp
theorem aOf_sizes {pre:ByteArray} {x:Ar} {r:Rs} {s:BS} {k:Nat} (hx:x.ok s) (hp:pre.size≤3002*x.depth) (hr:rOk k r):∀ d∈aOf pre x r,d.size≤20000:=by
 intro d hd
 unfold aOf at hd
 rcases List.mem_append.1 hd with hd | hd
 ·exact hx.sizes d hd
 ·obtain⟨d',h1,rfl⟩:=List.mem_map.1 hd
  have:=hr.2.2.2.2.1 d' h1
  have:=hx.depth
  rw[size_app];omega
theorem gOf_names {x:Ar} {r:Rs} {s:BS} {k:Nat} (hx:x.ok s) (hr:rOk k r) (hs:x.scope≤1000000):∀ g∈gOf x r,g.name.size≤20000∧0≤g.scope∧g.scope≤1000000:=by
 intro g hg
 unfold gOf at hg
 split at hg
 ·exact hx.names g hg
 ·rcases List.mem_append.1 hg with hg | hg
  ·exact hx.names g hg
  ·rw[List.mem_singleton] at hg;subst hg
   have:=hr.2.2.2.1
   exact⟨by show r.cond.size≤20000;omega,by show (0:Int)≤(x.scope:Int);omega,by show (x.scope:Int)≤1000000;omega⟩
theorem BS.node_ok {s:BS} {pre:ByteArray} {x:Ar} {r:Rs} {k:Nat} (h:s.ok) (hx:x.ok s) (hp:pre.size≤3002*x.depth) (hr:rOk k r):(s.node pre x r).ok:=by
 have hd:=hx.depth
 refine⟨fun n hn=>?_,fun l hl=>?_,by simp[BS.node,h.len],fun n hn=>?_⟩
 ·rcases List.mem_append.1 hn with hn | hn
  ·exact h.ids n hn
  ·rw[List.mem_singleton] at hn;subst hn
   have:=hr.2.2.2.1
   show (pre++r.id).size≤20000
   rw[size_app];omega
 ·rcases List.mem_append.1 hl with hl | hl
  ·exact h.wts l hl
  ·rw[List.mem_singleton] at hl;subst hl
   refine⟨?_,aOf_sizes hx hp hr⟩
   have:=hx.after
   have:=hr.2.1
   rw[aOf_len];omega
 ·rcases List.mem_append.1 hn with hn | hn
  ·exact h.afs n hn
  ·rw[List.mem_singleton] at hn;subst hn;rfl
theorem BS.scope_ok {s:BS} {pre:ByteArray} {x:Ar} {r:Rs} {t:Tm} (h:s.ok):(s.scope pre x r t).ok:=⟨h.ids,h.wts,h.len,h.afs⟩
theorem yOf_ok {s:BS} {pre:ByteArray} {x:Ar} {r:Rs} {t:Tm} {k:Nat} (hx:x.ok s) (hp:pre.size≤3002*x.depth) (hr:rOk k r) (hd:x.depth≠2) (hs:x.scope≤1000000):(yOf pre x r s.sc.length).ok (s.scope pre x r t):=by
 have h1:=hx.depth
 have h2:=hx.guards
 have h3:=hx.after
 have h4:=gOf_len x r
 have h5:=hr.2.1
 have h6:=hr.2.2.2.1
 refine⟨by show x.depth+1≤2;omega,by show (gOf x r).length≤x.depth+1;omega,?_,aOf_sizes hx hp hr,gOf_names hx hr hs,?_⟩
 ·show (aOf pre x r).length≤60*(x.depth+1)
  rw[aOf_len];omega
 ·refine⟨⟨x.scope,pre++r.id++dot,bareT t,r.props⟩,by simp[BS.scope,yOf],?_⟩
  show (pre++r.id++dot).size≤3002*(x.depth+1)
  rw[size_app,size_app]
  have:dot.size=1:=rfl
  omega
theorem Ar.ok.more {x:Ar} {s s':BS} (h:x.ok s) (hp:∃ l,s'.sc=s.sc++l):x.ok s':=by
 obtain⟨l,hl⟩:=hp
 obtain⟨c,h1,h2⟩:=h.scope
 exact⟨h.depth,h.guards,h.after,h.sizes,h.names,c,by rw[hl,List.getElem?_append_left (List.getElem?_eq_some_iff.1 h1).1];exact h1,h2⟩
structure Put (s s':BS) (n:Nat):Prop where
 ok:s'.ok
 sc:∃ l,s'.sc=s.sc++l
 big:s'.sc.length≤s.sc.length+n∧s'.nd.length≤s.nd.length+n∧s'.wt.length≤s.wt.length+n
theorem put_rs {f:Tm→Ar→BS→Option BS} {pre:ByteArray} {x:Ar} {k:Nat} (hpre:pre.size≤3002*x.depth) (hxs:x.scope≤1000000)
 (hf:x.depth<2→∀ (t:Tm) (y:Ar) (s s':BS),Tm.ok k t→y.depth=x.depth+1→y.ok s→s.ok→s.sc.length+cp (x.depth+1)≤1000000→f t y s=some s'→Put s s' (cp (x.depth+1))) :
 ∀ (l:List Rs) (s s':BS),(∀ r∈l,rOk k r)→x.ok s→s.ok→s.sc.length+l.length*(1+cp (x.depth+1))≤1000000→rsPut f pre x l s=some s'→Put s s' (l.length*(1+cp (x.depth+1)))
 | [],s,s',_,_,hs,_,h=>by
   simp only[rsPut,Option.some.injEq] at h
   subst h
   exact⟨hs,⟨[],by simp⟩,by simp⟩
 | r::l,s,s',hl,hx,hs,hb,h=>by
   have hr:=hl r (by simp)
   simp only[List.length_cons,Nat.succ_mul] at hb
   have hd:=hx.depth
   simp only[rsPut] at h
   split at h
   ·split at h
    ·next t ht =>
     split at h
     ·cases h
     ·next hd2 =>
      split at h
      ·cases h
      ·next s1 hs1 =>
       have h1:=hf (by omega) t _ _ _ (hr.2.2.2.2.2 t (by rw[ht];simp)) rfl (yOf_ok hx hpre hr hd2 hxs) (BS.scope_ok hs) (by simp only[BS.scope,List.length_append,List.length_cons,List.length_nil];omega) hs1
       have hx1:x.ok s1:=hx.more (by obtain⟨l1,hl1⟩:=h1.sc;exact⟨_,by rw[hl1,BS.scope,List.append_assoc]⟩)
       have h2:=put_rs hpre hxs hf l s1 s' (fun r' hr'=>hl r' (by simp[hr'])) hx1 h1.ok (by have:=h1.big.1;simp only[BS.scope,List.length_append,List.length_cons,List.length_nil] at this;omega) h
       obtain⟨l1,hl1⟩:=h1.sc
       obtain⟨l2,hl2⟩:=h2.sc
       obtain⟨a1,a2,a3⟩:=h1.big
       obtain⟨b1,b2,b3⟩:=h2.big
       refine⟨h2.ok,⟨_,by rw[hl2,hl1,BS.scope,List.append_assoc,List.append_assoc]⟩,?_⟩
       simp only[BS.scope,List.length_append,List.length_cons,List.length_nil] at a1 a2 a3
       simp only[List.length_cons,Nat.succ_mul]
       omega
    ·cases h
   ·split at h
    ·cases h
    ·have h2:=put_rs hpre hxs hf l _ s' (fun r' hr'=>hl r' (by simp[hr'])) (hx.more ⟨[],by simp[BS.node]⟩) (BS.node_ok hs hx hpre hr) (by show s.sc.length+_≤_;omega) h
     obtain⟨l2,hl2⟩:=h2.sc
     obtain⟨b1,b2,b3⟩:=h2.big
     refine⟨h2.ok,⟨l2,by rw[hl2,BS.node]⟩,?_⟩
     simp only[BS.node,List.length_append,List.length_cons,List.length_nil] at b1 b2 b3
     simp only[List.length_cons,Nat.succ_mul]
     omega
theorem pre_of {s:BS} {x:Ar} (hx:x.ok s):((s.sc[x.scope]?.map Sc.pre).getD ByteArray.empty).size≤3002*x.depth:=by
 obtain⟨c,h1,h2⟩:=hx.scope
 rw[h1];exact h2
theorem ok_rs {k:Nat} {t:Tm} (h:t.ok (k+1)):t.res.length≤60∧∀ r∈t.res,rOk k r:=h
theorem put_put:∀ (k:Nat) (t:Tm) (x:Ar) (s s':BS),t.ok k→x.ok s→s.ok→s.sc.length+cp x.depth≤1000000→putF k t x s=some s'→Put s s' (cp x.depth)
 | 0,t,x,s,s',ht,_,_,_,_=>by simp[Tm.ok] at ht
 | k+1,t,x,s,s',ht,hx,hs,hb,h=>by
   obtain⟨h1,h2⟩:=ok_rs ht
   have hd:=hx.depth
   have hsc:x.scope≤1000000:=by
    obtain⟨c,hc,_⟩:=hx.scope
    have:=(List.getElem?_eq_some_iff.1 hc).1
    omega
   have hlen:t.res.length*(1+cp (x.depth+1))≤cp x.depth:=by
    match hx':x.depth,hd with
    | 0, _ => have : cp (0 + 1) = 4000 := rfl
              have:cp 0=250000:=rfl
              rw[‹cp (0+1)=4000›,‹cp 0=250000›];omega
    | 1, _ => have h3 : cp (1 + 1) = 60 := rfl
              have h4:cp 1=4000:=rfl
              rw[h3,h4];omega
    | 2, _ => have h3 : cp (2 + 1) = 0 := rfl
              have h4:cp 2=60:=rfl
              rw[h3,h4];omega
   have:=put_rs (f:=putF k) (pre_of hx) hsc (fun _ t' y s1 s2 ht' hy hyo hs1 hb1 h'=>by
    have:=put_put k t' y s1 s2 ht' hyo hs1 (by rw[hy];exact hb1) h'
    rwa [hy] at this) t.res s s' h2 hx hs (by omega) h
   obtain⟨p1,p2,p3⟩:=this
   exact⟨p1,p2,by omega⟩
open Go.RowKit
def Sf (B:Nat) (F:Nat→Prop) (w:World) (k:Nat):Prop:=¬F k∧k<w.heap.size∧k+1≠B
def Mu (q:Nat) (A1 A2 A3:Option Addr) (k:Nat):Prop:=k=q∨blk A1=some k∨blk A2=some k∨blk A3=some k
structure Go1 (F F':Nat→Prop) (w w':World):Prop where
 only:Only F w w'
 less:∀ k,k<w.heap.size→F' k→F k
theorem Go1.refl (F:Nat→Prop) (w:World):Go1 F F w w:=⟨Only.refl F w,fun _ _ h=>h⟩
theorem Go1.trans {F F' F'':Nat→Prop} {a b c:World} (h:Go1 F F' a b) (k:Go1 F' F'' b c):Go1 F F'' a c :=
 ⟨h.only.trans k.only h.less,fun i hi hf=>h.less i hi (k.less i (Nat.lt_of_lt_of_le hi h.only.size) hf)⟩
theorem Go1.of_below {F:Nat→Prop} {a b:World} (h:Below a.heap.size a b):Go1 F F a b:=⟨Only.of_below h F,fun _ _ h=>h⟩
section
variable {B:Nat} {F F':Nat→Prop} {w w':World}
theorem Go1.sf (h:Go1 F F' w w'):∀ k,Sf B F w k→Sf B F' w' k:=fun k hk=>⟨fun hf=>hk.1 (h.less k hk.2.1 hf),Nat.lt_of_lt_of_le hk.2.1 h.only.size,hk.2.2⟩
theorem Trs.at.go (h:Go1 F F' w w') {ts:List Tr} {vs:List Value} (ht:Trs.at (Sf B F w) w ts vs):Trs.at (Sf B F' w') w' ts vs :=
 Trs.at.keep (fun p hp hs=>cell_only h.only hp hs.1) h.sf ts vs ht
theorem Ls.go {α:Type} {tr:α→List Tr} {sz b c:Nat} {A:Option Addr} {l:List α} (h:Go1 F F' w w') (hl:Ls (Sf B F w) w sz b tr A c l):Ls (Sf B F' w') w' sz b tr A c l :=
 hl.keep (fun p hp hs=>cell_only h.only hp hs.1) h.sf
theorem Blk.go (h:Go1 F F' w w') {q:Nat} {cs:Array Value} {t:TypeId} (hb:Blk w q cs t) (hq:¬F q):Blk w' q cs t:=hb.only h.only hq
theorem Cel.go (h:Go1 F F' w w') {a:Addr} {cs:List Value} (hc:Cel w a cs) (hq:¬F a.block):Cel w' a cs:=fun j u hu=>by
 have h1:=hc j u hu
 rw[cell_only h.only (World.block_lt_of_cell? w _ h1) (by split<;>exact hq)];exact h1
end
theorem Ow.ne {w:World} {B B':Nat} {e e':TypeId} {sz sz' n n' c c':Nat} {A A':Option Addr} {xs xs':List Value} (h:Ow w B e sz A n c xs) (h':Ow w B' e' sz' A' n' c' xs') (hne:e≠e'):blk A=none∨blk A≠blk A':=by
 rcases h.2 with ⟨rfl,_,_⟩ | ⟨g,cur,rfl,_,hg,_⟩
 ·exact .inl rfl
 ·rcases h'.2 with ⟨rfl,_,_⟩ | ⟨g',cur',rfl,_,hg',_⟩
  ·right;simp[blk]
  ·right
   intro he
   simp[blk] at he
   subst he
   rw[hg] at hg'
   injection hg' with hg'
   injection hg' with _ ht
   exact hne ht
structure Rw where
 A1:Option Addr
 c1:Nat
 x1:List Value
 A2:Option Addr
 c2:Nat
 x2:List Value
 A3:Option Addr
 c3:Nat
 x3:List Value
def Rw.mu (R:Rw) (q:Nat):Nat→Prop:=Mu q R.A1 R.A2 R.A3
structure Bd (B:Nat) (w:World) (q:Nat) (R:Rw) (s:BS):Prop where
 box:Blk w q #[.slice R.A1 s.sc.length R.c1,.slice R.A2 s.nd.length R.c2,.slice R.A3 s.wt.length R.c3] 123
 hq:B≤q
 r1:Ow w B 76 7 R.A1 s.sc.length R.c1 R.x1
 r2:Ow w B 80 11 R.A2 s.nd.length R.c2 R.x2
 r3:Ow w B 63 1 R.A3 s.wt.length R.c3 R.x3
 t1:Trs.at (Sf B (R.mu q) w) w (s.sc.flatMap Sc.tr) R.x1
 t2:Trs.at (Sf B (R.mu q) w) w (s.nd.flatMap Nd.tr) R.x2
 t3:Trs.at (Sf B (R.mu q) w) w (s.wt.map sTr) R.x3
 t4:∀ i,i<s.nd.length→R.x2[i*11+10]?=some (.slice none 0 0)
section
variable {B q:Nat} {R:Rw} {s:BS} {w w':World}
theorem Bd.mu_lt (h:Bd B w q R s) {k:Nat} (hk:R.mu q k):B≤k∧k<w.heap.size:=by
 rcases hk with rfl | hk | hk | hk
 ·exact⟨h.hq,h.box.lt⟩
 ·exact h.r1.lt hk
 ·exact h.r2.lt hk
 ·exact h.r3.lt hk
theorem Bd.below (h:Bd B w q R s) (hb:Below w.heap.size w w'):Bd B w' q R s:=by
 have hg:Go1 (R.mu q) (R.mu q) w w':=Go1.of_below hb
 exact⟨h.box.below hb,h.hq,h.r1.below hb,h.r2.below hb,h.r3.below hb,h.t1.go hg,h.t2.go hg,h.t3.go hg,h.t4⟩
theorem mu_step {F:Nat→Prop} {A:Option Addr} {w1 w2:World} (hg:w1.grownBy w2 (blk A)) (i:Nat) (u:Value) (hq:F q) (hA:∀ k,blk A=some k→F k) :
 Only F w1 (w2.setCell ⟨q,i,none⟩ u) :=
 ((Only.of_grown hg).mono (fun k _ e=>hA k e.symm)).setCell _ _ (fun _=>hq)
theorem mu_new {A A':Option Addr} {w1:World} (hat:A'=A∨A'=some ⟨w1.heap.size,0,none⟩) {k:Nat} (hk:k<w1.heap.size) (h:blk A'=some k):blk A=some k:=by
 rcases hat with rfl | rfl
 ·exact h
 ·simp[blk] at h;omega
theorem Bd.add1 (h:Bd B w q R s) {w1 w2:World} (hb:Below w.heap.size w w1) {n:Sc} {cs:List Value} {A':Option Addr} {c':Nat}
 (hn:Trs.at (Sf B (R.mu q) w1) w1 n.tr cs) (ho:Ow w2 B 76 7 A' (s.sc.length+1) c' (R.x1++cs)) (hg:w1.grownBy w2 (blk R.A1)) (hat:A'=R.A1∨A'=some ⟨w1.heap.size,0,none⟩) :
 ∃ R':Rw,Bd B (w2.setCell ⟨q,0,none⟩ (.slice A' (s.sc.length+1) c')) q R' ⟨s.sc++[n],s.nd,s.wt⟩∧Go1 (R.mu q) (R'.mu q) w (w2.setCell ⟨q,0,none⟩ (.slice A' (s.sc.length+1) c')):=by
 have h':=h.below hb
 refine⟨{R with A1:=A',c1:=c',x1:=R.x1++cs},?_⟩
 have hgo:Go1 (R.mu q) (Rw.mu {R with A1:=A',c1:=c',x1:=R.x1++cs} q) w1 (w2.setCell ⟨q,0,none⟩ (.slice A' (s.sc.length+1) c')) :=
  ⟨mu_step hg 0 _ (.inl rfl) (fun k hk=>.inr (.inl hk)),fun k hk hf=>by
    rcases hf with hf | hf | hf | hf
    ·exact .inl hf
    ·exact .inr (.inl (mu_new hat hk hf))
    ·exact .inr (.inr (.inl hf))
    ·exact .inr (.inr (.inr hf))⟩
 have hbq:blk R.A1≠some q:=h'.r1.ne_blk h'.box (by decide)
 have hblk2:=h'.box.grown hg hbq
 have hb2:blk R.A2=none∨blk R.A2≠blk R.A1:=h'.r2.ne h'.r1 (by decide)
 have hb3:blk R.A3=none∨blk R.A3≠blk R.A1:=h'.r3.ne h'.r1 (by decide)
 have k2:=(h'.r2.grown hg hb2).setOther ⟨q,0,none⟩ (.slice A' (s.sc.length+1) c') (h'.r2.ne_blk h'.box (by decide))
 have k3:=(h'.r3.grown hg hb3).setOther ⟨q,0,none⟩ (.slice A' (s.sc.length+1) c') (h'.r3.ne_blk h'.box (by decide))
 have k1:=ho.setOther ⟨q,0,none⟩ (.slice A' (s.sc.length+1) c') (ho.ne_blk hblk2 (by decide))
 have s1:Trs.at (Sf B (Rw.mu {R with A1:=A',c1:=c',x1:=R.x1++cs} q) (w2.setCell ⟨q,0,none⟩ (.slice A' (s.sc.length+1) c'))) (w2.setCell ⟨q,0,none⟩ (.slice A' (s.sc.length+1) c')) ((s.sc++[n]).flatMap Sc.tr) (R.x1++cs):=by
  rw[List.flatMap_append]
  exact Trs.at.app.2 ⟨_,_,rfl,h'.t1.go hgo,by simpa using hn.go hgo⟩
 have s2:=h'.t2.go hgo
 have s3:=h'.t3.go hgo
 exact⟨⟨(hblk2.set 0 _).eq (by simp),h.hq,by rw[List.length_append];exact k1,k2,k3,s1,s2,s3,h.t4⟩,(Go1.of_below hb).trans hgo⟩
theorem Bd.add2 (h:Bd B w q R s) {w1 w2:World} (hb:Below w.heap.size w w1) {n:Nd} {cs:List Value} {A':Option Addr} {c':Nat}
 (hn:Trs.at (Sf B (R.mu q) w1) w1 n.tr cs) (h10:cs[10]?=some (.slice none 0 0)) (ho:Ow w2 B 80 11 A' (s.nd.length+1) c' (R.x2++cs)) (hg:w1.grownBy w2 (blk R.A2)) (hat:A'=R.A2∨A'=some ⟨w1.heap.size,0,none⟩) :
 ∃ R':Rw,Bd B (w2.setCell ⟨q,1,none⟩ (.slice A' (s.nd.length+1) c')) q R' ⟨s.sc,s.nd++[n],s.wt⟩∧Go1 (R.mu q) (R'.mu q) w (w2.setCell ⟨q,1,none⟩ (.slice A' (s.nd.length+1) c')):=by
 have h':=h.below hb
 refine⟨{R with A2:=A',c2:=c',x2:=R.x2++cs},?_⟩
 have hgo:Go1 (R.mu q) (Rw.mu {R with A2:=A',c2:=c',x2:=R.x2++cs} q) w1 (w2.setCell ⟨q,1,none⟩ (.slice A' (s.nd.length+1) c')) :=
  ⟨mu_step hg 1 _ (.inl rfl) (fun k hk=>.inr (.inr (.inl hk))),fun k hk hf=>by
    rcases hf with hf | hf | hf | hf
    ·exact .inl hf
    ·exact .inr (.inl hf)
    ·exact .inr (.inr (.inl (mu_new hat hk hf)))
    ·exact .inr (.inr (.inr hf))⟩
 have hbq:blk R.A2≠some q:=h'.r2.ne_blk h'.box (by decide)
 have hblk2:=h'.box.grown hg hbq
 have hb1:blk R.A1=none∨blk R.A1≠blk R.A2:=h'.r1.ne h'.r2 (by decide)
 have hb3:blk R.A3=none∨blk R.A3≠blk R.A2:=h'.r3.ne h'.r2 (by decide)
 have k1:=(h'.r1.grown hg hb1).setOther ⟨q,1,none⟩ (.slice A' (s.nd.length+1) c') (h'.r1.ne_blk h'.box (by decide))
 have k3:=(h'.r3.grown hg hb3).setOther ⟨q,1,none⟩ (.slice A' (s.nd.length+1) c') (h'.r3.ne_blk h'.box (by decide))
 have k2:=ho.setOther ⟨q,1,none⟩ (.slice A' (s.nd.length+1) c') (ho.ne_blk hblk2 (by decide))
 have s2:Trs.at (Sf B (Rw.mu {R with A2:=A',c2:=c',x2:=R.x2++cs} q) (w2.setCell ⟨q,1,none⟩ (.slice A' (s.nd.length+1) c'))) (w2.setCell ⟨q,1,none⟩ (.slice A' (s.nd.length+1) c')) ((s.nd++[n]).flatMap Nd.tr) (R.x2++cs):=by
  rw[List.flatMap_append]
  exact Trs.at.app.2 ⟨_,_,rfl,h'.t2.go hgo,by simpa using hn.go hgo⟩
 have s1:=h'.t1.go hgo
 have s3:=h'.t3.go hgo
 refine⟨⟨(hblk2.set 1 _).eq (by simp),h.hq,k1,by rw[List.length_append];exact k2,k3,s1,s2,s3,fun i hi=>?_⟩,(Go1.of_below hb).trans hgo⟩
 have hl2:R.x2.length=s.nd.length*11:=h'.r2.rd.len
 rw[List.length_append,List.length_singleton] at hi
 show (R.x2++cs)[i*11+10]?=_
 rcases Nat.lt_or_ge i s.nd.length with h0 | h0
 ·rw[List.getElem?_append_left (by omega)];exact h.t4 i h0
 ·rw[List.getElem?_append_right (by omega),hl2,show i*11+10-s.nd.length*11=10 by omega];exact h10
theorem Bd.add3 (h:Bd B w q R s) {w1 w2:World} (hb:Below w.heap.size w w1) {n:List ByteArray} {cs:List Value} {A':Option Addr} {c':Nat}
 (hn:Trs.at (Sf B (R.mu q) w1) w1 [sTr n] cs) (ho:Ow w2 B 63 1 A' (s.wt.length+1) c' (R.x3++cs)) (hg:w1.grownBy w2 (blk R.A3)) (hat:A'=R.A3∨A'=some ⟨w1.heap.size,0,none⟩) :
 ∃ R':Rw,Bd B (w2.setCell ⟨q,2,none⟩ (.slice A' (s.wt.length+1) c')) q R' ⟨s.sc,s.nd,s.wt++[n]⟩∧Go1 (R.mu q) (R'.mu q) w (w2.setCell ⟨q,2,none⟩ (.slice A' (s.wt.length+1) c')):=by
 have h':=h.below hb
 refine⟨{R with A3:=A',c3:=c',x3:=R.x3++cs},?_⟩
 have hgo:Go1 (R.mu q) (Rw.mu {R with A3:=A',c3:=c',x3:=R.x3++cs} q) w1 (w2.setCell ⟨q,2,none⟩ (.slice A' (s.wt.length+1) c')) :=
  ⟨mu_step hg 2 _ (.inl rfl) (fun k hk=>.inr (.inr (.inr hk))),fun k hk hf=>by
    rcases hf with hf | hf | hf | hf
    ·exact .inl hf
    ·exact .inr (.inl hf)
    ·exact .inr (.inr (.inl hf))
    ·exact .inr (.inr (.inr (mu_new hat hk hf)))⟩
 have hbq:blk R.A3≠some q:=h'.r3.ne_blk h'.box (by decide)
 have hblk2:=h'.box.grown hg hbq
 have hb1:blk R.A1=none∨blk R.A1≠blk R.A3:=h'.r1.ne h'.r3 (by decide)
 have hb2:blk R.A2=none∨blk R.A2≠blk R.A3:=h'.r2.ne h'.r3 (by decide)
 have k1:=(h'.r1.grown hg hb1).setOther ⟨q,2,none⟩ (.slice A' (s.wt.length+1) c') (h'.r1.ne_blk h'.box (by decide))
 have k2:=(h'.r2.grown hg hb2).setOther ⟨q,2,none⟩ (.slice A' (s.wt.length+1) c') (h'.r2.ne_blk h'.box (by decide))
 have k3:=ho.setOther ⟨q,2,none⟩ (.slice A' (s.wt.length+1) c') (ho.ne_blk hblk2 (by decide))
 have s3:Trs.at (Sf B (Rw.mu {R with A3:=A',c3:=c',x3:=R.x3++cs} q) (w2.setCell ⟨q,2,none⟩ (.slice A' (s.wt.length+1) c'))) (w2.setCell ⟨q,2,none⟩ (.slice A' (s.wt.length+1) c')) ((s.wt++[n]).map sTr) (R.x3++cs):=by
  rw[List.map_append]
  exact Trs.at.app.2 ⟨_,_,rfl,h'.t3.go hgo,hn.go hgo⟩
 have s1:=h'.t1.go hgo
 have s2:=h'.t2.go hgo
 exact⟨⟨(hblk2.set 2 _).eq (by simp),h.hq,k1,k2,by rw[List.length_append];exact k3,s1,s2,s3,h.t4⟩,(Go1.of_below hb).trans hgo⟩
end
end Go.Proofs.YtgdfkbalnpfdgaaGreatDoor
namespace Go.Proofs.YtgdfkbalnpfdgaaGreatDoor
def addOne (a:List ByteArray) (d:ByteArray):List ByteArray:=if sHas d a then a else a++[d]
def undGo (ids:List ByteArray):List ByteArray→List Nat→List ByteArray
 | a,[]=>a
 | a,k::r=>undGo ids (addOne a (ids.getD k ByteArray.empty)) r
def afOne (ids a:List ByteArray) (d:ByteArray):List ByteArray:=undGo ids (if sHas d ids then addOne a d else a) (unds d 0 ids)
def afGo (ids:List ByteArray):List ByteArray→List ByteArray→List ByteArray
 | a,[]=>a
 | a,d::r=>afGo ids (afOne ids a d) r
def afAll (ids:List ByteArray):List Nd→List (List ByteArray)→List Nd
 | n::ns,w::ws=>⟨n.id,n.scope,n.r,n.guards,afGo ids n.after w⟩::afAll ids ns ws
 | _,_=>[]
def bs0 (t:Tm):BS:=⟨[⟨-1,ByteArray.empty,bareT t,[]⟩],[],[]⟩
def ar0:Ar:=⟨0,[],[],0⟩
def flatF (k:Nat) (t:Tm):Int × List Sc × List Nd :=
 match putF k t ar0 (bs0 t) with
 | none=>(170,[],[])
 | some s=>if 16<s.nd.length∨16<s.sc.length then (3,[],[]) else (0,s.sc,afAll (s.nd.map Nd.id) s.nd s.wt)
theorem addOne_mem {a:List ByteArray} {d z:ByteArray} (h:z∈addOne a d):z∈a∨z=d:=by
 unfold addOne at h
 split at h
 ·exact .inl h
 ·rcases List.mem_append.1 h with h | h
  ·exact .inl h
  ·rw[List.mem_singleton] at h;exact .inr h
theorem unds_mem {d:ByteArray}:∀ {l:List ByteArray} {i k:Nat},k∈unds d i l→∃ j,k=i+j∧∃ x,l[j]?=some x∧und d x=true
 | [],i,k,h=>by simp[unds] at h
 | x::l,i,k,h=>by
   simp only[unds] at h
   split at h
   ·next hx =>
    rcases List.mem_cons.1 h with rfl | h
    ·exact⟨0,rfl,x,rfl,hx⟩
    ·obtain⟨j,rfl,y,h1,h2⟩:=unds_mem h
     exact⟨j+1,by omega,y,by simpa using h1,h2⟩
   ·obtain⟨j,rfl,y,h1,h2⟩:=unds_mem h
    exact⟨j+1,by omega,y,by simpa using h1,h2⟩
theorem afAll_len {ids:List ByteArray}:∀ {ns:List Nd} {ws:List (List ByteArray)},ws.length=ns.length→(afAll ids ns ws).length=ns.length
 | [],[],_=>rfl
 | n::ns,w::ws,h=>by simp only[afAll,List.length_cons];rw[afAll_len (by simpa using h)]
 | [],_::_,h=>by simp at h
 | _::_,[],h=>by simp at h
theorem afAll_get {ids:List ByteArray}:∀ {ns:List Nd} {ws:List (List ByteArray)} {i:Nat} {n:Nd} {w:List ByteArray},ns[i]?=some n→ws[i]?=some w→(afAll ids ns ws)[i]?=some ⟨n.id,n.scope,n.r,n.guards,afGo ids n.after w⟩
 | [],_,i,n,w,h,_=>by simp at h
 | _::_,[],i,n,w,_,h=>by simp at h
 | n'::ns,w'::ws,0,n,w,h1,h2=>by
   simp at h1 h2;subst h1 h2;rfl
 | n'::ns,w'::ws,i+1,n,w,h1,h2=>by
   simp only[afAll,List.getElem?_cons_succ]
   exact afAll_get (by simpa using h1) (by simpa using h2)
end Go.Proofs.YtgdfkbalnpfdgaaGreatDoor
namespace Go.Proofs.YtgdfkbalnpfdgaaGreatDoor
open Go.RowKit
open Go.Maps (Keyed)
open Go.WideMaps (keyOf_string_mk)
theorem zero_bool (w:World):(zeroValue 4).run Tryz.prog w=.ok (.bool false) w:=by kernel_rfl
theorem key_str:Keyed Tryz.prog 9:=Go.Maps.string_keyed Tryz.underlying9
theorem skey_of {s:ByteArray} (hs:s.size≤maxLen):keyOf Tryz.prog 9 (.string s)=some (.string s.data.toList):=keyOf_string_mk Tryz.underlying9 hs
theorem isKey_str (l:List UInt8):WideAt.IsKeyLit (.string l):=by unfold WideAt.IsKeyLit;trivial
theorem ownsMap_same {H:Type} {P:Program} {k:TypeId} {R:Value→Option (DataW H × List MemPlace)} {w w':World} {b n:Nat} {D:DataW H} (h:w.ownsMap P k R b n D) (hb:w'.heap[b]?=w.heap[b]?):w'.ownsMap P k R b n D:=by
 obtain⟨es,clock,h1,h2⟩:=h
 exact⟨es,clock,hb.trans h1,h2⟩
def MS (w:World) (b n:Nat) (l:List ByteArray):Prop :=
 ∃ D:DataW Unit,w.ownsMap Tryz.prog 9 (plainElem Tryz.prog 4) b n D∧Go.Maps.IsMap D∧∀ s:ByteArray,D.atKey (.string s.data.toList) (.lit (.bool false))=.lit (.bool (sHas s l))
section
variable {w w':World} {b n:Nat} {l:List ByteArray}
theorem MS.new (w:World):MS (w.alloc (.map #[] 0)) w.heap.size 0 []:=⟨.map [],World.ownsMap_made _ _ _ _,⟨[],rfl⟩,fun k=>rfl⟩
theorem MS.only {F:Nat→Prop} (h:MS w b n l) (ho:Only F w w') (hF:¬F b):MS w' b n l:=by
 obtain⟨D,h1,h2,h3⟩:=h
 exact⟨D,ownsMap_same h1 (ho.block b h1.lt hF),h2,h3⟩
theorem MS.lt (h:MS w b n l):b<w.heap.size:=by obtain⟨D,h1,_⟩:=h;exact h1.lt
theorem MS.below (h:MS w b n l) (hb:Below w.heap.size w w'):MS w' b n l:=h.only (Only.of_below hb (fun _=>False)) (fun h=>h)
theorem MS.ne {B sz m c:Nat} {e:TypeId} {A:Option Addr} {xs:List Value} (h:MS w b n l) (ho:Ow w B e sz A m c xs):blk A≠some b:=by
 obtain⟨D,⟨es,clock,h1,_⟩,_⟩:=h
 rcases ho.2 with ⟨rfl,_,_⟩ | ⟨g,cur,rfl,_,hg,_⟩
 ·simp[blk]
 ·simp only[blk,Option.map_some]
  intro e
  injection e with e
  subst e
  rw[hg] at h1;cases h1
theorem MS.look (h:MS w b n l) {d:ByteArray} (hd:d.size≤maxLen):(Instr.lookup 128 (.map (some b)) (.string d) false).run Tryz.prog w=.ok (.bool (sHas d l)) w:=by
 obtain⟨D,g1,g2,g3⟩:=h
 obtain⟨v,ps,hrun,hv⟩:=g1.lookup key_str Tryz.underlying128 (zero_bool w) (plainElem_bool Tryz.underlying4 false) (skey_of hd)
 rw[g3 d] at hv
 rw[hrun]
 have hu:Tryz.prog.underlying 4=some .bool:=Tryz.underlying4
 unfold plainElem at hv
 rw[hu] at hv
 cases v<;>simp_all
end
theorem bytes_ne {s d:ByteArray} (h:s≠d):s.data.toList≠d.data.toList:=fun e=>h (by
 cases s;cases d
 simp at e
 rw[e])
theorem sHas_app {s d:ByteArray} {l:List ByteArray}:sHas s (l++[d])=(sHas s l||bEq s d):=by simp[sHas,List.any_append]
section
variable {w:World} {ops:Array Oper} {rest:List Oper} {o:Oper} {a:Act} {Q:Exit→Act→World→Prop}
theorem put_MS (hg:o.guard=none) (m x v:Operand) (hop:o.op=Op.mapUpdate 128 m x v) (b n:Nat) (l:List ByteArray) (hm:a.eval m=.map (some b)) (h:MS w b n l) (hn:n<maxLen)
 (d:ByteArray) (hd:d.size≤maxLen) (hx:a.eval x=.string d) (hv:a.eval v=.bool true)
 (hK:∀ w',MS w' b (n+1) (l++[d])→w.grownBy w' (some b)→wpList Tryz.prog ops Q rest (a.put o.dst undef) w'):wpList Tryz.prog ops Q (o::rest) a w:=by
 obtain⟨D,g1,g2,g3⟩:=h
 refine wpList_mapUpdate_own w hg m x v 128 hop 9 4 key_str Tryz.underlying128 _ b n D hm g1 hn _ _ (.string d.data.toList) hx hv (skey_of hd) (.lit (.bool true)) [] (plainElem_bool Tryz.underlying4 true) (fun w' h1 h2=>hK w' ⟨_,h1,g2.put _ _,fun s=>?_⟩ h2)
 rw[sHas_app]
 by_cases hj:s=d
 ·subst hj
  rw[Go.Maps.atKey_put_same g2 (isKey_str _),bEq_iff.2 rfl]
  simp
 ·rw[Go.Maps.atKey_put_other (fun e=>bytes_ne hj (by injection e)),g3 s]
  have:bEq s d=false:=by
   cases hb:bEq s d with
   | false=>rfl
   | true=>exact absurd (bEq_iff.1 hb) hj
  rw[this];simp
end
theorem Nd.at_iff {S:Nat→Prop} {w:World} {v:Nd} {cs:List Value}:Trs.at S w v.tr cs↔∃ rcs G gc A c,cs=.string v.id::.int .i64 v.scope::(rcs++[.slice G v.guards.length gc,.slice A v.after.length c])∧v.id.size≤140737488351232∧(Lit.int .i64 v.scope).wf=true∧Trs.at S w v.r.tr rcs∧Ls S w 2 24 Gd.tr G gc v.guards∧Ss S w A c v.after:=by
 unfold Nd.tr
 constructor
 ·intro h
  obtain⟨_,rfl,h0,h⟩:=at_leaf.1 h
  obtain⟨_,rfl,h1,h⟩:=at_leaf.1 h
  obtain⟨ts,_,rfl,h2,h⟩:=Trs.at.app.1 h
  obtain⟨G,gc,_,rfl,h4,h⟩:=at_row.1 h
  obtain⟨A,c,_,rfl,h5,h⟩:=at_str.1 h
  obtain rfl:=at_nil.1 h
  exact⟨ts,G,gc,A,c,rfl,h0,h1,h2,h4,h5⟩
 ·rintro⟨ts,G,gc,A,c,rfl,h0,h1,h2,h4,h5⟩
  exact at_leaf.2 ⟨_,rfl,h0,at_leaf.2 ⟨_,rfl,h1,Trs.at.app.2 ⟨_,_,rfl,h2,at_row.2 ⟨_,_,_,rfl,h4,at_str.2 ⟨_,_,_,rfl,h5,at_nil.2 rfl⟩⟩⟩⟩⟩
theorem Nd.cells {S:Nat→Prop} {w:World} {v:Nd} {cs:List Value} (h:Trs.at S w v.tr cs):∃ x:Nc,cs=x.cs∧x.id=v.id:=by
 obtain⟨rcs,G,gc,A,c,rfl,h0,h1,h2,h4,h5⟩:=Nd.at_iff.1 h
 obtain⟨A1,a,B1,b,C1,c1,rfl,_⟩:=Rs.at_iff.1 h2
 exact⟨⟨v.id,v.scope,_,_,_,A1,_,a,B1,_,b,_,C1,_,c1,G,_,gc,A,_,c⟩,rfl,rfl⟩
theorem nd_cells {S:Nat→Prop} {w:World}:∀ {l:List Nd} {vs:List Value},Trs.at S w (l.flatMap Nd.tr) vs→∃ xs:List Nc,vs=xs.flatMap Nc.cs∧xs.map Nc.id=l.map Nd.id
 | [],vs,h=>⟨[],at_nil.1 h,rfl⟩
 | n::l,vs,h=>by
   rw[List.flatMap_cons] at h
   obtain⟨cs,vs',rfl,h1,h2⟩:=Trs.at.app.1 h
   obtain⟨x,rfl,h3⟩:=Nd.cells h1
   obtain⟨xs,rfl,h4⟩:=nd_cells h2
   exact⟨x::xs,by simp,by simp[h3,h4]⟩
theorem nc_set (A:Option Addr) (n c:Nat):∀ (xs:List Nc) (i:Nat),∃ ys:List Nc,(xs.flatMap Nc.cs).set (i*11+10) (.slice A n c)=ys.flatMap Nc.cs∧ys.map Nc.id=xs.map Nc.id
 | [],i=>⟨[],by simp,rfl⟩
 | x::xs,0=>⟨{x with A:=A,an:=n,ac:=c}::xs,by simp[Nc.cs],by simp⟩
 | x::xs,i+1=>by
   obtain⟨ys,h1,h2⟩:=nc_set A n c xs i
   refine⟨x::ys,?_,by simp[h2]⟩
   rw[List.flatMap_cons,List.flatMap_cons,List.set_append_right _ _ (by rw[Nc.len];omega),Nc.len,show (i+1)*11+10-11=i*11+10 by omega,h1]
theorem nd_set {S:Nat→Prop} {w:World} {A:Option Addr} {c:Nat} {af:List ByteArray} (ha:Ss S w A c af):∀ {l:List Nd} {vs:List Value} {i:Nat} {n:Nd},Trs.at S w (l.flatMap Nd.tr) vs→l[i]?=some n →
 Trs.at S w ((l.set i ⟨n.id,n.scope,n.r,n.guards,af⟩).flatMap Nd.tr) (vs.set (i*11+10) (.slice A af.length c))
 | [],vs,i,n,h,hn=>by simp at hn
 | m::l,vs,i,n,h,hn=>by
   rw[List.flatMap_cons] at h
   obtain⟨cs,vs',rfl,h1,h2⟩:=Trs.at.app.1 h
   have hcl:cs.length=11:=h1.len.trans m.trlen
   cases i with
   | zero =>
     simp at hn;subst hn
     rw[List.set_cons_zero,List.flatMap_cons,List.set_append_left _ _ (by omega)]
     refine Trs.at.app.2 ⟨_,_,rfl,?_,h2⟩
     obtain⟨rcs,G,gc,A0,c0,rfl,g0,g1,g2,g4,g5⟩:=Nd.at_iff.1 h1
     obtain⟨A1,a,B1,b,C1,c1,rfl,_⟩:=Rs.at_iff.1 g2
     exact Nd.at_iff.2 ⟨_,G,gc,A,c,rfl,g0,g1,g2,g4,ha⟩
   | succ i =>
     rw[List.set_cons_succ,List.flatMap_cons,List.set_append_right _ _ (by omega),hcl,show (i+1)*11+10-11=i*11+10 by omega]
     exact Trs.at.app.2 ⟨_,_,rfl,h1,nd_set ha h2 (by simpa using hn)⟩
theorem set_same' {α:Type} {xs:List α} {j:Nat} {u:α} (h:xs[j]?=some u):xs.set j u=xs:=by
 apply List.ext_getElem?
 intro k
 rw[List.getElem?_set]
 split
 ·next hk =>
  subst hk
  rw[if_pos (List.getElem?_eq_some_iff.1 h).1,h]
 ·rfl
theorem set_same {xs:List Value} {j:Nat} {u:Value} (h:j<xs.length→xs[j]?=some u):xs.set j u=xs:=by
 apply List.ext_getElem?
 intro k
 rw[List.getElem?_set]
 split
 ·next hk =>
  subst hk
  split
  ·next hl=>exact(h hl).symm
  ·next hl=>rw[List.getElem?_eq_none (by omega)]
 ·rfl
theorem Ow.setAt {w:World} {base sz n c g j:Nat} {e:TypeId} {xs:List Value} (h:Ow w base e sz (some ⟨g,0,none⟩) n c xs) (u:Value):Ow (w.setCell ⟨g,j,none⟩ u) base e sz (some ⟨g,0,none⟩) n c (xs.set j u):=by
 obtain⟨hl,h2⟩:=h
 refine⟨by simpa using hl,?_⟩
 rcases h2 with ⟨h0,_⟩ | ⟨g',cur,hA,hb,hg,hn,hm,hcs,ht⟩
 ·cases h0
 ·injection hA with hA
  injection hA with hA
  subst hA
  have hb2:Blk w g cur e:=hg
  refine .inr ⟨g,cur.setIfInBounds j u,rfl,hb,hb2.set j u,hn,hm,by simpa using hcs,?_⟩
  rw[Array.toList_setIfInBounds,List.take_set,ht]
theorem Ow.fro {w:World} {base sz n c g:Nat} {e:TypeId} {xs:List Value} (h:Ow w base e sz (some ⟨g,0,none⟩) n c xs) (j:Nat):w.frozen? ⟨g,j,none⟩=false:=by
 rcases h.2 with ⟨h0,_⟩ | ⟨g',cur,hA,hb,hg,_⟩
 ·cases h0
 ·injection hA with hA
  injection hA with hA
  subst hA
  have hb2:Blk w g cur e:=hg
  exact hb2.frozen j
def Fx (R:Rw) (q:Nat) (A:Option Addr) (k:Nat):Prop:=R.mu q k∨blk A=some k
structure Sx (B q:Nat) (R:Rw) (s:BS) (i:Nat) (pre:List Nd) (xb:List Value) (A:Option Addr) (c:Nat) (l:List ByteArray) (w:World):Prop where
 box:Blk w q #[.slice R.A1 s.sc.length R.c1,.slice R.A2 s.nd.length R.c2,.slice R.A3 s.wt.length R.c3] 123
 hq:B≤q
 r1:Ow w B 76 7 R.A1 s.sc.length R.c1 R.x1
 r2:Ow w B 80 11 R.A2 s.nd.length R.c2 (xb.set (i*11+10) (.slice A l.length c))
 r3:Ow w B 63 1 R.A3 s.wt.length R.c3 R.x3
 ra:Ow w B 9 1 A l.length c (l.map .string)
 t1:Trs.at (Sf B (Fx R q A) w) w (s.sc.flatMap Sc.tr) R.x1
 t2:Trs.at (Sf B (Fx R q A) w) w (pre.flatMap Nd.tr) xb
 t3:Trs.at (Sf B (Fx R q A) w) w (s.wt.map sTr) R.x3
 t4:∀ j,i≤j→j<s.nd.length→xb[j*11+10]?=some (.slice none 0 0)
 ids:pre.map Nd.id=s.nd.map Nd.id
section
variable {B q i:Nat} {R:Rw} {s:BS} {pre:List Nd} {xb:List Value} {A:Option Addr} {c:Nat} {l:List ByteArray} {w w':World}
theorem Sx.xlen (h:Sx B q R s i pre xb A c l w):xb.length=s.nd.length*11:=by simpa using h.r2.rd.len
theorem Sx.start (h:Bd B w q R s):Sx B q R s 0 s.nd R.x2 none 0 [] w:=by
 have hm:∀ k,Sf B (R.mu q) w k→Sf B (Fx R q none) w k:=fun k hk=>⟨fun hf=>hf.elim hk.1 (fun e=>by simp[blk] at e),hk.2⟩
 have hl:R.x2.length=s.nd.length*11:=h.r2.rd.len
 refine⟨h.box,h.hq,h.r1,?_,h.r3,Ow.nil _ _ _ _,h.t1.mono hm,h.t2.mono hm,h.t3.mono hm,fun j _ hj=>h.t4 j hj,rfl⟩
 have e:R.x2.set (0*11+10) (.slice none 0 0)=R.x2:=set_same (fun hj=>h.t4 0 (by omega))
 show Ow w B _ 11 R.A2 s.nd.length R.c2 (R.x2.set (0*11+10) (.slice none 0 0))
 rw[e]
 exact h.r2
theorem Sx.below (h:Sx B q R s i pre xb A c l w) (hb:Below w.heap.size w w'):Sx B q R s i pre xb A c l w':=by
 have hg:Go1 (Fx R q A) (Fx R q A) w w':=Go1.of_below hb
 exact⟨h.box.below hb,h.hq,h.r1.below hb,h.r2.below hb,h.r3.below hb,h.ra.below hb,h.t1.go hg,h.t2.go hg,h.t3.go hg,h.t4,h.ids⟩
theorem Sx.step (h:Sx B q R s i pre xb A c l w) {w1 wm:World} (hb:Below w.heap.size w w1) {g:Nat} (hA2:R.A2=some ⟨g,0,none⟩) (hg:w1.grownBy wm (blk A)) {A':Option Addr} {c':Nat} {d:ByteArray}
 (ho:Ow wm B 9 1 A' (l.length+1) c' ((l++[d]).map .string)) (hat:A'=A∨A'=some ⟨w1.heap.size,0,none⟩) :
 Sx B q R s i pre xb A' c' (l++[d]) (wm.setCell ⟨g,i*11+10,none⟩ (.slice A' (l.length+1) c'))∧Go1 (Fx R q A) (Fx R q A') w (wm.setCell ⟨g,i*11+10,none⟩ (.slice A' (l.length+1) c')):=by
 have h':=h.below hb
 have n0:=h'.ra.ne_blk h'.box (by decide)
 have n1:=h'.r1.ne h'.ra (by decide)
 have n2:=h'.r2.ne h'.ra (by decide)
 have n3:=h'.r3.ne h'.ra (by decide)
 have b1:=h'.box.grown hg n0
 have k1:=h'.r1.grown hg n1
 have k2:=h'.r2.grown hg n2
 have k3:=h'.r3.grown hg n3
 have m0:=k2.ne_blk b1 (by decide)
 have m1:blk R.A1≠some g:=by
  rcases k1.ne k2 (by decide) with e | e
  ·rw[e];simp
  ·rw[hA2] at e;exact e
 have m3:blk R.A3≠some g:=by
  rcases k3.ne k2 (by decide) with e | e
  ·rw[e];simp
  ·rw[hA2] at e;exact e
 have ma:blk A'≠some g:=by
  rcases ho.ne k2 (by decide) with e | e
  ·rw[e];simp
  ·rw[hA2] at e;exact e
 have hgo:Go1 (Fx R q A) (Fx R q A') w1 (wm.setCell ⟨g,i*11+10,none⟩ (.slice A' (l.length+1) c')) :=
  ⟨((Only.of_grown hg).mono (fun k _ e=>.inr e.symm)).setCell _ _ (fun _=>.inl (.inr (.inr (.inl (by rw[hA2];rfl))))),fun k hk hf=>by
    rcases hf with hf | hf
    ·exact .inl hf
    ·exact .inr (mu_new hat hk hf)⟩
 refine⟨⟨b1.setOther _ _ (fun e=>m0 (by rw[hA2,e];rfl)),h.hq,k1.setOther _ _ m1,?_,k3.setOther _ _ m3,by rw[List.length_append];exact ho.setOther _ _ ma,h'.t1.go hgo,h'.t2.go hgo,h'.t3.go hgo,h.t4,h.ids⟩,(Go1.of_below hb).trans hgo⟩
 have k4:=k2
 rw[hA2] at k4 ⊢
 have k5:=k4.setAt (j:=i*11+10) (.slice A' (l.length+1) c')
 rw[List.set_set] at k5
 rw[List.length_append]
 exact k5
theorem Sx.next (h:Sx B q R s i pre xb A c l w) {n:Nd} (hn:pre[i]?=some n) (hl:l.length≤8796093021952) (hs:∀ d∈l,d.size≤140737488351232) :
 Sx B q R s (i+1) (pre.set i ⟨n.id,n.scope,n.r,n.guards,l⟩) (xb.set (i*11+10) (.slice A l.length c)) none 0 [] w:=by
 have hm:∀ k,Sf B (Fx R q A) w k→Sf B (Fx R q none) w k:=fun k hk=>⟨fun hf=>hk.1 (hf.elim .inl (fun e=>by simp[blk] at e)),hk.2⟩
 have hlen:=h.xlen
 have h4:∀ j,i+1≤j→j<s.nd.length→(xb.set (i*11+10) (.slice A l.length c))[j*11+10]?=some (.slice none 0 0):=fun j hj hj2=>by
  rw[List.getElem?_set_ne (by omega)];exact h.t4 j (by omega) hj2
 have hA:Ss (Sf B (Fx R q none) w) w A c l:=by
  refine Ls.mk_strs h.ra.rd hl hs (fun ad e _=>?_)
  have hb:blk A=some ad.block:=by rw[e];rfl
  refine⟨fun hf=>?_,(h.ra.lt hb).2,by have:=(h.ra.lt hb).1;omega⟩
  rcases hf with hf | hf
  ·rcases hf with hf | hf | hf | hf
   ·exact h.ra.ne_blk h.box (by decide) (hb.trans (by rw[hf]))
   ·rcases h.ra.ne h.r1 (by decide) with e1 | e1
    ·rw[e1] at hb;cases hb
    ·exact e1 (hb.trans hf.symm)
   ·rcases h.ra.ne h.r2 (by decide) with e1 | e1
    ·rw[e1] at hb;cases hb
    ·exact e1 (hb.trans hf.symm)
   ·rcases h.ra.ne h.r3 (by decide) with e1 | e1
    ·rw[e1] at hb;cases hb
    ·exact e1 (hb.trans hf.symm)
  ·simp[blk] at hf
 refine⟨h.box,h.hq,h.r1,?_,h.r3,Ow.nil _ _ _ _,h.t1.mono hm,nd_set hA (h.t2.mono hm) hn,h.t3.mono hm,h4,?_⟩
 ·rw[set_same (fun hj=>by
   rw[List.length_set,hlen] at hj
   have:=h4 (i+1) (Nat.le_refl _) (by omega)
   simpa using this)]
  exact h.r2
 ·rw[List.map_set]
  rw[←h.ids]
  apply set_same'
  rw[List.getElem?_map,hn];rfl
end
end Go.Proofs.YtgdfkbalnpfdgaaGreatDoor
