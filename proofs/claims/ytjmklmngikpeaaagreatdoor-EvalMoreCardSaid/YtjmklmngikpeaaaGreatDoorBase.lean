/- Part of the proof. -/
import Derived.Below
import Derived.WalkKit
import Derived.Lib.Hide
import Derived.Maps.AppendAt
import Derived.Deep.AppendLies
import Derived.Deep.Draws
import Derived.Deep.RegionHeld3
import Derived.StillTail
namespace Go.RowKit
theorem Hid.o {p:Prop} (h:Hid p):p:=h
end Go.RowKit
namespace Go.Proofs.YtjmklmngikpeaaaGreatDoor
abbrev aA:=@Nat.le_refl
abbrev aB:=@RowKit.Below.refl
abbrev aD:=@List.mem_of_getElem?
abbrev aE:=@List.setIfInBounds_toArray
abbrev aF:=@World.block_lt_of_cell?
abbrev aG:=@List.getD_eq_getElem?_getD
abbrev aH:=@List.set_cons_zero
abbrev aI:=@List.set_cons_succ
abbrev aM:=@List.getElem?_eq_getElem
abbrev aN:=@List.take_of_length_le
abbrev aO:=@Nat.lt_of_lt_of_le
abbrev aP:=@List.drop_of_length_le
abbrev aQ:=@List.length_cons
abbrev aR:=@List.mem_singleton
abbrev aS:=@List.length_append
abbrev aT:=@List.take_add_one
abbrev aU:=@Nat.le_add_right
abbrev aV:=@Array.toArray_toList
abbrev aW:=@List.flatMap_cons
abbrev aX:=@List.replicate_succ
abbrev aY:=@ByteArray.size_append
abbrev aZ:=@Nat.zero_add
abbrev bA:=@List.replicate_zero
abbrev bB:=@Nat.le_trans
abbrev bC:=@List.length_nil
abbrev bD:=@Bool.eq_false_or_eq_true
abbrev bE:=@List.flatMap_append
abbrev bH:=@List.getElem?_append_right
abbrev bI:=@Nat.lt_or_ge
abbrev bJ:=@Bool.and_eq_true
abbrev bK:=@List.mem_of_find?_eq_some
abbrev bM:=@List.cons_append
abbrev bN:=@List.getElem?_eq_none
abbrev bO:=@List.eq_nil_of_length_eq_zero
abbrev bP:=@List.nil_append
abbrev bQ:=@List.append_nil
abbrev bR:=@List.foldl_cons
abbrev bS:=@List.append_toArray
abbrev bT:=@Nat.mul_le_mul_right
abbrev bU:=@World.cell?_of_block
abbrev bV:=@List.push_toArray
abbrev bW:=@List.flatMap_nil
abbrev bY:=@List.map_cons
abbrev bZ:=@List.getElem?_append_left
abbrev cA:=@Option.toList_some
abbrev cD:=@List.getElem?_take
abbrev cE:=@Option.map_some
abbrev cH:=@List.length_take
abbrev cJ:=@List.take_append_drop
abbrev cL:=@World.cell?_alloc_lt
abbrev cO:=@List.findIdx?_append
abbrev cP:=@List.find?_cons
abbrev cS:=@List.foldl_append
abbrev cV:=@List.map_append
abbrev cX:=@List.length_map
abbrev dB:=@List.mem_append
abbrev dC:=@List.findIdx?_eq_none_iff
abbrev dE:=@List.length_singleton
abbrev dG:=@Nat.eq_zero_or_pos
abbrev dH:=@List.getElem?_drop
abbrev dI:=@List.append_assoc
abbrev dJ:=@List.getElem_mem
abbrev dL:=@RowKit.Below.heap_setCell
abbrev dM:=@Nat.le_of_ble_eq_true
abbrev dP:=@List.range_succ
abbrev dQ:=@Bool.or_eq_false_iff
abbrev dT:=@Option.getD_some
abbrev dU:=@List.getElem?_replicate
abbrev dV:=@List.getElem?_cons_succ
abbrev dW:=@List.findIdx?_singleton
abbrev dX:=@List.find?_eq_some_iff_getElem
abbrev dZ:=@List.length_set
abbrev eA:=@List.find?_some
abbrev eD:=@Bool.or_eq_true
abbrev eE:=@Bool.true_and
abbrev eF:=@List.size_toArray
abbrev eG:=@List.getElem?_map
abbrev eH:=@Nat.zero_le
abbrev eI:=@List.drop_zero
abbrev eJ:=@Array.toList_setIfInBounds
abbrev eK:=@Nat.le_of_eq
abbrev eL:=@List.map_nil
abbrev eO:=@List.length_erase_of_mem
abbrev eP:=@List.getElem?_take_of_lt
abbrev eR:=@Nat.min_eq_left
abbrev eU:=@List.find?_eq_none
abbrev eV:=@List.findIdx?_eq_some_iff_getElem
abbrev eY:=@List.getElem?_set
abbrev eZ:=@List.any_eq_false
abbrev fA:=@List.mem_append_right
abbrev fB:=@List.all_eq_true
abbrev fC:=@List.mem_append_left
abbrev fD:=@List.getElem?_range
abbrev fE:=@List.flatten_append
abbrev fF:=@Nat.succ_mul
abbrev fH:=@List.pairwise_iff_getElem
abbrev fI:=@Nat.le_succ
abbrev fJ:=@List.flatten_cons
abbrev fK:=@List.take_length
abbrev fL:=@List.not_mem_nil
abbrev fM:=@List.flatten_nil
abbrev fN:=@List.countP_cons
variable {a:Act}{ad:Addr}{ls:Array Bool}{ops:Array Oper}{rest:List Oper}{l:List UInt8}{xs:List Value}{base c f i k n sz:Nat}{oi:Oper}{A:Option Addr}{p:Prop}{e t:TypeId}{v:Value}{w:World}
theorem Hd (h:p):RowKit.Hid p:=h
open Go.RowKit
theorem block_of_add (a:Addr) (n:Nat):(a.add n).block=a.block:=by unfold Addr.add;split<;>rfl
theorem mI (a:Addr) (i j:Nat):(a.add i).add j=a.add (i+j):=by
 unfold Addr.add;by_cases hi:i=0<;>by_cases hj:j=0<;>simp[hi,hj,Nat.add_assoc]
theorem nX (b o j:Nat):(⟨b,o,none⟩:Addr).add j=⟨b,o+j,none⟩:=by
 unfold Addr.add;split<;>simp_all
structure Rd (w:World) (sz:Nat) (A:Option Addr) (n c:Nat) (xs:List Value):Prop where
 len:xs.length=n*sz
 cap:n<=c
 max:c<=maxLen
 at_:∀ (j:Nat) (u:Value),xs[j]?=some u->∃ ad,A=some ad/\w.cell? (ad.add j)=some u
section
variable {w w':World} {sz n c:Nat} {A:Option Addr} {xs:List Value}
theorem Rd.keep (h:Rd w sz A n c xs) (hk:∀ p:Addr,p.block<w.heap.size->w'.cell? p=w.cell? p):Rd w' sz A n c xs :=
 ⟨h.len,h.cap,h.max,fun j u hu=>by
   obtain⟨ad,e,hc⟩:=h.at_ j u hu;exact⟨ad,e,(hk _ (aF w _ hc)).trans hc⟩⟩
theorem Rd.below (h:Rd w sz A n c xs) (hb:Below w.heap.size w w'):Rd w' sz A n c xs:=h.keep fun _ hp=>hb.cell hp
theorem Rd.drew (h:Rd w sz A n c xs):Rd w.drew sz A n c xs:=h.keep fun _ _=>rfl
theorem Rd.drewN (h:Rd w sz A n c xs) (k:Nat):Rd (w.drewN k) sz A n c xs:=h.keep fun _ _=>rfl
theorem Rd.alloc (h:Rd w sz A n c xs) (o:Obj):Rd (w.alloc o) sz A n c xs:=h.keep fun p hp=>cL w o p hp
theorem Rd.nil (w:World) (sz:Nat):Rd w sz none 0 0 []:=⟨by simp,aA _,by simp[maxLen],by simp⟩
theorem Rd.addr (h:Rd w sz A n c xs) (hn:0<n) (hs:0<sz):∃ ad,A=some ad/\∀ j u,xs[j]?=some u->w.cell? (ad.add j)=some u:=by
 have hl:0<xs.length:=by rw[h.len];exact Nat.mul_pos hn hs
 obtain⟨ad,rfl,_⟩:=h.at_ 0 _ (aM hl);exact⟨ad,rfl,fun j u hu=>by obtain⟨_,e,hc⟩:=h.at_ j u hu;injection e with e;exact e ▸ hc⟩
theorem Rd.get (h:Rd w sz (some ad) n c xs) {j:Nat} {u:Value} (hu:xs[j]?=some u):w.cell? (ad.add j)=some u:=by
 obtain⟨_,e,hc⟩:=h.at_ j u hu;injection e with e;exact e ▸ hc
theorem Rd.lt (h:Rd w sz (some ad) n c xs) (hn:0<xs.length):ad.block<w.heap.size:=by
 have:=aF w _ (h.get (aM hn));rwa [block_of_add] at this
theorem Rd.cut (h:Rd w sz A n c xs) {m x:Nat} (hkm:k<=m) (hm:m<=n) (hx:m<=x) (hxc:x<=c) :
 Rd w sz (if x=k then A else A.map (·.add (k*sz))) (m-k) (x-k) ((xs.drop (k*sz)).take ((m-k)*sz)):=by
 refine⟨?_,by omega,by have:=h.max;omega,fun j u hu=>?_⟩
 .rw[cH,List.length_drop,h.len,<-Nat.sub_mul];exact eR (bT _ (by omega))
 have hj:j<(m-k)*sz:=by
  rcases bI j ((m-k)*sz) with hj | hj
  .exact hj
  rw[cD,if_neg (by omega)] at hu;cases hu
 rw[eP hj,dH] at hu;obtain⟨ad,rfl,hc⟩:=h.at_ _ u hu;rw [if_neg (by
   rintro rfl; have : m - x = 0 := by omega
   simp[this] at hj)]
 exact⟨ad.add (k*sz),rfl,by rw[mI];exact hc⟩
theorem Rd.of_own (h:w.ownsRow base e sz (.slice A n c) n xs):Rd w sz A n c xs:=by
 obtain⟨hl,h2⟩:=h;rcases h2 with ⟨hv,rfl⟩ | ⟨g,cap,cur,hv,hb,hg,hn,hm,hcs,ht⟩
 .injection hv with h1 h2 h3;subst h1 h3;have:xs=[]:=bO (by simpa using hl);subst this;exact Rd.nil w sz
 injection hv with h1 h2 h3;subst h1 h3;refine⟨hl,hn,hm,fun j u hu=>⟨_,rfl,?_⟩⟩;rw[nX,aZ,cell_of_row w g j cur e (0,0) hg];rw[<-ht] at hu;have hj:j<n*sz:=by
  rcases bI j (n*sz) with hj | hj
  .exact hj
  rw[cD,if_neg (by omega)] at hu;cases hu
 rw[eP hj] at hu;simpa using hu
end
theorem Rd.lit (w:World) (sz n:Nat) (cs:Array Value) (t:TypeId) (fr:Nat × Nat) (h:cs.size=n*sz) (hm:n<=maxLen):Rd (w.alloc (.cells cs t fr)) sz (some ⟨w.heap.size,0,none⟩) n n cs.toList :=
 ⟨by simpa using h,aA _,hm,fun j u hu=>⟨_,rfl,by rw[nX,aZ,cell_of_row _ _ j cs t fr (heap_alloc_new w _)];simpa using hu⟩⟩
abbrev cQ:=@Rd.lit
def bv (l:List UInt8):List Value:=l.map fun b=>.int .u8 (b.toNat:Int)
@[simp] theorem T6:bv []=[]:=rfl
@[simp] theorem G7 (l:List UInt8):(bv l).length=l.length:=by simp[bv]
theorem q9 (a b:List UInt8):bv (a++b)=bv a++bv b:=by simp[bv]
theorem DL (l:List UInt8):∀ u∈bv l,u.oneCell'=true:=by
 intro u hu;simp only[bv,List.mem_map] at hu;obtain⟨b,_,rfl⟩:=hu;rfl
theorem Rd.one (w:World) (t:TypeId) (x:Int) (b:UInt8) (h:x=(b.toNat:Int)):Rd (w.alloc (.cells #[.int .u8 x] t)) 1 (some ⟨w.heap.size,0,none⟩) 1 1 (bv [b]):=by
 subst h;exact Rd.lit w 1 1 #[.int .u8 (b.toNat:Int)] t (0,0) rfl (by simp[maxLen])
theorem QW {base':Nat} (h:w.ownsRow base e sz v n xs) (hb:base'<=base):w.ownsRow base' e sz v n xs:=by
 obtain⟨h1,h2⟩:=h;refine⟨h1,?_⟩;rcases h2 with h2 | ⟨g,cap,cur,hv,hg,rest⟩
 .exact .inl h2
 exact .inr ⟨g,cap,cur,hv,by omega,rest⟩
theorem H6 {B:Nat} {a w':World} (h:Below B a w) (hown:w.ownsRow B e sz v n xs) (hg:w.grownBy w' v.ownBlock) (hB:B<=w.heap.size):Below B a w' :=
 h.grown hg hB (fun k hk=>(hown.lt k hk).1)
theorem Rd.blen (h:Rd w 1 A n c (bv l)):l.length=n:=by have:=h.len;simpa using this
section
variable {P:Program} (w:World)
theorem xG (src e dst:TypeId) (hs:P.underlying src=some (.slice e)) (he:P.underlying e=some (.int .u8)) (hd:P.underlying dst=some .string)
 (h:Rd w 1 A n c (bv l)):(convert src dst (.slice A n c)).run P w=.ok (.string ⟨l.toArray⟩) w:=by
 have hl:=h.blen;rcases dG n with h0 | h0
 .subst h0;have:l=[]:=bO hl;subst this;cases A with
  | none=>rw[run_convert_bytes_nil w src e hs he _ _ dst hd];rfl
  | some ad =>
    have hld:(loadCells ad 0).run P w=.ok (([]:List Int).map (Value.int .u8)).toArray w:=run_loadCells_list (P:=P) w ad [] (by simp);rw[run_convert_bytes_string w src dst e _ 0 c hs he hd,run_bytesToString w _ 0 c [] hld];rfl
 obtain⟨ad,rfl,hc⟩:=h.addr h0 (by omega);have hld:(loadCells ad n).run P w=.ok ((l.map fun b=>(b.toNat:Int)).map (Value.int .u8)).toArray w:=by
  have:=run_loadCells_list (P:=P) w ad (bv l) hc;rw[G7,hl] at this;simpa [bv,Function.comp_def] using this
 rw[run_convert_bytes_string w src dst e _ n c hs he hd,run_bytesToString w _ n c _ hld,foldl_push_bytes];simp[ByteArray.empty,ByteArray.emptyWithCapacity,Function.comp_def];rfl
theorem JT {w:World} {size:Nat} (h:w.ownsRow base e size v n xs):∃ A c,v=.slice A n c:=by
 rcases h.2 with ⟨rfl,rfl⟩ | ⟨g,cap,cur,rfl,_⟩
 .exact⟨_,_,rfl⟩
 exact⟨_,_,rfl⟩
theorem tE (ht:P.underlying t=some (.slice e)) (hs:(P.info? e).map (·.size)=some sz) (hk:k<=n) (kd:IntKind) :
 (Instr.slice t (.slice A n c) (some (.int kd k)) none none).run P w=.ok (.slice (if c=k then A else A.map (·.add (k*sz))) (n-k) (c-k)) w:=by
 obtain⟨i,hi,rfl⟩:∃ i,P.info? e=some i/\i.size=sz:=by
  cases h:P.info? e with
  | none=>rw[h] at hs;cases hs
  | some i=>rw[h] at hs;simp at hs;exact⟨i,rfl,hs⟩
 simp[Instr.slice,run_underlying ht,Instr.sliceBounds,run_sliceBound,sizeOf,typeInfo,hi,hk]
theorem rW {x:Int} (hx:x=(k:Int)) (ht:P.underlying t=some (.slice e)) (hs:(P.info? e).map (·.size)=some sz) (hk:k<=n) (kd:IntKind) :
 (Instr.slice t (.slice A n c) (some (.int kd x)) none none).run P w=.ok (.slice (if c=k then A else A.map (·.add (k*sz))) (n-k) (c-k)) w:=by
 subst hx;exact tE w ht hs hk kd
end
open Go
section
variable {P:Program} {l:List Oper} {Q:Exit->Act->World->Prop} {S:World->Prop}
def Rg (P:Program) (ops:Array Oper) (Q:Exit->Act->World->Prop) (S:World->Prop) (n:Nat):Nat->Array Bool->Act->World->Prop
 | 0,ls,a,w=>Region.ready .any ops ls=[]/\Q .normal a w
 | f+1,ls,a,w=>(Region.ready .any ops ls=[]->Q .normal a w)/\∀ i∈Region.ready .any ops ls,wpOp P ops Q i (fun a' w'=>(i≠n->S w')/\Rg P ops Q S n f (ls.setIfInBounds i true) a' w') a w
theorem Rg.any {n:Nat} {ops:Array Oper}:∀ (f:Nat) (ls:Array Bool) (a:Act) (w:World),Rg P ops Q S n f ls a w->wpAny P .any ops Q f ls a w
 | 0,_,_,_,h=>h
 | f+1,_,_,_,h=>⟨h.1,fun i hi=>wpOp_mono (fun a' w' h'=>Rg.any f _ a' w' h'.2) (h.2 i hi)⟩
def mU (ops:Array Oper) (n:Nat) (ls:Array Bool):Bool :=
 ls.size==ops.size&&ops.size==n+1&&ls.getD n true==false&&Region.sinkB .any ops n &&
 (List.range ops.size).all fun j=>!ls.getD j false||((ops[j]?).map fun o=>o.after.all fun e=>!Region.binds .any e||ls.getD e.on false).getD true
theorem pM (h:mU ops n ls=true):HeadInv .any ops n ls/\Region.sinkB .any ops n=true/\ops.size=n+1:=by
 unfold mU at h;simp only[bJ,beq_iff_eq,fB,List.mem_range] at h;obtain⟨⟨⟨⟨h1,h2⟩,h3⟩,h4⟩,h5⟩:=h;refine⟨⟨h1,fun j oj hoj hl e he hb=>?_,fun t ht hts=>?_⟩,h4,h2⟩
 .have h6:=h5 j (Array.getElem?_eq_some_iff.1 hoj).1;rw[hl,hoj] at h6;simp only[Bool.not_true,Bool.false_or,cE,dT,Array.all_eq_true_iff_forall_mem] at h6;have h7:=h6 e he;rw[hb] at h7;simpa using h7
 obtain rfl:t=n:=by omega
 exact h3
theorem Rg.first (hi:ops[i]?=some oi) (hsel:∀ (j:Nat) (o:Oper) cs b,ops[j]?=some o->o.op≠.select cs b) (hQ:∀ c a w,Q (.panic c) (a.put oi.dst v) w->Q (.panic c) a w)
 (hsk:Region.sinkB .any ops n=true) (hsz:ops.size=n+1) (hin:i<n) :
 ∀ (f:Nat) (ls:Array Bool) (a:Act) (w:World),HeadInv .any ops n ls ->
   (∀ j oj,ops[j]?=some oj->j≠i->ls.getD j true=false->(∀ e∈oj.after,Region.binds .any e=true->e.on≠i)->oi.apart ops oj=true) ->
   i∈Region.ready .any ops ls->YieldsIf P ops S oi v a->S w->Rg P ops Q S n f (ls.setIfInBounds i true) (a.put oi.dst v) w->Rg P ops Q S n (f+1) ls a w:=by
 have hch:Region.chainB .any ops n=true:=by
  unfold Region.chainB;simp only[fB,List.mem_range,eD,decide_eq_true_eq];intro t ht;exact .inl (by omega)
 intro f;induction f with
 | zero =>
   intro ls a w _ _ hr hy hS H;refine⟨fun h=>absurd (h ▸ hr) fL,fun j hj=>?_⟩;rcases Decidable.em (j=i) with rfl | hji
   .exact hy.wpOp hi hS ⟨fun _=>hS,H⟩
   exact absurd (H.1 ▸ ready_mono hj hji) fL
 | succ f ih =>
   intro ls a w inv hfr hr hy hS H;refine⟨fun h=>absurd (h ▸ hr) fL,fun j hj=>?_⟩;rcases Decidable.em (j=i) with rfl | hji
   .exact hy.wpOp hi hS ⟨fun _=>hS,H⟩
   have h1:=H.2 j (ready_mono hj hji);obtain⟨hju,oj,hoj,hall⟩:=mem_ready.1 hj;have hjs:=(Array.getElem?_eq_some_iff.1 hoj).1;have hjn:j<n:=by
    rcases bI j n with h | h
    .exact h
    exact absurd hj (tail_waits hsk hch (by omega) inv _ i rfl hin (mem_ready.1 hr).1 j h)
   have hno:∀ e∈oj.after,Region.binds .any e=true->e.on≠i:=by
    intro e he hb heq;have h2:=hall e he hb;rw[heq,getD_both (mem_ready.1 hr).1] at h2;cases h2
   have h2:=wpOp_putIf hoj (hfr j oj hoj hji hju hno) (fun cs b=>hsel i oi cs b hi) (fun cs b=>hsel j oj cs b hoj) hQ hy h1;refine wpOp_mono (fun a' w' h3=>?_) h2;have hSw:=h3.2.1 (by omega);refine⟨fun _=>hSw,ih (ls.setIfInBounds j true) a' w' (inv.set hj hjn) (fun k ok hk hki hun hn=>hfr k ok hk hki ?_ hn) (ready_mono hr (Ne.symm hji)) h3.1 hSw ?_⟩
   .rcases Decidable.em (j=k) with rfl | hjk
    .exact hju
    rw[getD_set_ne true hjk] at hun;exact hun
   rw[Array.setIfInBounds_comm _ _ hji];exact h3.2.2
theorem drop_at {o:Oper} (h:l.drop i=o::rest):l.toArray[i]?=some o:=by
 have h1:=congrArg (fun x=>x[0]?) h;simpa using h1
theorem Rg.take (hS:S w) (i:Nat) (hi:l.drop i=oi::rest)
 (hc:(Region.noSelect l.toArray&&mU l.toArray n ls&&Region.free .any l.toArray ls i&&(Region.ready .any l.toArray ls).contains i&&decide (i<n))=true)
 (hQ:∀ c a w,Q (.panic c) (a.put oi.dst v) w->Q (.panic c) a w) (hw:Region.wanted oi (yielded l.toArray a.tmps)=true) (hy:∀ w,S w->(execOp a.eval oi).run P w=.ok (.value v) w)
 (h:Rg P l.toArray Q S n f (ls.setIfInBounds i true) (a.put oi.dst v) w):Rg P l.toArray Q S n (f+1) ls a w:=by
 simp only[bJ,decide_eq_true_eq] at hc;obtain⟨⟨⟨⟨h1,h2⟩,h3⟩,h4⟩,h5⟩:=hc;obtain⟨inv,hsk,hsz⟩:=pM h2;exact Rg.first (drop_at hi) (Region.noSelect_spec h1) hQ hsk hsz h5 f ls a w inv (Region.free_spec (drop_at hi) h3) (by simpa using h4) (.inl ⟨hw,hy⟩) hS h
theorem Rg.tk (hS:S w) (i:Nat) (h:Rg P l.toArray Q S n f (ls.setIfInBounds i true) (a.put oi.dst v) w)
 (hi:l.drop i=oi::rest:=by exact rfl) (hc:(Region.noSelect l.toArray&&mU l.toArray n ls&&Region.free .any l.toArray ls i&&(Region.ready .any l.toArray ls).contains i&&decide (i<n))=true:=by kernel_rfl)
 (hQ:∀ c a w,Q (.panic c) (a.put oi.dst v) w->Q (.panic c) a w:=by exact fun _ _ _ h=>h) (hw:Region.wanted oi (yielded l.toArray a.tmps)=true:=by rfl)
 (hy:∀ w,S w->(execOp a.eval oi).run P w=.ok (.value v) w:=by (intro w hSw;(try dsimp only at hSw);go_simp<;>with_reducible rfl)):Rg P l.toArray Q S n (f+1) ls a w :=
 Rg.take hS i hi hc hQ hw hy h
abbrev aL:=@Rg.tk
theorem Rg.step (i:Nat) {o:Oper} (hr:Region.ready .any l.toArray ls=[i]) (ho:l.drop i=o::rest)
 (h:∀ K':Act->World->Prop,Shut (∀ a w,S w->(S w->Rg P l.toArray Q S n f (ls.setIfInBounds i true) a w)->K' a w)->if Region.wanted o (yielded l.toArray a.tmps)=true then Oper.wp P o a w K' Q else K' (a.put o.dst undef) w) :
 Rg P l.toArray Q S n (f+1) ls a w:=by
 refine⟨fun h0=>(by rw[hr] at h0;cases h0),fun j hj=>?_⟩;rw[hr] at hj;obtain rfl:j=i:=by simpa using hj
 exact wpOp_step (drop_at ho) (fun K' hK=>h K' (fun a w hS hW=>hK a w ⟨fun _=>hS,hW hS⟩))
theorem Rg.last {o:Oper} (hr:Region.ready .any l.toArray ls=[n]) (hd:Region.ready .any l.toArray (ls.setIfInBounds n true)=[]) (ho:l.drop n=o::rest)
 (h:∀ K':Act->World->Prop,Shut (∀ a w,Q .normal a w->K' a w)->if Region.wanted o (yielded l.toArray a.tmps)=true then Oper.wp P o a w K' Q else K' (a.put o.dst undef) w) :
 Rg P l.toArray Q S n (f+1) ls a w:=by
 refine⟨fun h0=>(by rw[hr] at h0;cases h0),fun j hj=>?_⟩;rw[hr] at hj;obtain rfl:j=n:=by simpa using hj
 refine wpOp_step (drop_at ho) (fun K' hK=>h K' (fun a w hq=>hK a w ⟨fun h0=>absurd rfl h0,?_⟩));cases f with
 | zero=>exact⟨hd,hq⟩
 | succ f=>exact⟨fun _=>hq,by rw[hd];simp⟩
theorem Rg.st (i:Nat) {o:Oper}
 (h:∀ K':Act->World->Prop,Shut (∀ a w,S w->(S w->Rg P l.toArray Q S n f (ls.setIfInBounds i true) a w)->K' a w)->if Region.wanted o (yielded l.toArray a.tmps)=true then Oper.wp P o a w K' Q else K' (a.put o.dst undef) w)
 (hr:Region.ready .any l.toArray ls=[i]:=by kernel_rfl) (ho:l.drop i=o::rest:=by exact rfl):Rg P l.toArray Q S n (f+1) ls a w:=Rg.step i hr ho h
abbrev cT:=@Rg.st
theorem Rg.la {o:Oper}
 (h:∀ K':Act->World->Prop,Shut (∀ a w,Q .normal a w->K' a w)->if Region.wanted o (yielded l.toArray a.tmps)=true then Oper.wp P o a w K' Q else K' (a.put o.dst undef) w)
 (hr:Region.ready .any l.toArray ls=[n]:=by kernel_rfl) (hd:Region.ready .any l.toArray (ls.setIfInBounds n true)=[]:=by kernel_rfl) (ho:l.drop n=o::rest:=by exact rfl):Rg P l.toArray Q S n (f+1) ls a w:=Rg.last hr hd ho h
abbrev dY:=@Rg.la
theorem Rg.sg {R K:Act->World->Prop} (hK:Shut (∀ a w,S w->(S w->R a w)->K a w)) (h:S w->R a w) (hS:S w:=by ((try dsimp only)<;>go_keep)):K a w:=hK.out a w hS h
abbrev cM:=@Rg.sg
theorem Rg.start {id:Nat} (n:Nat) (S:World->Prop) (hm:P.follows .mixedOrders=true) (hS:S w.drew) (h:S w.drew->Rg P l.toArray Q S n l.length (List.replicate l.length false).toArray a w.drew):(Code.region id l.toArray true).wp P Q a w:=by
 refine wp_region_any hm (Rg.any (S:=S) (n:=n) _ _ _ _ ?_);have h1:=h hS;have e:(List.replicate l.length false).toArray=Array.replicate l.toArray.size false:=by simp
 rw[e] at h1;exact h1
abbrev cK:=@Rg.start
