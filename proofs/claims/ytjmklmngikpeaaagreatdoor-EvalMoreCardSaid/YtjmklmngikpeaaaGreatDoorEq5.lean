/- Part of the proof. -/
import Derived.Shelf.SlSortCmp.NoneTotal
import Derived.Test.YtjmklmngikpeaaaGreatDoorEq7
set_option maxRecDepth 100000
set_option maxHeartbeats 8000000
set_option linter.unusedVariables false
set_option linter.unusedSimpArgs false
namespace Go.Proofs.YtjmklmngikpeaaaGreatDoor
open Go.RowKit Go.Sort Go.Shelf
variable {ks:List ByteArray}{cs:List Value}{c':Nat}{A':Option Addr}{α:Type}{t:TypeId}{v:Vl}{w:World}
theorem EX:∀ a:List UInt8,Lib.compareBytes a a=0
 | []=>rfl
 | a::l=>by
   unfold Lib.compareBytes;rw[if_neg (by simp),if_neg (by simp)];exact EX l
theorem cb_eq:∀ {a b:List UInt8},Lib.compareBytes a b=0->a=b
 | [],[],_=>rfl
 | [],_::_,h=>by simp[Lib.compareBytes] at h
 | _::_,[],h=>by simp[Lib.compareBytes] at h
 | a::x,b::y,h=>by
   unfold Lib.compareBytes at h;split at h
   .omega
   split at h
   .omega
   rename_i h1 h2;have e:a=b:=UInt8.le_antisymm (UInt8.not_lt.1 h2) (UInt8.not_lt.1 h1);rw[e,cb_eq h]
theorem DJ:∀ (a b:List UInt8),Lib.compareBytes b a=- Lib.compareBytes a b
 | [],[]=>rfl
 | [],_::_=>rfl
 | _::_,[]=>rfl
 | a::x,b::y=>by
   simp only[Lib.compareBytes];by_cases h1:a<b
   .rw[if_pos h1,if_neg (UInt8.not_lt.2 (UInt8.le_of_lt h1)),if_pos h1];omega
   by_cases h2:b<a
   .rw[if_pos h2,if_neg h1,if_pos h2]
   rw[if_neg h1,if_neg h2,if_neg h2,if_neg h1];exact DJ x y
theorem nF:∀ {a b c:List UInt8},Lib.compareBytes a b<0->Lib.compareBytes b c<0->Lib.compareBytes a c<0
 | [],[],_,h,_=>by simp[Lib.compareBytes] at h
 | [],_::_,[],_,h=>by simp[Lib.compareBytes] at h
 | [],_::_,_::_,_,_=>by simp[Lib.compareBytes]
 | _::_,[],_,h,_=>by simp[Lib.compareBytes] at h
 | _::_,_::_,[],_,h=>by simp[Lib.compareBytes] at h
 | a::x,b::y,c::z,h,k=>by
   simp only[Lib.compareBytes] at h k ⊢;by_cases h1:a<b
   .by_cases h2:b<c
    .rw[if_pos (UInt8.lt_trans h1 h2)];omega
    rw[if_neg h2] at k;by_cases h3:c<b
    .rw[if_pos h3] at k;omega
    have e:b=c:=UInt8.le_antisymm (UInt8.not_lt.1 h3) (UInt8.not_lt.1 h2);rw[<-e,if_pos h1];omega
   rw[if_neg h1] at h;by_cases h4:b<a
   .rw[if_pos h4] at h;omega
   have e:a=b:=UInt8.le_antisymm (UInt8.not_lt.1 h4) (UInt8.not_lt.1 h1);rw[if_neg h4] at h;rw[e];by_cases h2:b<c
   .rw[if_pos h2];omega
   rw[if_neg h2] at k ⊢;by_cases h3:c<b
   .rw[if_pos h3] at k;omega
   rw[if_neg h3] at k ⊢;exact nF h k
theorem BC {a b c:List UInt8} (h:¬Lib.compareBytes a b<0) (k:¬Lib.compareBytes b c<0):¬Lib.compareBytes a c<0:=by
 intro hc;rcases Int.lt_trichotomy (Lib.compareBytes a b) 0 with h1 | h1 | h1
 .exact h h1
 .rw[cb_eq h1] at hc;exact k hc
 have h2:Lib.compareBytes b a<0:=by rw[DJ];omega
 exact k (nF h2 hc)
def qS (ks:List ByteArray) (x y:Fin ks.length):Int:=Lib.compareBytes ks[x].data.toList ks[y].data.toList
def IV (ks:List ByteArray):List (Fin ks.length):=(List.finRange ks.length).mergeSort (fun x y=>!decide (qS ks y x<0))
def vOrder (ks:List ByteArray):List Nat:=(IV ks).map Fin.val
theorem J9 (ks:List ByteArray):SWO (ltOf (qS ks)) where
 irrefl x:=by unfold ltOf qS;rw[EX];simp
 trans x y z h1 h2:=by
  unfold ltOf qS at *;simp only[decide_eq_true_eq] at *;exact nF h1 h2
 ntrans x y z h1 h2:=by
  unfold ltOf qS at *;simp only[decide_eq_false_iff_not] at *;exact BC h1 h2
theorem yV [Inhabited α] {enc:α->Value} {blk:Nat} {cs:Array Value} {D:Array α} (m:Nat) (os:Array Obj) (h:Blk w blk cs t) (hs:cs.size=D.size) :
 Blk (sortWorld enc w blk 0 m D os) blk (D.map enc) t/\fP (fun k=>k=blk) w (sortWorld enc w blk 0 m D os):=by
 have hlt:=h.lt;have hp:∀ k,(putRow enc (Sort.ahead w m) blk 0 D).heap[k]?=if blk=k then w.heap[k]?.map (onCells (putCells enc 0 D)) else w.heap[k]?:=fun k=>by
  simp only[putRow,mapBlock,Sort.ahead,Array.getElem?_modify]
 have hsz:(putRow enc (Sort.ahead w m) blk 0 D).heap.size=w.heap.size:=by simp[putRow,mapBlock,Sort.ahead]
 have hg:∀ k,k<w.heap.size->(sortWorld enc w blk 0 m D os).heap[k]?=(putRow enc (Sort.ahead w m) blk 0 D).heap[k]?:=fun k hk=>by
  unfold sortWorld;exact heap_grow_old _ _ (by rw[hsz];exact hk)
 refine⟨?_,⟨rfl,rfl,rfl,?_,fun k hk hne=>?_⟩⟩
 .show (sortWorld enc w blk 0 m D os).heap[blk]?=_
  rw[hg blk hlt,hp blk,if_pos rfl,show w.heap[blk]?=_ from h];simp only[cE,onCells,Option.some.injEq,Obj.cells.injEq,and_true];unfold putCells;apply Array.ext
  .simp[hs]
  intro i h1 h2;simp only[Array.size_mapIdx] at h1;simp only[Array.getElem_mapIdx,Array.getElem_map];rw[if_pos ⟨by omega,by omega⟩,Nat.sub_zero,getElem!_pos D i (by omega)]
 .unfold sortWorld grow;simp[hsz]
 rw[hg k hk,hp k,if_neg (fun e=>hne e.symm)]
theorem JV (S:Nat->Prop) (ob:Nat) (a:Addr) (v:Vl) (cs:List Value) (x y:Fin v.keys.length) (w:World) (hb:w.cell? ⟨ob,0,none⟩=some (.pointer (some a))) (htr:Trs.at S w v.tr cs) (hcel:i7 w a cs) :
 Calls Tryz.prog 246 #[.int .i64 (x.val:Int),.int .i64 (y.val:Int),.pointer (some ⟨ob,0,none⟩)] w fun e w'=>e=.returned (.int .i64 (qS v.keys x y))/\w'=w.drew:=by
 obtain⟨A,c,B,d,rfl,_,_,_,_,hks⟩:=Vl.at_iff.1 htr;obtain⟨c0,c1,c2,c3,c4,c5⟩:=iA hcel;obtain⟨q1,e1,g1,_⟩:=hks.str (i:=x.val) (s:=v.keys[x]) (by simp);obtain⟨q2,e2,g2,_⟩:=hks.str (i:=y.val) (s:=v.keys[y]) (by simp);subst e1;injection e2 with e2;subst e2;have hx:=x.isLt;have hy:=y.isLt;obtain⟨i,hi⟩:∃ i,i=x.val:=⟨_,rfl⟩;obtain⟨j,hj⟩:∃ j,j=y.val:=⟨_,rfl⟩;have HSC:Hid (∀ w',Calls Tryz.prog 241 #[.string v.keys[x],.string v.keys[y]] w' fun e w''=>e=.returned (.int .i64 (qS v.keys x y))/\w''=w'):=Hd (fun w'=>tD _ _ w');obtain⟨z,hz⟩:∃ z,z=qS v.keys x y:=⟨_,rfl⟩;obtain⟨s,hs⟩:∃ s,s=v.keys[x]:=⟨_,rfl⟩;obtain⟨t,ht⟩:∃ t,t=v.keys[y]:=⟨_,rfl⟩;rw[<-hz,<-hs,<-ht] at HSC;rw[<-hs,<-hi] at g1;rw[<-ht,<-hj] at g2;rw[<-hi] at hx;rw[<-hj] at hy;rw[<-hi,<-hj,<-hz];have hi2:(0:Int)<=(i:Int)/\(i:Int)<(v.keys.length:Int):=by omega
 have hj2:(0:Int)<=(j:Int)/\(j:Int)<(v.keys.length:Int):=by omega
 clear htr hcel hks hi hj hz hs ht;go_enter Tryz.func246,Tryz.ntmps246;go_wp2_with fail;go_still_tail 15,(by kernel_rfl);still_call (HSC.o _);repeat still_step
 try refine wpStill_nil ?_
 change wpList _ _ _ _ _ w.drew;go_wp2;go_ret;exact⟨rfl,rfl⟩
theorem yS:∀ {ks pre:List ByteArray},mM pre ks=false->ks.Pairwise (fun a b=>a≠b)/\∀ k∈ks,k∉pre
 | [],_,_=>⟨.nil,by simp⟩
 | k::r,pre,h=>by
   unfold mM at h;simp only[dQ] at h;obtain⟨h1,h2⟩:=yS h.2;have hk:k∉pre:=fun e=>by rw[pL.2 e] at h;cases h.1
   refine⟨List.pairwise_cons.2 ⟨fun b hb e=>?_,h1⟩,fun z hz=>?_⟩
   .subst e;exact h2 _ hb (by simp)
   rcases List.mem_cons.1 hz with rfl | hz
   .exact hk
   exact fun e=>h2 z hz (by simp[e])
theorem CQ (h:mM [] ks=false) (x y:Fin ks.length) (e:ks[x]=ks[y]):x=y:=by
 have hp:=(yS h).1;rw[fH] at hp;rcases Nat.lt_trichotomy x.val y.val with h1 | h1 | h1
 .exact absurd e (hp x.val y.val x.isLt y.isLt h1)
 .exact Fin.ext h1
 exact absurd e.symm (hp y.val x.val y.isLt x.isLt h1)
theorem kcmp_total (h:mM [] ks=false) (x y:Fin ks.length) (h1:ltOf (qS ks) x y=false) (h2:ltOf (qS ks) y x=false):x=y:=by
 unfold ltOf qS at h1 h2;simp only[decide_eq_false_iff_not] at h1 h2;refine CQ h x y (kQ (by
  have h3:=DJ ks[x].data.toList ks[y].data.toList;have:=cb_eq (a:=ks[x].data.toList) (b:=ks[y].data.toList) (by omega);exact this))
theorem oN (ks:List ByteArray):(vOrder ks).length=ks.length:=by simp[vOrder,IV]
theorem FL (S:Nat->Prop) (v:Vl) (cs:List Value) (a:Addr) (ob g:Nat) (w:World) (htr:Trs.at (fun k=>S k/\k<g) w v.tr cs) (hcel:i7 w a cs) (ha:a.block<ob) (hb:Blk w ob #[.pointer (some a)] 275) (hg:Blk w g (cN (List.range v.keys.length)).toArray 3)
 (hd:mM [] v.keys=false) (hog:ob<g) (hn:v.keys.length<=1000000) :
 Calls Tryz.prog 245 #[.slice (some ⟨g,0,none⟩) v.keys.length v.keys.length,.func (.func 246) #[] #[.pointer (some ⟨ob,0,none⟩)]] w fun e w'=>e=.returned (.tuple #[])/\Blk w' g (cN (vOrder v.keys)).toArray 3/\fP (fun k=>k=g) w w':=by
 by_cases h0:v.keys.length=0
 .have hk:v.keys=[]:=bO h0;have h:=AnyF.slices_SortFunc_none (P:=Tryz.prog) (ρ:=xH) {EJ with} (some ⟨g,0,none⟩) v.keys.length (.func (.func 246) #[] #[.pointer (some ⟨ob,0,none⟩)]) w;rw[h0] at h ⊢;refine Calls.mono (P:=Tryz.prog) h (fun e w' h=>?_);obtain⟨rfl,rfl⟩:=h;refine⟨rfl,?_,bG _ _⟩;refine hg.eq ?_;have h9:(vOrder v.keys).length=0:=by rw[oN,h0]
  rw[bO h9,h0];rfl
 haveI:Inhabited (Fin v.keys.length):=⟨⟨0,by omega⟩⟩
 have hsz:((List.finRange v.keys.length).toArray).size=v.keys.length:=by simp
 have h:=Any.slices_SortFunc_total (P:=Tryz.prog) (ρ:=xH) (α:=Fin v.keys.length) EJ (fun x=>.int .i64 (x.val:Int)) (fun _=>rfl) (qS v.keys) (J9 v.keys) 246 #[.pointer (some ⟨ob,0,none⟩)] g 0 v.keys.length (List.finRange v.keys.length).toArray w
  (enters_of Tryz.func246 (by kernel_rfl) rfl) (CmpReads.lays (fun m os dk hs x y=>by
    obtain⟨h1,h2⟩:=yV (enc:=fun x:Fin v.keys.length=>.int .i64 (x.val:Int)) (D:=dk) m os hg (by rw[hs,hsz];simp[cN]);refine(JV (fun k=>S k/\k<g) ob a v cs x y _ ((hb.only h2 (by omega)).cell 0 rfl) (htr.only h2 (fun k hk=>by omega)) (hcel.only h2 (by omega))).mono ?_;rintro e w' ⟨rfl,rfl⟩;exact⟨rfl,1,rfl⟩))
  (fun j hj=>by
    rw[hsz] at hj;rw[aZ];refine⟨hg.cell j ?_,hg.frozen j⟩;rw[getElem!_pos _ j (by rw[hsz];exact hj)];simp[cN,hj]) hg.lt (by rw[hsz];omega) (kcmp_total hd)
 rw[hsz] at h;refine Calls.mono (P:=Tryz.prog) h (fun e w' h=>?_);obtain⟨rfl,n,os,rfl⟩:=h;obtain⟨h1,h2⟩:=yV (enc:=fun x:Fin v.keys.length=>.int .i64 (x.val:Int)) (D:=((List.finRange v.keys.length).toArray.toList.mergeSort fun x y=>!(ltOf (qS v.keys)) y x).toArray) n os hg (by simp[cN]);refine⟨rfl,h1.eq ?_,h2⟩;simp[cN,vOrder,IV,ltOf]
theorem F8 (S:Nat->Prop) (v:Vl) (cs:List Value) (a:Addr) (w:World) (htr:Trs.at S w v.tr cs) (hcel:i7 w a cs) (hd:mM [] v.keys=false) (hn:v.keys.length<=1000000) :
 Calls Tryz.prog 236 #[.pointer (some a)] w fun e w'=>e=.returned (.slice (some ⟨w.heap.size+1,0,none⟩) v.keys.length v.keys.length)/\Blk w' (w.heap.size+1) (cN (vOrder v.keys)).toArray 3/\Below w.heap.size w w':=by
 have hmf:∀ (fn:Fn) (first cap:Array Value) (w:World),(Instr.makeFunc fn first cap).run Tryz.prog w=.ok (.func fn first cap) w:=fun _ _ _ _=>rfl
 have hmk:∀ w',(Instr.makeSlice 116 (.int .i64 (v.keys.length:Int)) (.int .i64 (v.keys.length:Int))).run Tryz.prog w'=.ok (.slice (some ⟨w'.heap.size,0,none⟩) v.keys.length v.keys.length) (w'.alloc (.cells (cN (List.replicate v.keys.length 0)).toArray 3)):=fun w'=>EI _ (by omega) w'
 have hb1:Below w.heap.size w (w.alloc (.cells #[.pointer (some a)] 275)):=(aB _ w).alloc (aA _) _;obtain⟨A,c,B,d,rfl,hw1,hw2,hw3,hw4,hks⟩:=Vl.at_iff.1 htr;obtain⟨c0,c1,c2,c3,c4,c5⟩:=iA (hcel.below hb1);have hbw:Below w.heap.size w ((w.alloc (.cells #[.pointer (some a)] 275)).alloc (.cells (cN (List.replicate v.keys.length 0)).toArray 3)):=hb1.alloc (by simp) _;have kb:Blk ((w.alloc (.cells #[.pointer (some a)] 275)).alloc (.cells (cN (List.replicate v.keys.length 0)).toArray 3)) w.heap.size #[.pointer (some a)] 275:=(aJ w _ _).alloc _;have kg:Blk ((w.alloc (.cells #[.pointer (some a)] 275)).alloc (.cells (cN (List.replicate v.keys.length 0)).toArray 3)) (w.heap.size+1) (cN (List.replicate v.keys.length 0)).toArray 3:=by
  have:=aJ (w.alloc (.cells #[.pointer (some a)] 275)) (cN (List.replicate v.keys.length 0)).toArray 3;rwa [show (w.alloc (.cells #[.pointer (some a)] 275)).heap.size=w.heap.size+1 by simp] at this
 have HTR:=Hd htr;have HCEL:=Hd hcel;have HD:=Hd hd;have HBW:=Hd hbw;have HKB:=Hd kb;have HKG:=Hd kg;clear htr hcel hd hbw kb kg hw1 hw2 hw3 hw4 hks hb1;go_enter Tryz.func236,Tryz.ntmps236;go_wp2_with fail;go_loopg [13] v.keys.length (fun g i wr=>∃ j:Nat,j+g=v.keys.length/\i=.int .i64 (j:Nat)/\Hid (Blk wr (w.heap.size+1) (cN (List.range j++List.replicate (v.keys.length-j) 0)).toArray 3)/\Hid (fP (fun k=>k=w.heap.size+1) ((w.alloc (.cells #[.pointer (some a)] 275)).alloc (.cells (cN (List.replicate v.keys.length 0)).toArray 3)) wr))
 case atStart=>exact⟨0,by omega,rfl,Hd (by simpa using HKG.o),Hd (bG _ _)⟩
 obtain⟨j,hj,rfl,HR,HO⟩:=hrel;rename World=>wo
 clear c0 c1 c2 c3 c4 c5;cases gk with
 | zero =>
   have hjn:j=v.keys.length:=by omega
   subst hjn;have hjj:¬((v.keys.length:Int)<(v.keys.length:Int)):=by omega
   have HB:Hid (Below w.heap.size w wo):=Hd (HBW.o.trans (HO.o.below (by simp;omega) (fun k hk=>by omega)));have HKO:=Hd (HKB.o.only HO.o (by omega));have HRO:Hid (Blk wo (w.heap.size+1) (cN (List.range v.keys.length)).toArray 3):=Hd (by simpa using HR.o);have HSO:Hid (Calls Tryz.prog 245 #[.slice (some ⟨w.heap.size+1,0,none⟩) v.keys.length v.keys.length,(.func (.func 246) #[] #[.pointer (some ⟨w.heap.size,0,none⟩)])] wo fun e w'=>e=.returned (.tuple #[])/\Blk w' (w.heap.size+1) (cN (vOrder v.keys)).toArray 3/\Below w.heap.size w w'):=Hd (by
    have hs:=FL S v _ a w.heap.size (w.heap.size+1) wo ((HTR.o.bound.below HB.o).mono (fun k hk=>⟨hk.1,by omega⟩)) (HCEL.o.below HB.o) (aF w _ (HCEL.o 0 _ rfl)) HKO.o HRO.o HD.o (by omega) (by omega);exact hs.mono (fun e w' h=>⟨h.1,h.2.1,h.2.2.belowB HB.o (fun k hk=>by omega)⟩))
   clear HR HO;go_wp2_with fail;refine HSO.o.mono ?_;rintro e w5 ⟨rfl,hg,hb⟩;have HG:=Hd hg;have HB5:=Hd hb;clear hg hb HSO;go_wp2;go_ret;exact⟨rfl,HG.o,HB5.o⟩
 | succ g =>
   have hjj:(j:Int)<(v.keys.length:Int):=by omega
   have hj0:(0:Int)<=(j:Int)/\(j:Int)<(v.keys.length:Int):=by omega
   have hcs:(cN (List.range j++List.replicate (v.keys.length-j) 0)).toArray[j]?=some (.int .i64 0):=by
    simp only[cN,cV,List.map_replicate];simp only[List.getElem?_toArray];rw[bH (by simp),dU];simp;omega
   have x0:=HR.o.cell j hcs;have z0:=HR.o.frozen j;have HR2:Hid (Blk (wo.setCell ⟨w.heap.size+1,j,none⟩ (.int .i64 (j:Int))) (w.heap.size+1) (cN (List.range (j+1)++List.replicate (v.keys.length-(j+1)) 0)).toArray 3):=Hd ((HR.o.set j (.int .i64 (j:Int))).eq (by
    apply Array.ext';simp only[eJ,List.toList_toArray];rw[show v.keys.length-j=(v.keys.length-(j+1))+1 by omega,aX,dP];simp only[cN,cV,bY,eL,dI,List.singleton_append];rw[List.set_append_right _ _ (by simp)];simp))
   have HO2:=Hd (HO.o.setCell ⟨w.heap.size+1,j,none⟩ (.int .i64 (j:Int)) (fun _=>rfl));clear hcs;go_wp2_with fail;go_roundg g
   case measure=>omega
   case rel=>exact⟨j+1,by omega,by go_num,HR2,HO2⟩
def iE:Nat->Vl->Vl
 | 0,v=>v
 | k+1,v=>if v.kind=5 then ⟨v.kind,v.bool,v.num,v.text,(vOrder v.keys).filterMap fun i=>(v.list[i]?).map (iE k),(vOrder v.keys).filterMap fun i=>v.keys[i]?⟩
   else ⟨v.kind,v.bool,v.num,v.text,v.list.map (iE k),[]⟩
def yQ:Nat->Vl->Prop
 | 0,_=>False
 | k+1,v=>(v.kind=5->v.keys.length=v.list.length/\mM [] v.keys=false)/\v.keys.length<=1000000/\v.list.length<=1000000/\∀ x∈v.list,yQ k x
theorem vG {j i:Nat} (h:(vOrder ks)[j]?=some i):i<ks.length:=by
 have:=aD h;simp only[vOrder,List.mem_map] at this;obtain⟨x,_,rfl⟩:=this;exact x.isLt
theorem AE:(Tryz.prog.info? 44).map (fun i=>(i.zero,i.size,i.bytes))=some (some (.agg #[.int .i8 0,.bool false,.int .i64 0,.string ByteArray.empty,.slice none 0 0,.slice none 0 0]),6,80):=by kernel_rfl
def Fq (q:Nat) (LA KA:Option Addr) (k:Nat):Prop:=k=q∨blk LA=some k∨blk KA=some k
structure So (b:Nat) (v:Vl) (q:Nat) (LA:Option Addr) (lc:Nat) (xs:List Value) (l:List Vl) (KA:Option Addr) (kc:Nat) (ks:List ByteArray) (w:World):Prop where
 box:Blk w q #[.int .i8 v.kind,.bool v.bool,.int .i64 v.num,.string v.text,.slice LA l.length lc,.slice KA ks.length kc] 44
 hq:b<=q
 ls:Ow w b 44 6 LA l.length lc xs
 kr:Ow w b 9 1 KA ks.length kc (ks.map .string)
 tr:Trs.at (fun k=>¬Fq q LA KA k/\b<=k/\k<w.heap.size) w (l.flatMap Vl.tr) xs
 bx:blk LA≠some q
section
variable {b q:Nat} {v:Vl} {LA KA:Option Addr} {lc kc:Nat} {xs:List Value} {l:List Vl} {ks:List ByteArray} {w w' w5 w6:World}
theorem So.below (h:So b v q LA lc xs l KA kc ks w) (hb:Below w.heap.size w w'):So b v q LA lc xs l KA kc ks w' :=
 ⟨h.box.below hb,h.hq,h.ls.below hb,h.kr.below hb,Trs.at.keep (fun _ hp _=>hb.cell hp) (fun k hk=>⟨hk.1,hk.2.1,aO hk.2.2 hb.size⟩) _ _ h.tr,h.bx⟩
theorem So.addL (h:So b v q LA lc xs l KA kc ks w) (hb5:Below w.heap.size w w5) {x:Vl} (ht:Trs.at (fun k=>w.heap.size<=k) w5 x.tr cs)
 (ho:Ow w6 b 44 6 A' (l.length+1) c' (xs++cs)) (hg:w5.grownBy w6 (blk LA)) (hat:A'=LA∨A'=some ⟨w5.heap.size,0,none⟩) :
 So b v q A' c' (xs++cs) (l++[x]) KA kc ks (w6.setCell ⟨q,4,none⟩ (.slice A' (l.length+1) c'))/\fP (fun k=>blk LA=some k∨k=q) w (w6.setCell ⟨q,4,none⟩ (.slice A' (l.length+1) c')):=by
 have hlt:=h.box.lt;have hs5:=hb5.size;have hs6:=hg.size;have hbx6:=(h.box.below hb5).grown hg h.bx;have hnq:blk A'≠some q:=by
  rcases hat with rfl | rfl
  .exact h.bx
  simp only[blk,cE];intro e;injection e with e;omega
 have hon:fP (fun k=>blk LA=some k∨k=q) w5 (w6.setCell ⟨q,4,none⟩ (.slice A' (l.length+1) c')):=((bG _ w5).grown hg (fun g hg _=>.inl hg)).setCell _ _ (fun _=>.inr rfl);have hkl:blk KA=none∨blk KA≠blk LA:=h.kr.ne h.ls (by decide);refine⟨⟨(hbx6.set 4 _).eq (by simp),h.hq,?_,((h.kr.below hb5).grown hg hkl).setOther _ _ (h.kr.ne_blk h.box (by decide)),?_,hnq⟩,(aK hb5 _).trans hon (fun i _ hi=>hi)⟩
 .have:=ho.setOther ⟨q,4,none⟩ (.slice A' (l.length+1) c') hnq;simpa using this
 rw[bE];refine Trs.at.app.2 ⟨_,_,rfl,?_,?_⟩
 .refine Trs.at.keep (fun p hp hs=>?_) (fun k hk=>?_) _ _ h.tr
  .have h1:¬(blk LA=some p.block∨p.block=q):=fun e=>hs.1 (by
    rcases e with e | e
    .exact .inr (.inl e)
    exact .inl e)
   rw[cell_only hon (aO hp hs5) h1];exact hb5.cell hp
  refine⟨fun e=>hk.1 ?_,hk.2.1,by simp;omega⟩;rcases e with e | e | e
  .exact .inl e
  .rcases hat with rfl | rfl
   .exact .inr (.inl e)
   simp only[blk,cE] at e;injection e with e;omega
  exact .inr (.inr e)
 rw[List.flatMap_singleton];refine Trs.at.keep (fun p hp hs=>?_) (fun k hk=>?_) _ _ ht.bound
 .refine cell_only hon hs.2 (fun e=>?_);rcases e with e | e
  .have:=(h.ls.lt e).2;omega
  omega
 refine⟨fun e=>?_,?_,by simp;omega⟩
 .rcases e with e | e | e
  .omega
  .rcases hat with rfl | rfl
   .have:=(h.ls.lt e).2;omega
   simp only[blk,cE] at e;injection e with e;omega
  have:=(h.kr.lt e).2;omega
 have:=h.hq;omega
theorem So.addK (h:So b v q LA lc xs l KA kc ks w) (hb5:Below w.heap.size w w5) {x:ByteArray}
 (ho:Ow w6 b 9 1 A' (ks.length+1) c' (ks.map .string++[.string x])) (hg:w5.grownBy w6 (blk KA)) (hat:A'=KA∨A'=some ⟨w5.heap.size,0,none⟩) :
 So b v q LA lc xs l A' c' (ks++[x]) (w6.setCell ⟨q,5,none⟩ (.slice A' (ks.length+1) c'))/\fP (fun k=>blk KA=some k∨k=q) w (w6.setCell ⟨q,5,none⟩ (.slice A' (ks.length+1) c')):=by
 have hlt:=h.box.lt;have hs5:=hb5.size;have hs6:=hg.size;have hkb:=h.kr.ne_blk h.box (by decide);have hbx6:=(h.box.below hb5).grown hg hkb;have hnq:blk A'≠some q:=by
  rcases hat with rfl | rfl
  .exact hkb
  simp only[blk,cE];intro e;injection e with e;omega
 have hon:fP (fun k=>blk KA=some k∨k=q) w5 (w6.setCell ⟨q,5,none⟩ (.slice A' (ks.length+1) c')):=((bG _ w5).grown hg (fun g hg _=>.inl hg)).setCell _ _ (fun _=>.inr rfl);have hkl:blk LA=none∨blk LA≠blk KA:=h.ls.ne h.kr (by decide);refine⟨⟨(hbx6.set 5 _).eq (by simp),h.hq,((h.ls.below hb5).grown hg hkl).setOther _ _ h.bx,?_,?_,h.bx⟩,(aK hb5 _).trans hon (fun i _ hi=>hi)⟩
 .have:=ho.setOther ⟨q,5,none⟩ (.slice A' (ks.length+1) c') hnq;simpa using this
 refine Trs.at.keep (fun p hp hs=>?_) (fun k hk=>?_) _ _ h.tr
 .have h1:¬(blk KA=some p.block∨p.block=q):=fun e=>hs.1 (by
   rcases e with e | e
   .exact .inr (.inr e)
   exact .inl e)
  rw[cell_only hon (aO hp hs5) h1];exact hb5.cell hp
 refine⟨fun e=>hk.1 ?_,hk.2.1,by simp;omega⟩;rcases e with e | e | e
 .exact .inl e
 .exact .inr (.inl e)
 rcases hat with rfl | rfl
 .exact .inr (.inr e)
 simp only[blk,cE] at e;injection e with e;omega
theorem So.val (h:So b v q LA lc xs l KA kc ks w) (hw1:(Lit.int .i8 v.kind).wf=true) (hw2:(Lit.int .i64 v.num).wf=true) (hw3:v.text.size<=9007199254740992) (hl:l.length<=1000000) (hk:ks.length<=1000000) (hks:∀ s∈ks,s.size<=9007199254740992) :
 Trs.at (fun k=>b<=k) w (Vl.tr ⟨v.kind,v.bool,v.num,v.text,l,ks⟩) [.int .i8 v.kind,.bool v.bool,.int .i64 v.num,.string v.text,.slice LA l.length lc,.slice KA ks.length kc]:=by
 refine Vl.at_iff.2 ⟨LA,lc,KA,kc,rfl,hw1,hw2,hw3,⟨by omega,by show l.length*80<=_;omega,h.ls.cap,h.ls.max,fun ad e h0=>?_,xs,h.ls.rd,h.tr.mono (fun k hk=>hk.2.1)⟩,Ls.mk_strs h.kr.rd (by show ks.length<=_;omega) hks (fun ad e h0=>?_)⟩
 .subst e;exact(h.ls.lt rfl).1
 subst e;exact(h.kr.lt rfl).1
end
def MK (x:Vl) (w:World) (e:Ending) (w':World):Prop:=Below w.heap.size w w'/\∃ A c B d,e=.returned (.agg (kV x A c B d))/\Trs.at (fun k=>w.heap.size<=k) w' x.tr [.int .i8 x.kind,.bool x.bool,.int .i64 x.num,.string x.text,.slice A x.list.length c,.slice B x.keys.length d]
def UD (k:Nat):Prop:=∀ (S:Nat->Prop) (v:Vl) (cs:List Value) (a:Addr) (w:World),yQ k v->Trs.at S w v.tr cs->i7 w a cs->Calls Tryz.prog 228 #[.pointer (some a)] w (MK (iE k v) w)
theorem ND (k:Nat) (IH:UD k):UD (k+1):=by
 intro S v cs a w hgd htr hcel;obtain⟨A,c,B,d,rfl,hw1,hw2,hw3,hl,hks⟩:=Vl.at_iff.1 htr;have hal:a.block<w.heap.size:=aF w _ (hcel 0 _ rfl);have hlcap:=hl.cap;have hkcap:=hks.cap;obtain⟨hg1,hg2,hg3,hg4⟩:=hgd;have HW:=Hd (⟨hw1,hw2,hw3⟩:(Lit.int .i8 v.kind).wf=true/\(Lit.int .i64 v.num).wf=true/\v.text.size<=9007199254740992);have HL:=Hd hl;have HKS:=Hd hks;have HTR:=Hd htr;have HCEL:=Hd hcel;have HG:=Hd hg1;have HG4:=Hd hg4;have HIH:=Hd IH;have hb1:Below w.heap.size w (w.alloc (.cells zE 44)):=(aB _ w).alloc (aA _) _;have HB1:=Hd hb1;have HKR:Hid (Blk (w.alloc (.cells zE 44)) w.heap.size zE 44):=Hd (aJ w _ _);obtain⟨c0,c1,c2,c3,c4,c5⟩:=iA (hcel.below hb1);clear htr hcel hl hks hg1 hg4 IH hb1 hw1 hw2 hw3;go_enter Tryz.func228,Tryz.ntmps228;go_upto_region 1 with fail;go_cut [3] from 7 to 23 (fun v3 wx=>v3=.pointer (some ⟨w.heap.size+1,0,none⟩)/\Hid (Blk wx (w.heap.size+1) #[.int .i8 v.kind,.bool v.bool,.int .i64 v.num,.string v.text,.slice none 0 0,.slice none 0 0] 44)/\Hid (Blk wx w.heap.size zE 44)/\Hid (Below w.heap.size w wx)/\wx.heap.size=w.heap.size+2)
 case first =>
  go_wp2_with fail;refine cK 18 (fun w'=>w'.cell? a=some (.int .i8 v.kind)/\w'.cell? ⟨a.block,a.off+1,none⟩=some (.bool v.bool)/\w'.cell? ⟨a.block,a.off+2,none⟩=some (.int .i64 v.num)/\w'.cell? ⟨a.block,a.off+3,none⟩=some (.string v.text)) (by kernel_rfl) (by go_keep) (fun hH0=>?_);simp only[aQ,bC,aX,bA,aZ,Nat.reduceAdd];refine aL hH0 0 ?_;try simp only[Act.put,sA,sB,sC]
  refine aL hH0 1 ?_;try simp only[Act.put,sA,sB,sC]
  refine aL hH0 2 ?_;try simp only[Act.put,sA,sB,sC]
  refine aL hH0 3 ?_;try simp only[Act.put,sA,sB,sC]
  refine aL hH0 4 ?_;try simp only[Act.put,sA,sB,sC]
  refine aL hH0 5 ?_;try simp only[Act.put,sA,sB,sC]
  refine aL hH0 6 ?_;try simp only[Act.put,sA,sB,sC]
  refine aL hH0 7 ?_;try simp only[Act.put,sA,sB,sC]
  refine aL hH0 8 ?_;try simp only[Act.put,sA,sB,sC]
  refine aL hH0 9 ?_;try simp only[Act.put,sA,sB,sC]
  refine aL hH0 10 ?_;try simp only[Act.put,sA,sB,sC]
  refine aL hH0 11 ?_;try simp only[Act.put,sA,sB,sC]
  refine aL hH0 12 ?_;try simp only[Act.put,sA,sB,sC]
  refine aL hH0 13 ?_;try simp only[Act.put,sA,sB,sC]
  refine aL hH0 14 ?_;try simp only[Act.put,sA,sB,sC]
  refine aL hH0 15 ?_;try simp only[Act.put,sA,sB,sC]
  refine aL hH0 16 ?_;try simp only[Act.put,sA,sB,sC]
  refine cT 17 fun K hK=>?_
  go_simp;refine cM hK fun hH1=>?_
  clear hK K hH0;try simp only[Act.put,aE,aH,aI]
  refine dY fun K hK=>?_
  go_simp;refine hK.out _ _ ?_;clear hK K hH1;all_goals
   go_wp2_with fail
   go_meet
   refine⟨rfl,Hd ?_,Hd (((aJ w _ _).alloc _).drew),Hd (((aB _ w).alloc (aA _) _).alloc (by simp) _).drew,by simp⟩
   have:=aJ (w.alloc (.cells zE 44)) #[.int .i8 v.kind,.bool v.bool,.int .i64 v.num,.string v.text,.slice none 0 0,.slice none 0 0] 44
   rw[show (w.alloc (.cells zE 44)).heap.size=w.heap.size+1 by simp] at this
   exact this.drew
 obtain⟨rfl,HQ,HR,HBX,hsx⟩:=hcut;rename World=>wx
 clear HKR HB1;have HS0:Hid (So (w.heap.size+1) v (w.heap.size+1) none 0 [] [] none 0 [] wx):=Hd ⟨HQ.o,aA _,dF _ _ _ _,dF _ _ _ _,by simp only[bW];exact gJ.2 rfl,by simp[blk]⟩;clear c0 c1 c2 c3 c4 c5;obtain⟨c0,c1,c2,c3,c4,c5⟩:=iA (HCEL.o.below HBX.o);by_cases h5:v.kind=5
 .have e5:(v.kind==5)=true:=by simpa using h5
  obtain⟨hkl,hdup⟩:=HG.o h5;have HDUP:=Hd hdup;have HKL:=Hd hkl;clear hkl;have HVS:Hid (iE (k+1) v=⟨v.kind,v.bool,v.num,v.text,(vOrder v.keys).filterMap fun i=>(v.list[i]?).map (iE k),(vOrder v.keys).filterMap fun i=>v.keys[i]?⟩):=Hd (by simp only[iE];rw[if_pos h5]);have HOC:Hid (Calls Tryz.prog 236 #[.pointer (some a)] wx fun e w'=>e=.returned (.slice (some ⟨w.heap.size+3,0,none⟩) v.keys.length v.keys.length)/\Blk w' (w.heap.size+3) (cN (vOrder v.keys)).toArray 3/\Below wx.heap.size wx w'):=Hd (by
   have:=F8 S v [.int .i8 v.kind,.bool v.bool,.int .i64 v.num,.string v.text,.slice A v.list.length c,.slice B v.keys.length d] a wx (HTR.o.below HBX.o) (HCEL.o.below HBX.o) HDUP.o hg2;rw[hsx] at this ⊢;exact this)
  clear h5 HQ hdup;go_wp2_with fail;refine HOC.o.mono ?_;rintro e w1 ⟨rfl,hg,hb⟩;have HR1:=Hd (HR.o.below hb);have HS1:=Hd (HS0.o.below hb);have HB1:Hid (Below w.heap.size w w1):=Hd (HBX.o.trans (hb.mono HBX.o.size));have HG1:=Hd hg;have hs1:=hb.size;have hs1':=hg.lt;clear hg hb HOC HR HS0 HBX c0 c1 c2 c3 c4 c5;go_wp2_with fail;go_loopg [32] v.keys.length (fun g i wr=>∃ (j:Nat) (LA:Option Addr) (lc:Nat) (xs:List Value) (L:List Vl) (KA:Option Addr) (kc:Nat) (ks:List ByteArray),j+g=v.keys.length/\i=.int .i64 (j:Nat)/\Hid (L=((vOrder v.keys).take j).filterMap fun i=>(v.list[i]?).map (iE k))/\Hid (ks=((vOrder v.keys).take j).filterMap fun i=>v.keys[i]?)/\Hid (L.length=j/\ks.length=j)/\L.length<=j/\ks.length<=j/\Hid (∀ s∈ks,s.size<=9007199254740992)/\Hid (So (w.heap.size+1) v (w.heap.size+1) LA lc xs L KA kc ks wr)/\Hid (Blk wr w.heap.size zE 44)/\Hid (Blk wr (w.heap.size+3) (cN (vOrder v.keys)).toArray 3)/\Hid (Below w.heap.size w wr))
  case atStart=>exact⟨0,none,0,[],[],none,0,[],by omega,rfl,Hd (by simp),Hd (by simp),Hd ⟨rfl,rfl⟩,aA _,aA _,Hd (by simp),HS1,HR1,HG1,HB1⟩
  obtain⟨j,LA,lc,xs,L,KA,kc,ks,hj,rfl,HLE,HKE,HLK,hLl,hKl,HKZ,HSO,HRO,HGO,HBO⟩:=hrel;rename World=>wo
  obtain⟨c0,c1,c2,c3,c4,c5⟩:=iA (HCEL.o.below HBO.o);obtain⟨q0,q1,q2,q3,q4,q5⟩:=gH HSO.o.box;cases gk with
  | zero =>
    have hjn:j=v.keys.length:=by omega
    have hjj:¬((j:Int)<(v.keys.length:Int)):=by omega
    have HVE:Hid (iE (k+1) v=⟨v.kind,v.bool,v.num,v.text,L,ks⟩):=Hd (by rw[HVS.o,HLE.o,HKE.o,aN (by rw[oN];omega)]);go_wp2_with ((with_reducible refine is_store ?_);refine wpList_store_blk rfl 44 _ _ rfl w.heap.size #[.int .i8 v.kind,.bool v.bool,.int .i64 v.num,.string v.text,.slice LA L.length lc,.slice KA ks.length kc] zE 44 rfl rfl HRO.o rfl (by kernel_rfl) (by simp[Value.oneCell']) ?_;intro w5 hk5 ho5;have HK5:=Hd hk5;have HO5:=Hd ho5;clear hk5 ho5);obtain⟨r0,r1,r2,r3,r4,r5⟩:=gH HK5.o;refine bodyPost_ret (v:=.agg #[.int .i8 v.kind,.bool v.bool,.int .i64 v.num,.string v.text,.slice LA L.length lc,.slice KA ks.length kc]) (by simp[results,Tryz.results228,go_sem,r0,r1,r2,r3,r4,r5]) rfl ?_;rw[HVE.o];have hval:=HSO.o.val HW.o.1 HW.o.2.1 HW.o.2.2 (by omega) (by omega) HKZ.o;refine⟨HO5.o.belowB HBO.o (fun k hk=>by omega),LA,lc,KA,kc,rfl,?_⟩;exact(hval.only HO5.o (fun k hk e=>by omega)).mono (fun k hk=>by omega)
  | succ g =>
    have hjj:(j:Int)<(v.keys.length:Int):=by omega
    have hj0:(0:Int)<=(j:Int)/\(j:Int)<(v.keys.length:Int):=by omega
    obtain⟨ix,hix⟩:=fO (l:=vOrder v.keys) (i:=j) (by rw[oN];omega);have hixl:=vG hix;have hi0:(0:Int)<=(ix:Int)/\(ix:Int)<(v.keys.length:Int):=by omega
    have hi1:(0:Int)<=(ix:Int)/\(ix:Int)<(v.list.length:Int):=by have:=HKL.o;omega
    obtain⟨x,hx⟩:=fO (l:=v.list) (i:=ix) (by have:=HKL.o;omega);obtain⟨s,hs⟩:=fO (l:=v.keys) (i:=ix) (by omega);obtain⟨ad,xcs,rfl,hxt,hxc⟩:=HL.o.elem dK hx;obtain⟨bd,rfl,hsc,hsz⟩:=HKS.o.str hs;have g0:=HGO.o.cell j (v:=.int .i64 (ix:Int)) (by simp[cN,hix]);obtain⟨y,hy⟩:∃ y,y=iE k x:=⟨_,rfl⟩;have HCL:Hid (∀ w',Below w.heap.size w w'->Calls Tryz.prog 228 #[.pointer (some (ad.add (ix*6)))] w' (MK y w')):=Hd (fun w' hb2=>by
     rw[hy];exact HIH.o S x xcs _ w' (HG4.o x (aD hx)) (hxt.below hb2) (hxc.below hb2))
    have HLE2:Hid (L++[y]=((vOrder v.keys).take (j+1)).filterMap fun i=>(v.list[i]?).map (iE k)):=Hd (by rw[HLE.o,aT,hix,hy];simp[hx]);have HKE2:Hid (ks++[s]=((vOrder v.keys).take (j+1)).filterMap fun i=>v.keys[i]?):=Hd (by rw[HKE.o,aT,hix];simp[hs]);have s0:=(HBO.o.cell (aF w _ hsc)).trans hsc;have HBD:Hid ((bd.add ix).block<w.heap.size):=Hd (aF w _ hsc);have HKZ2:Hid (∀ r∈ks++[s],r.size<=9007199254740992):=Hd (by intro r hr;rcases List.mem_append.1 hr with hr | hr;exact HKZ.o r hr;rw[List.mem_singleton.1 hr];exact hsz);clear hx hs hxt hxc hy hsc hsz hix;go_wp2_with fail;refine cK 12 (fun w'=>w'.cell? ⟨w.heap.size+1,5,none⟩=some (.slice KA ks.length kc)/\w'.cell? ⟨a.block,a.off+5,none⟩=some (.slice (some bd) v.keys.length d)/\w'.cell? (bd.add ix)=some (.string s)) (by kernel_rfl) (by go_keep) (fun hH0=>?_);simp only[aQ,bC,aX,bA,aZ,Nat.reduceAdd];refine aL hH0 0 ?_;try simp only[Act.put,sA,sB,sC]
    refine aL hH0 1 ?_;try simp only[Act.put,sA,sB,sC]
    refine aL hH0 2 ?_;try simp only[Act.put,sA,sB,sC]
    refine aL hH0 3 ?_;try simp only[Act.put,sA,sB,sC]
    refine aL hH0 4 ?_;try simp only[Act.put,sA,sB,sC]
    refine aL hH0 5 ?_;try simp only[Act.put,sA,sB,sC]
    refine aL hH0 6 ?_;try simp only[Act.put,sA,sB,sC]
    refine aL hH0 7 ?_;try simp only[Act.put,sA,sB,sC]
    refine aL hH0 8 ?_;try simp only[Act.put,sA,sB,sC]
    refine cT 9 fun K hK=>?_
    go_simp;refine cM hK fun hH1=>?_
    clear hK K hH0;try simp only[Act.put,aE,aH,aI]
    refine cT 10 fun K hK=>?_
    refine jR info_str Tryz.underlying42 rfl (by omega) rfl (.tmp 37) (.tmp 45) rfl (w.heap.size+1) KA kc ks.length (ks.map .string) (by rfl) (HSO.o.kr.drew.alloc (.cells #[.string s] 9)) (some ⟨wo.drew.heap.size,0,none⟩) 1 1 [.string s] (by rfl) (cQ wo.drew 1 1 #[.string s] 9 (0,0) rfl (by simp[maxLen])) (by simp[Value.oneCell']) (by omega) (by omega) (by have:=HSO.o.box.lt;simp;omega) ?_;intro A6 c6 w6 ho6 hg6 hat6;have HO6:=Hd ho6;have HG6:=Hd hg6;have HT6:=Hd hat6;have hbA:Below wo.heap.size wo (wo.drew.alloc (.cells #[.string s] 9)):=(aB _ wo).drew.alloc (aA _) _;have HBA6:=Hd hbA;have hk6:=(HSO.o.box.below hbA).grown hg6 (HSO.o.kr.ne_blk HSO.o.box (by decide));have f6:=hk6.frozen 5;have g6:=hk6.cell 5 (v:=.slice KA ks.length kc) rfl;have hon6:fP (fun k=>blk KA=some k) wo w6:=((aK hbA _).grown hg6 (fun g hg _=>hg));obtain⟨y0,y1,y2,y3,y4,y5⟩:=iA ((HCEL.o.below HBO.o).only hon6 (fun e=>by have:=(HSO.o.kr.lt e).1;omega));have z0:=(cell_only hon6 (p:=bd.add ix) (aO HBD.o HBO.o.size) (fun e=>by have h1:=(HSO.o.kr.lt e).1;have h2:=HBD.o;omega)).trans s0;clear ho6 hg6 hat6 hk6 hbA hon6;refine cM hK fun hH2=>?_
    clear hK K hH1;try simp only[Act.put,aE,aH,aI]
    refine aL hH2 11 ?_;try simp only[Act.put,sA,sB,sC]
    refine dY fun K hK=>?_
    go_simp;refine hK.out _ _ ?_;clear hK K hH2;all_goals
     obtain⟨h1,h2⟩:=HSO.o.addK HBA6.o HO6.o HG6.o HT6.o
     have hF:∀ k,(blk KA=some k∨k=w.heap.size+1)->w.heap.size+1<=k/\k≠w.heap.size+3:=fun k e=>e.elim (fun e=>⟨(HSO.o.kr.lt e).1,fun e2=>HSO.o.kr.ne_blk HGO.o (by decide) (by rw[e,e2])⟩) (fun e=>by omega)
     have HA:=Hd h1
     have HRA:=Hd (HRO.o.only h2 (fun e=>by have:=hF _ e;omega))
     have HGA:=Hd (HGO.o.only h2 (fun e=>(hF _ e).2 rfl))
     have HBA:=Hd (h2.belowB HBO.o (fun k e=>by have:=hF _ e;omega))
     clear h1 h2 hF HBA6 HG6 HT6 HO6 HSO HRO HGO HBO f6 g6 c0 c1 c2 c3 c4 c5 q0 q1 q2 q3 q4 q5 s0 g0
     obtain⟨wv,hwv⟩:∃ wv,wv=w6.setCell ⟨w.heap.size+1,5,none⟩ (.slice A6 (ks.length+1) c6):=⟨_,rfl⟩
     rw[<-hwv] at HA HRA HGA HBA
     rw[<-hwv]
     clear hwv y0 y1 y2 y3 y4 y5 z0
     obtain⟨c0,c1,c2,c3,c4,c5⟩:=iA (HCEL.o.below HBA.o)
     obtain⟨q0,q1,q2,q3,q4,q5⟩:=gH HA.o.box
     go_wp2_with fail
     refine cK 12 (fun w'=>w'.cell? ⟨w.heap.size+1,4,none⟩=some (.slice LA L.length lc)/\w'.cell? ⟨a.block,a.off+4,none⟩=some (.slice (some ad) v.list.length c)) (by kernel_rfl) (by go_keep) (fun hH0=>?_)
     simp only[aQ,bC,aX,bA,aZ,Nat.reduceAdd]
     refine aL hH0 0 ?_
     try simp only[Act.put,sA,sB,sC]
     refine aL hH0 1 ?_
     try simp only[Act.put,sA,sB,sC]
     refine aL hH0 2 ?_
     try simp only[Act.put,sA,sB,sC]
     refine aL hH0 3 ?_
     try simp only[Act.put,sA,sB,sC]
     refine aL hH0 4 ?_
     try simp only[Act.put,sA,sB,sC]
     refine aL hH0 5 ?_
     try simp only[Act.put,sA,sB,sC]
     refine aL hH0 6 ?_
     try simp only[Act.put,sA,sB,sC]
     refine aL hH0 7 ?_
     try simp only[Act.put,sA,sB,sC]
     refine cT 8 fun K hK=>?_
     go_simp;go_at_call 228;(with_reducible refine(HCL.o wv.drew HBA.o.drew).mono ?_);rintro e w5 ⟨hb5,A5,n5,B5,m5,rfl,ht5⟩;have hb5':Below wv.heap.size wv w5:=(aB _ wv).drew.trans hb5;have k4:=(HA.o.box.below hb5').cell 4 (v:=.slice LA L.length lc) rfl;obtain⟨u0,u1,u2,u3,u4,u5⟩:=iA ((HCEL.o.below HBA.o).below hb5');have hz5:=hb5'.size;have HB5:=Hd hb5';have HT5:=Hd ht5;clear hb5 hb5' ht5
     refine cM hK fun hH1=>?_
     clear hK K hH0
     try simp only[Act.put,aE,aH,aI]
     refine cT 9 fun K hK=>?_
     go_simp
     refine cM hK fun hH2=>?_
     clear hK K hH1
     try simp only[Act.put,aE,aH,aI]
     refine cT 10 fun K hK=>?_
     refine jR AE Tryz.underlying41 rfl (by omega) rfl (.tmp 49) (.tmp 57) rfl (w.heap.size+1) LA lc L.length xs (by rfl) ((HA.o.ls.below HB5.o).alloc (.cells (kV y A5 n5 B5 m5) 44)) (some ⟨w5.heap.size,0,none⟩) 1 1 [.int .i8 y.kind,.bool y.bool,.int .i64 y.num,.string y.text,.slice A5 y.list.length n5,.slice B5 y.keys.length m5] (by rfl) (cQ w5 6 1 (kV y A5 n5 B5 m5) 44 (0,0) rfl (by simp[maxLen])) (by simp[Value.oneCell']) (by omega) (by omega) (by have:=HA.o.box.lt;simp;omega) ?_;intro A8 c8 w8 ho8 hg8 hat8;have HO8:=Hd ho8;have HG8:=Hd hg8;have HT8:=Hd hat8;have hbA:Below wv.heap.size wv (w5.alloc (.cells (kV y A5 n5 B5 m5) 44)):=HB5.o.alloc HB5.o.size _;have hk6:=(HA.o.box.below hbA).grown hg8 HA.o.bx;have f6:=hk6.frozen 4;have g6:=hk6.cell 4 (v:=.slice LA L.length lc) rfl;have hon6:fP (fun k=>blk LA=some k) wv w8:=((aK hbA _).grown hg8 (fun g hg _=>hg));obtain⟨y0,y1,y2,y3,y4,y5⟩:=iA ((HCEL.o.below HBA.o).only hon6 (fun e=>by have:=(HA.o.ls.lt e).1;omega));clear ho8 hg8 hat8 hk6 hbA hon6
     refine cM hK fun hH3=>?_
     clear hK K hH2
     try simp only[Act.put,aE,aH,aI]
     refine aL hH3 11 ?_
     try simp only[Act.put,sA,sB,sC]
     refine dY fun K hK=>?_
     go_simp
     refine hK.out _ _ ?_
     clear hK K hH3
     all_goals
      go_wp2_with fail
      obtain⟨h1,h2⟩:=HA.o.addL (HB5.o.alloc HB5.o.size (.cells (kV y A5 n5 B5 m5) 44)) (HT5.o.alloc _) HO8.o HG8.o HT8.o
      have hF:∀ k,(blk LA=some k∨k=w.heap.size+1)->w.heap.size+1<=k/\k≠w.heap.size+3:=fun k e=>e.elim (fun e=>⟨(HA.o.ls.lt e).1,fun e2=>HA.o.ls.ne_blk HGA.o (by decide) (by rw[e,e2])⟩) (fun e=>by omega)
      have HE:=Hd h1
      have HRE:=Hd (HRA.o.only h2 (fun e=>by have:=hF _ e;omega))
      have HGE:=Hd (HGA.o.only h2 (fun e=>(hF _ e).2 rfl))
      have HBE:=Hd (h2.belowB HBA.o (fun k e=>by have:=hF _ e;omega))
      go_roundg g
      case measure=>omega
      case rel=>exact⟨j+1,A8,c8,xs++[.int .i8 y.kind,.bool y.bool,.int .i64 y.num,.string y.text,.slice A5 y.list.length n5,.slice B5 y.keys.length m5],L++[y],A6,c6,ks++[s],by omega,by go_num,HLE2,HKE2,Hd (by have:=HLK.o;simp;omega),by simp;omega,by simp;omega,HKZ2,HE,HRE,HGE,HBE⟩
 have e5:(v.kind==5)=false:=by simpa using h5
 have HVS:Hid (iE (k+1) v=⟨v.kind,v.bool,v.num,v.text,v.list.map (iE k),[]⟩):=Hd (by simp only[iE];rw[if_neg h5]);clear h5 HQ;go_wp2_with fail;go_loopg [67] v.list.length (fun g i wr=>∃ (j:Nat) (LA:Option Addr) (lc:Nat) (xs:List Value) (L:List Vl),j+g=v.list.length/\i=.int .i64 (j:Nat)/\Hid (L=(v.list.take j).map (iE k))/\L.length<=1000000/\Hid (So (w.heap.size+1) v (w.heap.size+1) LA lc xs L none 0 [] wr)/\Hid (Blk wr w.heap.size zE 44)/\Hid (Below w.heap.size w wr)/\w.heap.size+2<=wr.heap.size)
 case atStart=>exact⟨0,none,0,[],[],by omega,rfl,Hd (by simp),by simp,HS0,HR,HBX,by omega⟩
 obtain⟨j,LA,lc,xs,L,hj,rfl,HLE,hLL,HSO,HRO,HBO,hso⟩:=hrel;rename World=>wo
 clear c0 c1 c2 c3 c4 c5;obtain⟨c0,c1,c2,c3,c4,c5⟩:=iA (HCEL.o.below HBO.o);obtain⟨q0,q1,q2,q3,q4,q5⟩:=gH HSO.o.box;cases gk with
 | zero =>
   have hjj:¬((j:Int)<(v.list.length:Int)):=by omega
   have HVE:Hid (iE (k+1) v=⟨v.kind,v.bool,v.num,v.text,L,[]⟩):=Hd (by rw[HVS.o,HLE.o,aN (by omega)]);go_wp2_with ((with_reducible refine is_store ?_);refine wpList_store_blk rfl 44 _ _ rfl w.heap.size #[.int .i8 v.kind,.bool v.bool,.int .i64 v.num,.string v.text,.slice LA L.length lc,.slice none 0 0] zE 44 rfl rfl HRO.o rfl (by kernel_rfl) (by simp[Value.oneCell']) ?_;intro w5 hk5 ho5;have HK5:=Hd hk5;have HO5:=Hd ho5;clear hk5 ho5);obtain⟨r0,r1,r2,r3,r4,r5⟩:=gH HK5.o;refine bodyPost_ret (v:=.agg #[.int .i8 v.kind,.bool v.bool,.int .i64 v.num,.string v.text,.slice LA L.length lc,.slice none 0 0]) (by simp[results,Tryz.results228,go_sem,r0,r1,r2,r3,r4,r5]) rfl ?_;rw[HVE.o];have hval:=HSO.o.val HW.o.1 HW.o.2.1 HW.o.2.2 hLL (by simp) (by simp);refine⟨HO5.o.belowB HBO.o (fun k hk=>by omega),LA,lc,none,0,rfl,?_⟩;exact(hval.only HO5.o (fun k hk e=>by omega)).mono (fun k hk=>by omega)
 | succ g =>
   have hjj:(j:Int)<(v.list.length:Int):=by omega
   have hj0:(0:Int)<=(j:Int)/\(j:Int)<(v.list.length:Int):=by omega
   obtain⟨x,hx⟩:=fO (l:=v.list) (i:=j) (by omega);obtain⟨ad,xcs,rfl,hxt,hxc⟩:=HL.o.elem dK hx;obtain⟨y,hy⟩:∃ y,y=iE k x:=⟨_,rfl⟩;have HCL:Hid (∀ w',Below wo.heap.size wo w'->Calls Tryz.prog 228 #[.pointer (some (ad.add (j*6)))] w' (MK y w')):=Hd (fun w' hb=>by
    have hb2:Below w.heap.size w w':=HBO.o.trans (hb.mono HBO.o.size);rw[hy];exact HIH.o S x xcs _ w' (HG4.o x (aD hx)) (hxt.below hb2) (hxc.below hb2))
   have HLE2:Hid (L++[y]=(v.list.take (j+1)).map (iE k)):=Hd (by rw[HLE.o,aT,hx,hy];simp);have hLj:L.length+1<=1000000:=by
    have:=congrArg List.length HLE.o;simp at this;omega
   clear hx hxt hxc hy;go_wp2_with fail;refine cK 12 (fun w'=>w'.cell? ⟨w.heap.size+1,4,none⟩=some (.slice LA L.length lc)/\w'.cell? ⟨a.block,a.off+4,none⟩=some (.slice (some ad) v.list.length c)) (by kernel_rfl) (by go_keep) (fun hH0=>?_);simp only[aQ,bC,aX,bA,aZ,Nat.reduceAdd];refine aL hH0 0 ?_;try simp only[Act.put,sA,sB,sC]
   refine aL hH0 1 ?_;try simp only[Act.put,sA,sB,sC]
   refine aL hH0 2 ?_;try simp only[Act.put,sA,sB,sC]
   refine aL hH0 3 ?_;try simp only[Act.put,sA,sB,sC]
   refine aL hH0 4 ?_;try simp only[Act.put,sA,sB,sC]
   refine aL hH0 5 ?_;try simp only[Act.put,sA,sB,sC]
   refine aL hH0 6 ?_;try simp only[Act.put,sA,sB,sC]
   refine aL hH0 7 ?_;try simp only[Act.put,sA,sB,sC]
   refine cT 8 fun K hK=>?_
   go_simp;go_at_call 228;(with_reducible refine(HCL.o wo.drew (aB _ wo).drew).mono ?_);rintro e w5 ⟨hb5,A5,n5,B5,m5,rfl,ht5⟩;have hb5':Below wo.heap.size wo w5:=(aB _ wo).drew.trans hb5;have k4:=(HSO.o.box.below hb5').cell 4 (v:=.slice LA L.length lc) rfl;obtain⟨u0,u1,u2,u3,u4,u5⟩:=iA ((HCEL.o.below HBO.o).below hb5');have hz5:=hb5'.size;have HB5:=Hd hb5';have HT5:=Hd ht5;clear hb5 hb5' ht5;refine cM hK fun hH1=>?_
   clear hK K hH0;try simp only[Act.put,aE,aH,aI]
   refine cT 9 fun K hK=>?_
   go_simp;refine cM hK fun hH2=>?_
   clear hK K hH1;try simp only[Act.put,aE,aH,aI]
   refine cT 10 fun K hK=>?_
   refine jR AE Tryz.underlying41 rfl (by omega) rfl (.tmp 71) (.tmp 79) rfl (w.heap.size+1) LA lc L.length xs (by rfl) ((HSO.o.ls.below HB5.o).alloc (.cells (kV y A5 n5 B5 m5) 44)) (some ⟨w5.heap.size,0,none⟩) 1 1 [.int .i8 y.kind,.bool y.bool,.int .i64 y.num,.string y.text,.slice A5 y.list.length n5,.slice B5 y.keys.length m5] (by rfl) (cQ w5 6 1 (kV y A5 n5 B5 m5) 44 (0,0) rfl (by simp[maxLen])) (by simp[Value.oneCell']) (by omega) (by omega) (by simp;omega) ?_;intro A6 c6 w6 ho6 hg6 hat6;have HO6:=Hd ho6;have HG6:=Hd hg6;have HT6:=Hd hat6;have hbA:Below wo.heap.size wo (w5.alloc (.cells (kV y A5 n5 B5 m5) 44)):=HB5.o.alloc HB5.o.size _;have hk6:=(HSO.o.box.below hbA).grown hg6 HSO.o.bx;have f6:=hk6.frozen 4;have g6:=hk6.cell 4 (v:=.slice LA L.length lc) rfl;have hon6:fP (fun k=>blk LA=some k) wo w6:=((aK hbA _).grown hg6 (fun g hg _=>hg));obtain⟨y0,y1,y2,y3,y4,y5⟩:=iA ((HCEL.o.below HBO.o).only hon6 (fun e=>by have:=(HSO.o.ls.lt e).1;omega));clear ho6 hg6 hat6 hk6 hbA hon6;refine cM hK fun hH3=>?_
   clear hK K hH2;try simp only[Act.put,aE,aH,aI]
   refine aL hH3 11 ?_;try simp only[Act.put,sA,sB,sC]
   refine dY fun K hK=>?_
   go_simp;refine hK.out _ _ ?_;clear hK K hH3;all_goals
    go_wp2_with fail
    obtain⟨h1,h2⟩:=HSO.o.addL (HB5.o.alloc HB5.o.size (.cells (kV y A5 n5 B5 m5) 44)) (HT5.o.alloc _) HO6.o HG6.o HT6.o
    have hF:∀ k,(blk LA=some k∨k=w.heap.size+1)->w.heap.size+1<=k:=fun k e=>e.elim (fun e=>(HSO.o.ls.lt e).1) (fun e=>by omega)
    have HA:=Hd h1
    have HRA:=Hd (HRO.o.only h2 (fun e=>by have:=hF _ e;omega))
    have HBA:=Hd (h2.belowB HBO.o (fun k e=>by have:=hF _ e;omega))
    have hsA:=h2.size
    go_roundg g
    case measure=>omega
    case rel=>exact⟨j+1,A6,c6,xs++[.int .i8 y.kind,.bool y.bool,.int .i64 y.num,.string y.text,.slice A5 y.list.length n5,.slice B5 y.keys.length m5],L++[y],by omega,by go_num,HLE2,by simp;omega,HA,HRA,HBA,by omega⟩
theorem tC (k:Nat):UD k:=by
 induction k with
 | zero=>intro S v cs a w hg;exact hg.elim
 | succ k ih=>exact ND k ih
theorem LT:∀ k,UK k
 | 0=>by intro S a b ca cb pa pb w h;exact h.elim
 | k+1=>OT k (LT k)
theorem yT (h:vAlone v=0):(v.kind=5->v.keys.length=v.list.length)/\mM [] v.keys=false:=by
 unfold vAlone at h;split at h
 .simp at h
 split at h
 .simp at h
 next h2 =>
 split at h
 .simp at h
 unfold mA at h;split at h
 .simp at h
 split at h
 .simp at h
 split at h
 .simp at h
 next h5 =>
 exact⟨fun e=>Decidable.byContradiction fun h3=>h2 ⟨e,h3⟩,by simpa using h5⟩
theorem yP:∀ (k:Nat) (v:Vl),kC k v->(∀ x∈vWalk k v,vAlone x=0/\x.keys.length<=1000000/\x.list.length<=1000000)->yQ k v
 | 0,v,h,_=>h.elim
 | k+1,v,h,ha=>by
   obtain⟨h1,h2,h3⟩:=ha v (by simp[vWalk]);obtain⟨h4,h5⟩:=yT h1;refine⟨fun e=>⟨h4 e,h5⟩,h2,h3,fun x hx=>yP k x (h x hx) (fun y hy=>ha y ?_)⟩;simp only[vWalk,List.mem_cons,List.mem_flatMap];exact .inr ⟨x,hx,hy⟩
theorem FH (h:vChk v=0):kC 24 v/\(∀ x∈vWalk 24 v,vAlone x=0):=by
 unfold vChk at h;split at h
 .simp at h
 next h1 =>
 refine⟨mR 24 v (by omega),fun x hx=>?_⟩;cases hf:(vWalk 24 v).find? (fun x=>decide (vAlone x≠0)) with
 | some y =>
   rw[hf] at h;have:=eA hf;simp at this;exact absurd h this
 | none =>
   have:=List.find?_eq_none.1 hf x hx;simpa using this
theorem nJ (h:vChk v=0) (hs:fR v):yQ 24 v:=by
 obtain⟨h1,h2⟩:=FH h;exact yP 24 v h1 (fun x hx=>⟨h2 x hx,hs.2 x hx⟩)
theorem lM {α β:Type} {f:α->Option β}:∀ (l:List α),(∀ a∈l,(f a).isSome=true)->(l.filterMap f).length=l.length
 | [],_=>rfl
 | a::l,h=>by
   obtain⟨b,hb⟩:=Option.isSome_iff_exists.1 (h a (by simp));rw[List.filterMap_cons_some hb,aQ,aQ,lM l (fun x hx=>h x (by simp[hx]))]
theorem nI:∀ (k:Nat) (v:Vl),yQ k v->yR k (iE k v)
 | 0,v,h=>h.elim
 | k+1,v,h=>by
   obtain⟨h1,_,_,h4⟩:=h;simp only[iE];split
   .next e =>
    have hlt:∀ i∈vOrder v.keys,i<v.keys.length:=fun i hi=>by
     obtain⟨j,hj,e⟩:=List.getElem_of_mem hi;exact vG (j:=j) (by rw[aM hj,e])
    have hkl:=(h1 e).1;refine⟨fun _=>?_,fun x hx=>?_⟩
    .show ((vOrder v.keys).filterMap _).length=((vOrder v.keys).filterMap _).length
     rw[lM _ (fun i hi=>by have:=hlt i hi;simp[this]),lM _ (fun i hi=>by have:=hlt i hi;rw[hkl] at this;simp[this])]
    obtain⟨i,_,hi⟩:=List.mem_filterMap.1 hx;cases hx2:v.list[i]? with
    | none=>rw[hx2] at hi;simp at hi
    | some z =>
      rw[hx2] at hi;simp only[cE,Option.some.injEq] at hi;subst hi;exact nI k z (h4 z (aD hx2))
   next e =>
   refine⟨fun h=>absurd h e,fun x hx=>?_⟩;obtain⟨z,hz,rfl⟩:=List.mem_map.1 hx;exact nI k z (h4 z hz)
def pH (x y:Vl):Int × Bool:=if vChk x≠0∨vChk y≠0 then (0,false) else (iV 24 (iE 24 x) (iE 24 y),true)
def pF (x y:Vl):Bool:=(pH x y).2&&decide ((pH x y).1=0)
theorem sP {q:Nat} (h:Blk w q cs.toArray t):i7 w ⟨q,0,none⟩ cs:=fun j u hu=>by
 have:=h.cell j (v:=u) (by simpa using hu);by_cases hj:j=0
 .subst hj;simpa using this
 rw[if_neg hj];simpa using this
theorem L0 (S:Nat->Prop) (x y:Vl) (xs ys:List Value) (w:World) (hV:j4 w) (hx:fR x) (hy:fR y) (htx:Trs.at S w x.tr xs) (hty:Trs.at S w y.tr ys) :
 Calls Tryz.prog 204 #[.agg xs.toArray,.agg ys.toArray] w fun e w'=>e=.returned (.tuple #[.int .i64 (pH x y).1,.bool (pH x y).2])/\Below w.heap.size w w':=by
 obtain⟨A1,n1,K1,m1,rfl,_,_,hx1,hl1,hk1⟩:=Vl.at_iff.1 htx;obtain⟨A2,n2,K2,m2,rfl,_,_,hx2,hl2,hk2⟩:=Vl.at_iff.1 hty;have kx:Blk ((w.alloc (.cells (kV x A1 n1 K1 m1) 44)).alloc (.cells (kV y A2 n2 K2 m2) 44)) w.heap.size (kV x A1 n1 K1 m1) 44:=(aJ w _ _).alloc _;have ky:Blk ((w.alloc (.cells (kV x A1 n1 K1 m1) 44)).alloc (.cells (kV y A2 n2 K2 m2) 44)) (w.heap.size+1) (kV y A2 n2 K2 m2) 44:=by
  have:=aJ (w.alloc (.cells (kV x A1 n1 K1 m1) 44)) (kV y A2 n2 K2 m2) 44;rwa [show (w.alloc (.cells (kV x A1 n1 K1 m1) 44)).heap.size=w.heap.size+1 by simp] at this
 obtain⟨W,hW⟩:∃ W,W=(w.alloc (.cells (kV x A1 n1 K1 m1) 44)).alloc (.cells (kV y A2 n2 K2 m2) 44):=⟨_,rfl⟩;have hb:Below w.heap.size w W:=by rw[hW];exact((aB _ w).alloc (aA _) _).alloc (by simp) _
 have hVW:j4 W:=hV.below hb;rw[<-hW] at kx ky;have HB:=Hd hb;have HX:=Hd kx;have HY:=Hd ky;have HC1:Hid (Calls Tryz.prog 216 #[.agg (kV x A1 n1 K1 m1)] W fun e w'=>e=.returned (.int .i64 (vChk x:Nat))/\Below W.heap.size W w'):=Hd (sY S x A1 n1 K1 m1 W hVW (htx.below hb) hx);have HC2:Hid (∀ w',Below W.heap.size W w'->Calls Tryz.prog 216 #[.agg (kV y A2 n2 K2 m2)] w' fun e w''=>e=.returned (.int .i64 (vChk y:Nat))/\Below w'.heap.size w' w''):=Hd (fun w' h'=>sY S y A2 n2 K2 m2 w' (hVW.below h') ((hty.below hb).below h') hy);have HS1:Hid (vChk x=0->∀ w',Below W.heap.size W w'->Calls Tryz.prog 228 #[.pointer (some ⟨w.heap.size,0,none⟩)] w' (MK (iE 24 x) w')):=Hd (fun h w' h'=>tC 24 S x _ _ w' (nJ h hx) ((htx.below hb).below h') (sP (kx.below h')));have HS2:Hid (vChk y=0->∀ w',Below W.heap.size W w'->Calls Tryz.prog 228 #[.pointer (some ⟨w.heap.size+1,0,none⟩)] w' (MK (iE 24 y) w')):=Hd (fun h w' h'=>tC 24 S y _ _ w' (nJ h hy) ((hty.below hb).below h') (sP (ky.below h')));obtain⟨sx,hsx⟩:∃ sx,sx=iE 24 x:=⟨_,rfl⟩;obtain⟨sy,hsy⟩:∃ sy,sy=iE 24 y:=⟨_,rfl⟩;have HFX:Hid (vChk x=0->yR 24 sx):=Hd (fun h=>by rw[hsx];exact nI 24 x (nJ h hx));have HFY:Hid (vChk y=0->yR 24 sy):=Hd (fun h=>by rw[hsy];exact nI 24 y (nJ h hy));have HBO:Hid (pH x y=if vChk x≠0∨vChk y≠0 then (0,false) else (iV 24 sx sy,true)):=Hd (by rw[hsx,hsy];rfl);rw[<-hsx] at HS1;rw[<-hsy] at HS2;clear hsx hsy;obtain⟨cx,hcx⟩:∃ cx,cx=vChk x:=⟨_,rfl⟩;obtain⟨cy,hcy⟩:∃ cy,cy=vChk y:=⟨_,rfl⟩;rw[<-hcx] at HC1 HS1 HFX HBO;rw[<-hcy] at HC2 HS2 HFY HBO;obtain⟨r,hr⟩:∃ r,r=pH x y:=⟨_,rfl⟩;rw[<-hr] at HBO ⊢;clear hr hcx hcy hx hy htx hty hl1 hk1 hl2 hk2 hV hVW hb kx ky hx1 hx2;obtain⟨x0,x1,x2,x3,x4,x5⟩:=gH HX.o;obtain⟨y0,y1,y2,y3,y4,y5⟩:=gH HY.o;go_enter Tryz.func204,Tryz.ntmps204;go_upto_region 1 with fail;rw[<-hW];clear hW;go_wp2_with fail;refine HC1.o.mono ?_;rintro e w1 ⟨rfl,hb1⟩;have HB1:=Hd hb1;obtain⟨y0,y1,y2,y3,y4,y5⟩:=gH (HY.o.below hb1);clear hb1 x0 x1 x2 x3 x4 x5;by_cases e1:cx=0
 .subst e1;go_wp2_with fail;refine(HC2.o w1 HB1.o).mono ?_;rintro e w2 ⟨rfl,hb2⟩;have HB2:Hid (Below W.heap.size W w2):=Hd (HB1.o.trans (hb2.mono HB1.o.size));clear hb2 y0 y1 y2 y3 y4 y5 HB1;by_cases e2:cy=0
  .subst e2;go_wp2_with fail;refine(HS1.o trivial w2 HB2.o).mono ?_;rintro e w3 ⟨hb3,B1,p1,L1,q1,rfl,ht1⟩;have HB3:Hid (Below W.heap.size W w3):=Hd (HB2.o.trans (hb3.mono HB2.o.size));have HT1:=Hd ht1;clear hb3 ht1;go_wp2_with fail;refine(HS2.o trivial w3 HB3.o).mono ?_;rintro e w4 ⟨hb4,B2,p2,L2,q2,rfl,ht2⟩;have HB4:Hid (Below W.heap.size W w4):=Hd (HB3.o.trans (hb4.mono HB3.o.size));have HT2:=Hd ht2;have HT3:=Hd (HT1.o.below hb4);clear hb4 ht2;have hfx:yR 24 sx:=HFX.o trivial;have hfy:yR 24 sy:=HFY.o trivial;have HR:Hid (r=(iV 24 sx sy,true)):=Hd (by rw[HBO.o,if_neg (by simp)]);have hbb:Below W.heap.size W ((w4.alloc (.cells (kV sx B1 p1 L1 q1) 44)).alloc (.cells (kV sy B2 p2 L2 q2) 44)):=(HB4.o.alloc HB4.o.size _).alloc (by have:=HB4.o.size;simp;omega) _;have hc1:i7 ((w4.alloc (.cells (kV sx B1 p1 L1 q1) 44)).alloc (.cells (kV sy B2 p2 L2 q2) 44)) ⟨w4.heap.size,0,none⟩ (kV sx B1 p1 L1 q1).toList:=sP ((aJ w4 _ _).alloc _);have hc2:i7 ((w4.alloc (.cells (kV sx B1 p1 L1 q1) 44)).alloc (.cells (kV sy B2 p2 L2 q2) 44)) ⟨w4.heap.size+1,0,none⟩ (kV sy B2 p2 L2 q2).toList:=by
    have:=aJ (w4.alloc (.cells (kV sx B1 p1 L1 q1) 44)) (kV sy B2 p2 L2 q2) 44;rw[show (w4.alloc (.cells (kV sx B1 p1 L1 q1) 44)).heap.size=w4.heap.size+1 by simp] at this;exact sP this
   have HCM:=Hd (LT 24 (fun _=>True) sx sy _ _ _ _ _ hfx hfy (((HT3.o.mono (fun _ _=>trivial)).alloc _).alloc _) hc1 (((HT2.o.mono (fun _ _=>trivial)).alloc _).alloc _) hc2);have HBB:=Hd hbb;clear hbb hc1 hc2 hfx hfy;obtain⟨n,hn⟩:∃ n,n=iV 24 sx sy:=⟨_,rfl⟩;rw[<-hn] at HCM HR;go_upto_region 4 with fail;obtain⟨V,hV⟩:∃ V,V=((w4.alloc (.cells (kV sx B1 p1 L1 q1) 44)).alloc (.cells (kV sy B2 p2 L2 q2) 44)):=⟨_,rfl⟩;rw[<-hV] at HCM HBB;rw[<-hV];clear hV hn;go_wp2_with fail;refine HCM.o.mono ?_;rintro e w5 ⟨rfl,hb5⟩;have HB5:Hid (Below w.heap.size w w5):=Hd (HB.o.trans ((HBB.o.trans (hb5.mono HBB.o.size)).mono HB.o.size));clear hb5;go_wp2_with fail;refine bodyPost_ret (v:=.tuple #[.int .i64 n,.bool true]) (by simp[results,Tryz.results204,go_sem]) rfl ?_;rw[HR.o];exact⟨rfl,HB5.o⟩
  have e2':¬((cy:Int)=0):=by omega
  have HR:Hid (r=(0,false)):=Hd (by rw[HBO.o,if_pos (.inr e2)]);go_wp2_with fail;refine bodyPost_ret (v:=.tuple #[.int .i64 0,.bool false]) (by simp[results,Tryz.results204,go_sem]) rfl ?_;rw[HR.o];exact⟨rfl,HB.o.trans (HB2.o.mono HB.o.size)⟩
 have e1':¬((cx:Int)=0):=by omega
 have HR:Hid (r=(0,false)):=Hd (by rw[HBO.o,if_pos (.inl e1)]);go_wp2_with fail;refine bodyPost_ret (v:=.tuple #[.int .i64 0,.bool false]) (by simp[results,Tryz.results204,go_sem]) rfl ?_;rw[HR.o];exact⟨rfl,HB.o.trans (HB1.o.mono HB.o.size)⟩
theorem qU (w:World) (hV:j4 w):TS fR pF w:=by
 intro S x y xs ys w0 hx hy hbw htx hty;have hV0:j4 w0:=hV.below hbw;have hcb:=fun w' (h:Below w0.heap.size w0 w')=>L0 S x y xs ys w' (hV0.below h) hx hy (htx.below h) (hty.below h)
 obtain⟨A1,n1,K1,m1,rfl,_,_,hx1,hl1,hk1⟩:=Vl.at_iff.1 htx;obtain⟨A2,n2,K2,m2,rfl,_,_,hx2,hl2,hk2⟩:=Vl.at_iff.1 hty;have kx:Blk ((w0.alloc (.cells (kV x A1 n1 K1 m1) 44)).alloc (.cells (kV y A2 n2 K2 m2) 44)) w0.heap.size (kV x A1 n1 K1 m1) 44:=(aJ w0 _ _).alloc _;have ky:Blk ((w0.alloc (.cells (kV x A1 n1 K1 m1) 44)).alloc (.cells (kV y A2 n2 K2 m2) 44)) (w0.heap.size+1) (kV y A2 n2 K2 m2) 44:=by
  have:=aJ (w0.alloc (.cells (kV x A1 n1 K1 m1) 44)) (kV y A2 n2 K2 m2) 44;rwa [show (w0.alloc (.cells (kV x A1 n1 K1 m1) 44)).heap.size=w0.heap.size+1 by simp] at this
 obtain⟨W,hW⟩:∃ W,W=(w0.alloc (.cells (kV x A1 n1 K1 m1) 44)).alloc (.cells (kV y A2 n2 K2 m2) 44):=⟨_,rfl⟩;have hb:Below w0.heap.size w0 W:=by rw[hW];exact((aB _ w0).alloc (aA _) _).alloc (by simp) _
 rw[<-hW] at kx ky;have HB:=Hd hb;have HC:=Hd (hcb W hb);have HE:Hid (pF x y=((pH x y).2&&decide ((pH x y).1=0))):=Hd rfl;obtain⟨r,hr⟩:∃ r,r=pF x y:=⟨_,rfl⟩;obtain⟨⟨n,b⟩,hnb⟩:∃ p,p=pH x y:=⟨_,rfl⟩;rw[<-hr] at HE ⊢;rw[<-hnb] at HC HE;obtain⟨x0,x1,x2,x3,x4,x5⟩:=gH kx;obtain⟨y0,y1,y2,y3,y4,y5⟩:=gH ky;clear hr hnb hcb hx hy htx hty hl1 hk1 hl2 hk2 hV hV0 hb kx ky hx1 hx2 hbw;go_enter Tryz.func170,Tryz.ntmps170;go_upto_region 1 with fail;rw[<-hW];clear hW;go_wp2_with fail;refine HC.o.mono ?_;rintro e w1 ⟨rfl,hb1⟩;have HB1:Hid (Below w0.heap.size w0 w1):=Hd (HB.o.trans (hb1.mono HB.o.size));clear hb1 x0 x1 x2 x3 x4 x5 y0 y1 y2 y3 y4 y5;cases b with
 | false =>
   go_wp2;go_ret;rw[HE.o];exact⟨rfl,HB1.o⟩
 | true =>
   by_cases hn:n=0
   .subst hn;go_wp2;go_ret;rw[HE.o];exact⟨rfl,HB1.o⟩
   go_wp2;go_ret;rw[HE.o];exact⟨by simp[hn],HB1.o⟩
