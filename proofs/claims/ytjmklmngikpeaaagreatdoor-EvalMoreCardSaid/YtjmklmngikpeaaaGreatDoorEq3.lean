/- Part of the proof. -/
import Derived.Laws.EntriesVeiled
import Derived.Shelf.Abstract
import Derived.Test.YtjmklmngikpeaaaGreatDoorEqL
import Derived.Test.YtjmklmngikpeaaaGreatDoorRange
set_option maxRecDepth 100000
set_option maxHeartbeats 8000000
set_option linter.unusedVariables false
set_option linter.unusedSimpArgs false
namespace Go
open Go.RowKit in
theorem KeepsFrom.set {B:Nat} {W W':World} (h:KeepsFrom B W W') (p:Addr) (u:Value):KeepsFrom B W (W'.setCell p u) :=
 ⟨by simpa using h.size,fun k o hk h1 h2=>(KeepsOthers.setCell W' p u).same k o (h.same k o hk h1 h2) h2⟩
end Go
namespace Go.Proofs.YtjmklmngikpeaaaGreatDoor
open Go.RowKit
attribute [local go_sem] Oper.semAt_some
theorem FI (cs:Array Value) (w:World) :
 Calls Tryz.prog 233 #[.agg cs] w fun e w'=>e=.returned (.func (.func 242) #[] #[.pointer (some ⟨w.heap.size,0,none⟩)])/\w'=w.alloc (.cells cs 44):=by
 have hmf:∀ (fn:Fn) (first cap:Array Value) (w:World),(Instr.makeFunc fn first cap).run Tryz.prog w=.ok (.func fn first cap) w:=fun _ _ _ _=>rfl
 go_enter Tryz.func233,Tryz.ntmps233;go_wp2;go_ret;exact⟨rfl,rfl⟩
structure Yv where
 v:Vl
 A:Option Addr
 c:Nat
 B:Option Addr
 d:Nat
def Yv.cs (x:Yv):List Value:=[.int .i8 x.v.kind,.bool x.v.bool,.int .i64 x.v.num,.string x.v.text,.slice x.A x.v.list.length x.c,.slice x.B x.v.keys.length x.d]
def Yv.enc (x:Yv):Array Value:=#[.agg (kV x.v x.A x.c x.B x.d)]
def BP (l:List Yv):List Vl:=l.map Yv.v
structure US (S:Nat->Prop) (all:List Vl) (D:Nat) (pre:List Yv) (x:Yv) (W:World):Prop where
 at_:all[pre.length]?=some x.v
 tr:Trs.at S W x.v.tr x.cs
theorem Trs.at.keeps {S K:Nat->Prop} {w w':World} {ts:List Tr} {vs:List Value} (h:Trs.at S w ts vs) (hk:gK K w w') (hS:∀ k,S k->K k):Trs.at S w' ts vs :=
 Trs.at.keep (fun p hp hs=>bU (hk.block _ (hS _ hs))) (fun _ h=>h) ts vs h
theorem i7.keeps {K:Nat->Prop} {w w':World} {a:Addr} {cs:List Value} (h:i7 w a cs) (hk:gK K w w') (ha:K a.block):i7 w' a cs:=fun j u hu=>by
 have hb:(if j=0 then a else ⟨a.block,a.off+j,none⟩:Addr).block=a.block:=by split<;>rfl
 exact(bU (hk.block _ (by rw[hb];exact ha))).trans (h j u hu)
theorem Ls.keeps {α:Type} {S K:Nat->Prop} {w w':World} {sz b:Nat} {tr:α->List Tr} {A:Option Addr} {c:Nat} {l:List α} (h:Ls S w sz b tr A c l) (hk:gK K w w') (hS:∀ k,S k->K k):Ls S w' sz b tr A c l :=
 h.keep (fun p hp hs=>bU (hk.block _ (hS _ hs))) (fun _ h=>h)
theorem U7 {F:Fence} (hd:F.depth=none) (k:Nat):F.room k:=fun d h=>by rw[hd] at h;cases h
theorem RoundIn.any {F:Fence} (hd:F.depth=none) {m m':Nat} {P:Program} {l:Nat} {f:FuncId} {tmps:Array Value} {assign body:Code} {w:World} {R:Ending->World->Prop}
 (h:RoundIn F m P l f tmps assign body w R):RoundIn F m' P l f tmps assign body w R:=⟨h.1,fun c cs _=>h.2 c cs (U7 hd _)⟩
theorem YieldAt.any {F:Fence} (hd:F.depth=none) {m:Nat} (m':Nat) {P:Program} {l:Nat} {args:Array Value} {W:World} {R:Ending->World->Prop} (h:YieldAt F m P l args W R):YieldAt F m' P l args W R:=by
 obtain⟨fn,tmps,assign,body,hy,hR⟩:=h;exact⟨fn,tmps,assign,body,hy,RoundIn.any hd hR⟩
def T9 (S:Nat->Prop) (all:List Vl) (KK:Nat->Prop) (by_ bw:Nat) (lp:Nat) (J:List Yv->World->Prop) (Jx:List Yv->World->Prop) (W0:World) (k:Nat):Prop :=
 ∀ (m:Nat) (v:Vl) (cs:List Value) (a:Addr) (pre:List Yv) (W:World),kC k v->(∃ suf,all=BP pre++vWalk k v++suf)->gK KK W0 W->J pre W->Trs.at S W0 v.tr cs->i7 W0 a cs->KK a.block ->
   CallsIn Fence.wide m Tryz.prog 243 #[.pointer (some a),.pointer (some ⟨by_,0,none⟩),.pointer (some ⟨bw,0,none⟩)] W fun e W' =>
    (e=.returned (.bool true)/\∃ ys,BP ys=vWalk k v/\J (pre++ys) W'/\gK KK W0 W')∨(e=.returned (.bool false)/\∃ pre',Jx pre' W')
def T8 (S:Nat->Prop) (all:List Vl) (KK:Nat->Prop) (lp:Nat) (J:List Yv->World->Prop) (Jx:List Yv->World->Prop) (W0:World):Prop :=
 ∀ (m:Nat) (pre:List Yv) (x:Yv) (W1:World),gK KK W0 W1->J pre W1->all[pre.length]?=some x.v->Trs.at S W1 x.v.tr x.cs->YieldAt Fence.wide m Tryz.prog lp x.enc W1 fun e W' =>
   (e=.returned (.bool true)/\J (pre++[x]) W'/\gK KK W1 W')∨(e=.returned (.bool false)/\Jx (pre++[x]) W')
theorem yvs_app (a b:List Yv):BP (a++b)=BP a++BP b:=cV
theorem xB (a:List Yv):(BP a).length=a.length:=cX ..
theorem M5 {S:Nat->Prop} {all:List Vl} {KK:Nat->Prop} {by_ bw lp:Nat} {J Jx:List Yv->World->Prop} {W0:World} (hSK:∀ k,S k->KK k) (hKy:KK by_) (hKw:KK bw) (hJ:E4 J)
 (hby:W0.cell? ⟨by_,0,none⟩=some (.func (.yield lp) #[] #[])) (hbw:W0.cell? ⟨bw,0,none⟩=some (.func (.func 243) #[] #[.pointer (some ⟨by_,0,none⟩),.pointer (some ⟨bw,0,none⟩)]))
 (hY:T8 S all KK lp J Jx W0) (k:Nat) (IH:T9 S all KK by_ bw lp J Jx W0 k):T9 S all KK by_ bw lp J Jx W0 (k+1):=by
 intro m v cs a pre W hdp hsuf hkp hj htr hcel hka;obtain⟨A,c,B,d,rfl,_,_,_,hl,_⟩:=Vl.at_iff.1 htr;have hlcap:=hl.cap;have hlbyt:=hl.bytes;have hat:all[pre.length]?=some v:=by
  obtain⟨suf,hs⟩:=hsuf;rw[hs,dI,bH (by rw[xB];omega),xB,Nat.sub_self];rfl
 have HSUF:=Hd hsuf;have HDP:=Hd hdp;have HKP:=Hd hkp;have HJL:=Hd hJ;have HL:=Hd hl;have HIH:=Hd IH;have HCEL:=Hd hcel;have HSK:=Hd hSK;have HBY:=Hd hby;have HBW:=Hd hbw;have h1:=(hcel.keeps hkp hka)
 obtain⟨c0,c1,c2,c3,c4,c5⟩:=iA h1;have cy:=(bU (hkp.block by_ hKy)).trans hby;have cw:=(bU (hkp.block bw hKw)).trans hbw;have hjd:=hJ pre W W.drew hj ((aB _ W).drew);have hkd:gK KK W0 W.drew:=hkp.trans ⟨rfl,rfl,rfl,aA _,fun _ _=>rfl⟩;obtain⟨fn,tmps,assign,body,hy,hR⟩:=hY (m-1) pre ⟨v,A,c,B,d⟩ W.drew hkd hjd hat (htr.keeps hkd hSK);have HKD:=Hd hkd;dsimp only[Yv.enc] at hy;clear hsuf hdp hkp hJ hl IH hcel hby hbw h1 htr hjd hkd hat hj hY;refine callsIn_of_wp Tryz.func243 rfl trivial ?_;simp only[Tryz.ntmps243,eF,aQ,bC,Nat.reduceAdd,Nat.reduceSub,Array.replicate_succ,Array.replicate_zero,bV,bS,bP,bM];gi_wp2_with fail;refine wpIn_region_still_tail (fun _=>trivial) rfl (fun h=>callsIn_wide.2 h) 4 (by kernel_rfl) (by kernel_rfl) (by kernel_rfl) ?_;simp only[List.take_succ_cons,List.take_zero,List.drop_succ_cons,eI];repeat still_step
 try refine wpStill_nil ?_
 gi_wp2_with fail;refine⟨(fun h=>by cases h),hR.mono ?_⟩;rintro e w3 (⟨rfl,hj3,hk3⟩ | ⟨rfl,hjx3⟩)
 .have HK3:=Hd (HKD.o.trans hk3);have HJ3:=Hd hj3;clear hR hy hj3 hk3 c0 c1 c2 c3 c4 c5 cy cw;obtain⟨c0,c1,c2,c3,c4,c5⟩:=iA (HCEL.o.keeps HK3.o hka);gi_wp2_with fail;gi_loopw [17] (fun i wr=>∃ (j:Nat) (ys:List Yv),i=.int .i64 (j:Nat)/\j<=v.list.length/\Hid (BP ys=v::(v.list.take j).flatMap (vWalk k))/\Hid (gK KK W0 wr)/\Hid (J (pre++ys) wr))
   (fun i _=>v.list.length-(RowKit.intOf i).toNat)
  case atStart=>exact⟨0,[⟨v,A,c,B,d⟩],rfl,by omega,Hd rfl,HK3,HJ3⟩
  obtain⟨j,ys,rfl,hj,HYS,HK4,HJ4⟩:=hrel;clear HK3 HJ3 c0 c1 c2 c3 c4 c5;rename World=>wo
  by_cases hlt:j<v.list.length
  .have hjj:(j:Int)<(v.list.length:Int):=by omega
   obtain⟨x,hx⟩:=fO (l:=v.list) (i:=j) hlt;obtain⟨ad,xs,rfl,hxt,hxc⟩:=HL.o.elem dK hx;have hblk:=HSK.o _ (HL.o.blk ad rfl (by omega));have hka2:KK (ad.add (j*6)).block:=by rw[block_of_add];exact hblk
   have hkd:gK KK W0 wo.drew:=HK4.o.trans ⟨rfl,rfl,rfl,aA _,fun _ _=>rfl⟩;have hspl:v.list.flatMap (vWalk k)=(v.list.take j).flatMap (vWalk k)++(vWalk k x++(v.list.drop (j+1)).flatMap (vWalk k)):=by
    have:v.list=v.list.take j++(x::v.list.drop (j+1)):=by rw[<-fS hx,cJ]
    conv=>lhs;rw[this]
    rw[bE,aW]
   have hsuf2:∃ suf,all=BP (pre++ys)++vWalk k x++suf:=by
    obtain⟨suf,hs⟩:=HSUF.o;refine⟨(v.list.drop (j+1)).flatMap (vWalk k)++suf,?_⟩;rw[hs,yvs_app,HYS.o];simp only[vWalk,hspl,dI,bM]
   have HCL:=Hd (HIH.o (m-1) x xs (ad.add (j*6)) (pre++ys) wo.drew (HDP.o x (aD hx)) hsuf2 hkd (HJL.o _ _ _ HJ4.o (aB _ wo).drew) hxt hxc hka2);have HTK:Hid ((v.list.take (j+1)).flatMap (vWalk k)=(v.list.take j).flatMap (vWalk k)++vWalk k x):=Hd (by rw[aT,hx,bE];simp);obtain⟨c0,c1,c2,c3,c4,c5⟩:=iA (HCEL.o.keeps HK4.o hka);have cw:=(bU (HK4.o.block bw hKw)).trans HBW.o;have hj0:(0:Int)<=(j:Int)/\(j:Int)<(v.list.length:Int):=by omega
   clear hx hxt hxc hblk hspl hsuf2 hkd;gi_wp2_with fail;refine wpIn_region_still_tail (fun _=>trivial) rfl (fun h=>callsIn_wide.2 h) 7 (by kernel_rfl) (by kernel_rfl) (by kernel_rfl) ?_;simp only[List.take_succ_cons,List.take_zero,List.drop_succ_cons,eI];repeat still_step
   try refine wpStill_nil ?_
   gi_wp2_with fail;refine⟨trivial,(fun h=>by cases h),HCL.o.mono ?_⟩;rintro e w5 (⟨rfl,ys2,hy2,hj5,hk5⟩ | ⟨rfl,p2,hjx⟩)
   .have HY5:Hid (BP (ys++ys2)=v::(v.list.take (j+1)).flatMap (vWalk k)):=Hd (by rw[yvs_app,HYS.o,hy2,HTK.o];rfl);have HJ5:Hid (J (pre++(ys++ys2)) w5):=Hd (by rw[<-dI];exact hj5);have HK5:=Hd hk5;clear hy2 hj5 hk5 c0 c1 c2 c3 c4 c5 cw;gi_wp2_with fail;go_roundw
    case rel=>exact⟨j+1,ys++ys2,by go_num,by omega,HY5,HK5,HJ5⟩
    case measure=>simp[RowKit.intOf];omega
   have HX:=Hd hjx;clear hjx c0 c1 c2 c3 c4 c5 cw;gi_wp2_with fail;go_ret;exact .inr ⟨rfl,_,HX.o⟩
  have hjj:¬((j:Int)<(v.list.length:Int)):=by omega
  have HYE:Hid (BP ys=vWalk (k+1) v):=Hd (by rw[HYS.o,aN (by omega)];rfl);gi_wp2_with fail;go_ret;exact .inl ⟨rfl,ys,HYE.o,HJ4.o,HK4.o⟩
 gi_wp2_with fail;go_ret;exact .inr ⟨rfl,_,hjx3⟩
theorem P6 {S:Nat->Prop} {all:List Vl} {KK:Nat->Prop} {by_ bw lp:Nat} {J Jx:List Yv->World->Prop} {W0:World} (hSK:∀ k,S k->KK k) (hKy:KK by_) (hKw:KK bw) (hJ:E4 J)
 (hby:W0.cell? ⟨by_,0,none⟩=some (.func (.yield lp) #[] #[])) (hbw:W0.cell? ⟨bw,0,none⟩=some (.func (.func 243) #[] #[.pointer (some ⟨by_,0,none⟩),.pointer (some ⟨bw,0,none⟩)]))
 (hY:T8 S all KK lp J Jx W0):∀ k,T9 S all KK by_ bw lp J Jx W0 k:=by
 intro k;induction k with
 | zero=>intro m v cs a pre W hd;exact hd.elim
 | succ k ih=>exact M5 hSK hKy hKw hJ hby hbw hY k ih
theorem FD (S:Nat->Prop) (KB:Nat->Prop) (K:Nat) (v:Vl) (cs:List Value) (Bs:Nat) (w:World) (hS:∀ k,S k->KB k) (hB:KB Bs) (hD0:∀ k,KB k->k<w.heap.size) (hd:kC K v) (htr:Trs.at S w v.tr cs) (hcel:i7 w ⟨Bs,0,none⟩ cs) :
 P4 Tryz.prog 242 #[.pointer (some ⟨Bs,0,none⟩)] Yv.enc KB (US S (vWalk K v)) (fun xs=>BP xs=vWalk K v) (fun _=>True) w:=by
 have hmf:∀ (fn:Fn) (first cap:Array Value) (w:World),(Instr.makeFunc fn first cap).run Tryz.prog w=.ok (.func fn first cap) w:=fun _ _ _ _=>rfl
 intro n l J Jx W hW hJ hJx hY h0;have kx:Blk ((W.alloc (.cells #[.func (.yield l) #[] #[]] 107)).alloc (.cells #[.nilFunc] 296)) (W.heap.size+1) #[.nilFunc] 296:=by
  have:=aJ (W.alloc (.cells #[.func (.yield l) #[] #[]] 107)) #[.nilFunc] 296;rwa [show (W.alloc (.cells #[.func (.yield l) #[] #[]] 107)).heap.size=W.heap.size+1 by simp] at this
 have x0:=kx.cell 0 (v:=.nilFunc) rfl;have z0:=kx.frozen 0;obtain⟨W2,hW2⟩:∃ W2,(W.alloc (.cells #[.func (.yield l) #[] #[]] 107)).alloc (.cells #[(.func (.func 243) #[] #[.pointer (some ⟨W.heap.size,0,none⟩),.pointer (some ⟨W.heap.size+1,0,none⟩)])] 296)=W2:=⟨_,rfl⟩;have hsz:W2.heap.size=W.heap.size+2:=by rw[<-hW2];simp
 have hb2:Below W.heap.size W W2:=by rw[<-hW2];exact((aB _ W).alloc (aA _) _).alloc (by simp) _
 have hbw:Below w.heap.size w W2:=hW.trans (hb2.mono hW.size);have k1:Blk W2 W.heap.size #[.func (.yield l) #[] #[]] 107:=by rw[<-hW2];exact(aJ W _ _).alloc _
 have k2:Blk W2 (W.heap.size+1) #[(.func (.func 243) #[] #[.pointer (some ⟨W.heap.size,0,none⟩),.pointer (some ⟨W.heap.size+1,0,none⟩)])] 296:=by
  rw[<-hW2];have:=aJ (W.alloc (.cells #[.func (.yield l) #[] #[]] 107)) #[(.func (.func 243) #[] #[.pointer (some ⟨W.heap.size,0,none⟩),.pointer (some ⟨W.heap.size+1,0,none⟩)])] 296;rwa [show (W.alloc (.cells #[.func (.yield l) #[] #[]] 107)).heap.size=W.heap.size+1 by simp] at this
 have hws:=hW.size;have hyy:T8 S (vWalk K v) (fun k=>KB k∨(W.heap.size<=k/\k<W.heap.size+2)) l (J (W.heap.size+2)) Jx W2:=fun m pre x W1 hk hj hat ht =>
  YieldAt.any rfl m (hY (W.heap.size+2) pre x W1 (by omega) (by have:=hk.size;omega) hj ⟨hat,ht⟩)
 have hj2:=hJ (W.heap.size+2) [] W W2 (h0 _ (by omega)) hb2;have HCL:=Hd (P6 (fun k hk=>.inl (hS k hk)) (.inr ⟨by omega,by omega⟩) (.inr ⟨by omega,by omega⟩) (hJ _) (k1.cell 0 rfl) (k2.cell 0 rfl) hyy K (n-1) v cs ⟨Bs,0,none⟩ [] W2 hd ⟨[],by simp[BP]⟩ (gK.refl _ _) hj2 (htr.below hbw) (hcel.below hbw) (.inl hB));have c1:=k2.cell 0 (v:=.func (.func 243) #[] #[.pointer (some ⟨W.heap.size,0,none⟩),.pointer (some ⟨W.heap.size+1,0,none⟩)]) rfl;rw[<-hW2] at HCL c1;clear hY h0 hj2 hyy k1 k2 htr hcel hJ hJx hd hsz hb2 hbw hW2 kx;refine callsIn_of_wp Tryz.func242 rfl trivial ?_;simp only[Tryz.ntmps242,eF,aQ,bC,Nat.reduceAdd,Nat.reduceSub,Array.replicate_succ,Array.replicate_zero,bV,bS,bP,bM];gi_wp2_with fail;refine⟨trivial,(fun h=>by cases h),HCL.o.mono ?_⟩;rintro e w3 (⟨rfl,ys,hy,hj,hk⟩ | ⟨rfl,p2,hx⟩)
 .gi_wp2_with fail;go_end0;exact⟨⟨_,rfl⟩,.inl ⟨_,ys,hy,hj⟩⟩
 gi_wp2_with fail;go_end0;exact⟨⟨_,rfl⟩,.inr ⟨_,trivial,hx⟩⟩
attribute [local go_sem] Oper.semAt_some
def vChk (v:Vl):Nat:=if 24<vDepth 24 v then 30 else match (vWalk 24 v).find? (fun x=>decide (vAlone x≠0)) with
 | some x=>vAlone x
 | none=>if 4096<(vWalk 24 v).length then 3 else 0
def fR (v:Vl):Prop:=(vWalk 24 v).length<=1000000/\∀ x∈vWalk 24 v,x.keys.length<=1000000/\x.list.length<=1000000
structure UM (w:World) (all:List Vl) (pre:List Yv) (W:World):Prop where
 n:Blk W (w.heap.size+2) #[.int .i64 (pre.length:Nat)] 3
 r:Blk W (w.heap.size+1) #[.int .i64 0] 55
 bel:Below w.heap.size w W
 ok:∀ x∈pre,vAlone x.v=0
 pr:BP pre=all.take pre.length
structure UZ (w:World) (all:List Vl) (c:Code) (W:World):Prop where
 jump:c=.ret
 r:∃ x,all.find? (fun x=>decide (vAlone x≠0))=some x/\Blk W (w.heap.size+1) #[.int .i64 (vAlone x:Nat)] 55
 bel:Below w.heap.size w W
theorem Blk.own {W W':World} {q:Nat} {cs:Array Value} {t:TypeId} {row:Option Nat} (h:Blk W q cs t) (hg:W.grownBy W' row) (hr:∀ r,row=some r->∃ o:Obj,W.heap[r]?=some o/\o.isCells=false):Blk W' q cs t :=
 h.grown hg (fun e=>by
  obtain⟨o,h1,h2⟩:=hr q e;rw[show W.heap[q]?=_ from h] at h1;cases h1;cases h2)
theorem OV (w:World) (all:List Vl) (B:Nat) (hB:w.heap.size<=B):OwnFrom B (UM w all):=by
 intro pre W W' row h hg hr;have hr':∀ r,row=some r->∃ o:Obj,W.heap[r]?=some o/\o.isCells=false:=fun r e=>(hr r e).2
 exact⟨h.n.own hg hr',h.r.own hg hr',h.bel.grown hg h.bel.size (fun k e=>by have:=(hr k e).1;omega),h.ok,h.pr⟩
theorem OU (w:World) (all:List Vl) (B:Nat) (hB:w.heap.size<=B) (c:Code):OwnFrom B (fun (_:List Yv) W=>UZ w all c W):=by
 intro pre W W' row h hg hr;have hr':∀ r,row=some r->∃ o:Obj,W.heap[r]?=some o/\o.isCells=false:=fun r e=>(hr r e).2
 obtain⟨x,hx,hb⟩:=h.r;exact⟨h.jump,⟨x,hx,hb.own hg hr'⟩,h.bel.grown hg h.bel.size (fun k e=>by have:=(hr k e).1;omega)⟩
theorem M0 (S:Nat->Prop) (all:List Vl) (D B:Nat) (hS:∀ k,S k->k<B):OwnFrom B (fun (s:List Yv × Yv) W=>US S all D s.1 s.2 W):=by
 intro s W W' row h hg hr;exact⟨h.at_,Trs.at.keep (fun p hp hs=>bU (hg.block _ hp (fun e=>by have:=(hr _ e.symm).1;have:=hS _ hs;omega))) (fun _ h=>h) _ _ h.tr⟩
theorem gK.set {K:Nat->Prop} {W W':World} (h:gK K W W') (p:Addr) (u:Value) (hp:¬K p.block):gK K W (W'.setCell p u) :=
 ⟨h.os,h.tape,h.output,by simpa using h.size,fun k hk=>(dL W' p u k (fun e=>hp (e ▸ hk))).trans (h.block k hk)⟩
theorem keepsFrom_below {B:Nat} {W W':World} (h:Below W.heap.size W W'):KeepsFrom B W W':=⟨h.size,fun k o _ h1 _=>(h.block k (Array.getElem?_eq_some_iff.1 h1).1).trans h1⟩
def U0 (w:World) (fr:Value->Value->Act) (x:Yv) (a:Act) (W:World):Prop:=∃ q,w.heap.size+4<=q/\Blk W q x.cs.toArray 44/\a=fr (.pointer (some ⟨q,0,none⟩)) (.agg (kV x.v x.A x.c x.B x.d))
theorem OW (w:World) (fr:Value->Value->Act) (B:Nat):OwnFrom B (fun (s:Yv × Act) W=>U0 w fr s.1 s.2 W):=by
 intro s W W' row h hg hr;have hr':∀ r,row=some r->∃ o:Obj,W.heap[r]?=some o/\o.isCells=false:=fun r e=>(hr r e).2
 obtain⟨q,hq,hb,ha⟩:=h;exact⟨q,hq,hb.own hg hr',ha⟩
theorem sY (S:Nat->Prop) (v:Vl) (A:Option Addr) (c:Nat) (B:Option Addr) (d:Nat) (w:World) (hV:j4 w) (htr:Trs.at S w v.tr (Yv.cs ⟨v,A,c,B,d⟩)) (hsm:fR v) :
 Calls Tryz.prog 216 #[.agg (Yv.cs ⟨v,A,c,B,d⟩).toArray] w fun e w'=>e=.returned (.int .i64 (vChk v:Nat))/\Below w.heap.size w w':=by
 obtain⟨V2,hV2⟩:∃ V2,(w.alloc (.cells (kV v A c B d) 44)).alloc (.cells #[.int .i64 0] 55)=V2:=⟨_,rfl⟩;have HV2:=Hd hV2;have kv:Blk V2 w.heap.size (kV v A c B d) 44:=by rw[<-hV2];exact(aJ w _ _).alloc _
 have kr:Blk V2 (w.heap.size+1) #[.int .i64 0] 55:=by
  rw[<-hV2];have:=aJ (w.alloc (.cells (kV v A c B d) 44)) #[.int .i64 0] 55;rwa [show (w.alloc (.cells (kV v A c B d) 44)).heap.size=w.heap.size+1 by simp] at this
 have hsz:V2.heap.size=w.heap.size+2:=by rw[<-hV2];simp
 have hb2:Below w.heap.size w V2:=by rw[<-hV2];exact((aB _ w).alloc (aA _) _).alloc (by simp) _
 have HDP:=Hd (GZ 24 (by omega) (fun _=>True) v (Yv.cs ⟨v,A,c,B,d⟩) ⟨w.heap.size,0,none⟩ V2 ((htr.below hb2).mono (fun _ _=>trivial)) (uS kv));have HTR:=Hd htr;have HSM:=Hd hsm;have HV:=Hd hV;have HKV:=Hd kv;have HKR:=Hd kr;have HSZ:=Hd hsz;have HB2:=Hd hb2;have HCK:Hid (vChk v=if 24<vDepth 24 v then 30 else match (vWalk 24 v).find? (fun x=>decide (vAlone x≠0)) with | some x=>vAlone x | none=>if 4096<(vWalk 24 v).length then 3 else 0):=Hd rfl;have HDD:=Hd (mR 24 v);obtain⟨dp,hdp⟩:∃ dp,dp=vDepth 24 v:=⟨_,rfl⟩;rw[<-hdp] at HDP HCK HDD;clear htr hsm hV kv kr hsz hb2 hV2 hdp;refine(callsIn_wide (n:=3)).1 ?_;refine callsIn_of_wp_marks Tryz.func216 rfl trivial ?_;simp only[Tryz.ntmps216,Yv.cs,eF,aQ,bC,Nat.reduceAdd,Nat.reduceSub,Array.replicate_succ,Array.replicate_zero,bV,bS,bP,bM];gi_wp2_with fail;rw[HV2.o];refine⟨trivial,(callsIn_wide.2 HDP.o).mono ?_⟩;rintro e w2 ⟨rfl,rfl⟩;by_cases h24:24<dp
 .have hq:(24:Int)<(dp:Int):=by omega
  have HR:Hid (vChk v=30):=Hd (by rw[HCK.o,if_pos h24]);have x1:=HKR.o.cell 0 (v:=.int .i64 0) rfl;have z1:=HKR.o.frozen 0;have q1:=(HKR.o.set 0 (.int .i64 30)).cell 0 (v:=.int .i64 30) (by simp);have HB3:=Hd (HB2.o.setCell (p:=⟨w.heap.size+1,0,none⟩) (by simp) (.int .i64 30));gi_wp2_with fail;refine⟨.int .i64 30,?_,by rw[HR.o];rfl,HB3.o⟩;simp[results,Tryz.results216,go_sem,q1]
 have hq:¬((24:Int)<(dp:Int)):=by omega
 obtain⟨c0,c1,c2,c3,c4,c5⟩:=gH (HKV.o.alloc (.cells #[.int .i64 0] 3));obtain⟨V3,hV3⟩:∃ V3,w2.alloc (.cells #[.int .i64 0] 3)=V3:=⟨_,rfl⟩;have HV3:=Hd hV3;have HTW:=Hd (FI (kV v A c B d) V3);clear hV3;gi_wp2_with fail;rw[HV3.o];refine⟨trivial,(callsIn_wide.2 HTW.o).mono ?_⟩;rintro e w4 ⟨rfl,rfl⟩;gi_wp2_with fail;obtain⟨V4,hV4⟩:∃ V4,V3.alloc (.cells (kV v A c B d) 44)=V4:=⟨_,rfl⟩;have hs2:=HSZ.o;have hs3:V3.heap.size=w.heap.size+3:=by rw[<-HV3.o];simp;omega
 have hs4:V4.heap.size=w.heap.size+4:=by rw[<-hV4];simp;omega
 have hb23:Below w2.heap.size w2 V3:=by rw[<-HV3.o];exact(aB _ _).alloc (aA _) _
 have hb34:Below V3.heap.size V3 V4:=by rw[<-hV4];exact(aB _ _).alloc (aA _) _
 have hb24:Below w2.heap.size w2 V4:=hb23.trans (hb34.mono hb23.size);have hbw:Below w.heap.size w V4:=HB2.o.trans (hb24.mono HB2.o.size);have kn:Blk V4 (w.heap.size+2) #[.int .i64 0] 3:=by
  have:=aJ w2 #[.int .i64 0] 3;rw[HV3.o,hs2] at this;exact this.below hb34
 have kr4:=HKR.o.below hb24;have kx:Blk V4 (w.heap.size+3) (kV v A c B d) 44:=by
  have:=aJ V3 (kV v A c B d) 44;rwa [hV4,hs3] at this
 have hit:=FD (fun k=>S k/\k<w.heap.size) (fun k=>k<w.heap.size∨k=w.heap.size+3) 24 v (Yv.cs ⟨v,A,c,B,d⟩) (w.heap.size+3) V4 (fun k hk=>.inl hk.2) (.inr rfl) (fun k hk=>by omega) (HDD.o (by omega)) (HTR.o.bound.below hbw) (uS kx);rw[hV4,hs3,hs2];have HBW:=Hd hbw;have HS4:=Hd hs4;obtain⟨all,hall⟩:∃ all,all=vWalk 24 v:=⟨_,rfl⟩;have HSM2:=Hd HSM.o;unfold fR at HSM2;rw[<-hall] at hit HCK HSM2;have HI0:Hid (UM w all [] V4):=Hd ⟨kn,kr4,hbw,by simp,rfl⟩;have HIT:=Hd hit;clear hb23 hb34 hb24 hbw kn kr4 kx hit hV4 hs3 hs2 hs4 hall c0 c1 c2 c3 c4 c5;refine yG (gf:=242) (lb:=#[.pointer (some ⟨w.heap.size+3,0,none⟩)]) rfl (enters_of Tryz.func242 (by kernel_rfl) rfl)
  HIT.o (fun k hk=>by have:=HS4.o;omega) (aB _ _) (fun _=>rfl) (fun D=>M0 _ _ _ _ (fun k hk=>by have:=HS4.o;have:=hk.2;omega))
  (fun _ pre W=>UM w all pre W) (fun c _ W=>UZ w all c W) (fun _=>OV w all _ (by have:=HS4.o;omega)) (fun c=>OU w all _ (by have:=HS4.o;omega) c) (fun _ _=>HI0.o)
  (fun s W=>U0 w (fun (p x:Value)=>({tmps:=#[.agg (kV v A c B d),.pointer (some ⟨w.heap.size,0,none⟩),.pointer (some ⟨w.heap.size+1,0,none⟩),.pointer (some ⟨w.heap.size+2,0,none⟩),p,undef,.int .i64 (dp:Int),.bool (decide (24<(dp:Int))),.agg (kV v A c B d),.func (.func 242) #[] #[.pointer (some ⟨w.heap.size+3,0,none⟩)],x,undef,undef,undef,undef,undef,undef,undef,undef],defers:=[]}:Act)) s.1 s.2 W) (OW w _ _)
  ?assign ?body ?done ?stop
 case assign =>
  intro lp x W K hsz hK;dsimp only[Yv.enc];have hs4:=HS4.o;have HK2:=Hd (hK ((fun (p x:Value)=>({tmps:=#[.agg (kV v A c B d),.pointer (some ⟨w.heap.size,0,none⟩),.pointer (some ⟨w.heap.size+1,0,none⟩),.pointer (some ⟨w.heap.size+2,0,none⟩),p,undef,.int .i64 (dp:Int),.bool (decide (24<(dp:Int))),.agg (kV v A c B d),.func (.func 242) #[] #[.pointer (some ⟨w.heap.size+3,0,none⟩)],x,undef,undef,undef,undef,undef,undef,undef,undef],defers:=[]}:Act)) (.pointer (some ⟨W.heap.size,0,none⟩)) (.agg (kV x.v x.A x.c x.B x.d))) (W.alloc (.cells x.cs.toArray 44)) ((aB _ W).alloc (aA _) _) ⟨W.heap.size,by omega,aJ W _ _,rfl⟩);clear hK;gi_wp2;exact HK2.o
 case body =>
  intro lp Dn pre x a₁ W hi hv hax hD1 hD2;obtain⟨q,hq,hqb,ha⟩:=hax;have ha2:a₁=(fun (p x:Value)=>({tmps:=#[.agg (kV v A c B d),.pointer (some ⟨w.heap.size,0,none⟩),.pointer (some ⟨w.heap.size+1,0,none⟩),.pointer (some ⟨w.heap.size+2,0,none⟩),p,undef,.int .i64 (dp:Int),.bool (decide (24<(dp:Int))),.agg (kV v A c B d),.func (.func 242) #[] #[.pointer (some ⟨w.heap.size+3,0,none⟩)],x,undef,undef,undef,undef,undef,undef,undef,undef],defers:=[]}:Act)) (.pointer (some ⟨q,0,none⟩)) (.agg (kV x.v x.A x.c x.B x.d)):=ha;clear ha;subst ha2;have hqb2:Blk W q x.cs.toArray 44:=hqb;have hat:all[pre.length]?=some x.v:=hv.at_;have htx:Trs.at (fun k=>S k/\k<w.heap.size) W x.v.tr x.cs:=hv.tr;have hs4:=HS4.o;have hpl:pre.length<all.length:=(List.getElem?_eq_some_iff.1 hat).1;have hal:=HSM2.o.1;obtain⟨hk1,hl1⟩:=HSM2.o.2 x.v (aD hat);have HAL:=Hd (H8 (fun k=>S k/\k<w.heap.size) x.v x.cs ⟨q,0,none⟩ W (HV.o.below hi.bel) htx (uS hqb2) hk1 hl1);have HI:=Hd hi;have HAT:=Hd hat;obtain⟨er,her⟩:∃ er,er=vAlone x.v:=⟨_,rfl⟩;have HER:=Hd her;rw[<-her] at HAL;clear hi hv hq hqb hqb2 hat htx her hk1 hl1;gi_wp2_with fail;refine⟨trivial,(CallsIn.inRound lp (callsIn_wide.2 HAL.o)).mono ?_⟩;rintro e w5 ⟨rfl,hb5⟩;have HB5:=Hd hb5;have k1:=HI.o.n.below hb5;have k2:=HI.o.r.below hb5;have x1:=k1.cell 0 (v:=.int .i64 (pre.length:Nat)) rfl;have z1:=k1.frozen 0;have x2:=k2.cell 0 (v:=.int .i64 0) rfl;have z2:=k2.frozen 0;have HK1:=Hd k1;have HK2:=Hd k2;have HBE:=Hd (HI.o.bel.trans (hb5.mono HI.o.bel.size));have HKP:Hid (gK (fun k=>(k<w.heap.size∨k=w.heap.size+3)∨V4.heap.size+2<=k/\k<Dn) W w5):=Hd (gK.of_below hb5 (fun k hk=>by omega));clear hb5 k1 k2;by_cases hz:er=0
  .subst hz;gi_wp2_with fail;refine⟨(keepsFrom_below HB5.o).set _ _,HKP.o.set _ _ (by simp;omega),⟨?_,HK2.o.setOther _ _ (by simp),HBE.o.setCell (p:=⟨w.heap.size+2,0,none⟩) (by simp) _,fun y hy=>?_,?_⟩⟩
   .exact(HK1.o.set 0 _).eq (by simp)
   .rcases List.mem_append.1 hy with hy | hy
    .exact HI.o.ok y hy
    rw[aR] at hy;subst hy;exact HER.o.symm
   rw[yvs_app,HI.o.pr,aS,dE,aT,HAT.o];rfl
  have hzq:((er:Int)!=0)=true:=by simp;omega
  have HF:Hid (all.find? (fun x=>decide (vAlone x≠0))=some x.v):=Hd (by
   rw[dX];refine⟨by rw[<-HER.o];simpa using hz,pre.length,hpl,(List.getElem?_eq_some_iff.1 HAT.o).2,fun j hj=>?_⟩;have hp:=HI.o.pr;have h1:(BP pre)[j]?=all[j]?:=by rw[hp,eP hj]
   rw[aM (l:=all) (by omega)] at h1;unfold BP at h1;rw[eG] at h1;obtain⟨y,hy,hy2⟩:=Option.map_eq_some_iff.1 h1;rw[<-hy2,HI.o.ok y (aD hy)];rfl)
  clear hz;gi_wp2_with fail;refine⟨(keepsFrom_below HB5.o).set _ _,⟨rfl,⟨x.v,HF.o,?_⟩,HBE.o.setCell (p:=⟨w.heap.size+1,0,none⟩) (by simp) _⟩⟩;rw[<-HER.o];exact(HK2.o.set 0 _).eq (by simp)
 case done =>
  intro D Dn xs W hD hS hi hK;have hal:=HSM2.o.1;have hs4:=HS4.o;have hlen:xs.length=all.length:=by rw[<-hS,xB]
  have HN:Hid (all.find? (fun x=>decide (vAlone x≠0))=none):=Hd (by
   rw[eU,<-hS];intro y hy;obtain⟨z,hz,rfl⟩:=List.mem_map.1 hy;rw[hi.ok z hz];simp)
  have hn:=hi.n;rw[hlen] at hn;have x1:=hn.cell 0 (v:=.int .i64 (all.length:Nat)) rfl;have x2:=hi.r.cell 0 (v:=.int .i64 0) rfl;have z2:=hi.r.frozen 0;have HR:=Hd hi.r;have HB:=Hd hi.bel;have HKD:=Hd hK;clear hi hS hK hn hlen;by_cases hbig:4096<all.length
  .have hq:(4096:Int)<(all.length:Int):=by omega
   have HE:Hid (vChk v=3):=Hd (by rw[HCK.o,if_neg h24,HN.o];exact if_pos hbig);have hb9:=(HR.o.set 0 (.int .i64 3)).grown (grownBy_putObj' (W.setCell ⟨w.heap.size+1,0,none⟩ (.int .i64 3)) D (.deferred none)) (by intro e;injection e with e;omega);have q1:=hb9.cell 0 (v:=.int .i64 3) (by simp);have HB9:=Hd ((HB.o.setCell (p:=⟨w.heap.size+1,0,none⟩) (by simp) (.int .i64 3)).grown (grownBy_putObj' _ D (.deferred none)) (by simpa using HB.o.size) (fun k e=>by injection e with e;omega));have hKD:(W.setCell ⟨w.heap.size+1,0,none⟩ (.int .i64 3)).heap[D]?=some (.deferred (some [])):=(dL _ _ _ _ (by simp;omega)).trans HKD.o;clear hb9;gi_wp2_with fail;refine⟨by simp,.inl ⟨_,_,rfl,run_takeDeferred hKD,?_⟩⟩;refine⟨.int .i64 3,?_,by rw[HE.o];rfl,HB9.o⟩;clear x1 x2 z2 hKD;generalize (W.setCell ⟨w.heap.size+1,0,none⟩ (.int .i64 3)).putObj D (.deferred none)=W9 at q1 ⊢;simp[results,Tryz.results216,go_sem,q1]
  have hq:¬((4096:Int)<(all.length:Int)):=by omega
  have HE:Hid (vChk v=0):=Hd (by rw[HCK.o,if_neg h24,HN.o];exact if_neg hbig);have hb9:=(HR.o.set 0 (.int .i64 0)).grown (grownBy_putObj' (W.setCell ⟨w.heap.size+1,0,none⟩ (.int .i64 0)) D (.deferred none)) (by intro e;injection e with e;omega);have q1:=hb9.cell 0 (v:=.int .i64 0) (by simp);have HB9:=Hd ((HB.o.setCell (p:=⟨w.heap.size+1,0,none⟩) (by simp) (.int .i64 0)).grown (grownBy_putObj' _ D (.deferred none)) (by simpa using HB.o.size) (fun k e=>by injection e with e;omega));have hKD:(W.setCell ⟨w.heap.size+1,0,none⟩ (.int .i64 0)).heap[D]?=some (.deferred (some [])):=(dL _ _ _ _ (by simp;omega)).trans HKD.o;clear hb9;gi_wp2_with fail;refine⟨by simp,.inl ⟨_,_,rfl,run_takeDeferred hKD,?_⟩⟩;refine⟨.int .i64 0,?_,by rw[HE.o];rfl,HB9.o⟩;clear x1 x2 z2 hKD;generalize (W.setCell ⟨w.heap.size+1,0,none⟩ (.int .i64 0)).putObj D (.deferred none)=W9 at q1 ⊢;simp[results,Tryz.results216,go_sem,q1]
 case stop =>
  intro D ch pre W hD _ hx hK;have hj:=hx.jump;subst hj;have hs4:=HS4.o;obtain⟨x,hf,hb⟩:=hx.r;have HE:Hid (vChk v=vAlone x):=Hd (by rw[HCK.o,if_neg h24,hf]);have hg:=grownBy_putObj' W D (.deferred none);have hb2:=hb.grown hg (by intro e;injection e with e;omega);have q1:=hb2.cell 0 (v:=.int .i64 (vAlone x:Nat)) rfl;have HB:=Hd (hx.bel.grown hg hx.bel.size (fun k e=>by injection e with e;omega));clear hf hb hb2 hg;gi_wp2_with fail;refine⟨by simp,.inl ⟨_,_,rfl,run_takeDeferred hK,?_⟩⟩;refine⟨.int .i64 (vAlone x:Nat),?_,by rw[HE.o],HB.o⟩;generalize W.putObj D (.deferred none)=W9 at q1 ⊢;simp[results,Tryz.results216,go_sem,q1]
