/- Part of the proof. -/
import Derived.Test.YtjmklmngikpeaaaGreatDoorEw8
import Derived.Test.YtjmklmngikpeaaaGreatDoorEx1
import Derived.Test.YtjmklmngikpeaaaGreatDoorDg9
set_option maxRecDepth 100000
set_option maxHeartbeats 16000000
set_option linter.unusedVariables false
set_option linter.unusedSimpArgs false
namespace Go.Proofs.YtjmklmngikpeaaaGreatDoor
open Go.RowKit Go.Maps
mutual
def Tr.hd:Tr->Prop
 | .leaf _=>True
 | .sl sz _ n ts=>(0<n->3<=sz∨∃ u ts',ts=.leaf u::ts'/\∀ A m c,u≠.slice A m c)/\Trs.hd ts
def Trs.hd:List Tr->Prop
 | []=>True
 | t::ts=>t.hd/\Trs.hd ts
end
theorem Trs.hd.app:∀ {a b:List Tr},Trs.hd a->Trs.hd b->Trs.hd (a++b)
 | [],b,_,h=>h
 | t::a,b,h,h'=>⟨h.1,Trs.hd.app h.2 h'⟩
theorem jQ {α:Type} {tr:α->List Tr}:∀ {l:List α},(∀ x∈l,Trs.hd (tr x))->Trs.hd (l.flatMap tr)
 | [],_=>trivial
 | x::l,h=>by
   rw[aW];exact(h x (.head _)).app (jQ (fun y hy=>h y (.tail _ hy)))
theorem CB (l:List ByteArray):(sTr l).hd:=by
 refine⟨fun h=>.inr ?_,jQ (fun x _=>⟨trivial,trivial⟩)⟩;cases l with
 | nil=>cases h
 | cons s r=>exact⟨_,_,rfl,fun A m c e=>by cases e⟩
mutual
theorem Vl.hd:∀ v:Vl,Trs.hd v.tr
 | ⟨k,b,n,t,l,ks⟩=>⟨trivial,trivial,trivial,trivial,⟨fun _=>.inl (by omega),Vl.hds l⟩,CB ks,trivial⟩
theorem Vl.hds:∀ l:List Vl,Trs.hd (Vl.trs l)
 | []=>trivial
 | v::r=>(Vl.hd v).app (Vl.hds r)
end
mutual
theorem Ex.hd:∀ v:Ex,Trs.hd v.tr
 | ⟨k,t,n,nm,a,l⟩=>⟨trivial,trivial,trivial,trivial,trivial,⟨fun _=>.inl (by omega),Ex.hds l⟩,trivial⟩
theorem Ex.hds:∀ l:List Ex,Trs.hd (Ex.trs l)
 | []=>trivial
 | v::r=>(Ex.hd v).app (Ex.hds r)
end
mutual
theorem Cd.hd:∀ v:Cd,Trs.hd v.tr
 | ⟨n,k,a,b,l⟩=>⟨trivial,trivial,(Ex.hd a).app ((Ex.hd b).app ⟨⟨fun _=>.inl (by omega),Cd.hds l⟩,trivial⟩)⟩
theorem Cd.hds:∀ l:List Cd,Trs.hd (Cd.trs l)
 | []=>trivial
 | v::r=>(Cd.hd v).app (Cd.hds r)
end
theorem Pm.hd (p:Pm):Trs.hd p.tr:=⟨trivial,trivial,trivial,(Vl.hd p.dflt).app ⟨⟨fun _=>.inl (by omega),jQ (fun x _=>Vl.hd x)⟩,trivial⟩⟩
theorem Pr.hd (p:Pr):Trs.hd p.tr:=⟨trivial,Ex.hd p.e⟩
theorem Ou.hd (p:Ou):Trs.hd p.tr:=⟨trivial,trivial,Ex.hd p.e⟩
mutual
theorem Rs.hd:∀ v:Rs,Trs.hd v.tr
 | ⟨i,t,c,ps,ds,r,l⟩=>⟨trivial,trivial,trivial,⟨fun _=>.inl (by omega),jQ (fun x _=>Pr.hd x)⟩,CB ds,trivial,⟨fun _=>.inl (by omega),Tm.hds l⟩,trivial⟩
theorem Rs.hds:∀ l:List Rs,Trs.hd (Rs.trs l)
 | []=>trivial
 | v::r=>(Rs.hd v).app (Rs.hds r)
theorem Tm.hd:∀ v:Tm,Trs.hd v.tr
 | ⟨ps,cs,rs,os⟩=>⟨⟨fun _=>.inl (by omega),jQ (fun x _=>Pm.hd x)⟩,⟨fun _=>.inl (by omega),jQ (fun x _=>Cd.hd x)⟩,⟨fun _=>.inl (by omega),Rs.hds rs⟩,⟨fun _=>.inl (by omega),jQ (fun x _=>Ou.hd x)⟩,trivial⟩
theorem Tm.hds:∀ l:List Tm,Trs.hd (Tm.trs l)
 | []=>trivial
 | v::r=>(Tm.hd v).app (Tm.hds r)
end
theorem Gd.hd (g:Gd):Trs.hd g.tr:=⟨trivial,trivial,trivial⟩
theorem RG (l:List Gd):Tr.hd (.sl 2 24 l.length (l.flatMap Gd.tr)):=by
 refine⟨fun h=>.inr ?_,jQ (fun x _=>Gd.hd x)⟩;cases l with
 | nil=>cases h
 | cons g r=>exact⟨_,_,rfl,fun A m c e=>by cases e⟩
theorem Nd.hd (n:Nd):Trs.hd n.tr:=⟨trivial,trivial,(Rs.hd n.r).app ⟨RG _,CB _,trivial⟩⟩
theorem Sc.hd (s:Sc):Trs.hd s.tr:=⟨trivial,trivial,(Tm.hd s.t).app ⟨⟨fun _=>.inl (by omega),jQ (fun x _=>Pr.hd x)⟩,trivial⟩⟩
section
variable {S:Nat->Prop} {w:World} {q:Nat} {a1 a2:Option Addr} {n1 n2 c1 c2:Nat} {t0:TypeId}
theorem PN {sz n c:Nat} {ad:Addr} {vs:List Value} {ts:List Tr} (hq:Blk w q #[.slice a1 n1 c1,.slice a2 n2 c2] t0) (hr:Rd w sz (some ad) n c vs) (hz:0<sz) (hn:0<n) (hd:3<=sz∨∃ u ts',ts=.leaf u::ts'/\∀ A m c,u≠.slice A m c) (ht:Trs.at S w ts vs):ad.block≠q:=by
 intro e;have hl:=hr.len;have hpos:sz<=n*sz:=Nat.le_mul_of_pos_left _ hn;have hcell:∀ (j:Nat) (u:Value),vs[j]?=some u->ad.off+j<2/\∃ A m c,u=.slice A m c:=fun j u hu=>by
  obtain⟨ad2,e2,h2⟩:=hr.at_ j u hu;injection e2 with e2;subst e2;have hb:(ad.add j).block=q:=by unfold Addr.add;split<;>exact e
  have ho:(ad.add j).off=ad.off+j:=by unfold Addr.add;split<;>simp_all
  unfold World.cell? at h2;rw[hb,show w.heap[q]?=_ from hq] at h2;simp only at h2;split at h2
  .cases h2
  rw[ho] at h2;have hlt:ad.off+j<2:=by
   have:=(Array.getElem?_eq_some_iff.1 h2).1;simpa using this
  refine⟨hlt,?_⟩;rcases (show ad.off+j=0∨ad.off+j=1 by omega) with h | h<;>rw[h] at h2<;>simp at h2
  .exact⟨_,_,_,h2.symm⟩
  exact⟨_,_,_,h2.symm⟩
 rcases hd with h3 | ⟨u,ts',rfl,hu⟩
 .obtain⟨x,hx⟩:=fO (l:=vs) (i:=2) (by omega);have:=(hcell 2 x hx).1;omega
 simp only[Trs.at] at ht;obtain⟨v,vs',rfl,hv,-⟩:=ht;simp only[Tr.at] at hv;obtain⟨-,A,m,c,h⟩:=hcell 0 v rfl;exact hu A m c (hv.1.symm.trans h)
mutual
theorem Tr.at.avoid (hq:Blk w q #[.slice a1 n1 c1,.slice a2 n2 c2] t0):∀ (t:Tr) (v:Value),t.hd->t.at S w v->t.at (fun k=>S k/\k≠q) w v
 | .leaf u,v,_,h=>by simp only[Tr.at] at h ⊢;exact h
 | .sl sz b n ts,v,hd,h=>by
   simp only[Tr.at] at h ⊢;obtain⟨A,c,vs,rfl,hr,hb,hs,ht⟩:=h;exact⟨A,c,vs,rfl,hr,hb,fun ad e hn=>⟨hs ad e hn,PN hq (by rw[<-e];exact hr) hb.1 hn (hd.1 hn) ht⟩,Trs.at.avoid hq ts vs hd.2 ht⟩
theorem Trs.at.avoid (hq:Blk w q #[.slice a1 n1 c1,.slice a2 n2 c2] t0):∀ (ts:List Tr) (vs:List Value),Trs.hd ts->Trs.at S w ts vs->Trs.at (fun k=>S k/\k≠q) w ts vs
 | [],vs,_,h=>by simp only[Trs.at] at h ⊢;exact h
 | t::ts,vs,hd,h=>by
   simp only[Trs.at] at h ⊢;obtain⟨v,vs',rfl,h1,h2⟩:=h;exact⟨v,vs',rfl,Tr.at.avoid hq t v hd.1 h1,Trs.at.avoid hq ts vs' hd.2 h2⟩
end
theorem Ls.avoid {α:Type} {sz b c:Nat} {tr:α->List Tr} {A:Option Addr} {l:List α} (h:Ls S w sz b tr A c l) (hq:Blk w q #[.slice a1 n1 c1,.slice a2 n2 c2] t0) (h3:3<=sz) (hd:∀ x∈l,Trs.hd (tr x)):Ls (fun k=>S k/\k≠q) w sz b tr A c l:=by
 obtain⟨h1,h2,h4,h5,h6,vs,h7,h8⟩:=h;exact⟨h1,h2,h4,h5,fun ad e hn=>⟨h6 ad e hn,PN hq (by rw[<-e];exact h7) h1 hn (.inl h3) h8⟩,vs,h7,Trs.at.avoid hq _ _ (jQ hd) h8⟩
end
structure U6 (sc:List Sc) (nd:List Nd):Prop where
 sl:sc.length<=16
 nl:nd.length<=16
 sc:∀ s∈sc,I5 s/\s.pre.size<=6000000000000000
 nd:∀ x∈nd,Q0 x
def MQ (args ids:List Gv) (w:World) (e:Ending) (w':World):Prop:=Below w.heap.size w w'/\∃ (ok:Bool) (SA NA:Option Addr) (sC nC:Nat) (sc:List Sc) (nd:List Nd),e=.returned (.tuple #[.agg #[.slice SA sc.length sC,.slice NA nd.length nC],.bool ok]) /\
 Ls (fun k=>k<w'.heap.size) w' 7 144 Sc.tr SA sC sc/\Ls (fun k=>k<w'.heap.size) w' 11 200 Nd.tr NA nC nd/\(ok=true->RB args/\RB ids/\U6 sc nd)
theorem xN {args ids:List Gv} {w w':World} (hb:Below w.heap.size w w'):MQ args ids w (.returned (.tuple #[.agg #[.slice none 0 0,.slice none 0 0],.bool false])) w' :=
 ⟨hb,false,none,none,0,0,[],[],rfl,cF _ _ _ _ (by omega) _,cF _ _ _ _ (by omega) _,fun h=>by cases h⟩
theorem J2 (S:Nat->Prop) (t:Tm) (cs:List Value) (AA IA:Option Addr) (ac ic:Nat) (args ids:List Gv) (w:World) (hS:∀ k,S k->k<w.heap.size) (ht:Trs.at S w t.tr cs) (hsm:Trs.sm t.tr) (hag:Ls S w 8 104 Gv.tr AA ac args) (hid:Ls S w 8 104 Gv.tr IA ic ids) :
 Calls Tryz.prog 6 #[.agg cs.toArray,.slice AA args.length ac,.slice IA ids.length ic] w (MQ args ids w):=by
 have HT:=Hd ht;obtain⟨A,a,B,b,C,c,D,d,rfl,-⟩:=Tm.at_iff.1 ht;obtain⟨W2,hW2⟩:∃ W2,W2=((w.alloc (.cells (kT t A a B b C c D d) 27)).alloc (.cells #[.slice none 0 0,.slice none 0 0] 36)):=⟨_,rfl⟩;have hb2:Below w.heap.size w W2:=by rw[hW2];exact((aB _ w).alloc (aA _) _).alloc (by simp) _
 have hs2:W2.heap.size=w.heap.size+2:=by rw[hW2];simp
 have kt:Blk W2 w.heap.size (kT t A a B b C c D d) 27:=by rw[hW2];exact(aJ w _ _).alloc _
 have kf:Blk W2 (w.heap.size+1) #[.slice none 0 0,.slice none 0 0] 36:=by rw[hW2];exact PV (by simp)
 have HG13:=Hd (AL S t _ W2 (ht.below hb2));have HGA:Hid (∀ w',Below w.heap.size w w'->Calls Tryz.prog 20 #[.slice AA args.length ac] w' (SF args w')):=Hd (fun w' hb=>rO S AA ac args w' (hag.below hb));have HGI:Hid (∀ w',Below w.heap.size w w'->Calls Tryz.prog 20 #[.slice IA ids.length ic] w' (SF ids w')):=Hd (fun w' hb=>rO S IA ic ids w' (hid.below hb));have HFT:Hid (t.gw 5->∀ w',Below w.heap.size w w'->Calls Tryz.prog 21 #[.agg (kT t A a B b C c D d)] w' (xA t I5 Q0 w')):=Hd (fun hg w' hb=>by
  have h:=vO I5 T3 Q0 (fun n hn=>hn.1) S1 S t _ w' (PZ 2 0 2 0 ByteArray.empty t (by omega) hg hsm) (I4 (k:=4) hg (by simp) (fun a ha=>by cases ha)) (ht.below hb) (fun k hk=>aO (hS k hk) hb.size);rwa [show ([.slice A t.params.length a,.slice B t.conds.length b,.slice C t.res.length c,.slice D t.outs.length d]:List Value).toArray=(kT t A a B b C c D d) from rfl] at h)
 obtain⟨x0,x1,x2,x3⟩:=j1 kt;have HB2:=Hd hb2;have HKT:=Hd kt;have HKF:=Hd kf;have HW2:=Hd hW2;clear ht hsm hag hid hb2 kt kf hW2 hS;go_enter Tryz.func6,Tryz.ntmps6;go_upto_region 1 with fail;rw[<-HW2.o];go_wp2_with fail;refine HG13.o.mono ?_;rintro e w3 ⟨b1,rfl,hb3,hg1⟩;have hb03:=HB2.o.trans (hb3.mono HB2.o.size);have HB3:=Hd hb03;have HK3:=Hd (HKF.o.below hb3);have HT3:=Hd (HKT.o.below hb3);have HG1:=Hd hg1;have HA3:=Hd (HGA.o w3 hb03);clear hb3 hb03 hg1 x0 x1 x2 x3 HGA;cases b1 with
 | true =>
   go_wp2_with ((with_reducible refine is_store ?_);refine wpList_store_blk rfl 36 _ _ rfl (w.heap.size+1) #[.slice none 0 0,.slice none 0 0] #[.slice none 0 0,.slice none 0 0] 36 rfl rfl HK3.o rfl (by kernel_rfl) (by simp[Value.oneCell']) ?_;intro w7 hk7 ho7;have HK7:=Hd hk7;have HO7:=Hd ho7;clear hk7 ho7);obtain⟨r0,r1⟩:=gO HK7.o;refine bodyPost_ret (v:=.tuple #[.agg #[.slice none 0 0,.slice none 0 0],.bool false]) (by simp[results,Tryz.results6,go_sem,r0,r1];try rfl) rfl ?_;exact xN (HO7.o.belowB HB3.o (fun k hk=>by omega))
 | false =>
   have HGW:=Hd (HG1.o rfl);go_wp2_with fail;refine HA3.o.mono ?_;rintro e w4 ⟨b2,rfl,hb4,hg2⟩;have hb04:=HB3.o.trans (hb4.mono HB3.o.size);have HB4:=Hd hb04;have HK4:=Hd (HK3.o.below hb4);have HT4:=Hd (HT3.o.below hb4);have HG2:=Hd hg2;have HI4:=Hd (HGI.o w4 hb04);clear hb4 hb04 hg2 HGI;cases b2 with
   | true =>
     go_wp2_with ((with_reducible refine is_store ?_);refine wpList_store_blk rfl 36 _ _ rfl (w.heap.size+1) #[.slice none 0 0,.slice none 0 0] #[.slice none 0 0,.slice none 0 0] 36 rfl rfl HK4.o rfl (by kernel_rfl) (by simp[Value.oneCell']) ?_;intro w7 hk7 ho7;have HK7:=Hd hk7;have HO7:=Hd ho7;clear hk7 ho7);obtain⟨r0,r1⟩:=gO HK7.o;refine bodyPost_ret (v:=.tuple #[.agg #[.slice none 0 0,.slice none 0 0],.bool false]) (by simp[results,Tryz.results6,go_sem,r0,r1];try rfl) rfl ?_;exact xN (HO7.o.belowB HB4.o (fun k hk=>by omega))
   | false =>
     have HGA2:=Hd (HG2.o rfl);go_wp2_with fail;refine HI4.o.mono ?_;rintro e w5 ⟨b3,rfl,hb5,hg3⟩;have hb05:=HB4.o.trans (hb5.mono HB4.o.size);have HB5:=Hd hb05;have HK5:=Hd (HK4.o.below hb5);have HT5:=Hd (HT4.o.below hb5);have HG3:=Hd hg3;clear hb5 hb05 hg3;cases b3 with
     | true =>
       go_wp2_with ((with_reducible refine is_store ?_);refine wpList_store_blk rfl 36 _ _ rfl (w.heap.size+1) #[.slice none 0 0,.slice none 0 0] #[.slice none 0 0,.slice none 0 0] 36 rfl rfl HK5.o rfl (by kernel_rfl) (by simp[Value.oneCell']) ?_;intro w7 hk7 ho7;have HK7:=Hd hk7;have HO7:=Hd ho7;clear hk7 ho7);obtain⟨r0,r1⟩:=gO HK7.o;refine bodyPost_ret (v:=.tuple #[.agg #[.slice none 0 0,.slice none 0 0],.bool false]) (by simp[results,Tryz.results6,go_sem,r0,r1];try rfl) rfl ?_;exact xN (HO7.o.belowB HB5.o (fun k hk=>by omega))
     | false =>
       have HGI2:=Hd (HG3.o rfl);have HFL:=Hd (HFT.o HGW.o w5 HB5.o);obtain⟨x0,x1,x2,x3⟩:=j1 HT5.o;go_wp2_with fail;refine HFL.o.mono ?_;rintro e w6 ⟨hb6,n,SA,NA,sC,nC,sc,nd,rfl,hls,hln,hfk,-⟩;obtain⟨W7,hW7⟩:∃ W7,W7=w6.alloc (.cells #[.slice SA sc.length sC,.slice NA nd.length nC] 36):=⟨_,rfl⟩;have hb67:Below w6.heap.size w6 W7:=by rw[hW7];exact(aB _ w6).alloc (aA _) _
       have hk7:Blk W7 w6.heap.size #[.slice SA sc.length sC,.slice NA nd.length nC] 36:=by rw[hW7];exact aJ _ _ _
       have hb57:=hb6.trans (hb67.mono hb6.size);have HB7:=Hd (HB5.o.trans (hb57.mono HB5.o.size));have HK7:=Hd (HK5.o.below hb57);have HLS:Hid (Ls (fun k=>k<w6.heap.size) w6 7 144 Sc.tr SA sC sc):=Hd hls;have HLN:=Hd hln;have HB67:=Hd hb67;have HFK:=Hd hfk;have HW7:=Hd hW7;obtain⟨z0,z1⟩:=gO hk7;clear hb6 hb67 hk7 hb57 hls hln hfk hW7 x0 x1 x2 x3;go_upto_region 4 with fail;rw[<-HW7.o];go_wp2_with ((with_reducible refine is_store ?_);refine wpList_store_blk rfl 36 _ _ rfl (w.heap.size+1) #[.slice SA sc.length sC,.slice NA nd.length nC] #[.slice none 0 0,.slice none 0 0] 36 rfl rfl HK7.o rfl (by kernel_rfl) (by simp[Value.oneCell']) ?_;intro w8 hk8 ho8;have HK8:=Hd hk8;have HO8:=Hd ho8;clear hk8 ho8);obtain⟨r0,r1⟩:=gO HK8.o;refine bodyPost_ret (v:=.tuple #[.agg #[.slice SA sc.length sC,.slice NA nd.length nC],.bool ((n:Int)==0)]) (by simp[results,Tryz.results6,go_sem,r0,r1];try rfl) rfl ?_;have hl1:=((HLS.o.below HB67.o).avoid HK7.o (by omega) (fun x _=>Sc.hd x)).only HO8.o (fun k hk=>hk.2);have hl2:=((HLN.o.below HB67.o).avoid HK7.o (by omega) (fun x _=>Nd.hd x)).only HO8.o (fun k hk=>hk.2);have hsz:∀ k,k<w6.heap.size/\k≠w.heap.size+1->k<w8.heap.size:=fun k hk=>aO hk.1 (bB HB67.o.size HO8.o.size)
       refine⟨HO8.o.belowB HB7.o (fun k hk=>by omega),_,SA,NA,sC,nC,sc,nd,rfl,hl1.mono hsz,hl2.mono hsz,fun h=>?_⟩;have hn:n=0:=by simpa using h
       obtain⟨f1,f2,f3,f4,-⟩:=HFK.o hn;exact⟨HGA2.o,HGI2.o,⟨f1,f2,f3,f4⟩⟩
theorem B9 (k:Nat) (S:Nat->Prop) (A B:Option Addr) (c d:Nat) (l:List Gv) (w:World) (ha:Ls S w 8 104 Gv.tr A c l) (hb:Ls S w 8 104 Gv.tr B d l) (hk:∀ g∈l,kC k g.v) :
 Calls Tryz.prog 18 #[.slice A l.length c,.slice B l.length d] w (BoolB true w):=by
 have hac:=ha.cap;have hbc:=hb.cap;have hby:=ha.bytes;have HA:=Hd ha;have HB:=Hd hb;have HK:=Hd hk;clear ha hb hk;go_enter Tryz.func18,Tryz.ntmps18;go_wp2_with fail;go_loopg [5] l.length (fun g i wr=>∃ j:Nat,j+g=l.length/\i=.int .i64 (j:Nat)/\Hid (Below w.heap.size w wr))
 case atStart=>exact⟨0,by omega,rfl,Hd (aB _ _)⟩
 obtain⟨j,hj,rfl,HBR⟩:=hrel;rename World=>wr
 cases gk with
 | zero =>
   have hjj:¬((j:Int)<(l.length:Int)):=by omega
   go_wp2;go_ret;exact⟨rfl,HBR.o⟩
 | succ g =>
   have hjj:(j:Int)<(l.length:Int):=by omega
   have hji:(0:Int)<=(j:Int)/\(j:Int)<(l.length:Int):=by omega
   obtain⟨x,hx⟩:=fO (l:=l) (i:=j) (by omega);obtain⟨ad,cs,hA1,hxt,hxc⟩:=(HA.o.below HBR.o).elem dA hx;obtain⟨bd,ds,hB1,hyt,hyc⟩:=(HB.o.below HBR.o).elem dA hx;obtain⟨GA,GB,gc,gd,rfl,-,hv1⟩:=fX hxt;obtain⟨HX,HY,hc,hd,rfl,-,hv2⟩:=fX hyt;subst hA1 hB1;obtain⟨e0,e1,e2,e3,e4,e5,e6,e7⟩:=l8 hxc;obtain⟨f0,f1,f2,f3,f4,f5,f6,f7⟩:=l8 hyc;have HV1:=Hd hv1;have HV2:=Hd hv2;have HC1:=Hd hxc;have HC2:=Hd hyc;have HDP:=Hd (HK.o x (aD hx));have HDB:Hid (Below wr.heap.size wr wr.drew):=Hd (aB _ wr).drew;have HSM:=Hd (QM k S x.v _ _ wr.drew HDP.o (hv1.below HDB.o) (hv2.below HDB.o));clear hx hxt hyt hxc hyc hv1 hv2;have q1:(x.name.toList==x.name.toList)=true:=by simp
   have q2:(x.unknown !=x.unknown)=false:=by simp
   have q3:(x.name.toList !=x.name.toList)=false:=by simp
   go_upto_region 6 with fail;refine cK 51 (fun w'=>w'.cell? (ad.add (j*8))=some (.string x.name)/\w'.cell? ⟨(ad.add (j*8)).block,(ad.add (j*8)).off+1,none⟩=some (.bool x.unknown)/\w'.cell? ⟨(ad.add (j*8)).block,(ad.add (j*8)).off+2,none⟩=some (.int .i8 x.v.kind)/\w'.cell? ⟨(ad.add (j*8)).block,(ad.add (j*8)).off+3,none⟩=some (.bool x.v.bool)/\w'.cell? ⟨(ad.add (j*8)).block,(ad.add (j*8)).off+4,none⟩=some (.int .i64 x.v.num)/\w'.cell? ⟨(ad.add (j*8)).block,(ad.add (j*8)).off+5,none⟩=some (.string x.v.text)/\w'.cell? ⟨(ad.add (j*8)).block,(ad.add (j*8)).off+6,none⟩=some (.slice GA x.v.list.length gc)/\w'.cell? ⟨(ad.add (j*8)).block,(ad.add (j*8)).off+7,none⟩=some (.slice GB x.v.keys.length gd)/\w'.cell? (bd.add (j*8))=some (.string x.name)/\w'.cell? ⟨(bd.add (j*8)).block,(bd.add (j*8)).off+1,none⟩=some (.bool x.unknown)/\w'.cell? ⟨(bd.add (j*8)).block,(bd.add (j*8)).off+2,none⟩=some (.int .i8 x.v.kind)/\w'.cell? ⟨(bd.add (j*8)).block,(bd.add (j*8)).off+3,none⟩=some (.bool x.v.bool)/\w'.cell? ⟨(bd.add (j*8)).block,(bd.add (j*8)).off+4,none⟩=some (.int .i64 x.v.num)/\w'.cell? ⟨(bd.add (j*8)).block,(bd.add (j*8)).off+5,none⟩=some (.string x.v.text)/\w'.cell? ⟨(bd.add (j*8)).block,(bd.add (j*8)).off+6,none⟩=some (.slice HX x.v.list.length hc)/\w'.cell? ⟨(bd.add (j*8)).block,(bd.add (j*8)).off+7,none⟩=some (.slice HY x.v.keys.length hd)) (by kernel_rfl) (by go_keep) (fun hH0=>?_);simp only[aQ,bC,aX,bA,aZ,Nat.reduceAdd];refine aL hH0 0 ?_;try simp only[Act.put,sA,sB,sC]
   refine aL hH0 1 ?_;try simp only[Act.put,sA,sB,sC]
   refine aL hH0 2 ?_;try simp only[Act.put,sA,sB,sC]
   refine aL hH0 3 ?_;try simp only[Act.put,sA,sB,sC]
   refine aL hH0 4 ?_;try simp only[Act.put,sA,sB,sC]
   refine aL hH0 5 ?_;try simp only[Act.put,sA,sB,sC]
   refine aL hH0 6 ?_;try simp only[Act.put,sA,sB,sC]
   refine aL hH0 7 ?_;try simp only[Act.put,sA,sB,sC]
   refine aL hH0 8 ?_;try simp only[Act.put,sA,sB,sC]
   refine aL hH0 9 ?_;try simp only[Act.put,sA,sB,sC]
   refine aL hH0 10 ?_;try simp only[Act.put,sA,sB,sC]
   refine aL hH0 11 ?_;try simp only[Act.put,sA,sB,sC]
   refine aL hH0 12 ?_;try simp only[Act.put,sA,sB,sC]
   refine aL hH0 13 ?_;try simp only[Act.put,sA,sB,sC]
   refine aL hH0 14 ?_;try simp only[Act.put,sA,sB,sC]
   refine aL hH0 15 ?_;try simp only[Act.put,sA,sB,sC]
   refine aL hH0 16 ?_;try simp only[Act.put,sA,sB,sC]
   refine aL hH0 17 ?_;try simp only[Act.put,sA,sB,sC]
   refine aL hH0 18 ?_;try simp only[Act.put,sA,sB,sC]
   refine aL hH0 19 ?_;try simp only[Act.put,sA,sB,sC]
   refine aL hH0 20 ?_;try simp only[Act.put,sA,sB,sC]
   refine aL hH0 21 ?_;try simp only[Act.put,sA,sB,sC]
   refine aL hH0 22 ?_;try simp only[Act.put,sA,sB,sC]
   refine aL hH0 23 ?_;try simp only[Act.put,sA,sB,sC]
   refine aL hH0 24 ?_;try simp only[Act.put,sA,sB,sC]
   refine aL hH0 25 ?_;try simp only[Act.put,sA,sB,sC]
   refine aL hH0 26 ?_;try simp only[Act.put,sA,sB,sC]
   refine aL hH0 27 ?_;try simp only[Act.put,sA,sB,sC]
   refine aL hH0 28 ?_;try simp only[Act.put,sA,sB,sC]
   refine aL hH0 29 ?_;try simp only[Act.put,sA,sB,sC]
   refine aL hH0 30 ?_;try simp only[Act.put,sA,sB,sC]
   refine aL hH0 31 ?_;try simp only[Act.put,sA,sB,sC]
   refine aL hH0 32 ?_;try simp only[Act.put,sA,sB,sC]
   refine aL hH0 33 ?_;try simp only[Act.put,sA,sB,sC]
   refine aL hH0 34 ?_;try simp only[Act.put,sA,sB,sC]
   refine cT 35 fun K hK=>?_
   go_simp;go_at_call 34;(with_reducible refine HSM.o.mono ?_);rintro e w4 ⟨rfl,hb⟩;have hb4:=HDB.o.trans (hb.mono HDB.o.size);have HB4:=Hd hb4;obtain⟨k0,k1,k2,k3,k4,k5,k6,k7⟩:=l8 (HC1.o.below hb4);obtain⟨m0,m1,m2,m3,m4,m5,m6,m7⟩:=l8 (HC2.o.below hb4);clear hb hb4;refine cM hK fun hH1=>?_
   clear hK K hH0;try simp only[Act.put,aE,aH,aI]
   refine aL hH1 36 ?_;try simp only[Act.put,sA,sB,sC]
   refine aL hH1 37 ?_;try simp only[Act.put,sA,sB,sC]
   refine eX hH1 38 rfl (by kernel_rfl) (fun _ _ _ h=>h) (by rfl) ?_;try simp only[Act.put,aE,aH,aI]
   refine eX hH1 39 rfl (by kernel_rfl) (fun _ _ _ h=>h) (by rfl) ?_;try simp only[Act.put,aE,aH,aI]
   refine eX hH1 40 rfl (by kernel_rfl) (fun _ _ _ h=>h) (by rfl) ?_;try simp only[Act.put,aE,aH,aI]
   refine eX hH1 41 rfl (by kernel_rfl) (fun _ _ _ h=>h) (by rfl) ?_;try simp only[Act.put,aE,aH,aI]
   refine eX hH1 42 rfl (by kernel_rfl) (fun _ _ _ h=>h) (by rfl) ?_;try simp only[Act.put,aE,aH,aI]
   refine eX hH1 43 rfl (by kernel_rfl) (fun _ _ _ h=>h) (by rfl) ?_;try simp only[Act.put,aE,aH,aI]
   refine eX hH1 44 rfl (by kernel_rfl) (fun _ _ _ h=>h) (by rfl) ?_;try simp only[Act.put,aE,aH,aI]
   refine eX hH1 45 rfl (by kernel_rfl) (fun _ _ _ h=>h) (by rfl) ?_;try simp only[Act.put,aE,aH,aI]
   refine eX hH1 46 rfl (by kernel_rfl) (fun _ _ _ h=>h) (by rfl) ?_;try simp only[Act.put,aE,aH,aI]
   refine eX hH1 47 rfl (by kernel_rfl) (fun _ _ _ h=>h) (by rfl) ?_;try simp only[Act.put,aE,aH,aI]
   refine eX hH1 48 rfl (by kernel_rfl) (fun _ _ _ h=>h) (by rfl) ?_;try simp only[Act.put,aE,aH,aI]
   refine eX hH1 49 rfl (by kernel_rfl) (fun _ _ _ h=>h) (by rfl) ?_;try simp only[Act.put,aE,aH,aI]
   refine aL hH1 50 ?_;try simp only[Act.put,sA,sB,sC]
   refine dY fun K hK=>?_
   go_simp;refine hK.out _ _ ?_;clear hK K hH1;clear e0 e1 e2 e3 e4 e5 e6 e7 f0 f1 f2 f3 f4 f5 f6 f7 k0 k1 k2 k3 k4 k5 k6 k7 m0 m1 m2 m3 m4 m5 m6 m7;go_wp2_with fail;go_roundg g
   case measure=>omega
   case rel=>exact⟨j+1,by omega,by go_num,Hd (HBR.o.trans (HB4.o.mono HBR.o.size))⟩
theorem xK (k:Nat) (S:Nat->Prop) (x:Gv) (cs ds:List Value) (w:World) (hS:∀ k,S k->k<w.heap.size) (ha:Trs.at S w x.tr cs) (hb:Trs.at S w x.tr ds) (hk:kC k x.v) :
 Calls Tryz.prog 11 #[.agg cs.toArray,.agg ds.toArray] w (BoolB true w):=by
 have ha0:=ha;have hb0:=hb;obtain⟨GA,GB,gc,gd,rfl,-,-⟩:=fX ha0;obtain⟨HX,HY,hc,hd,rfl,-,-⟩:=fX hb0;obtain⟨W2,hW2⟩:∃ W2,W2=((w.alloc (.cells (kG x GA gc GB gd) 46)).alloc (.cells (kG x HX hc HY hd) 46)):=⟨_,rfl⟩;have hb2:Below w.heap.size w W2:=by rw[hW2];exact((aB _ w).alloc (aA _) _).alloc (by simp) _
 have k1:Blk W2 w.heap.size (kG x GA gc GB gd) 46:=by rw[hW2];exact(aJ w _ _).alloc _
 have k2:Blk W2 (w.heap.size+1) (kG x HX hc HY hd) 46:=by rw[hW2];exact PV (by simp)
 obtain⟨W4,hW4⟩:∃ W4,W4=((W2.alloc (.cells (kG x GA gc GB gd) 46)).alloc (.cells (kG x HX hc HY hd) 46)):=⟨_,rfl⟩;have hb4:Below W2.heap.size W2 W4:=by rw[hW4];exact((aB _ W2).alloc (aA _) _).alloc (by simp) _
 have hb04:=hb2.trans (hb4.mono hb2.size);have hl1:Ls (fun k=>k<W4.heap.size) W4 8 104 Gv.tr (some ⟨W2.heap.size,0,none⟩) 1 [x]:=⟨by omega,by simp,by simp,by unfold maxLen;omega,fun ad e _=>by injection e with e;subst e;rw[hW4];simp<;>omega,(kG x GA gc GB gd).toList,by
  rw[hW4];exact(cQ W2 8 1 (kG x GA gc GB gd) _ (0,0) rfl (by unfold maxLen;omega)).below ((aB _ _).alloc (aA _) _),by
  simp only[aW,bW,bQ];exact(ha.below hb04).mono (fun k hk=>aO (hS k hk) hb04.size)⟩
 have hl2:Ls (fun k=>k<W4.heap.size) W4 8 104 Gv.tr (some ⟨W2.heap.size+1,0,none⟩) 1 [x]:=⟨by omega,by simp,by simp,by unfold maxLen;omega,fun ad e _=>by injection e with e;subst e;rw[hW4];simp<;>omega,(kG x HX hc HY hd).toList,by
  rw[hW4];have h:=cQ (W2.alloc (.cells (kG x GA gc GB gd) 46)) 8 1 (kG x HX hc HY hd) 46 (0,0) rfl (by unfold maxLen;omega);rwa [show (W2.alloc (.cells (kG x GA gc GB gd) 46)).heap.size=W2.heap.size+1 by simp] at h,by
  simp only[aW,bW,bQ];exact(hb.below hb04).mono (fun k hk=>aO (hS k hk) hb04.size)⟩
 have hz2:w.heap.size+1<W2.heap.size:=k2.lt;have HSM:=Hd (B9 k _ _ _ 1 1 [x] W4 hl1 hl2 (fun g hg=>by rw[aR] at hg;subst hg;exact hk));have HB:=Hd hb04;have HW2:=Hd hW2;have HW4:=Hd hW4;obtain⟨x0,x1,x2,x3,x4,x5,x6,x7⟩:=gI k1;obtain⟨y0,y1,y2,y3,y4,y5,y6,y7⟩:=gI k2;clear ha hb ha0 hb0 hk hb2 hb4 hb04 k1 k2 hW2 hW4 hl1 hl2 hS;go_enter Tryz.func11,Tryz.ntmps11;go_upto_region 1 with fail;rw[<-HW2.o];go_wp2_with fail;rw[<-HW4.o];refine HSM.o.mono ?_;rintro e w5 ⟨rfl,hb⟩;have HB5:=Hd (HB.o.trans (hb.mono HB.o.size));clear hb;go_wp2;go_ret;exact⟨rfl,HB5.o⟩
