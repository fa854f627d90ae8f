/- Part of the proof. -/
import Derived.Test.YtjmklmngikpeaaaGreatDoorEwG
set_option maxRecDepth 100000
set_option maxHeartbeats 16000000
set_option linter.unusedVariables false
set_option linter.unusedSimpArgs false
namespace Go.Proofs.YtjmklmngikpeaaaGreatDoor
open Go.RowKit Go.Maps
variable {a b c:Nat}{v:Va}{W:Vh}{w:World}
theorem Dv.less {Γ:Eg} {s:Es} (h:b<=c) (hD:Dv Γ (W.priv a c) s w):Dv Γ (W.priv a b) s w:=by
 obtain⟨L,g,h3,h4,h5⟩:=hD.kept;exact⟨hD.wk,hD.und,⟨L,g,h3,h4,fun p=>(h5 p).keep (fun _ _ _=>rfl) (fun k hk _=>⟨hk.1,fun hx=>hk.2 (hx.elim .inl (fun h2=>.inr ⟨h2.1,by omega⟩))⟩)⟩,hD.ok⟩
theorem Trs.at.less {ts:List Tr} {cs:List Value} (h:b<=c) (hT:Trs.at (W.priv a c).S w ts cs):Trs.at (W.priv a b).S w ts cs :=
 hT.mono (fun k hk=>⟨hk.1,fun hx=>hk.2 (hx.elim .inl (fun h2=>.inr ⟨h2.1,by omega⟩))⟩)
theorem BX (h:oY v):fR v.v:=by
 have hw:vWalk 24 v.v=v.v::v.v.list:=by
  show v.v::v.v.list.flatMap (vWalk 23)=_
  congr 1;have:∀ l:List Vl,(∀ x∈l,x.list=[]/\x.keys=[])->l.flatMap (vWalk 23)=l:=by
   intro l;induction l with
   | nil=>intro _;rfl
   | cons a r ih =>
     intro hl;rw[aW,ih (fun x hx=>hl x (.tail _ hx))];show (a::a.list.flatMap (vWalk 22))++r=_
     rw[(hl a (.head _)).1];rfl
  exact this _ h.ls.2
 unfold fR;rw[hw];refine⟨by have:=h.ls.1;simp;omega,fun x hx=>?_⟩;rcases List.mem_cons.1 hx with rfl | hx
 .rw[h.ks];exact⟨by simp,by have:=h.ls.1;omega⟩
 rw[(h.ls.2 x hx).1,(h.ls.2 x hx).2];exact⟨by simp,by simp⟩
theorem TX {S:Nat->Prop} {VA VB:Option Addr} {vc vd:Nat} (h:Trs.at S w v.tr (kA v VA vc VB vd).toList):Trs.at S w v.v.tr [.int .i8 v.v.kind,.bool v.v.bool,.int .i64 v.v.num,.string v.v.text,.slice VA v.v.list.length vc,.slice VB v.v.keys.length vd]:=by
 obtain⟨vs,hcs,h1,-⟩:=Va.at_iff.1 h;have h2:=congrArg (fun l:List Value=>(l.drop 2).dropLast) hcs;simp at h2;rw[h2];exact h1
theorem xY {q:Nat} {t:TypeId} {c0 c1 c2 c3 c4 c5 c6 c7 c8 c9:Value} (h:Blk w q #[c0,c1,c2,c3,c4,c5,c6,c7,c8,c9] t):w.cell? ⟨q,0,none⟩=some c0/\w.cell? ⟨q,1,none⟩=some c1/\w.cell? ⟨q,2,none⟩=some c2/\w.cell? ⟨q,3,none⟩=some c3/\w.cell? ⟨q,4,none⟩=some c4/\w.cell? ⟨q,5,none⟩=some c5/\w.cell? ⟨q,6,none⟩=some c6/\w.cell? ⟨q,7,none⟩=some c7/\w.cell? ⟨q,8,none⟩=some c8/\w.cell? ⟨q,9,none⟩=some c9 :=
 ⟨h.cell 0 rfl,h.cell 1 rfl,h.cell 2 rfl,h.cell 3 rfl,h.cell 4 rfl,h.cell 5 rfl,h.cell 6 rfl,h.cell 7 rfl,h.cell 8 rfl,h.cell 9 rfl⟩
theorem FC (Γ:Eg) (hΓ:vC Γ) (n:Nat) (IH:BL Γ n) (V:Vh) (s:Es) (sc:Nat) (c:Sc) (hc:Γ.G.sc[sc]?=some c) (h0:0<sc) (p:Pm) (hps:iM p) (x:Ex) (hx:exOk x/\exTx x) (pcs xcs:List Value) (b1 b2 b3 b4:Nat) (w:World) (hm:oT Γ s x<=n) (hF:Fxv Γ V w) (hD:Dv Γ V s w) (hT:Trs.at V.S w x.tr xcs) (hP:Trs.at V.S w p.tr pcs)
 (k1:Blk w b1 #[.pointer (some ⟨V.wb,0,none⟩)] 70) (k2:Blk w b2 #[.int .i64 (sc:Int)] 3) (k3:Blk w b3 xcs.toArray 32) (k4:Blk w b4 pcs.toArray 145) (hX:¬V.F b1/\¬V.F b2/\¬V.F b3/\¬V.F b4) :
 Calls Tryz.prog 179 #[.pointer (some ⟨b1,0,none⟩),.pointer (some ⟨b2,0,none⟩),.pointer (some ⟨b3,0,none⟩),.pointer (some ⟨b4,0,none⟩)] w (ValO Γ V (kU p (evF n Γ c.parent.toNat x s)) w):=by
 obtain⟨XA,xc,rfl,-⟩:=Ex.at_iff.1 hT;obtain⟨A1,B1,A2,c1,d1,c2,rfl,hpa⟩:=mO.of hP hps;rw[aV] at k3 k4;obtain⟨W1,hW1⟩:∃ W1,W1=(w.alloc (.cells zA 74)):=⟨_,rfl⟩;have hb1:Below w.heap.size w W1:=by rw[hW1];exact(aB _ w).alloc (aA _) _
 have hs1:W1.heap.size=w.heap.size+1:=by rw[hW1];simp
 have hrb:Blk W1 w.heap.size zA 74:=by rw[hW1];exact aJ w _ _
 have hpar:=hΓ.par sc c h0 hc;obtain⟨pn,hpn⟩:∃ pn:Nat,c.parent=(pn:Int):=⟨c.parent.toNat,by omega⟩;have hpl:pn<Γ.G.sc.length:=by
  have:=(List.getElem?_eq_some_iff.1 hc).1;omega
 obtain⟨ad,cs,hSA,hct,hcc⟩:=(hF.below hb1).sc.elem dS hc;obtain⟨B1',B2',B3',B4',B5',e1',e2',e3',e4',e5',rfl,-⟩:=jA hct;have s0:=(lO hcc).1;rw[hpn] at s0;have hsi:(0:Int)<=(sc:Int)/\(sc:Int)<(Γ.G.sc.length:Int):=by have:=(List.getElem?_eq_some_iff.1 hc).1;omega
 have hsn:sc<Γ.G.sc.length:=(List.getElem?_eq_some_iff.1 hc).1;have hcap:=(hF.below hb1).sc.cap;have w0:W1.cell? ⟨V.wb,0,none⟩=some (.slice V.SA Γ.G.sc.length V.sC):=(hD.below hb1).wk.cell 0 rfl;rw[hSA] at w0;have hadS:=(hF.below hb1).sc.blk ad hSA (by omega);have hlt:=aF W1 _ s0;have hadS0:¬V.F (ad.add (sc*7)).block:=by unfold Addr.add;split<;>exact hadS.1
 have HYC:Hid (∀ w',fP V.F W1 w'->Dv Γ V s w'∨(∃ u,Dv Γ V u w')->w'.cell? ⟨V.wb,0,none⟩=some (.slice (some ad) Γ.G.sc.length V.sC)/\w'.cell? (ad.add (sc*7))=some (.int .i64 (pn:Int))/\w'.cell? ⟨b1,0,none⟩=some (.pointer (some ⟨V.wb,0,none⟩))/\w'.cell? ⟨b2,0,none⟩=some (.int .i64 (sc:Int))/\w'.cell? ⟨b3,0,none⟩=some (.int .i8 x.kind)/\w'.cell? ⟨b3,1,none⟩=some (.string x.text)/\w'.cell? ⟨b3,2,none⟩=some (.int .i64 x.num)/\w'.cell? ⟨b3,3,none⟩=some (.string x.name)/\w'.cell? ⟨b3,4,none⟩=some (.string x.attr)/\w'.cell? ⟨b3,5,none⟩=some (.slice XA x.l.length xc)):=Hd (fun w' ho hd=>by
  have h3:=gH ((k3.below hb1).only ho hX.2.2.1);refine⟨?_,(cell_only ho hlt (show ¬V.F (ad.add (sc*7)).block from hadS0)).trans s0,((k1.below hb1).only ho hX.1).cell 0 rfl,((k2.below hb1).only ho hX.2.1).cell 0 rfl,h3⟩;have hw:∃ u,Dv Γ V u w':=hd.elim (fun h=>⟨s,h⟩) id;obtain⟨u,hu⟩:=hw;have:=hu.wk.cell 0 rfl;rw[hSA] at this;exact this)
 obtain⟨w0',s0',x1,x2,x3,x4,x5,x6,x7,x8⟩:=HYC.o W1 (bG _ _) (.inl (hD.below hb1));have H4:Hid (∀ w',fP V.F W1 w'->Blk w' b4 (kP p A1 c1 B1 d1 A2 c2) 145):=Hd (fun w' ho=>(k4.below hb1).only ho hX.2.2.2);have H1:Hid (∀ w',fP V.F W1 w'->w'.cell? ⟨b1,0,none⟩=some (.pointer (some ⟨V.wb,0,none⟩))):=Hd (fun w' ho=>((k1.below hb1).only ho hX.1).cell 0 rfl);have hex:∀ (U:Vh) (w':World),Fxv Γ U w'->Dv Γ U s w'->Trs.at U.S w' x.tr (kX x XA xc).toList->Calls Tryz.prog 24 #[.pointer (some ⟨U.wb,0,none⟩),.int .i64 (pn:Int),.agg (kX x XA xc)] w' (ValO Γ U (evF n Γ pn x s) w'):=fun U w' h1 h2 h3=>by
  have h:=IH U x s pn (kX x XA xc).toList w' hm hpl hx.1 hx.2 h1 h2 h3;rwa [aV] at h
 obtain⟨r,hr⟩:∃ r,r=evF n Γ pn x s:=⟨_,rfl⟩;have hok:qJ s r:=by rw[hr];exact kL hΓ.s n pn x s hx.2 hD.ok
 rw[hpn,show ((pn:Int)).toNat=pn by simp,<-hr];rw[<-hr] at hex;have HEX:=Hd hex;have HOK:=Hd hok;have HLT:Hid (∀ k,V.F k->k<w.heap.size):=Hd hD.lts;have HF:=Hd hF;have HD:=Hd hD;have HT:=Hd hT;have HPA:=Hd hpa;have HB1:=Hd hb1;have HRB:=Hd hrb;have HS1:=Hd hs1;have HW1:=Hd hW1;have HSA:=Hd hSA;clear hex hok hF hD hT hP hpa hb1 hrb hs1 hW1 hΓ IH hm hx hps hr hc hct hcc hpar hpn hpl hadS hadS0 hSA k1 k2 k3 k4 hX w0' s0' h0;obtain⟨v,t⟩:=r;have hbd:Below W1.heap.size W1 W1.drew:=(aB _ W1).drew;have hba:Below W1.heap.size W1 (W1.alloc (.cells zA 74)).drew:=((aB _ W1).alloc (aA _) _).drew;have HEA:Hid (Calls Tryz.prog 24 #[.pointer (some ⟨V.wb,0,none⟩),.int .i64 (pn:Int),.agg (kX x XA xc)] W1.drew (ValO Γ (V.priv w.heap.size (w.heap.size+1)) (v,t) W1.drew)):=Hd (HEX.o (V.priv w.heap.size (w.heap.size+1)) W1.drew (HF.o.priv HB1.o.drew (by have:=HS1.o;exact eK this.symm)) (HD.o.priv HB1.o.drew _) (HT.o.priv HB1.o.drew _));have hbw:Below w.heap.size w (W1.alloc (.cells zA 74)).drew:=HB1.o.trans (hba.mono HB1.o.size);have HEB:Hid (Calls Tryz.prog 24 #[.pointer (some ⟨V.wb,0,none⟩),.int .i64 (pn:Int),.agg (kX x XA xc)] (W1.alloc (.cells zA 74)).drew (ValO Γ (V.priv w.heap.size (w.heap.size+2)) (v,t) (W1.alloc (.cells zA 74)).drew)):=Hd (HEX.o (V.priv w.heap.size (w.heap.size+2)) _ (HF.o.priv hbw (by have:=HS1.o;show w.heap.size+2<=(W1.alloc (.cells zA 74)).heap.size;simp;omega)) (HD.o.priv hbw _) (HT.o.priv hbw _));have HZB:Hid (Blk (W1.alloc (.cells zA 74)).drew W1.heap.size zA 74):=Hd (aJ W1 _ _).drew;have HBD:=Hd hbd;have HBA:=Hd hba;have HBW:=Hd hbw;clear hbd hba hbw HEX;go_enter Tryz.func179,Tryz.ntmps179;go_upto_region 1 with fail;rw[<-HW1.o];go_cut [5] from 7 to 18 (fun v5 wx=>∃ (q:Nat) (VA VB:Option Addr) (vc vd:Nat),v5=.pointer (some ⟨q,0,none⟩)/\w.heap.size<q/\Hid (Blk wx q (kA v VA vc VB vd) 74)/\Hid (Trs.at (V.priv w.heap.size (w.heap.size+1)).S wx v.tr (kA v VA vc VB vd).toList)/\Hid (Dv Γ (V.priv w.heap.size (w.heap.size+1)) t wx)/\Hid (fP V.F W1 wx))
 case first =>
  refine cK 13 (fun w'=>w'.cell? ⟨V.wb,0,none⟩=some (.slice (some ad) Γ.G.sc.length V.sC)/\w'.cell? (ad.add (sc*7))=some (.int .i64 (pn:Int))/\w'.cell? ⟨b1,0,none⟩=some (.pointer (some ⟨V.wb,0,none⟩))/\w'.cell? ⟨b2,0,none⟩=some (.int .i64 (sc:Int))/\w'.cell? ⟨b3,0,none⟩=some (.int .i8 x.kind)/\w'.cell? ⟨b3,1,none⟩=some (.string x.text)/\w'.cell? ⟨b3,2,none⟩=some (.int .i64 x.num)/\w'.cell? ⟨b3,3,none⟩=some (.string x.name)/\w'.cell? ⟨b3,4,none⟩=some (.string x.attr)/\w'.cell? ⟨b3,5,none⟩=some (.slice XA x.l.length xc)) (by kernel_rfl) (by go_keep) (fun hH0=>?_);simp only[aQ,bC,aX,bA,aZ,Nat.reduceAdd];refine aL hH0 0 ?_;refine aL hH0 1 ?_;refine aL hH0 2 ?_;refine aL hH0 3 ?_;refine aL hH0 4 ?_;refine aL hH0 5 ?_;refine aL hH0 6 ?_;refine aL hH0 7 ?_;refine aL hH0 8 ?_;refine aL hH0 9 ?_;refine aL hH0 10 ?_;refine Rg.two 11 12 (by kernel_rfl) rfl rfl (fun K hK=>?_) (fun K hK=>?_)
  .skip;go_simp;go_at_call 24;(with_reducible refine HEA.o.mono ?_);rintro e w3 ⟨ds,rfl,hdt0,hdd0,hdo⟩;have hdt:Trs.at (V.priv w.heap.size (w.heap.size+1)).S w3 v.tr ds:=hdt0;have hdd:Dv Γ (V.priv w.heap.size (w.heap.size+1)) t w3:=hdd0;obtain⟨VA,VB,vc,vd,rfl,-⟩:=fT hdt;have hoo:fP V.F W1 w3:=(aK HBD.o V.F).F2 (W:=V) hdo;have HO3:=Hd hoo;have HT3:=Hd hdt;have HD3:=Hd hdd;have HQ3:Hid (w.heap.size<w3.heap.size):=Hd (by have h1:=hdo.size;have h2:=HS1.o;have h3:=HBD.o.size;omega);clear w0 s0 x1 x2 x3 x4 x5 x6 x7 x8;obtain⟨w0,s0,x1,x2,x3,x4,x5,x6,x7,x8⟩:=HYC.o w3 hoo (.inr ⟨t,hdd.leave⟩);clear hdt0 hdd0 hdt hdd hdo hoo;refine cM hK fun hH1=>?_
   clear hK K hH0;try simp only[Act.put,aE,aH,aI]
   refine cT 12 fun K hK=>?_
   go_simp;refine cM hK fun hH2=>?_
   clear hK K hH1;try simp only[Act.put,aE,aH,aI]
   refine dY fun K hK=>?_
   go_simp;refine hK.out _ _ ?_;clear hK K hH2;go_wp2_with fail;go_meet;refine⟨w3.heap.size,VA,VB,vc,vd,rfl,HQ3.o,Hd (aJ w3 _ _),Hd (HT3.o.below ?_),Hd (HD3.o.below ?_),Hd (HO3.o.F2 (W:=V) (aK ?_ _))⟩<;>exact(aB _ w3).alloc (aA _) _
  skip;go_simp;refine cM hK fun hH1=>?_
  clear hK K hH0;try simp only[Act.put,aE,aH,aI]
  refine cT 11 fun K hK=>?_
  go_simp;go_at_call 24;(with_reducible refine HEB.o.mono ?_);rintro e w3 ⟨ds,rfl,hdt0,hdd0,hdo⟩;have hdt:Trs.at (V.priv w.heap.size (w.heap.size+2)).S w3 v.tr ds:=hdt0;have hdd:Dv Γ (V.priv w.heap.size (w.heap.size+2)) t w3:=hdd0;obtain⟨VA,VB,vc,vd,rfl,-⟩:=fT hdt;have hoo:fP V.F W1 w3:=(aK HBA.o V.F).F2 (W:=V) hdo;have HO3:=Hd hoo;have HT3:=Hd hdt;have HD3:=Hd hdd;have HZ3:=Hd (HZB.o.only hdo (fun h=>by have h1:=HLT.o _ h;have h2:=HS1.o;omega));clear w0 s0 x1 x2 x3 x4 x5 x6 x7 x8;obtain⟨w0,s0,x1,x2,x3,x4,x5,x6,x7,x8⟩:=HYC.o w3 hoo (.inr ⟨t,hdd.leave⟩);clear hdt0 hdd0 hdt hdd hdo hoo;refine cM hK fun hH2=>?_
  clear hK K hH1;try simp only[Act.put,aE,aH,aI]
  refine dY fun K hK=>?_
  refine gG 74 _ _ rfl rfl W1.heap.size (kA v VA vc VB vd) zA 74 rfl rfl HZ3.o rfl (by kernel_rfl) (by simp[Value.oneCell']) ?_;intro w5 hk5 ho5;have HK5:=Hd hk5;have HO5:=Hd ho5;clear hk5 ho5;refine hK.out _ _ ?_;clear hK K hH2;go_wp2_with fail;go_meet;have hpv:∀ k,k=W1.heap.size->(V.priv w.heap.size (w.heap.size+2)).X k/\¬(V.priv w.heap.size (w.heap.size+2)).F k:=fun k e=>by
   have h2:=HS1.o;exact⟨.inr ⟨by omega,by omega⟩,fun h=>by have:=HLT.o _ h;omega⟩
  refine⟨W1.heap.size,VA,VB,vc,vd,rfl,by have:=HS1.o;omega,HK5,Hd (Trs.at.less (by omega) (HT3.o.off HO5.o (fun k _ e=>.inl (hpv k e).1))),Hd (Dv.less (by omega) (HD3.o.off HO5.o (fun k _ e=>hpv k e))),Hd (HO3.o.trans HO5.o (fun k hk e=>by omega))⟩
 obtain⟨q,VA,VB,vc,vd,rfl,hq,HQ4,HT4,HD4,HO4⟩:=hcut;rename World=>W4
 clear w0 s0 x1 x2 x3 x4 x5 x6 x7 x8;have x1:=H1.o W4 HO4.o;have HP4:=Hd (H4.o W4 HO4.o);obtain⟨y0,y1,y2,y3,y4,y5,y6,y7,y8⟩:=iY HQ4.o;obtain⟨p0,p1,p2,p3,p4,p5,p6,p7,p8,p9⟩:=xY HP4.o;have e9:W4.cell? ⟨V.wb,9,none⟩=some (.int .i64 (t.e:Int)):=HD4.o.wk.cell 9 rfl;have HR4:=Hd (HRB.o.only HO4.o (fun h=>by have:=HLT.o _ h;omega));have HF4:Hid (Fxv Γ (V.priv w.heap.size (w.heap.size+1)) W4):=Hd (Fxv.step (HF.o.priv HB1.o (by have:=HS1.o;omega)) HO4.o);obtain⟨fr,hfr⟩:∃ fr,fr=freeF p v:=⟨_,rfl⟩;have HFE:Hid (fr=(!p.number&&(decide (p.allowed.length=0)&&(!v.lst&&(v.unk||decide (v.v.kind=3)))))):=Hd hfr;have HAK:Hid (kU p (v,t)=if t.e=0/\fr=false/\(v.unk=true∨pMayV p ⟨ByteArray.empty,false,v.v⟩=false) then (gE,t.fail 140) else (v,t)):=Hd (by rw[hfr];rfl);have hall:0<=p.allowed.length:=eH _;clear hfr;go_upto_region 2 with fail;go_cut [6] from 19 to 42 (fun c6 wx=>c6=.bool fr/\wx=W4)
 case first =>
  have hB:=HFE.o;rcases bD p.number with a1 | a1
  .rw[a1] at p1 hB;clear a1;go_wp2_with fail;go_meet;exact⟨by rw[hB];rfl,rfl⟩
  rw[a1] at p1 hB;clear a1;by_cases a2:p.allowed.length=0
  .have a22:((p.allowed.length:Int)==0)=true:=by rw[a2];rfl
   rw[show decide (p.allowed.length=0)=true from decide_eq_true a2] at hB;clear a2;rcases bD v.lst with a3 | a3
   .rw[a3] at y1 hB;clear a3;go_wp2_with fail;go_meet;exact⟨by rw[hB];rfl,rfl⟩
   rw[a3] at y1 hB;clear a3;rcases bD v.unk with a4 | a4
   .rw[a4] at y0 hB;clear a4;go_wp2_with fail;go_meet;exact⟨by rw[hB];rfl,rfl⟩
   rw[a4] at y0 hB;clear a4;by_cases a5:v.v.kind=3
   .have a55:(v.v.kind==3)=true:=by simpa using a5
    rw[show decide (v.v.kind=3)=true from decide_eq_true a5] at hB;clear a5;go_wp2_with fail;go_meet;exact⟨by rw[hB];rfl,rfl⟩
   have a55:(v.v.kind==3)=false:=by simpa using a5
   rw[show decide (v.v.kind=3)=false from decide_eq_false a5] at hB;clear a5;go_wp2_with fail;go_meet;exact⟨by rw[hB];rfl,rfl⟩
  have a22:((p.allowed.length:Int)==0)=false:=by simp only[beq_eq_false_iff_ne];omega
  rw[show decide (p.allowed.length=0)=false from decide_eq_false a2] at hB;clear a2;go_wp2_with fail;go_meet;exact⟨by rw[hB];rfl,rfl⟩
 obtain⟨rfl,rfl⟩:=hcut;rename World=>W4
 clear HFE;by_cases he:t.e=0
 .rw[he] at e9;cases fr with
  | true =>
    have HE:Hid (kU p (v,t)=(v,t)):=Hd (by rw[HAK.o,if_neg (by simp)]);clear HAK he;go_wp2_with ((with_reducible refine is_store ?_);refine stV HR4.o ?_;intro w7 hk7 ho7;have HK7:=Hd hk7;have HO7:=Hd ho7;clear hk7 ho7);refine retV Tryz.results179 HK7.o ?_;rw[HE.o];exact jend2 HT4.o HLT.o HB1.o HD4.o HO4.o ⟨aA _,by omega⟩ HO7.o
  | false =>
    have HFA:Hid (Calls Tryz.prog 58 #[.pointer (some ⟨V.wb,0,none⟩),.int .i64 140] W4 (ValO Γ (V.priv w.heap.size (w.heap.size+1)) (gE,t.fail 140) W4)):=Hd (fZ Γ (V.priv w.heap.size (w.heap.size+1)) t W4 HF4.o HD4.o 140 (by omega));rcases bD v.unk with hu | hu
    .have HE:Hid (kU p (v,t)=(gE,t.fail 140)):=Hd (by rw[HAK.o,if_pos ⟨he,rfl,.inl hu⟩]);rw[hu] at y0;clear HAK he hu;go_wp2_with fail;refine HFA.o.mono ?_;rintro e w6 ⟨gs,rfl,hgt0,hd,ho⟩;obtain⟨z,hz⟩:∃ z,z=gE:=⟨_,rfl⟩;have hgt:Trs.at (V.priv w.heap.size (w.heap.size+1)).S w6 gE.tr gs:=hgt0;rw[<-hz] at hgt;obtain⟨ZA,ZB,zc,zd,rfl,-⟩:=fT hgt;have HR6:=Hd (HR4.o.only ho (fun hf=>by have:=HLT.o _ hf;omega));have HD6:=Hd hd;have HGT:=Hd hgt;have HZ:=Hd hz;have HO6:Hid (fP V.F W1 w6):=Hd (HO4.o.F2 (W:=V) ho);clear hgt0 hgt hd ho hz y0 y1 y2 y3 y4 y5 y6 y7 y8 p0 p1 p2 p3 p4 p5 p6 p7 p8 p9 e9 x1;go_wp2_with ((with_reducible refine is_store ?_);refine stV HR6.o ?_;intro w7 hk7 ho7;have HK7:=Hd hk7;have HO7:=Hd ho7;clear hk7 ho7);refine retV Tryz.results179 HK7.o ?_;rw[HE.o,<-HZ.o];exact jend2 HGT.o HLT.o HB1.o HD6.o HO6.o ⟨aA _,by omega⟩ HO7.o
    rw[hu] at y0;obtain⟨b,hb⟩:∃ b,b=pMayV p ⟨ByteArray.empty,false,v.v⟩:=⟨_,rfl⟩;have how4:fP V.F w W4:=(aK HB1.o V.F).F2 (W:=V) HO4.o;have hpm:mO V.S p A1 B1 A2 c1 d1 c2 W4:=⟨HPA.o.dflt.step how4,HPA.o.al.step how4,HPA.o.nm,HPA.o.sm⟩
    have HMA:Hid (Calls Tryz.prog 132 #[.agg (kP p A1 c1 B1 d1 A2 c2),.agg #[.string ⟨#[]⟩,.bool false,.int .i8 v.v.kind,.bool v.v.bool,.int .i64 v.v.num,.string v.v.text,.slice VA v.v.list.length vc,.slice VB v.v.keys.length vd]] W4 (BoolB b W4)):=Hd (by rw[hb];exact nR V.S p A1 B1 A2 c1 d1 c2 ⟨ByteArray.empty,false,v.v⟩ VA VB vc vd W4 HF4.o.vok hpm (TX HT4.o.leave) (BX HOK.o.1));have HAK2:Hid (kU p (v,t)=if b=false then (gE,t.fail 140) else (v,t)):=Hd (by
     rw[HAK.o,<-hb];cases b<;>simp[he,hu])
    clear HAK hb how4 hpm;have HEE:=Hd he;clear he hu;go_wp2_with fail;refine HMA.o.mono ?_;rintro e w5 ⟨rfl,hb5⟩;have HB5:=Hd hb5;have HR5:=Hd (HR4.o.below hb5);have HD5:=Hd (HD4.o.below hb5);have HT5:Hid (Trs.at (V.priv w.heap.size (w.heap.size+1)).S w5 v.tr (kA v VA vc VB vd).toList):=Hd (HT4.o.below hb5);have HO5':Hid (fP V.F W1 w5):=Hd (HO4.o.F2 (W:=V) (aK hb5 _));have HP5:=Hd (HP4.o.below hb5);have hq5:=HQ4.o.below hb5;clear x1 y0 y1 y2 y3 y4 y5 y6 y7 y8 p0 p1 p2 p3 p4 p5 p6 p7 p8 p9 e9;have x1:=H1.o w5 HO5'.o;obtain⟨y0,y1,y2,y3,y4,y5,y6,y7,y8⟩:=iY hq5;obtain⟨p0,p1,p2,p3,p4,p5,p6,p7,p8,p9⟩:=xY HP5.o;have e9:w5.cell? ⟨V.wb,9,none⟩=some (.int .i64 (t.e:Int)):=HD5.o.wk.cell 9 rfl;cases b with
    | true =>
      have HE:Hid (kU p (v,t)=(v,t)):=Hd (by rw[HAK2.o];rfl);clear HAK2 hb5 hq5;go_wp2_with ((with_reducible refine is_store ?_);refine stV HR5.o ?_;intro w7 hk7 ho7;have HK7:=Hd hk7;have HO7:=Hd ho7;clear hk7 ho7);refine retV Tryz.results179 HK7.o ?_;rw[HE.o];exact jend2 HT5.o HLT.o HB1.o HD5.o HO5'.o ⟨aA _,by omega⟩ HO7.o
    | false =>
      have HE:Hid (kU p (v,t)=(gE,t.fail 140)):=Hd (by rw[HAK2.o];rfl);have HFB:Hid (Calls Tryz.prog 58 #[.pointer (some ⟨V.wb,0,none⟩),.int .i64 140] w5 (ValO Γ (V.priv w.heap.size (w.heap.size+1)) (gE,t.fail 140) w5)):=Hd (fZ Γ (V.priv w.heap.size (w.heap.size+1)) t w5 (HF4.o.below hb5) HD5.o 140 (by omega));clear HAK2 hb5 hq5;go_wp2_with fail;refine HFB.o.mono ?_;rintro e w6 ⟨gs,rfl,hgt0,hd,ho⟩;obtain⟨z,hz⟩:∃ z,z=gE:=⟨_,rfl⟩;have hgt:Trs.at (V.priv w.heap.size (w.heap.size+1)).S w6 gE.tr gs:=hgt0;rw[<-hz] at hgt;obtain⟨ZA,ZB,zc,zd,rfl,-⟩:=fT hgt;have HR6:=Hd (HR5.o.only ho (fun hf=>by have:=HLT.o _ hf;omega));have HD6:=Hd hd;have HGT:=Hd hgt;have HZ:=Hd hz;have HO6:Hid (fP V.F W1 w6):=Hd (HO5'.o.F2 (W:=V) ho);clear hgt0 hgt hd ho hz y0 y1 y2 y3 y4 y5 y6 y7 y8 p0 p1 p2 p3 p4 p5 p6 p7 p8 p9 e9 x1;go_wp2_with ((with_reducible refine is_store ?_);refine stV HR6.o ?_;intro w7 hk7 ho7;have HK7:=Hd hk7;have HO7:=Hd ho7;clear hk7 ho7);refine retV Tryz.results179 HK7.o ?_;rw[HE.o,<-HZ.o];exact jend2 HGT.o HLT.o HB1.o HD6.o HO6.o ⟨aA _,by omega⟩ HO7.o
 have he0:((t.e:Int)==0)=false:=by simpa using he
 have HE:Hid (kU p (v,t)=(v,t)):=Hd (by rw[HAK.o,if_neg (fun h=>he h.1)]);clear HAK he;go_wp2_with ((with_reducible refine is_store ?_);refine stV HR4.o ?_;intro w7 hk7 ho7;have HK7:=Hd hk7;have HO7:=Hd ho7;clear hk7 ho7);refine retV Tryz.results179 HK7.o ?_;rw[HE.o];exact jend2 HT4.o HLT.o HB1.o HD4.o HO4.o ⟨aA _,by omega⟩ HO7.o
