/- Part of the proof. -/
import Derived.Test.YtjmklmngikpeaaaGreatDoorEx2
import Derived.Test.YtjmklmngikpeaaaGreatDoorEwP
set_option maxRecDepth 100000
set_option maxHeartbeats 16000000
set_option linter.unusedVariables false
set_option linter.unusedSimpArgs false
namespace Go.Proofs.YtjmklmngikpeaaaGreatDoor
open Go.RowKit Go.Maps
variable {w:World}
def yD:Gv:=⟨ByteArray.empty,false,gV⟩
noncomputable def iJ (K:List Cd->List Gv->Nat) (sc:List Sc) (nd:List Nd) (args ids:List Gv) (N:Nat) (scope:Int) (x:Ex):Gv × Nat :=
 match nConds K sc nd args with
 | .inl n=>(yD,n)
 | .inr O=>match fY sc nd args with
   | .inl n=>(yD,n)
   | .inr P=>if 0<=scope/\scope<(sc.length:Int) then
    (if (evF N (Eg.mk (lQ.mk sc nd O (nd.map (iD O))) P (jG ids) ByteArray.empty) scope.toNat x iX).2.e=0 then (jN ByteArray.empty (evF N (Eg.mk (lQ.mk sc nd O (nd.map (iD O))) P (jG ids) ByteArray.empty) scope.toNat x iX).1,0) else (yD,(evF N (Eg.mk (lQ.mk sc nd O (nd.map (iD O))) P (jG ids) ByteArray.empty) scope.toNat x iX).2.e))
     else (yD,2)
def nH (r:Gv × Nat) (w:World) (e:Ending) (w':World):Prop:=∃ cs:List Value,e=.returned (.tuple #[.agg cs.toArray,.int .i64 (r.2:Nat)])/\Trs.at (fun k=>k<w'.heap.size) w' r.1.tr cs/\Below w.heap.size w w'
theorem RC {S:Nat->Prop}:Trs.at S w yD.tr zC.toList:=Gv.at_iff.2 ⟨_,rfl,by show ByteArray.empty.size<=_;decide,sF⟩
theorem xQ {n:Nat} {w':World} (hb:Below w.heap.size w w'):nH (yD,n) w (.returned (.tuple #[.agg zC,.int .i64 (n:Nat)])) w':=⟨zC.toList,rfl,RC,hb⟩
theorem wQ (K:List Cd->List Gv->Nat) (hK:SP K) (SA NA:Option Addr) (sC nC:Nat) (sc:List Sc) (nd:List Nd) (AA IA:Option Addr) (ac ic:Nat) (args ids:List Gv) (scope:Int) (x:Ex) (xcs:List Value) (w:World) (hV:j4 w) (hsc:Ls (fun k=>k<w.heap.size) w 7 144 Sc.tr SA sC sc) (hnd:Ls (fun k=>k<w.heap.size) w 11 200 Nd.tr NA nC nd)
 (h1:sc.length<=16) (h2:nd.length<=16) (hs:∀ s∈sc,I5 s/\s.pre.size<=6000000000000000) (hn:∀ x∈nd,Q0 x) (hag:Ls (fun k=>k<w.heap.size) w 8 104 Gv.tr AA ac args) (han:args.length<=1000000) (ha:∀ g∈args,fR g.v/\g.v.text.size<=6000)
 (hid:Ls (fun k=>k<w.heap.size) w 8 104 Gv.tr IA ic ids) (hin:ids.length<=1000000) (hiz:∀ g∈ids,g.name.size<=6000000000000000/\g.v.text.size<=5000) (hx:exOk x/\exTx x) (hT:Trs.at (fun k=>k<w.heap.size) w x.tr xcs) (N:Nat) (hN:∀ O P,oT (Eg.mk (lQ.mk sc nd O (nd.map (iD O))) P (jG ids) ByteArray.empty) iX x<=N) :
 Calls Tryz.prog 10 #[.agg #[.slice SA sc.length sC,.slice NA nd.length nC],.slice AA args.length ac,.slice IA ids.length ic,.int .i64 scope,.agg xcs.toArray] w (nH (iJ K sc nd args ids N scope x) w):=by
 obtain⟨XA,xc,rfl,-⟩:=Ex.at_iff.1 hT;obtain⟨W3,hW3⟩:∃ W3,W3=(((w.alloc (.cells #[.slice SA sc.length sC,.slice NA nd.length nC] 36)).alloc (.cells (kX x XA xc) 32)).alloc (.cells zC 46)):=⟨_,rfl⟩;have hb3:Below w.heap.size w W3:=by
  rw[hW3];exact(((aB _ w).alloc (aA _) _).alloc (by simp) _).alloc (by simp;omega) _
 have hs3:W3.heap.size=w.heap.size+3:=by rw[hW3];simp
 have kf:Blk W3 w.heap.size #[.slice SA sc.length sC,.slice NA nd.length nC] 36:=by rw[hW3];exact((aJ w _ _).alloc _).alloc _
 have kx:Blk W3 (w.heap.size+1) (kX x XA xc) 32:=by rw[hW3];exact(PV (by simp)).alloc _
 have kg:Blk W3 (w.heap.size+2) zC 46:=by rw[hW3];exact PV (by simp)
 have hS3:∀ k,k<w.heap.size->k<W3.heap.size/\¬(k=w.heap.size+2):=fun k hk=>⟨by omega,by omega⟩
 have HOP:=Hd (eopen_any K hK (fun k=>k=w.heap.size+2) SA NA sC nC sc nd AA IA ac ic args ids w W3 hV hb3 (fun k hk=>by
  have hk:k=w.heap.size+2:=hk;subst hk;exact⟨⟨by omega,NoGv.zero kg⟩,by omega⟩) ((hsc.below hb3).mono hS3) ((hnd.below hb3).mono hS3) h1 h2 hs hn ((hag.below hb3).mono hS3) han ha ((hid.below hb3).mono hS3) hin (fun g hg=>⟨(hiz g hg).1,by have:=(hiz g hg).2;omega⟩))
 have HEV:Hid (iJ K sc nd args ids N scope x=match nConds K sc nd args with
  | .inl n=>(yD,n)
  | .inr O=>match fY sc nd args with
    | .inl n=>(yD,n)
    | .inr P=>if 0<=scope/\scope<(sc.length:Int) then
     (if (evF N (Eg.mk (lQ.mk sc nd O (nd.map (iD O))) P (jG ids) ByteArray.empty) scope.toNat x iX).2.e=0 then (jN ByteArray.empty (evF N (Eg.mk (lQ.mk sc nd O (nd.map (iD O))) P (jG ids) ByteArray.empty) scope.toNat x iX).1,0) else (yD,(evF N (Eg.mk (lQ.mk sc nd O (nd.map (iD O))) P (jG ids) ByteArray.empty) scope.toNat x iX).2.e))
      else (yD,2)):=Hd rfl
 have HEG:Hid (∀ O P,nConds K sc nd args=.inr O->fY sc nd args=.inr P->vC (Eg.mk (lQ.mk sc nd O (nd.map (iD O))) P (jG ids) ByteArray.empty)):=Hd (fun O P ho hp=>LK h1 h2 hs ha ho hp (fun n t ht=>by
  unfold jG at ht;obtain⟨g,hg,rfl⟩:=Option.map_eq_some_iff.1 ht;exact(hiz g (bK hg)).2) (by decide))
 have HTT:=Hd hT;have HB3:=Hd hb3;have HS3:=Hd hs3;have HKF:=Hd kf;have HKX:=Hd kx;have HKG:=Hd kg;have HN:=Hd hN;have HX:=Hd hx;have HW3:=Hd hW3;have x0:=(gO kf).1;have x1:=(gO kf).2;have hscap:=hsc.cap;clear hV hsc hnd hs hn hag ha hid hiz hK hx hT hN hb3 hs3 kf kx kg hW3 hS3;unfold E0 at HOP;go_enter Tryz.func10,Tryz.ntmps10;go_upto_region 1 with fail;rw[<-HW3.o];cases hnc:nConds K sc nd args with
 | inl n =>
   rw[hnc] at HOP HEV;have HR:Hid (iJ K sc nd args ids N scope x=(yD,n)):=Hd HEV.o;clear hnc HEV HEG;go_wp2_with fail;refine HOP.o.mono ?_;rintro e w4 ⟨hb,hn0,p,rfl⟩;have hn1:((n:Int)==0)=false:=by simpa using hn0
   have hn2:((n:Int)!=0)=true:=by simpa using hn0
   have HB4:=Hd (HB3.o.trans (hb.mono HB3.o.size));have HG4:=Hd (HKG.o.below hb);clear hb hn0 x0 x1;obtain⟨g0,g1,g2,g3,g4,g5,g6,g7⟩:=gI HG4.o;go_wp2_with ((with_reducible refine is_store ?_);refine wpList_store_blk rfl 46 _ _ rfl (w.heap.size+2) zC zC 46 rfl rfl HG4.o rfl (by kernel_rfl) (by simp[Value.oneCell']) ?_;intro w7 hk7 ho7;have HK7:=Hd hk7;have HO7:=Hd ho7;clear hk7 ho7);clear g0 g1 g2 g3 g4 g5 g6 g7;obtain⟨r0,r1,r2,r3,r4,r5,r6,r7⟩:=gI HK7.o;refine bodyPost_ret (v:=.tuple #[.agg zC,.int .i64 (n:Nat)]) (by simp[results,Tryz.results10,go_sem,r0,r1,r2,r3,r4,r5,r6,r7];try rfl) rfl ?_;rw[HR.o];exact xQ (HO7.o.belowB HB4.o (fun k hk=>by omega))
 | inr O =>
   obtain⟨P,hP⟩:=oS hnc;have hΓ:=HEG.o O P hnc hP;have hNm:=HN.o O P;rw[hnc] at HOP HEV;have HEV2:Hid (iJ K sc nd args ids N scope x=if 0<=scope/\scope<(sc.length:Int) then
    (if (evF N (Eg.mk (lQ.mk sc nd O (nd.map (iD O))) P (jG ids) ByteArray.empty) scope.toNat x iX).2.e=0 then (jN ByteArray.empty (evF N (Eg.mk (lQ.mk sc nd O (nd.map (iD O))) P (jG ids) ByteArray.empty) scope.toNat x iX).1,0) else (yD,(evF N (Eg.mk (lQ.mk sc nd O (nd.map (iD O))) P (jG ids) ByteArray.empty) scope.toNat x iX).2.e))
    else (yD,2)):=Hd (by rw[HEV.o];simp only;rw[hP])
   have HΓ:=Hd hΓ;have HNM:=Hd hNm;have HP:=Hd hP;clear hnc HEV HEG hP hΓ hNm HN;go_wp2_with fail;refine HOP.o.mono ?_;rintro e w4 ⟨hb,P2,W,hP2,rfl,hWX,hWF,hfx,hdv⟩;rw[HP.o] at hP2;injection hP2 with hP2;subst hP2;have HB4:=Hd (HB3.o.trans (hb.mono HB3.o.size));have HB34:=Hd hb;have HG4:=Hd (HKG.o.below hb);have HX4:=Hd (HKX.o.below hb);have HF4:=Hd (HKF.o.below hb);have HFX:=Hd hfx;have HDV:=Hd hdv;have HWX:=Hd hWX;have HWF:=Hd hWF;clear hb hWX hWF hfx hdv x0 x1;obtain⟨x0,x1⟩:=gO HF4.o;by_cases hbad:scope<0∨(sc.length:Int)<=scope
   .have HR:Hid (iJ K sc nd args ids N scope x=(yD,2)):=Hd (by rw[HEV2.o,if_neg (by omega)]);obtain⟨g0,g1,g2,g3,g4,g5,g6,g7⟩:=gI HG4.o;rcases (show scope<0∨(¬scope<0/\(sc.length:Int)<=scope) by omega) with hlo | ⟨hlo,hhi⟩;all_goals
     clear hbad
     go_wp2_with ((with_reducible refine is_store ?_);refine wpList_store_blk rfl 46 _ _ rfl (w.heap.size+2) zC zC 46 rfl rfl HG4.o rfl (by kernel_rfl) (by simp[Value.oneCell']) ?_;intro w7 hk7 ho7;have HK7:=Hd hk7;have HO7:=Hd ho7;clear hk7 ho7)
     clear g0 g1 g2 g3 g4 g5 g6 g7
     obtain⟨r0,r1,r2,r3,r4,r5,r6,r7⟩:=gI HK7.o
     refine bodyPost_ret (v:=.tuple #[.agg zC,.int .i64 ((2:Nat):Int)]) (by simp[results,Tryz.results10,go_sem,r0,r1,r2,r3,r4,r5,r6,r7];try rfl) rfl ?_
     rw[HR.o]
     exact xQ (HO7.o.belowB HB4.o (fun k hk=>by omega))
   obtain⟨k,hk⟩:∃ k:Nat,scope=(k:Int):=⟨scope.toNat,by omega⟩;subst hk;have hlo:¬((k:Int)<0):=by omega
   have hhi:¬((sc.length:Int)<=(k:Int)):=by omega
   have hkl:k<sc.length:=by omega
   have hex:=wexpr_all (Eg.mk (lQ.mk sc nd O (nd.map (iD O))) P (jG ids) ByteArray.empty) HΓ.out N W x iX k (kX x XA xc).toList w4 HNM.o hkl HX.o.1 HX.o.2 HFX.o HDV.o (((HTT.o.below HB3.o).below HB34.o).mono (fun q hq=>⟨fun h=>by have:=HWF.o q h;have:=HS3.o;omega,by rw[HWX.o];intro h;have h:q=w.heap.size+2:=h;omega⟩));rw[aV] at hex;obtain⟨r,hr⟩:∃ r,r=evF N (Eg.mk (lQ.mk sc nd O (nd.map (iD O))) P (jG ids) ByteArray.empty) k x iX:=⟨_,rfl⟩;have HR0:Hid (iJ K sc nd args ids N (k:Int) x=if r.2.e=0 then (jN ByteArray.empty r.1,0) else (yD,r.2.e)):=Hd (by rw[HEV2.o,if_pos (by omega),hr];rfl);rw[<-hr] at hex;obtain⟨v,t⟩:=r;have HEX:Hid (Calls Tryz.prog 24 #[.pointer (some ⟨W.wb,0,none⟩),.int .i64 (k:Int),.agg (kX x XA xc)] w4 (ValO (Eg.mk (lQ.mk sc nd O (nd.map (iD O))) P (jG ids) ByteArray.empty) W (v,t) w4)):=Hd hex;obtain⟨y0,y1,y2,y3,y4,y5⟩:=gH HX4.o;clear hbad hex hr hkl HEV2;go_wp2_with fail;refine HEX.o.mono ?_;rintro e w5 ⟨ds,rfl,hdt0,hdd0,hdo⟩;have hdt:Trs.at W.S w5 v.tr ds:=hdt0;have hdd:Dv (Eg.mk (lQ.mk sc nd O (nd.map (iD O))) P (jG ids) ByteArray.empty) W t w5:=hdd0;obtain⟨VA,VB,vc,vd,rfl,-⟩:=fT hdt;have hb5:Below w.heap.size w w5:=hdo.belowB HB4.o (fun q hq=>by have:=HWF.o q hq;have:=HS3.o;omega);obtain⟨W6,hW6⟩:∃ W6,W6=w5.alloc (.cells (kA v VA vc VB vd) 74):=⟨_,rfl⟩;have hb56:Below w5.heap.size w5 W6:=by rw[hW6];exact(aB _ w5).alloc (aA _) _
   have hk6:Blk W6 w5.heap.size (kA v VA vc VB vd) 74:=by rw[hW6];exact aJ _ _ _
   have HB6:=Hd (hb5.trans (hb56.mono hb5.size));have HG6:=Hd ((HG4.o.only hdo (fun hf=>by have:=HWF.o _ hf;have:=HS3.o;omega)).below hb56);have HD6:=Hd (hdd.below hb56);have HT6:=Hd (hdt.below hb56);have HW6:=Hd hW6;have HK6:=Hd hk6;have HNQ:Hid (w.heap.size+2≠W.wb):=Hd (fun e=>by have:=HWF.o W.wb (.inl rfl);have:=HS3.o;omega);have e9:W6.cell? ⟨W.wb,9,none⟩=some (.int .i64 (t.e:Int)):=(hdd.below hb56).wk.cell 9 rfl;clear hdt0 hdd0 hdt hdd hdo hb5 hb56 hk6 hW6 x0 x1 y0 y1 y2 y3 y4 y5 hlo hhi;go_upto_region 7 with fail;rw[<-HW6.o];by_cases h0:t.e=0
   .rw[h0] at e9;have HR:Hid (iJ K sc nd args ids N (k:Int) x=(jN ByteArray.empty v,0)):=Hd (by rw[HR0.o,if_pos h0]);have HTL:=Hd (IY W.S ByteArray.empty v (kA v VA vc VB vd).toList W6 HT6.o (by decide));rw[aV] at HTL;obtain⟨gv,hgv⟩:∃ gv,gv=jN ByteArray.empty v:=⟨_,rfl⟩;rw[<-hgv] at HTL HR;have HTL2:Hid (Calls Tryz.prog 25 #[.string ⟨#[]⟩,.agg (kA v VA vc VB vd)] W6 (UX W.S gv W6)):=Hd HTL.o;obtain⟨z0,z1,z2,z3,z4,z5,z6,z7,z8⟩:=iY HK6.o;clear h0 hgv HR0 HTL;go_wp2_with fail;refine HTL2.o.mono ?_;rintro e w7 ⟨gs,rfl,hgt,hb7⟩;obtain⟨GA,GB,gc,gd,rfl,-⟩:=fX hgt;have HB7:=Hd (HB6.o.trans (hb7.mono HB6.o.size));have HG7:=Hd (HG6.o.below hb7);have HT7:=Hd hgt;clear hgt hb7 z0 z1 z2 z3 z4 z5 z6 z7 z8 e9;go_wp2_with ((with_reducible refine is_store ?_);refine wpList_store_blk rfl 46 _ _ rfl (w.heap.size+2) (kG gv GA gc GB gd) zC 46 rfl rfl HG7.o rfl (by kernel_rfl) (by simp[Value.oneCell']) ?_;intro w8 hk8 ho8;have HK8:=Hd hk8;have HO8:=Hd ho8;clear hk8 ho8);obtain⟨r0,r1,r2,r3,r4,r5,r6,r7⟩:=gI HK8.o;refine bodyPost_ret (v:=.tuple #[.agg (kG gv GA gc GB gd),.int .i64 ((0:Nat):Int)]) (by simp[results,Tryz.results10,go_sem,r0,r1,r2,r3,r4,r5,r6,r7];try rfl) rfl ?_;rw[HR.o];have hof:=HT7.o.off HO8.o (fun q hq e=>.inl (by rw[HWX.o];exact e));exact⟨(kG gv GA gc GB gd).toList,by rw[aV],(Trs.at.bound _ _ hof).mono (fun q hq=>hq.2),HO8.o.belowB HB7.o (fun q hq=>by omega)⟩
   have he1:((t.e:Int)!=0)=true:=by simpa using h0
   have HR:Hid (iJ K sc nd args ids N (k:Int) x=(yD,t.e)):=Hd (by rw[HR0.o,if_neg h0]);obtain⟨g0,g1,g2,g3,g4,g5,g6,g7⟩:=gI HG6.o;have HE9:=Hd e9;clear h0 HR0;go_upto_region 8 with fail;refine cK 6 (fun w'=>w'.cell? ⟨W.wb,9,none⟩=some (.int .i64 (t.e:Int))/\w'.cell? ⟨w.heap.size+2,0,none⟩=some (.string ⟨#[]⟩)/\w'.cell? ⟨w.heap.size+2,1,none⟩=some (.bool false)/\w'.cell? ⟨w.heap.size+2,2,none⟩=some (.int .i8 0)/\w'.cell? ⟨w.heap.size+2,3,none⟩=some (.bool false)/\w'.cell? ⟨w.heap.size+2,4,none⟩=some (.int .i64 0)/\w'.cell? ⟨w.heap.size+2,5,none⟩=some (.string ⟨#[]⟩)/\w'.cell? ⟨w.heap.size+2,6,none⟩=some (.slice none 0 0)/\w'.cell? ⟨w.heap.size+2,7,none⟩=some (.slice none 0 0)) (by kernel_rfl) (by go_keep) (fun hH0=>?_);simp only[aQ,bC,aX,bA,aZ,Nat.reduceAdd];refine aL hH0 0 ?_;refine aL hH0 1 ?_;refine aL hH0 2 ?_;refine aL hH0 3 ?_;refine aL hH0 4 ?_;refine cT 5 fun K hK=>?_
   refine gG 46 _ _ rfl rfl (w.heap.size+2) zC zC 46 rfl rfl HG6.o.drew rfl (by kernel_rfl) (by simp[Value.oneCell']) ?_;intro w8 hk8 ho8;have HK8:=Hd hk8;have HO8:=Hd ho8;obtain⟨r0,r1,r2,r3,r4,r5,r6,r7⟩:=gI hk8;have e8:w8.cell? ⟨W.wb,9,none⟩=some (.int .i64 (t.e:Int)):=(cell_only ho8 (aF W6 _ HE9.o) (fun e=>HNQ.o e.symm)).trans HE9.o;clear hk8 ho8;refine cM hK fun hH1=>?_
   clear hK K hH0;try simp only[Act.put,aE,aH,aI]
   refine dY fun K hK=>?_
   go_simp;refine hK.out _ _ ?_;clear hK K hH1;go_wp2_with fail;refine bodyPost_ret (v:=.tuple #[.agg zC,.int .i64 (t.e:Nat)]) (by simp[results,Tryz.results10,go_sem,r0,r1,r2,r3,r4,r5,r6,r7];try rfl) rfl ?_;rw[HR.o];exact xQ (HO8.o.belowB HB6.o.drew (fun q hq=>by omega))
