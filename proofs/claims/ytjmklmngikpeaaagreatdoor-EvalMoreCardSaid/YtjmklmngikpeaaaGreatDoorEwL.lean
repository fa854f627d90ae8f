/- Part of the proof. -/
import Derived.Test.YtjmklmngikpeaaaGreatDoorEwK
set_option maxRecDepth 100000
set_option maxHeartbeats 16000000
set_option linter.unusedVariables false
set_option linter.unusedSimpArgs false
namespace Go.Proofs.YtjmklmngikpeaaaGreatDoor
open Go.RowKit Go.Maps
variable {b:Nat}{W:Vh}{w:World}
theorem PR {nm:ByteArray} {fo:Option Pm->Pm->Option Pm} (hf:∀ o p,fo o p=if fW p.name nm=true then some p else o):∀ {l:List Pm} {o:Option Pm} {p:Pm},(∀ q,o=some q->fW q.name nm=true)->l.foldl fo o=some p->fW p.name nm=true
 | [],o,p,ho,h=>ho p h
 | q::l,o,p,ho,h=>by
   refine PR hf (l:=l) (o:=fo o q) (fun x hx=>?_) h;rw[hf] at hx;split at hx
   .next hq=>injection hx with hx;subst hx;exact hq
   exact ho x hx
theorem argAt_find {sc:Nat} {l:List Pr} {nm:ByteArray}:mL sc l nm=l.find? fun a=>decide (0<sc)&&fW a.name nm:=by
 unfold mL;by_cases h:sc=0
 .rw[if_pos h];symm;rw[eU];intro x _;simp[h]
 rw[if_neg h];have h0:decide (0<sc)=true:=decide_eq_true (by omega);simp only[h0,eE]
theorem KC {Γ:Eg} {s:Es} {v:Va} {ds:List Value} {wq w3 w5:World} {q:Nat} (hg:Trs.at (W.priv w.heap.size b).S w3 v.tr ds) (hL:∀ k,W.F k->k<w.heap.size) (hB:Below w.heap.size w wq) (hd:Dv Γ (W.priv w.heap.size b) s w3) (ho:fP W.F wq w3) (hq:w.heap.size<=q/\q<b) (h5:fP (fun k=>k=q) w3 w5) :
 Trs.at W.S w5 v.tr ds/\Dv Γ W s w5/\fP W.F w w5 :=
 ⟨(hg.off h5 (fun k hk e=>.inl (by
   subst e;exact .inr hq))).leave,(hd.off h5 (fun k hk e=>by
   subst e;exact⟨.inr hq,fun h=>by have:=hL _ h;omega⟩)).leave,((aK hB W.F).F2 (W:=W) ho).trans h5 (fun k hk e=>by omega)⟩
def SC (Γ:Eg) (W:Vh) (o:Option (Va × Es)) (w:World) (e:Ending) (w':World):Prop:=match o with
 | none=>e=.returned (.tuple #[.agg zA,.bool false])/\Below w.heap.size w w'
 | some r=>∃ cs:List Value,e=.returned (.tuple #[.agg cs.toArray,.bool true])/\Trs.at W.S w' r.1.tr cs/\Dv Γ W r.2 w'/\fP W.F w w'
structure P0 (W:Vh) (w:World) (b:Nat) (l:List Pm) (o:Option Pm) (pcs:List Value) (SCs:Array Value) (wr:World):Prop where
 hb:b=w.heap.size+1
 rb:Blk wr w.heap.size zA 74
 cb:Blk wr b SCs 89
 pb:Blk wr (b+1) pcs.toArray 145
 bl:Below w.heap.size w wr
 po:match o with | none=>True | some p=>Trs.at W.S w p.tr pcs/\p∈l
theorem P0.below {W:Vh} {w:World} {b:Nat} {l:List Pm} {o:Option Pm} {pcs:List Value} {SCs:Array Value} {wr w':World} (h:P0 W w b l o pcs SCs wr) (hb:Below wr.heap.size wr w'):P0 W w b l o pcs SCs w' :=
 ⟨h.hb,h.rb.below hb,h.cb.below hb,h.pb.below hb,h.bl.trans (hb.mono h.bl.size),h.po⟩
theorem P0.put {l:List Pm} {o:Option Pm} {pcs qcs:List Value} {SCs:Array Value} {wr w':World} {q:Pm} (h:P0 W w b l o pcs SCs wr) (hq:Trs.at W.S w q.tr qcs) (hm:q∈l) (hk:Blk w' (b+1) qcs.toArray 145) (ho:fP (fun k=>k=b+1) wr w'):P0 W w b l (some q) qcs SCs w' :=
 have:=h.hb
 ⟨h.hb,h.rb.only ho (by omega),h.cb.only ho (by omega),hk,ho.belowB h.bl (fun k hk=>by omega),hq,hm⟩
theorem BQ (Γ:Eg) (hΓ:vC Γ) (n:Nat) (IH:BL Γ n) (W:Vh) (s:Es) (sc:Nat) (c:Sc) (hc:Γ.G.sc[sc]?=some c) (nm:ByteArray) (hnm:nm.size<=1000000) (w:World)
 (hm:∀ a∈c.args,s.und ⟨false,(sc:Int),a.name⟩=false->oT Γ (s.enter ⟨false,(sc:Int),a.name⟩) a.e<=n) (hF:Fxv Γ W w) (hD:Dv Γ W s w) :
 Calls Tryz.prog 90 #[.pointer (some ⟨W.wb,0,none⟩),.int .i64 (sc:Int),.string nm] w (SC Γ W (gU (evF n Γ) Γ sc nm s) w):=by
 have hkl:sc<Γ.G.sc.length:=(List.getElem?_eq_some_iff.1 hc).1;have hmc:=aD hc;obtain⟨hpl,hal,hol,-⟩:=hΓ.par' c hmc;obtain⟨W1,hW1⟩:∃ W1,W1=(w.alloc (.cells zA 74)):=⟨_,rfl⟩;have hb1:Below w.heap.size w W1:=by rw[hW1];exact(aB _ w).alloc (aA _) _
 obtain⟨ad,cs,hSA,hct,hcc⟩:=hF.sc.elem dS hc;obtain⟨B1',B2',B3',B4',B5',e1',e2',e3',e4',e5',rfl,-,-,hl1,-,-,hl5⟩:=jA hct;obtain⟨W3,hW3⟩:∃ W3,W3=(((w.alloc (.cells zA 74)).alloc (.cells (kS c B1' e1' B2' e2' B3' e3' B4' e4' B5' e5') 89)).alloc (.cells zG 145)):=⟨_,rfl⟩;have hs1:W1.heap.size=w.heap.size+1:=by rw[hW1];simp
 have hb13:Below W1.heap.size W1 W3:=by rw[hW3,hW1];exact((aB _ _).alloc (aA _) _).alloc (by simp) _
 have hb3:Below w.heap.size w W3:=hb1.trans (hb13.mono hb1.size);have hs3:W3.heap.size=w.heap.size+3:=by rw[hW3];simp
 have k0:Blk W3 w.heap.size zA 74:=by rw[hW3];exact((aJ w _ _).alloc _).alloc _
 have k1:Blk W3 (w.heap.size+1) (kS c B1' e1' B2' e2' B3' e3' B4' e4' B5' e5') 89:=by
  rw[hW3];have:=aJ (w.alloc (.cells zA 74)) (kS c B1' e1' B2' e2' B3' e3' B4' e4' B5' e5') 89;rw[show (w.alloc (.cells zA 74)).heap.size=w.heap.size+1 by simp] at this;exact this.alloc _
 have k2:Blk W3 (w.heap.size+2) zG 145:=by
  rw[hW3];have:=aJ ((w.alloc (.cells zA 74)).alloc (.cells (kS c B1' e1' B2' e2' B3' e3' B4' e4' B5' e5') 89)) zG 145;rwa [show ((w.alloc (.cells zA 74)).alloc (.cells (kS c B1' e1' B2' e2' B3' e3' B4' e4' B5' e5') 89)).heap.size=w.heap.size+2 by simp] at this
 obtain⟨s0,s1,s2,s3,s4,s5,s6⟩:=lO (hcc.below hb1);have hsi:(0:Int)<=(sc:Int)/\(sc:Int)<(Γ.G.sc.length:Int):=by omega
 have w0:W1.cell? ⟨W.wb,0,none⟩=some (.slice W.SA Γ.G.sc.length W.sC):=(hD.below hb1).wk.cell 0 rfl;rw[hSA] at w0;have H0:Hid (P0 W w W1.heap.size c.t.params none zG.toList (kS c B1' e1' B2' e2' B3' e3' B4' e4' B5' e5') W3):=Hd ⟨hs1,k0,by rw[hs1];exact k1,by rw[hs1,aV];exact k2,hb3,trivial⟩;obtain⟨x0,x1,x2,x3,x4,x5,x6⟩:=jV H0.o.cb;have hcap1:=hl1.cap;have hcap5:=hl5.cap;have HL1:=Hd hl1;have HL5:=Hd hl5;have HLT:Hid (∀ k,W.F k->k<w.heap.size):=Hd hD.lts;have HF:=Hd hF;have HD:=Hd hD;have HM:=Hd hm;have HΓ:=Hd hΓ;have HI:=Hd IH;have HCC:=Hd hc;have HMC:=Hd hmc;have HB3:=Hd hb3;have HS3:=Hd hs3;have HW1:=Hd hW1;have HW3:Hid (W3=(W1.alloc (.cells (kS c B1' e1' B2' e2' B3' e3' B4' e4' B5' e5') 89)).alloc (.cells zG 145)):=Hd (by rw[hW3,hW1]);obtain⟨fo,hfo⟩:∃ fo:Option Pm->Pm->Option Pm,fo=fun o p=>if fW p.name nm=true then some p else o:=⟨_,rfl⟩;have HFO:Hid (∀ o p,fo o p=if fW p.name nm=true then some p else o):=Hd (fun o p=>by rw[hfo]);have HPF:Hid (gU (evF n Γ) Γ sc nm s=match c.t.params.foldl fo none with | none=>none | some p=>some (match mL sc c.args nm with | some a=>BF (evF n Γ) c.parent.toNat sc p a.e s | none=>match gR (Γ.P.getD sc []) nm with | none=>(gE,s.fail 160) | some g=>(givF g,s))):=Hd (by rw[hfo];unfold gU;rw[hc];rfl);clear hfo hc hmc hΓ IH hm hF hD hb1 hb13 hb3 hs1 hs3 hW1 hW3 k0 k1 k2 hct hcc hl1 hl5 hSA hol;go_enter Tryz.func90,Tryz.ntmps90;go_upto_region 1 with fail;rw[<-HW1.o];go_upto_region 3 with fail;rw[<-HW3.o];go_wp2_with fail;clear w0 s0 s1 s2 s3 s4 s5 s6;go_loopg [7,28] c.t.params.length (fun g v7 i wr=>∃ (j:Nat) (o:Option Pm) (pcs:List Value),j+g=c.t.params.length/\v7=.bool o.isSome/\i=.int .i64 (j:Nat)/\pcs.length=10/\Hid (P0 W w W1.heap.size c.t.params o pcs (kS c B1' e1' B2' e2' B3' e3' B4' e4' B5' e5') wr)/\Hid (c.t.params.foldl fo none=(c.t.params.drop j).foldl fo o))
 case atStart=>exact⟨0,none,_,by omega,rfl,rfl,rfl,H0,Hd rfl⟩
 obtain⟨j,o,pcs,hj,rfl,rfl,hp10,HPS,HJ⟩:=hrel;rename World=>wr
 cases gk with
 | zero =>
   have hjj:¬((j:Int)<(c.t.params.length:Int)):=by omega
   have HFL:Hid (c.t.params.foldl fo none=o):=Hd (by rw[HJ.o,aP (by omega)];rfl);have HB5:=Hd HPS.o.bl;obtain⟨x0,x1,x2,x3,x4,x5,x6⟩:=jV HPS.o.cb;obtain⟨r0,r1,r2,r3,r4,r5,r6,r7,r8⟩:=iY HPS.o.rb;clear HJ;cases o with
   | none =>
     have HE:Hid (gU (evF n Γ) Γ sc nm s=none):=Hd (by rw[HPF.o,HFL.o]);clear HFL HPF;go_wp2_with ((with_reducible refine is_store ?_);refine wpList_store_blk rfl 74 _ _ rfl w.heap.size zA zA 74 rfl rfl HPS.o.rb rfl (by kernel_rfl) (by simp[Value.oneCell']) ?_;intro w7 hk7 ho7;have HK7:=Hd hk7;have HO7:=Hd ho7;clear hk7 ho7);clear r0 r1 r2 r3 r4 r5 r6 r7 r8;obtain⟨r0,r1,r2,r3,r4,r5,r6,r7,r8⟩:=iY HK7.o;refine bodyPost_ret (v:=.tuple #[.agg zA,.bool false]) (by simp[results,Tryz.results90,go_sem,r0,r1,r2,r3,r4,r5,r6,r7,r8];try rfl) rfl ?_;rw[HE.o];exact⟨rfl,HO7.o.belowB HB5.o (fun k hk=>by omega)⟩
   | some p =>
     have HP2:Hid (gU (evF n Γ) Γ sc nm s=some (match mL sc c.args nm with | some a=>BF (evF n Γ) c.parent.toNat sc p a.e s | none=>match gR (Γ.P.getD sc []) nm with | none=>(gE,s.fail 160) | some g=>(givF g,s))):=Hd (by rw[HPF.o,HFL.o]);obtain⟨A1,B1,A2,c1,d1,c2,rfl,-⟩:=mO.of HPS.o.po.1 (HΓ.out.ps c HMC.o p HPS.o.po.2);have HPT:Hid (Trs.at W.S w p.tr (kP p A1 c1 B1 d1 A2 c2).toList):=Hd HPS.o.po.1;have HPK:Hid (Blk wr (W1.heap.size+1) (kP p A1 c1 B1 d1 A2 c2) 145):=Hd (by have h:=HPS.o.pb;rw[aV] at h;exact h);have HRK:Hid (Blk wr w.heap.size zA 74):=Hd HPS.o.rb;have HPM:Hid (p∈c.t.params):=Hd HPS.o.po.2;have HPN:Hid (p.name=nm):=Hd (bEq_iff.1 (PR HFO.o (fun q h=>by cases h) HFL.o));have HZ1:Hid (W1.heap.size=w.heap.size+1):=Hd HPS.o.hb;obtain⟨pf,hpf⟩:∃ pf:Pr->Bool,pf=fun a=>decide (0<sc)&&fW a.name nm:=⟨_,rfl⟩;have HPF2:Hid (∀ a,pf a=(decide (0<sc)&&fW a.name nm)):=Hd (fun a=>by rw[hpf]);have HAA:Hid (mL sc c.args nm=c.args.find? pf):=Hd (by rw[hpf];exact argAt_find);obtain⟨rw_,hrw⟩:=fO (l:=Γ.P) (i:=sc) (by rw[HΓ.out.hP];exact hkl);have hrl:=HΓ.out.prl rw_ (aD hrw);obtain⟨adP,ccs,hPA,hct,hcc⟩:=HF.o.ps.elem AJ hrw;obtain⟨RA,rc,rfl,hls⟩:=oI.1 hct;have hrc0:=hcc 0 _ rfl;rw[if_pos rfl,Nat.mul_one] at hrc0;have hpi:(0:Int)<=(sc:Int)/\(sc:Int)<(Γ.P.length:Int):=by rw[HΓ.out.hP];omega
     have HPG:Hid (Γ.P.getD sc []=rw_):=Hd (by rw[aG,hrw];rfl);have HPV:=Hd (HΓ.out.s.pv sc);have HRC:=Hd hrc0;have HPA:=Hd hPA;have HPI:Hid (∀ w',Below w.heap.size w w'->Calls Tryz.prog 60 #[.slice RA rw_.length rc,.string nm] w' (E5 (W.priv w.heap.size (w.heap.size+3)).S (gR rw_ nm) w')):=Hd (fun w' hb=>qN (W.priv w.heap.size (w.heap.size+3)).S RA rc rw_ nm w' (hls.priv hb _) hrl);have hrcap:=hls.cap;have hxm:¬(c.args.length:Int)<0:=by omega
     clear hrw hrl hct hcc hls hPA hrc0 hpf HFL HPF HPS HFO hxm;go_upto_region 12 with fail;clear x0 x1 x2 x3 x4 x5 x6 r0 r1 r2 r3 r4 r5 r6 r7 r8;go_loopg [7,44] c.args.length (fun g v7 i wx=>∃ j:Nat,j+g=c.args.length/\v7=.bool true/\i=.int .i64 (j:Nat)/\Hid (Below wr.heap.size wr wx)/\Hid (c.args.find? pf=(c.args.drop j).find? pf))
     case atStart=>exact⟨0,by omega,rfl,rfl,Hd (aB _ _),Hd rfl⟩
     obtain⟨j2,hj2,rfl,rfl,HBX,HJ⟩:=hrel;rename World=>wx
     cases gk with
     | zero =>
       have hjj2:¬((j2:Int)<(c.args.length:Int)):=by omega
       have HP3:Hid (gU (evF n Γ) Γ sc nm s=some (match gR rw_ nm with | none=>(gE,s.fail 160) | some g=>(givF g,s))):=Hd (by
        rw[HP2.o,HAA.o,HJ.o,aP (by omega),HPG.o];rfl)
       have hbx:=HB5.o.trans (HBX.o.mono HB5.o.size);have HBW:=Hd hbx;have w2:=(HD.o.below hbx).wk.cell 2 rfl;rw[HPA.o] at w2;have hrc0:=(hbx.cell (aF w _ HRC.o)).trans HRC.o;have HFD:=Hd (HPI.o wx hbx);have HRX:=Hd (HRK.o.below HBX.o);obtain⟨go,hgo⟩:∃ go,go=gR rw_ nm:=⟨_,rfl⟩;have HGM:Hid (∀ g,go=some g->g.v.text.size<=6000):=Hd (fun g h=>by
        rw[hgo] at h;exact(HPV.o g (by rw[HPG.o];exact(gFind_name h).2)).1)
       rw[<-hgo] at HFD HP3;clear hbx hgo HJ HPI HP2;cases go with
       | none =>
         go_wp2_with fail;refine HFD.o.mono ?_;rintro e w4 ⟨hb,he⟩;subst he;obtain⟨W5,hW5⟩:∃ W5,W5=w4.alloc (.cells zeroCells 46):=⟨_,rfl⟩;have hb5:Below wx.heap.size wx W5:=by rw[hW5];exact hb.trans ((aB _ w4).alloc hb.size _)
         have HBW5:=Hd (HBW.o.trans (hb5.mono HBW.o.size));have HR5:=Hd (HRX.o.below hb5);have HW5:=Hd hW5;have HFP:Hid (Fxv Γ (W.priv w.heap.size (w.heap.size+3)) W5):=Hd (HF.o.priv HBW5.o (by have h1:=hb5.size;have h2:=HBX.o.size;have h3:=HPK.o.lt;have h4:=HZ1.o;omega));have HDP:Hid (Dv Γ (W.priv w.heap.size (w.heap.size+3)) s W5):=Hd (HD.o.priv HBW5.o _);have HFA:Hid (Calls Tryz.prog 58 #[.pointer (some ⟨W.wb,0,none⟩),.int .i64 160] W5 (ValO Γ (W.priv w.heap.size (w.heap.size+3)) (gE,s.fail 160) W5)):=Hd (fZ Γ (W.priv w.heap.size (w.heap.size+3)) s W5 HFP.o HDP.o 160 (by omega));clear hb hb5 hW5 w2 hrc0;unfold zeroCells at HW5;unfold zeroCells;go_upto_region 18 with fail;rw[<-HW5.o];go_wp2_with fail;refine HFA.o.mono ?_;rintro e w6 ⟨gs,rfl,hgt0,hd,ho⟩;obtain⟨v,hv⟩:∃ v,v=gE:=⟨_,rfl⟩;have hgt:Trs.at (W.priv w.heap.size (w.heap.size+3)).S w6 gE.tr gs:=hgt0;rw[<-hv] at hgt;obtain⟨VA,VB,vc,vd,rfl,-⟩:=fT hgt;have HR6:=Hd (HR5.o.only ho (fun hf=>by have:=HLT.o _ hf;omega));have HD6:=Hd hd;have HGT:=Hd hgt;have HZ:=Hd hv;have HO6:Hid (fP W.F W5 w6):=Hd ho;clear hgt0 hgt hd ho hv;go_wp2_with ((with_reducible refine is_store ?_);refine stV HR6.o ?_;intro w7 hk7 ho7;have HK7:=Hd hk7;have HO7:=Hd ho7;clear hk7 ho7);obtain⟨r0,r1,r2,r3,r4,r5,r6,r7,r8⟩:=iY HK7.o;refine bodyPost_ret (v:=.tuple #[.agg (kA v VA vc VB vd),.bool true]) (by simp[results,Tryz.results90,go_sem,r0,r1,r2,r3,r4,r5,r6,r7,r8];try rfl) rfl ?_;rw[HP3.o];have hend:=KC HGT.o HLT.o HBW5.o HD6.o HO6.o ⟨by omega,by omega⟩ HO7.o;exact⟨(kA v VA vc VB vd).toList,by rw[aV],by show Trs.at W.S w7 gE.tr _;rw[<-HZ.o];exact hend.1,hend.2⟩
       | some gv =>
         have HGT0:=Hd (HGM.o gv rfl);go_wp2_with fail;refine HFD.o.mono ?_;rintro e w4 ⟨hb,ds,rfl,hdt⟩;obtain⟨GA,GB,gc,gd,rfl,-⟩:=fX hdt;obtain⟨W5,hW5⟩:∃ W5,W5=w4.alloc (.cells (kG gv GA gc GB gd) 46):=⟨_,rfl⟩;have hb45:Below w4.heap.size w4 W5:=by rw[hW5];exact(aB _ w4).alloc (aA _) _
         have hb5:Below wx.heap.size wx W5:=hb.trans (hb45.mono hb.size);have hk5:Blk W5 w4.heap.size (kG gv GA gc GB gd) 46:=by rw[hW5];exact aJ w4 _ _
         have HBW5:=Hd (HBW.o.trans (hb5.mono HBW.o.size));have HR5:=Hd (HRX.o.below hb5);have HW5:=Hd hW5;have HEG:Hid (Calls Tryz.prog 135 #[.agg (kG gv GA gc GB gd)] W5 (PY (W.priv w.heap.size (w.heap.size+3)).S (givF gv) W5)):=Hd (by
          have h:=DF (W.priv w.heap.size (w.heap.size+3)).S gv (kG gv GA gc GB gd).toList W5 (hdt.below hb45) (by have:=HGT0.o;omega);rwa [aV] at h)
         obtain⟨g0,g1,g2,g3,g4,g5,g6,g7⟩:=gI hk5;clear hb hb5 hb45 hW5 w2 hrc0 hdt hk5;go_upto_region 18 with fail;rw[<-HW5.o];go_wp2_with fail;refine HEG.o.mono ?_;rintro e w6 ⟨gs,rfl,hgt,ho⟩;obtain⟨v,hv⟩:∃ v,v=givF gv:=⟨_,rfl⟩;rw[<-hv] at hgt;obtain⟨VA,VB,vc,vd,rfl,-⟩:=fT hgt;have HR6:=Hd (HR5.o.below ho);have HBW6:=Hd (HBW5.o.trans (ho.mono HBW5.o.size));have HD6:Hid (Dv Γ (W.priv w.heap.size (w.heap.size+3)) s w6):=Hd (HD.o.priv HBW6.o _);have HGT:=Hd hgt;have HZ:=Hd hv;clear hgt ho hv g0 g1 g2 g3 g4 g5 g6 g7;go_wp2_with ((with_reducible refine is_store ?_);refine stV HR6.o ?_;intro w7 hk7 ho7;have HK7:=Hd hk7;have HO7:=Hd ho7;clear hk7 ho7);obtain⟨r0,r1,r2,r3,r4,r5,r6,r7,r8⟩:=iY HK7.o;refine bodyPost_ret (v:=.tuple #[.agg (kA v VA vc VB vd),.bool true]) (by simp[results,Tryz.results90,go_sem,r0,r1,r2,r3,r4,r5,r6,r7,r8];try rfl) rfl ?_;rw[HP3.o];have hend:=KC HGT.o HLT.o HBW6.o HD6.o (bG _ _) ⟨by omega,by omega⟩ HO7.o;exact⟨(kA v VA vc VB vd).toList,by rw[aV],by show Trs.at W.S w7 (givF gv).tr _;rw[<-HZ.o];exact hend.1,hend.2⟩
     | succ g =>
       have hjj2:(j2:Int)<(c.args.length:Int):=by omega
       have hji2:(0:Int)<=(j2:Int)/\(j2:Int)<(c.args.length:Int):=by omega
       obtain⟨a,ha⟩:=fO (l:=c.args) (i:=j2) (by omega);obtain⟨ad2,ys,hA,hyt,hyc⟩:=HL5.o.elem Pr.trlen ha;subst hA;obtain⟨vs,rfl,han,hot⟩:=Pr.at_iff.1 hyt;obtain⟨EA,ec,rfl,-⟩:=Ex.at_iff.1 hot;have hbx:=HB5.o.trans (HBX.o.mono HB5.o.size);obtain⟨y0,y1,y2,y3,y4,y5,y6⟩:=lO (hyc.below hbx);have HMA:=Hd (aD ha);obtain⟨W5,hW5⟩:∃ W5,W5=wx.alloc (.cells #[.string a.name,.int .i8 a.e.kind,.string a.e.text,.int .i64 a.e.num,.string a.e.name,.string a.e.attr,.slice EA a.e.l.length ec] 129):=⟨_,rfl⟩;have hb5:Below wx.heap.size wx W5:=by rw[hW5];exact(aB _ wx).alloc (aA _) _
       have hk5:Blk W5 wx.heap.size #[.string a.name,.int .i8 a.e.kind,.string a.e.text,.int .i64 a.e.num,.string a.e.name,.string a.e.attr,.slice EA a.e.l.length ec] 129:=by rw[hW5];exact aJ _ _ _
       have HBX5:=Hd (HBX.o.trans (hb5.mono HBX.o.size));have HBW5:=Hd (hbx.trans (hb5.mono hbx.size));have HK5:=Hd hk5;have HW5:=Hd hW5;have HT5:Hid (Trs.at W.S w a.e.tr [.int .i8 a.e.kind,.string a.e.text,.int .i64 a.e.num,.string a.e.name,.string a.e.attr,.slice EA a.e.l.length ec]):=Hd hot;have HJ2:Hid (c.args.find? pf=if pf a=true then some a else (c.args.drop (j2+1)).find? pf):=Hd (by
        rw[HJ.o,fS ha,cP];cases pf a<;>rfl)
       clear hyt hyc hot ha hb5 hk5 hW5 hbx han;obtain⟨z0,z1,z2,z3,z4,z5,z6⟩:=jV HK5.o;go_upto_region 14 with fail;rw[<-HW5.o];clear y0 y1 y2 y3 y4 y5 y6;obtain⟨b,hb⟩:∃ b,b=pf a:=⟨_,rfl⟩;have HBE:Hid (b=(decide (0<sc)&&fW a.name nm)):=Hd (by rw[hb,HPF2.o]);rw[<-hb] at HJ2;clear hb;go_cut [55] from 48 to 55 (fun cx wy=>cx=.bool b/\wy=W5)
       case first =>
        have hB:=HBE.o;have htx:=jL a.name nm;by_cases h0:(sc:Int)<=0
        .rw[show decide (0<sc)=false from decide_eq_false (by omega)] at hB;go_wp2_with fail;go_meet;exact⟨by rw[hB];rfl,rfl⟩
        rw[show decide (0<sc)=true from decide_eq_true (by omega)] at hB;have h0':(0:Int)<(sc:Int):=by omega
        rw[<-htx,eE] at hB;clear htx;go_wp2_with fail;go_meet;exact⟨by rw[hB],rfl⟩
       obtain⟨rfl,rfl⟩:=hcut;rename World=>W5
       cases b with
       | false =>
         have HJ3:Hid (c.args.find? pf=(c.args.drop (j2+1)).find? pf):=Hd (by rw[HJ2.o];rfl);go_wp2_with fail;go_roundg g
         case measure=>omega
         case rel=>exact⟨j2+1,by omega,rfl,by go_num,HBX5,HJ3⟩
       | true =>
         have HNM:Hid (0<sc/\a.name=nm):=Hd (by
          have h:=HBE.o.symm;rw[bJ,decide_eq_true_eq,bEq_iff] at h;exact h)
         have HP3:Hid (gU (evF n Γ) Γ sc nm s=some (BF (evF n Γ) c.parent.toNat sc p a.e s)):=Hd (by rw[HP2.o,HAA.o,HJ2.o];rfl);have HPK5:=Hd (HPK.o.below HBX5.o);have HR5:=Hd (HRK.o.below HBX5.o);have hFv:Fxv Γ (W.priv w.heap.size (w.heap.size+3)) W5:=HF.o.priv HBW5.o (by have h1:=HBX5.o.size;have h3:=HPK.o.lt;have h4:=HZ1.o;omega);have hDv:Dv Γ (W.priv w.heap.size (w.heap.size+3)) s W5:=HD.o.priv HBW5.o _;have hTv:Trs.at (W.priv w.heap.size (w.heap.size+3)).S W5 a.e.tr [.int .i8 a.e.kind,.string a.e.text,.int .i64 a.e.num,.string a.e.name,.string a.e.attr,.slice EA a.e.l.length ec]:=HT5.o.priv HBW5.o _;have hPv:Trs.at (W.priv w.heap.size (w.heap.size+3)).S W5 p.tr (kP p A1 c1 B1 d1 A2 c2).toList:=HPT.o.priv HBW5.o _;have hpk:(⟨false,(sc:Int),p.name⟩:Pk)∈places 0 Γ.G.sc:=kF (i:=0) HCC.o (by
          rw[aZ];exact fC _ (List.mem_map.2 ⟨a,HMA.o,by rw[HPN.o,HNM.o.2]⟩))
         have hax:=HΓ.out.s.ax sc c HCC.o;have hwa:=uY Γ HΓ.out n HI.o (W.priv w.heap.size (w.heap.size+3)) s sc c HCC.o HNM.o.1 p (HΓ.out.ps c HMC.o p HPM.o) a.e ⟨(HΓ.out.ex c HMC.o).1 a HMA.o,hax.1 a HMA.o⟩ (kP p A1 c1 B1 d1 A2 c2).toList [.int .i8 a.e.kind,.string a.e.text,.int .i64 a.e.num,.string a.e.name,.string a.e.attr,.slice EA a.e.l.length ec] W5 hpk (by
          have h:=HM.o a HMA.o;rw[HNM.o.2,<-HPN.o] at h;exact h) hFv hDv hTv hPv
         rw[aV] at hwa;obtain⟨r,hr⟩:∃ r,r=BF (evF n Γ) c.parent.toNat sc p a.e s:=⟨_,rfl⟩;rw[<-hr] at hwa HP3;have HON:Hid (Calls Tryz.prog 134 #[.pointer (some ⟨W.wb,0,none⟩),.int .i64 (sc:Int),.agg (kP p A1 c1 B1 d1 A2 c2),.agg (kX a.e EA ec)] W5 (ValO Γ (W.priv w.heap.size (w.heap.size+3)) r W5)):=Hd hwa;obtain⟨p0,p1,p2,p3,p4,p5,p6,p7,p8,p9⟩:=xY HPK5.o;clear hwa hr hFv hDv hTv hPv hpk hax HJ HJ2 HPI HP2;obtain⟨v,t⟩:=r;go_wp2_with fail;refine HON.o.mono ?_;rintro e w6 ⟨ds,rfl,hdt0,hdd0,hdo⟩;have hdt:Trs.at (W.priv w.heap.size (w.heap.size+3)).S w6 v.tr ds:=hdt0;have hdd:Dv Γ (W.priv w.heap.size (w.heap.size+3)) t w6:=hdd0;obtain⟨VA,VB,vc,vd,rfl,-⟩:=fT hdt;have HR6:=Hd (HR5.o.only hdo (fun hf=>by have:=HLT.o _ hf;omega));have HD6:=Hd hdd;have HT6:=Hd hdt;have HO6:Hid (fP W.F W5 w6):=Hd hdo;clear hdt0 hdd0 hdt hdd hdo z0 z1 z2 z3 z4 z5 z6 p0 p1 p2 p3 p4 p5 p6 p7 p8 p9;go_wp2_with ((with_reducible refine is_store ?_);refine stV HR6.o ?_;intro w7 hk7 ho7;have HK7:=Hd hk7;have HO7:=Hd ho7;clear hk7 ho7);obtain⟨r0,r1,r2,r3,r4,r5,r6,r7,r8⟩:=iY HK7.o;refine bodyPost_ret (v:=.tuple #[.agg (kA v VA vc VB vd),.bool true]) (by simp[results,Tryz.results90,go_sem,r0,r1,r2,r3,r4,r5,r6,r7,r8];try rfl) rfl ?_;rw[HP3.o];have hend:=KC HT6.o HLT.o HBW5.o HD6.o HO6.o ⟨by omega,by omega⟩ HO7.o;exact⟨(kA v VA vc VB vd).toList,by rw[aV],hend⟩
 | succ g =>
   have hjj:(j:Int)<(c.t.params.length:Int):=by omega
   have hji:(0:Int)<=(j:Int)/\(j:Int)<(c.t.params.length:Int):=by omega
   obtain⟨q,hq⟩:=fO (l:=c.t.params) (i:=j) (by omega);obtain⟨ad2,qs,hA,hqt,hqc⟩:=HL1.o.elem Pm.trlen hq;subst hA;obtain⟨A3,B3,A4,c3,d3,c4,rfl,hpq⟩:=mO.of hqt (HΓ.out.ps c HMC.o q (aD hq));obtain⟨y0,y1,y2,y3,y4,y5,y6,y7,y8,y9⟩:=BB (hqc.below HPS.o.bl);obtain⟨W5,hW5⟩:∃ W5,W5=wr.alloc (.cells (kP q A3 c3 B3 d3 A4 c4) 145):=⟨_,rfl⟩;have hb5:Below wr.heap.size wr W5:=by rw[hW5];exact(aB _ wr).alloc (aA _) _
   have hk5:Blk W5 wr.heap.size (kP q A3 c3 B3 d3 A4 c4) 145:=by rw[hW5];exact aJ _ _ _
   have HPS5:=Hd (HPS.o.below hb5);have HQT:Hid (Trs.at W.S w q.tr (kP q A3 c3 B3 d3 A4 c4).toList):=Hd hqt;have HMQ:=Hd (aD hq);have HJ2:Hid (c.t.params.foldl fo none=(c.t.params.drop (j+1)).foldl fo (fo o q)):=Hd (by rw[HJ.o,fS hq];rfl);have HW5:=Hd hW5;have HK5:=Hd hk5;obtain⟨z0,z1,z2,z3,z4,z5,z6,z7,z8,z9⟩:=xY hk5;clear hqt hqc hq hb5 hk5 hW5;go_upto_region 6 with fail;rw[<-HW5.o];clear y0 y1 y2 y3 y4 y5 y6 y7 y8 y9;have htx:=jL q.name nm;cases hbq:fW q.name nm with
   | false =>
     have HJ3:Hid (c.t.params.foldl fo none=(c.t.params.drop (j+1)).foldl fo o):=Hd (by rw[HJ2.o,HFO.o,hbq];rfl);rw[hbq] at htx;clear hbq HJ2;go_wp2_with fail;go_roundg g
     case measure=>omega
     case rel=>exact⟨j+1,o,pcs,by omega,rfl,by go_num,hp10,HPS5,HJ3⟩
   | true =>
     have HJ3:Hid (c.t.params.foldl fo none=(c.t.params.drop (j+1)).foldl fo (some q)):=Hd (by rw[HJ2.o,HFO.o,hbq];rfl);rw[hbq] at htx;clear hbq HJ2;go_wp2_with ((with_reducible refine is_store ?_);refine wpList_store_blk rfl 145 _ _ rfl (W1.heap.size+1) (kP q A3 c3 B3 d3 A4 c4) pcs.toArray 145 rfl rfl HPS5.o.pb (by simp[hp10]) (by kernel_rfl) (by simp[Value.oneCell']) ?_;intro w7 hk7 ho7;have HK7:=Hd hk7;have HO7:=Hd ho7;clear hk7 ho7);go_roundg g
     case measure=>omega
     case rel=>exact⟨j+1,some q,(kP q A3 c3 B3 d3 A4 c4).toList,by omega,rfl,by go_num,rfl,Hd (HPS5.o.put HQT.o HMQ.o (by rw[aV];exact HK7.o) HO7.o),HJ3⟩
