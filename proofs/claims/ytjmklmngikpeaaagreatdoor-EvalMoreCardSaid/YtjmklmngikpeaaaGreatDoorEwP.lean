/- Part of the proof. -/
import Derived.Test.YtjmklmngikpeaaaGreatDoorEwE
import Derived.Test.YtjmklmngikpeaaaGreatDoorEwN
set_option maxRecDepth 100000
set_option maxHeartbeats 16000000
set_option linter.unusedVariables false
set_option linter.unusedSimpArgs false
namespace Go.Proofs.YtjmklmngikpeaaaGreatDoor
open Go.RowKit Go.Maps
def PX (b:Nat):Array Value:=#[.func (.func 49) #[.pointer (some ⟨b,0,none⟩)] #[],.func (.func 50) #[.pointer (some ⟨b,0,none⟩)] #[],.func (.func 51) #[.pointer (some ⟨b,0,none⟩)] #[],.func (.func 52) #[.pointer (some ⟨b,0,none⟩)] #[],.func (.func 53) #[.pointer (some ⟨b,0,none⟩)] #[],.func (.func 54) #[.pointer (some ⟨b,0,none⟩)] #[],.func (.func 55) #[.pointer (some ⟨b,0,none⟩)] #[],.func (.func 56) #[.pointer (some ⟨b,0,none⟩)] #[],.func (.func 57) #[.pointer (some ⟨b,0,none⟩)] #[]]
theorem jZ (Γ:Eg) (W:Vh) (s:Es) (sc:Nat) (x:Ex) (cs:List Value) (w:World) (r:Va × Es) (k:Nat) (hk9:k<9) (fid:FuncId) (har:(PX W.wb)[k]?=some (.func (.func fid) #[.pointer (some ⟨W.wb,0,none⟩)] #[])) (hcf:∀ a w,(callFunc fid a).run Tryz.prog w=.ok (.enter fid a) w) (he:s.e=0) (hk:x.kind=(k:Int)) (hF:Fxv Γ W w) (hD:Dv Γ W s w) (hT:Trs.at W.S w x.tr cs)
 (hK:∀ (V:Vh) (w':World),V.wb=W.wb->Fxv Γ V w'->Dv Γ V s w'->Trs.at V.S w' x.tr cs->Calls Tryz.prog fid #[.pointer (some ⟨V.wb,0,none⟩),.int .i64 (sc:Int),.agg cs.toArray] w' (ValO Γ V r w')) :
 Calls Tryz.prog 24 #[.pointer (some ⟨W.wb,0,none⟩),.int .i64 (sc:Int),.agg cs.toArray] w (ValO Γ W r w):=by
 obtain⟨XA,xc,rfl,-⟩:=Ex.at_iff.1 hT;obtain⟨W2,hW2⟩:∃ W2,W2=((w.alloc (.cells (kX x XA xc) 32)).alloc (.cells zA 74)):=⟨_,rfl⟩;have hE:=ent hF hD hT;rw[<-hW2] at hE;have HE:=Hd hE;have HW2:=Hd hW2;obtain⟨W3,hW3⟩:∃ W3,W3=W2.alloc (.cells (PX W.wb) 126):=⟨_,rfl⟩;have hb3:Below W2.heap.size W2 W3:=by rw[hW3];exact(aB _ W2).alloc (aA _) _
 have hb03:=hE.bl.trans (hb3.mono hE.bl.size);have hs3:W3.heap.size=w.heap.size+3:=by rw[hW3];simp[hE.sz]
 have k3:Blk W3 W2.heap.size (PX W.wb) 126:=by rw[hW3];exact aJ _ _ _
 have e9:W2.cell? ⟨W.wb,9,none⟩=some (.int .i64 (s.e:Int)):=hE.dv.wk.cell 9 rfl;rw[he] at e9;have HK3:Hid (∀ w',Below W3.heap.size W3 w'->Calls Tryz.prog fid #[.pointer (some ⟨W.wb,0,none⟩),.int .i64 (sc:Int),.agg #[.int .i8 (k:Int),.string x.text,.int .i64 x.num,.string x.name,.string x.attr,.slice XA x.l.length xc]] w' (ValO Γ (W.priv w.heap.size (w.heap.size+3)) r w')):=Hd (fun w' hb=>by
  have hbb:=hb03.trans (hb.mono hb03.size);have h:=hK (W.priv w.heap.size (w.heap.size+3)) w' rfl (hF.priv hbb (by have:=hb.size;omega)) (hD.priv hbb _) (hT.priv hbb _);rw[aV,hk] at h;exact h)
 have HBX:Hid (Blk W3 w.heap.size #[.int .i8 (k:Int),.string x.text,.int .i64 x.num,.string x.name,.string x.attr,.slice XA x.l.length xc] 32):=Hd (by
  have h:=hE.bx.below hb3;unfold kX at h;rw[hk] at h;exact h)
 have HRB:=Hd (hE.rb.below hb3);have HB03:=Hd hb03;have HB3:=Hd hb3;have HS3:=Hd hs3;have HK0:=Hd k3;unfold PX at hW3;have HW3:=Hd hW3;have HLT:Hid (∀ k,W.F k->k<w.heap.size):=Hd hE.lt;have HSZ:Hid (W2.heap.size=w.heap.size+2):=Hd hE.sz;have HDB:Hid (Below W3.heap.size W3 W3.drew):=Hd (aB _ W3).drew;obtain⟨b0,b1,b2,b3,b4,b5⟩:=gH HBX.o;have d3:=k3.cell k har;have HAR:=Hd har;have HCF:=Hd hcf;have g0:decide ((k:Int)<0)=false:=decide_eq_false (by omega);have g1:decide ((9:Int)<=(k:Int))=false:=decide_eq_false (by omega);have g2:¬((k:Int)<0):=by omega
 have g3:¬((9:Int)<=(k:Int)):=by omega
 have g4:(0:Int)<=(k:Int)/\(k:Int)<9:=by omega
 have gw:IntKind.i64.wrap (k:Int)=(k:Int):=by rw[IntKind.wrap_i64];omega
 clear har hcf hE hW2 hW3 hb3 hb03 hs3 k3 hF hD hT hK hk he;obtain⟨v,t⟩:=r;go_enter Tryz.func24,Tryz.ntmps24;go_upto_region 1 with fail;rw[<-HW2.o];go_upto_region 4 with fail;rw[<-HW3.o];go_upto_region 6 with fail;refine cK 7 (fun w'=>w'.cell? ⟨w.heap.size,0,none⟩=some (.int .i8 (k:Int))/\w'.cell? ⟨w.heap.size,1,none⟩=some (.string x.text)/\w'.cell? ⟨w.heap.size,2,none⟩=some (.int .i64 x.num)/\w'.cell? ⟨w.heap.size,3,none⟩=some (.string x.name)/\w'.cell? ⟨w.heap.size,4,none⟩=some (.string x.attr)/\w'.cell? ⟨w.heap.size,5,none⟩=some (.slice XA x.l.length xc)/\w'.cell? ⟨W2.heap.size,k,none⟩=some (.func (.func fid) #[.pointer (some ⟨W.wb,0,none⟩)] #[])) (by kernel_rfl) (by go_keep) (fun hH0=>?_);simp only[aQ,bC,aX,bA,aZ,Nat.reduceAdd];refine aL hH0 0 ?_;refine aL hH0 1 ?_;refine aL hH0 2 ?_;refine aL hH0 3 ?_;refine aL hH0 4 ?_;refine aL hH0 5 ?_;refine cT 6 fun K hK=>?_
 go_simp;rw[HCF.o,Oper.upon_enter];refine(HK3.o W3.drew HDB.o).mono ?_;rintro e w4 ⟨ds,rfl,hdt0,hdd0,hdo⟩;have hdt:Trs.at (W.priv w.heap.size (w.heap.size+3)).S w4 v.tr ds:=hdt0;have hdd:Dv Γ (W.priv w.heap.size (w.heap.size+3)) t w4:=hdd0;obtain⟨VA,VB,vc,vd,rfl,-⟩:=fT hdt;have hoo:fP W.F W3 w4:=fP.F2 (W:=W) (aK HDB.o _) hdo;obtain⟨m0,m1,m2,m3,m4,m5⟩:=gH (HBX.o.only hoo (fun hf=>by have:=HLT.o _ hf;omega));have m6:=(HK0.o.only hoo (fun hf=>by have:=HLT.o _ hf;have:=HSZ.o;omega)).cell k HAR.o;have HR4:=Hd (HRB.o.only hoo (fun hf=>by have:=HLT.o _ hf;omega));have HT4:=Hd hdt;have HD4:=Hd hdd;have HO4:=Hd hoo;clear hdt0 hdd0 hdt hdd hdo hoo;refine cM hK fun hH1=>?_
 clear hK K hH0;try simp only[Act.put,aE,aH,aI]
 refine dY fun K hK=>?_
 refine gG 74 _ _ rfl rfl (w.heap.size+1) (kA v VA vc VB vd) zA 74 rfl rfl HR4.o rfl (by kernel_rfl) (by simp[Value.oneCell']) ?_;intro w5 hk5 ho5;have HK5:=Hd hk5;have HO5:=Hd ho5;clear hk5 ho5;refine hK.out _ _ ?_;clear hK K hH1;go_wp2_with fail;refine retV Tryz.results24 HK5.o ?_;exact jend2 HT4.o HLT.o HB03.o HD4.o HO4.o ⟨by omega,by omega⟩ HO5.o
theorem wexpr_lo (Γ:Eg) (W:Vh) (s:Es) (sc:Nat) (x:Ex) (cs:List Value) (w:World) (he:s.e=0) (hk:x.kind<0) (hF:Fxv Γ W w) (hD:Dv Γ W s w) (hT:Trs.at W.S w x.tr cs) :
 Calls Tryz.prog 24 #[.pointer (some ⟨W.wb,0,none⟩),.int .i64 (sc:Int),.agg cs.toArray] w (ValO Γ W (gE,s.fail 121) w):=by
 obtain⟨XA,xc,rfl,hkw,-⟩:=Ex.at_iff.1 hT;have hkr:=IQ hkw;obtain⟨W2,hW2⟩:∃ W2,W2=((w.alloc (.cells (kX x XA xc) 32)).alloc (.cells zA 74)):=⟨_,rfl⟩;have hE:=ent hF hD hT;rw[<-hW2] at hE;have HE:=Hd hE;have HW2:=Hd hW2;obtain⟨W3,hW3⟩:∃ W3,W3=W2.alloc (.cells (PX W.wb) 126):=⟨_,rfl⟩;have hb3:Below W2.heap.size W2 W3:=by rw[hW3];exact(aB _ W2).alloc (aA _) _
 have hb03:=hE.bl.trans (hb3.mono hE.bl.size);have hs3:W3.heap.size=w.heap.size+3:=by rw[hW3];simp[hE.sz]
 have e9:W2.cell? ⟨W.wb,9,none⟩=some (.int .i64 (s.e:Int)):=hE.dv.wk.cell 9 rfl;rw[he] at e9;have HFA:Hid (Calls Tryz.prog 58 #[.pointer (some ⟨W.wb,0,none⟩),.int .i64 121] W3 (ValO Γ (W.priv w.heap.size (w.heap.size+3)) (gE,s.fail 121) W3)):=Hd (fZ Γ (W.priv w.heap.size (w.heap.size+3)) s W3 (hF.priv hb03 (by omega)) (hD.priv hb03 _) 121 (by omega));have HBX:=Hd (hE.bx.below hb3);have HRB:=Hd (hE.rb.below hb3);have HB03:=Hd hb03;unfold PX at hW3;have HW3:=Hd hW3;have HLT:Hid (∀ k,W.F k->k<w.heap.size):=Hd hE.lt;obtain⟨b0,b1,b2,b3,b4,b5⟩:=gH HBX.o;have g0:decide (x.kind<0)=true:=decide_eq_true hk;clear hE hW2 hW3 hb3 hb03 hs3 hF hD hT he hkw hkr;go_enter Tryz.func24,Tryz.ntmps24;go_upto_region 1 with fail;rw[<-HW2.o];go_upto_region 4 with fail;rw[<-HW3.o];go_wp2_with fail;refine HFA.o.mono ?_;rintro e w4 ⟨gs,rfl,hgt0,hd,ho⟩;obtain⟨v,hv⟩:∃ v,v=gE:=⟨_,rfl⟩;have hgt:Trs.at (W.priv w.heap.size (w.heap.size+3)).S w4 gE.tr gs:=hgt0;rw[<-hv] at hgt;obtain⟨VA,VB,vc,vd,rfl,-⟩:=fT hgt;have hoo:fP W.F W3 w4:=ho;have HR4:=Hd (HRB.o.only hoo (fun hf=>by have:=HLT.o _ hf;omega));have HT4:=Hd hgt;have HD4:=Hd hd;have HO4:=Hd hoo;have HZ:=Hd hv;clear hgt0 hgt hd ho hoo hv b0 b1 b2 b3 b4 b5;go_wp2_with ((with_reducible refine is_store ?_);refine stV HR4.o ?_;intro w5 hk5 ho5;have HK5:=Hd hk5;have HO5:=Hd ho5;clear hk5 ho5);refine retV Tryz.results24 HK5.o ?_;rw[<-HZ.o];exact jend2 HT4.o HLT.o HB03.o HD4.o HO4.o ⟨by omega,by omega⟩ HO5.o
theorem wexpr_hi (Γ:Eg) (W:Vh) (s:Es) (sc:Nat) (x:Ex) (cs:List Value) (w:World) (he:s.e=0) (hk:9<=x.kind) (hF:Fxv Γ W w) (hD:Dv Γ W s w) (hT:Trs.at W.S w x.tr cs) :
 Calls Tryz.prog 24 #[.pointer (some ⟨W.wb,0,none⟩),.int .i64 (sc:Int),.agg cs.toArray] w (ValO Γ W (gE,s.fail 121) w):=by
 obtain⟨XA,xc,rfl,hkw,-⟩:=Ex.at_iff.1 hT;have hkr:=IQ hkw;obtain⟨W2,hW2⟩:∃ W2,W2=((w.alloc (.cells (kX x XA xc) 32)).alloc (.cells zA 74)):=⟨_,rfl⟩;have hE:=ent hF hD hT;rw[<-hW2] at hE;have HE:=Hd hE;have HW2:=Hd hW2;obtain⟨W3,hW3⟩:∃ W3,W3=W2.alloc (.cells (PX W.wb) 126):=⟨_,rfl⟩;have hb3:Below W2.heap.size W2 W3:=by rw[hW3];exact(aB _ W2).alloc (aA _) _
 have hb03:=hE.bl.trans (hb3.mono hE.bl.size);have hs3:W3.heap.size=w.heap.size+3:=by rw[hW3];simp[hE.sz]
 have e9:W2.cell? ⟨W.wb,9,none⟩=some (.int .i64 (s.e:Int)):=hE.dv.wk.cell 9 rfl;rw[he] at e9;have HFA:Hid (Calls Tryz.prog 58 #[.pointer (some ⟨W.wb,0,none⟩),.int .i64 121] W3 (ValO Γ (W.priv w.heap.size (w.heap.size+3)) (gE,s.fail 121) W3)):=Hd (fZ Γ (W.priv w.heap.size (w.heap.size+3)) s W3 (hF.priv hb03 (by omega)) (hD.priv hb03 _) 121 (by omega));have HBX:=Hd (hE.bx.below hb3);have HRB:=Hd (hE.rb.below hb3);have HB03:=Hd hb03;unfold PX at hW3;have HW3:=Hd hW3;have HLT:Hid (∀ k,W.F k->k<w.heap.size):=Hd hE.lt;obtain⟨b0,b1,b2,b3,b4,b5⟩:=gH HBX.o;have g0:decide (x.kind<0)=false:=decide_eq_false (by omega);have g2:¬(x.kind<0):=by omega
 have gw:IntKind.i64.wrap x.kind=x.kind:=by rw[IntKind.wrap_i64];omega
 have g1:decide (9<=x.kind)=true:=decide_eq_true hk;clear hE hW2 hW3 hb3 hb03 hs3 hF hD hT he hkw hkr;go_enter Tryz.func24,Tryz.ntmps24;go_upto_region 1 with fail;rw[<-HW2.o];go_upto_region 4 with fail;rw[<-HW3.o];go_wp2_with fail;refine HFA.o.mono ?_;rintro e w4 ⟨gs,rfl,hgt0,hd,ho⟩;obtain⟨v,hv⟩:∃ v,v=gE:=⟨_,rfl⟩;have hgt:Trs.at (W.priv w.heap.size (w.heap.size+3)).S w4 gE.tr gs:=hgt0;rw[<-hv] at hgt;obtain⟨VA,VB,vc,vd,rfl,-⟩:=fT hgt;have hoo:fP W.F W3 w4:=ho;have HR4:=Hd (HRB.o.only hoo (fun hf=>by have:=HLT.o _ hf;omega));have HT4:=Hd hgt;have HD4:=Hd hd;have HO4:=Hd hoo;have HZ:=Hd hv;clear hgt0 hgt hd ho hoo hv b0 b1 b2 b3 b4 b5;go_wp2_with ((with_reducible refine is_store ?_);refine stV HR4.o ?_;intro w5 hk5 ho5;have HK5:=Hd hk5;have HO5:=Hd ho5;clear hk5 ho5);refine retV Tryz.results24 HK5.o ?_;rw[<-HZ.o];exact jend2 HT4.o HLT.o HB03.o HD4.o HO4.o ⟨by omega,by omega⟩ HO5.o
theorem PY.val {Γ:Eg} {W:Vh} {s:Es} {v:Va} {w:World} {e:Ending} {w':World} (hD:Dv Γ W s w) (h:PY W.S v w e w'):ValO Γ W (v,s) w e w':=by
 obtain⟨cs,h1,h2,h3⟩:=h;exact⟨cs,h1,h2,hD.below h3,aK h3 _⟩
theorem IR (Γ:Eg) (hΓ:vC Γ) (n:Nat) (IH:BL Γ n):BL Γ (n+1):=by
 intro W x s sc cs w hm hsc hx1 hx2 hF hD hT;by_cases he:s.e=0
 .have hx:exOk x/\exTx x:=⟨hx1,hx2⟩
  have hEV:evF (n+1) Γ sc x s=rN (evF n Γ) Γ sc x s:=by
   show exprF _ _ _ _ _=_
   unfold exprF;rw[if_neg (fun h=>h he)]
  rw[hEV];unfold rN;by_cases k0:x.kind=0
  .rw[if_pos k0];exact jZ Γ W s sc x cs w _ 0 (by decide) 49 rfl (callFunc_go Tryz.func49 rfl rfl) he k0 hF hD hT (fun V w' hv h1 h2 h3=>(E6 V.S _ _ x cs w' h3 (by have:=hx2.sz.1;omega)).mono (fun e w'' h=>h.val h2))
  rw[if_neg k0];by_cases k1:x.kind=1
  .rw[if_pos k1];exact jZ Γ W s sc x cs w _ 1 (by decide) 50 rfl (callFunc_go Tryz.func50 rfl rfl) he k1 hF hD hT (fun V w' hv h1 h2 h3=>(yI V.S _ _ x cs w' h3).mono (fun e w'' h=>h.val h2))
  rw[if_neg k1];by_cases k2:x.kind=2
  .rw[if_pos k2];exact jZ Γ W s sc x cs w _ 2 (by decide) 51 rfl (callFunc_go Tryz.func51 rfl rfl) he k2 hF hD hT (fun V w' hv h1 h2 h3=>E9 Γ hΓ n IH V s sc hsc x cs w' hm hx h1 h2 h3)
  rw[if_neg k2];by_cases k3:x.kind=3
  .rw[if_pos k3];exact jZ Γ W s sc x cs w _ 3 (by decide) 52 rfl (callFunc_go Tryz.func52 rfl rfl) he k3 hF hD hT (fun V w' hv h1 h2 h3=>IL Γ hΓ n IH V s sc hsc x cs w' hm hx h1 h2 h3)
  rw[if_neg k3];by_cases k4:x.kind=4
  .rw[if_pos k4];exact jZ Γ W s sc x cs w _ 4 (by decide) 53 rfl (callFunc_go Tryz.func53 rfl rfl) he k4 hF hD hT (fun V w' hv h1 h2 h3=>IS Γ hΓ n IH V s sc hsc x cs w' hm hx h1 h2 h3 he)
  rw[if_neg k4];by_cases k5:x.kind=5
  .rw[if_pos k5];exact jZ Γ W s sc x cs w _ 5 (by decide) 54 rfl (callFunc_go Tryz.func54 rfl rfl) he k5 hF hD hT (fun V w' hv h1 h2 h3=>IK Γ hΓ n IH V s sc hsc x cs w' hm hx h1 h2 h3)
  rw[if_neg k5];by_cases k6:x.kind=6
  .rw[if_pos k6];exact jZ Γ W s sc x cs w _ 6 (by decide) 55 rfl (callFunc_go Tryz.func55 rfl rfl) he k6 hF hD hT (fun V w' hv h1 h2 h3=>yM Γ hΓ n IH V s sc hsc x cs w' hm hx h1 h2 h3)
  rw[if_neg k6];by_cases k7:x.kind=7
  .rw[if_pos k7];exact jZ Γ W s sc x cs w _ 7 (by decide) 56 rfl (callFunc_go Tryz.func56 rfl rfl) he k7 hF hD hT (fun V w' hv h1 h2 h3=>FB Γ hΓ n IH V s sc hsc x cs w' hm hx h1 h2 h3)
  rw[if_neg k7];by_cases k8:x.kind=8
  .rw[if_pos k8];exact jZ Γ W s sc x cs w _ 8 (by decide) 57 rfl (callFunc_go Tryz.func57 rfl rfl) he k8 hF hD hT (fun V w' hv h1 h2 h3=>uX Γ hΓ n IH V s sc hsc x cs w' hm hx h1 h2 h3)
  rw[if_neg k8];rcases (show x.kind<0∨9<=x.kind by omega) with h | h
  .exact wexpr_lo Γ W s sc x cs w he h hF hD hT
  exact wexpr_hi Γ W s sc x cs w he h hF hD hT
 rw[evF_er he];exact wexpr_er Γ W s sc x cs w he hF hD hT
theorem wexpr_all (Γ:Eg) (hΓ:vC Γ):∀ n,BL Γ n
 | 0=>fun W x s sc cs w hm=>by
   have h2:0<SizeOf.sizeOf x:=by cases x;simp only[Ex.mk.sizeOf_spec];omega
   unfold oT at hm;omega
 | n+1=>IR Γ hΓ n (wexpr_all Γ hΓ n)
