/- Part of the proof. -/
import Derived.Test.YtjmklmngikpeaaaGreatDoorEw7
set_option maxRecDepth 100000
set_option maxHeartbeats 8000000
set_option linter.unusedVariables false
set_option linter.unusedSimpArgs false
namespace Go.Proofs.YtjmklmngikpeaaaGreatDoor
open Go.RowKit Go.Maps
variable {Γ:Eg}{s t:Es}{x y:Ex}{l:List Sc}{b n sz:Nat}{A:Option Addr}{c:Sc}{α:Type}{W:Vh}{w:World}{tr:α->List Tr}
theorem exOk.sub (h:exOk x) (hy:y∈x.l):exOk y:=by cases h with | mk _ _ _ h4=>exact h4 y hy
theorem exOk.nm (h:exOk x):x.name.size<=1000000/\x.attr.size<=1000000/\x.l.length<=1000000:=by cases h with | mk h1 h2 h3 _=>exact⟨h1,h2,h3⟩
def pX (Γ:Eg) (s:Es):Nat:=(places 0 Γ.G.sc).countP fun p=>!s.und p
noncomputable def xZ:List Sc->Nat
 | []=>0
 | c::r=>((c.args.map fun a=>SizeOf.sizeOf a.e).sum+(c.t.outs.map fun o=>SizeOf.sizeOf o.e).sum)+xZ r
noncomputable def oT (Γ:Eg) (s:Es) (x:Ex):Nat:=pX Γ s*xZ Γ.G.sc+SizeOf.sizeOf x
theorem J7 (h:t.und=s.und):pX Γ t=pX Γ s:=by unfold pX;rw[h]
theorem xM (h:t.und=s.und) (x:Ex):oT Γ t x=oT Γ s x:=by unfold oT;rw[J7 h]
theorem pK (h:y∈x.l):SizeOf.sizeOf y<SizeOf.sizeOf x:=by
 have h1:=List.sizeOf_lt_of_mem h;cases x;simp only[Ex.mk.sizeOf_spec] at h1 ⊢;omega
theorem pW (h:oT Γ s x<=n+1) (hy:y∈x.l) (ht:t.und=s.und):oT Γ t y<=n:=by
 have:=pK hy;rw[xM ht];unfold oT at h ⊢;omega
theorem L8 {a:Pr} (hc:c∈l) (ha:a∈c.args):SizeOf.sizeOf a.e<=xZ l:=by
 induction l with
 | nil=>cases hc
 | cons d r ih =>
   unfold xZ;rcases List.mem_cons.1 hc with rfl | hc
   .have:=kE (f:=fun a:Pr=>SizeOf.sizeOf a.e) ha;omega
   have:=ih hc;omega
theorem L7 {o:Ou} (hc:c∈l) (ha:o∈c.t.outs):SizeOf.sizeOf o.e<=xZ l:=by
 induction l with
 | nil=>cases hc
 | cons d r ih =>
   unfold xZ;rcases List.mem_cons.1 hc with rfl | hc
   .have:=kE (f:=fun o:Ou=>SizeOf.sizeOf o.e) ha;omega
   have:=ih hc;omega
theorem wD {p:Pk} (h:oT Γ s x<=n+1) (hp:p∈places 0 Γ.G.sc) (hu:s.und p=false) (hy:SizeOf.sizeOf y<=xZ Γ.G.sc):oT Γ (s.enter p) y<=n:=by
 have h1:pX Γ (s.enter p)<pX Γ s:=by
  unfold pX;refine wT (a:=p) (fun q _ hq=>?_) hp (by simp[Es.enter]) (by simp[hu]);unfold Es.enter at hq;simp only at hq;split at hq
  .cases hq
  exact hq
 have h2:0<SizeOf.sizeOf x:=by cases x;simp only[Ex.mk.sizeOf_spec];omega
 have h3:(pX Γ (s.enter p)+1)*xZ Γ.G.sc<=pX Γ s*xZ Γ.G.sc:=bT _ h1;rw[Nat.add_mul] at h3;unfold oT at h ⊢;omega
def BL (Γ:Eg) (n:Nat):Prop:=∀ (W:Vh) (x:Ex) (s:Es) (sc:Nat) (cs:List Value) (w:World),oT Γ s x<=n->sc<Γ.G.sc.length->exOk x->exTx x->Fxv Γ W w->Dv Γ W s w->Trs.at W.S w x.tr cs ->
 Calls Tryz.prog 24 #[.pointer (some ⟨W.wb,0,none⟩),.int .i64 (sc:Int),.agg cs.toArray] w (ValO Γ W (evF n Γ sc x s) w)
def TN (o:Option Bool) (w:World) (e:Ending) (w':World):Prop:=Below w.heap.size w w'/\∃ (g:Gv) (GA GB:Option Addr) (gc gd l1 l2:Nat),e=.returned (.tuple #[.agg #[.string g.name,.bool g.unknown,.int .i8 g.v.kind,.bool g.v.bool,.int .i64 g.v.num,.string g.v.text,.slice GA l1 gc,.slice GB l2 gd],.bool o.isSome])/\o.getD false=g.v.bool
theorem wW (S:Nat->Prop) (A:Option Addr) (c:Nat) (r:List (ByteArray × Bool)) (nm:ByteArray) (w:World) (hls:Ls S w 8 104 Gv.tr A c (r.map nY)) (hn:r.length<=1000000) :
 Calls Tryz.prog 60 #[.slice A r.length c,.string nm] w (TN ((r.find? fun x=>fW x.1 nm).map (·.2)) w):=by
 rw[show r.length=(r.map nY).length by simp];refine(qN S A c (r.map nY) nm w hls (by simpa using hn)).mono ?_;rintro e w' ⟨hb,hm⟩;have hg:gR (r.map nY) nm=(r.find? fun x=>fW x.1 nm).map nY:=by
  unfold gR;rw[List.find?_map];rfl
 rw[hg] at hm;cases hf:r.find? fun x=>fW x.1 nm with
 | none =>
   rw[hf] at hm;exact⟨hb,⟨ByteArray.empty,false,gV⟩,none,none,0,0,0,0,hm,rfl⟩
 | some y =>
   rw[hf] at hm;obtain⟨cs,rfl,ht⟩:=hm;obtain⟨GA,GB,gc,gd,rfl,-⟩:=DX ht;exact⟨hb,nY y,GA,GB,gc,gd,_,_,rfl,rfl⟩
theorem Ls.priv {W:Vh} {w w':World} {α:Type} {sz b c:Nat} {tr:α->List Tr} {A:Option Addr} {l:List α} (h:Ls W.S w sz b tr A c l) (hb:Below w.heap.size w w') (m:Nat):Ls (W.priv w.heap.size m).S w' sz b tr A c l :=
 (h.gain (fun k hk hl=>⟨hk.1,fun hx=>hx.elim hk.2 (fun hx=>by omega)⟩)).below hb
variable {l:List α}{c:Nat}
theorem Ls.leave {m:Nat} (h:Ls (W.priv m n).S w sz b tr A c l):Ls W.S w sz b tr A c l:=h.mono (fun _ hk=>CG hk)
theorem Ls.step {w':World} (h:Ls W.S w sz b tr A c l) (ho:fP W.F w w'):Ls W.S w' sz b tr A c l:=h.only ho (fun _ hk=>hk.1)
def UN (Γ:Eg) (W:Vh) (r:Ex × Es) (w:World) (e:Ending) (w':World):Prop:=∃ cs:List Value,e=.returned (.agg cs.toArray)/\Trs.at W.S w' r.1.tr cs/\Dv Γ W r.2 w'/\fP W.F w w'
theorem OM {S:Nat->Prop}:Trs.at S w SK.tr zF.toList:=Ex.at_iff.2 ⟨none,0,rfl,by decide,by decide,by decide,by decide,by decide,cF _ _ _ _ (by omega) _⟩
theorem N7 {l:List Ex} (h:l.length=2):∃ a b,l=[a,b]:=by
 match l,h with
 | [a,b],_=>exact⟨a,b,rfl⟩
theorem rD (Γ:Eg) (W:Vh) (s:Es) (w:World) (hΓ:vC Γ) (hF:Fxv Γ W w) (hD:Dv Γ W s w) (sc:Nat) (hsc:sc<Γ.G.sc.length) (x:Ex) (cs:List Value) (hx:exOk x) (hT:Trs.at W.S w x.tr cs) :
 Calls Tryz.prog 98 #[.pointer (some ⟨W.wb,0,none⟩),.int .i64 (sc:Int),.agg cs.toArray] w (UN Γ W (fV Γ sc x s) w):=by
 obtain⟨XA,xc,rfl,-,-,-,-,-,hxl⟩:=Ex.at_iff.1 hT;obtain⟨W2,hW2⟩:∃ W2,W2=((w.alloc (.cells (kX x XA xc) 32)).alloc (.cells zF 32)):=⟨_,rfl⟩;have hb2:Below w.heap.size w W2:=by rw[hW2];exact((aB _ w).alloc (aA _) _).alloc (by simp) _
 have hs2:W2.heap.size=w.heap.size+2:=by rw[hW2];simp
 have hk1:Blk W2 w.heap.size (kX x XA xc) 32:=by rw[hW2];exact(aJ w _ _).alloc _
 have hk2:Blk W2 (w.heap.size+1) zF 32:=by
  rw[hW2];have:=aJ (w.alloc (.cells (kX x XA xc) 32)) zF 32;rwa [show (w.alloc (.cells (kX x XA xc) 32)).heap.size=w.heap.size+1 by simp] at this
 obtain⟨b0,b1,b2,b3,b4,b5⟩:=gH hk1;obtain⟨d0,d1,d2,d3,d4,d5⟩:=gH hk2;have hcap:=hxl.cap;have hxn:=hx.nm.2.2;have HXL:=Hd hxl;have HB2:=Hd hb2;have HS2:=Hd hs2;have HK1:=Hd hk1;have HK2:=Hd hk2;have HW2:=Hd hW2;have HF:=Hd hF;have HD:=Hd hD;have HLP:Hid (∀ k,W.F k->k<w.heap.size):=Hd hD.lts;have HCH:Hid (fV Γ sc x s=match x.l with | [a,b]=>(match qY Γ sc x.name with | none=>(b,s.fail 160) | some true=>(a,s) | some false=>(b,s)) | _=>(SK,s.fail 121)):=Hd rfl;by_cases hl:x.l.length=2
 .obtain⟨a,b,hab⟩:=N7 hl;have hl2:x.l.length=2:=hl;have h02:(0:Int)<=0/\(0:Int)<(x.l.length:Int):=by omega
  have h12:(0:Int)<=1/\(1:Int)<(x.l.length:Int):=by omega
  have hne:((x.l.length:Int)!=2)=false:=by simp;omega
  have HE:Hid (fV Γ sc x s=(match qY Γ sc x.name with | none=>(b,s.fail 160) | some true=>(a,s) | some false=>(b,s))):=Hd (by rw[HCH.o];simp only[hab]);have HA:Hid (x.l[0]?=some a):=Hd (by rw[hab];rfl);have HBB:Hid (x.l[1]?=some b):=Hd (by rw[hab];rfl);obtain⟨r,hr⟩:=fO (l:=Γ.G.O) (i:=sc) (by rw[hΓ.hO];exact hsc);have hCF:qY Γ sc x.name=(r.find? fun y=>fW y.1 x.name).map (·.2):=by unfold qY;rw[aG,hr];rfl
  have hrl:=hΓ.orl r (aD hr);obtain⟨adC,ccs,hCA,hct,hcc⟩:=(hF.below hb2).cs.elem uR hr;obtain⟨RA,rc,rfl,hls⟩:=oI.1 hct;have hrc0:=hcc 0 _ rfl;rw[if_pos rfl,Nat.mul_one,cX] at hrc0;have hsi:(0:Int)<=(sc:Int)/\(sc:Int)<(Γ.G.O.length:Int):=by rw[hΓ.hO];omega
  have w3:=(hD.below hb2).wk.cell 3 rfl;rw[hCA] at w3;have HWK:=Hd (hD.below hb2).wk;have HRC:=Hd hrc0;have HCF:Hid (∀ w',Below W2.heap.size W2 w'->Calls Tryz.prog 60 #[.slice RA r.length rc,.string x.name] w' (TN (qY Γ sc x.name) w')):=Hd (fun w' hb=>by rw[hCF];exact wW _ RA rc r x.name w' (hls.below hb) hrl);have HCE:=Hd hCA;obtain⟨co,hco⟩:∃ co,co=qY Γ sc x.name:=⟨_,rfl⟩;rw[<-hco] at HCF HE;have hrcap:=hls.cap;have HX:=Hd hx;have HZB:Hid (Below W2.heap.size W2 (W2.alloc (.cells zC 46)).drew):=Hd ((aB _ W2).alloc (aA _) _).drew;have HZK:Hid (Blk (W2.alloc (.cells zC 46)).drew W2.heap.size zC 46):=Hd (aJ W2 _ _).drew;have HDB:Hid (Below W2.heap.size W2 W2.drew):=Hd (aB _ W2).drew;clear hab hl hl2 hF hD hT hb2 hs2 hk1 hk2 hW2 hxl hx hΓ hr hCF hrl hct hcc hls hCA hco HCH;go_enter Tryz.func98,Tryz.ntmps98;go_upto_region 1 with fail;rw[<-HW2.o];go_upto_region 4 with fail;go_cut [7,8] from 16 to 28 (fun v7 v8 wx=>∃ (q:Nat) (g:Gv) (GA GB:Option Addr) (gc gd l1 l2:Nat),v7=.pointer (some ⟨q,0,none⟩)/\v8=.bool co.isSome/\W2.heap.size<=q/\Hid (Blk wx q #[.string g.name,.bool g.unknown,.int .i8 g.v.kind,.bool g.v.bool,.int .i64 g.v.num,.string g.v.text,.slice GA l1 gc,.slice GB l2 gd] 46)/\Hid (Below W2.heap.size W2 wx)/\Hid (co.getD false=g.v.bool))
  case first =>
   clear d0 d1 d2 d3 d4 d5 b0 b1 b2 b4 b5 hcap hxn h02 h12;refine cK 15 (fun w'=>w'.cell? ⟨W.wb,3,none⟩=some (.slice (some adC) Γ.G.O.length W.cC)/\w'.cell? (adC.add sc)=some (.slice RA r.length rc)/\w'.cell? ⟨w.heap.size,3,none⟩=some (.string x.name)) (by kernel_rfl) (by go_keep) (fun hH0=>?_);simp only[aQ,bC,aX,bA,aZ,Nat.reduceAdd];refine aL hH0 0 ?_;refine aL hH0 1 ?_;refine aL hH0 2 ?_;refine aL hH0 3 ?_;refine aL hH0 4 ?_;refine aL hH0 5 ?_;refine aL hH0 6 ?_;refine aL hH0 7 ?_;refine aL hH0 8 ?_;refine Rg.two 9 13 (by kernel_rfl) rfl rfl (fun K hK=>?_) (fun K hK=>?_)
   .skip;go_simp;go_at_call 60;(with_reducible refine(HCF.o W2.drew HDB.o).mono ?_);rintro e w4 ⟨hb,g,GA,GB,gc,gd,l1,l2,rfl,hg⟩;have hb4:=HDB.o.trans (hb.mono HDB.o.size);have HB4:=Hd hb4;have HG4:=Hd hg;have k0:=(HWK.o.below hb4).cell 3 rfl;rw[HCE.o] at k0;have k1:=(hb4.cell (aF W2 _ HRC.o)).trans HRC.o;have k2:=(HK1.o.below hb4).cell 3 rfl;clear hb hg hb4;refine cM hK fun hH1=>?_
    clear hK K hH0;try simp only[Act.put,aE,aH,aI]
    refine aL hH1 10 ?_;refine aL hH1 11 ?_;refine aL hH1 12 ?_;refine cT 13 fun K hK=>?_
    go_simp;refine cM hK fun hH2=>?_
    clear hK K hH1;try simp only[Act.put,aE,aH,aI]
    refine cT 14 fun K hK=>?_
    go_simp;refine cM hK fun hH3=>?_
    clear hK K hH2;try simp only[Act.put,aE,aH,aI]
    refine dY fun K hK=>?_
    go_simp;refine hK.out _ _ ?_;clear hK K hH3;go_wp2_with fail;go_meet;exact⟨w4.heap.size,g,GA,GB,gc,gd,l1,l2,rfl,rfl,HB4.o.size,Hd (aJ w4 _ _),Hd (HB4.o.alloc HB4.o.size _),HG4⟩
   skip;go_simp;refine cM hK fun hH1=>?_
   clear hK K hH0;try simp only[Act.put,aE,aH,aI]
   refine cT 9 fun K hK=>?_
   go_simp;go_at_call 60;(with_reducible refine(HCF.o ((W2.alloc (.cells zC 46)).drew) HZB.o).mono ?_);rintro e w4 ⟨hb,g,GA,GB,gc,gd,l1,l2,rfl,hg⟩;have hb4:=HZB.o.trans (hb.mono HZB.o.size);have HB4:=Hd hb4;have HG4:=Hd hg;have k0:=(HWK.o.below hb4).cell 3 rfl;rw[HCE.o] at k0;have k1:=(hb4.cell (aF W2 _ HRC.o)).trans HRC.o;have k2:=(HK1.o.below hb4).cell 3 rfl;have HZ4:=Hd (HZK.o.below hb);clear hb hg hb4;refine cM hK fun hH2=>?_
   clear hK K hH1;try simp only[Act.put,aE,aH,aI]
   refine aL hH2 10 ?_;refine aL hH2 11 ?_;refine aL hH2 12 ?_;refine cT 14 fun K hK=>?_
   refine gG 46 _ _ rfl rfl W2.heap.size #[.string g.name,.bool g.unknown,.int .i8 g.v.kind,.bool g.v.bool,.int .i64 g.v.num,.string g.v.text,.slice GA l1 gc,.slice GB l2 gd] zC 46 rfl rfl HZ4.o rfl (by kernel_rfl) (by simp[Value.oneCell']) ?_;intro w5 hk5 ho5;have HK5:=Hd hk5;have HO5:=Hd ho5;have hb5:=ho5.belowB HB4.o (fun k hk=>by omega);have HB5:=Hd hb5;clear k0 k1 k2;have k0:=(HWK.o.below hb5).cell 3 rfl;rw[HCE.o] at k0;have k1:=(hb5.cell (aF W2 _ HRC.o)).trans HRC.o;have k2:=(HK1.o.below hb5).cell 3 rfl;clear hk5 ho5 hb5;refine cM hK fun hH3=>?_
   clear hK K hH2;try simp only[Act.put,aE,aH,aI]
   refine dY fun K hK=>?_
   go_simp;refine hK.out _ _ ?_;clear hK K hH3;go_wp2_with fail;go_meet;exact⟨W2.heap.size,g,GA,GB,gc,gd,l1,l2,rfl,rfl,aA _,HK5,HB5,HG4⟩
  obtain⟨q,g,GA,GB,gc,gd,l1,l2,rfl,rfl,hq,HG,HBX,HGB⟩:=hcut;rename World=>wx
  have hbw:=HB2.o.trans (HBX.o.mono HB2.o.size);have HBW:=Hd hbw;have HRX:=Hd (HK2.o.below HBX.o);have HKX:=Hd (HK1.o.below HBX.o);have HLX:=Hd (HXL.o.priv hbw wx.heap.size);obtain⟨b0,b1,b2,b3,b4,b5⟩:=gH HKX.o;obtain⟨g0,g1,g2,g3,g4,g5,g6,g7⟩:=gI HG.o;clear hbw d0 d1 d2 d3 d4 d5 w3 hrc0;cases co with
  | none =>
    have HE2:Hid (fV Γ sc x s=(b,s.fail 160)):=Hd HE.o;have HFA:=Hd (fZ Γ (W.priv w.heap.size wx.heap.size) s wx (HF.o.priv HBW.o (aA _)) (HD.o.priv HBW.o _) 160 (by omega));go_wp2_with fail;refine HFA.o.mono ?_;rintro e w4 ⟨cs,rfl,-,hd,ho⟩;have hk4:=HKX.o.only ho (fun h=>by have:=HLP.o _ h;omega);have HR4:=Hd (HRX.o.only ho (fun h=>by have:=HLP.o _ h;omega));have HD4:=Hd hd;have HO4:=Hd ho;have hl4:=HLX.o.only ho (fun _ hk=>hk.1);have HLT:=Hd (aO HRX.o.lt ho.size);clear b0 b1 b2 b3 b4 b5 g0 g1 g2 g3 g4 g5 g6 g7;obtain⟨b0,b1,b2,b3,b4,b5⟩:=gH hk4;obtain⟨ad,ys,hXA,hyt,hyc⟩:=hl4.elem eB HBB.o;subst hXA;obtain⟨YA,yc,rfl,-⟩:=Ex.at_iff.1 hyt;have HYT:=Hd hyt;rw[show ad.add (1*6)=⟨ad.block,ad.off+6,none⟩ from nW ad (by omega)] at hyc;obtain⟨y0,y1,y2,y3,y4,y5⟩:=iA hyc;dsimp only at y1 y2 y3 y4 y5;clear hyt hyc hl4 hk4 hd ho;go_wp2_with ((with_reducible refine is_store ?_);refine wpList_store_blk rfl 32 _ _ rfl (w.heap.size+1) (kX b YA yc) zF 32 rfl rfl HR4.o rfl (by kernel_rfl) (by simp[Value.oneCell']) ?_;intro w5 hk5 ho5;have HK5:=Hd hk5;have HO5:=Hd ho5;clear hk5 ho5);obtain⟨r0,r1,r2,r3,r4,r5⟩:=gH HK5.o;refine bodyPost_ret (v:=.agg (kX b YA yc)) (by simp[results,Tryz.results98,go_sem,r0,r1,r2,r3,r4,r5]) rfl ?_;rw[HE2.o];have hpv:∀ k,k=w.heap.size+1->(W.priv w.heap.size wx.heap.size).X k/\¬(W.priv w.heap.size wx.heap.size).F k:=fun k e=>by
     subst e;exact⟨.inr ⟨aU _ _,HRX.o.lt⟩,fun h=>by have:=HLP.o _ h;omega⟩
    refine⟨_,rfl,(HYT.o.off HO5.o (fun k hk e=>.inl (hpv k e).1)).leave,(HD4.o.off HO5.o (fun k hk e=>hpv k e)).leave,?_⟩;exact((aK HBW.o W.F).F2 (W:=W) HO4.o).trans HO5.o (fun k hk e=>by omega)
  | some bv =>
    cases bv with
    | true =>
      have HE2:Hid (fV Γ sc x s=(a,s)):=Hd HE.o;have hgb:g.v.bool=true:=HGB.o.symm;rw[hgb] at g3;clear hgb;obtain⟨ad,ys,hXA,hyt,hyc⟩:=HLX.o.elem eB HA.o;subst hXA;obtain⟨YA,yc,rfl,-⟩:=Ex.at_iff.1 hyt;have HYT:=Hd hyt;rw[show ad.add (0*6)=ad by simp[Addr.add]] at hyc;obtain⟨y0,y1,y2,y3,y4,y5⟩:=iA hyc;clear hyt hyc;go_wp2_with ((with_reducible refine is_store ?_);refine wpList_store_blk rfl 32 _ _ rfl (w.heap.size+1) (kX a YA yc) zF 32 rfl rfl HRX.o rfl (by kernel_rfl) (by simp[Value.oneCell']) ?_;intro w5 hk5 ho5;have HK5:=Hd hk5;have HO5:=Hd ho5;clear hk5 ho5);obtain⟨r0,r1,r2,r3,r4,r5⟩:=gH HK5.o;refine bodyPost_ret (v:=.agg (kX a YA yc)) (by simp[results,Tryz.results98,go_sem,r0,r1,r2,r3,r4,r5]) rfl ?_;have hbl:Below w.heap.size w w5:=HO5.o.belowB HBW.o (fun k hk=>by omega);rw[HE2.o];refine⟨_,rfl,?_,HD.o.below hbl,aK hbl _⟩;have hfin:=Trs.at.leave (HYT.o.off HO5.o (fun k hk e=>.inl (.inr ⟨by omega,by have:=HRX.o.lt;omega⟩)));exact hfin
    | false =>
      have HE2:Hid (fV Γ sc x s=(b,s)):=Hd HE.o;have hgb:g.v.bool=false:=HGB.o.symm;rw[hgb] at g3;clear hgb;obtain⟨ad,ys,hXA,hyt,hyc⟩:=HLX.o.elem eB HBB.o;subst hXA;obtain⟨YA,yc,rfl,-⟩:=Ex.at_iff.1 hyt;have HYT:=Hd hyt;rw[show ad.add (1*6)=⟨ad.block,ad.off+6,none⟩ from nW ad (by omega)] at hyc;obtain⟨y0,y1,y2,y3,y4,y5⟩:=iA hyc;dsimp only at y1 y2 y3 y4 y5;clear hyt hyc;go_wp2_with ((with_reducible refine is_store ?_);refine wpList_store_blk rfl 32 _ _ rfl (w.heap.size+1) (kX b YA yc) zF 32 rfl rfl HRX.o rfl (by kernel_rfl) (by simp[Value.oneCell']) ?_;intro w5 hk5 ho5;have HK5:=Hd hk5;have HO5:=Hd ho5;clear hk5 ho5);obtain⟨r0,r1,r2,r3,r4,r5⟩:=gH HK5.o;refine bodyPost_ret (v:=.agg (kX b YA yc)) (by simp[results,Tryz.results98,go_sem,r0,r1,r2,r3,r4,r5]) rfl ?_;have hbl:Below w.heap.size w w5:=HO5.o.belowB HBW.o (fun k hk=>by omega);rw[HE2.o];refine⟨_,rfl,?_,HD.o.below hbl,aK hbl _⟩;have hfin:=Trs.at.leave (HYT.o.off HO5.o (fun k hk e=>.inl (.inr ⟨by omega,by have:=HRX.o.lt;omega⟩)));exact hfin
 have hne:((x.l.length:Int)!=2)=true:=by simp;omega
 have HE:Hid (fV Γ sc x s=(SK,s.fail 121)):=Hd (by
  rw[HCH.o];split
  .next a b hab=>rw[hab] at hl;exact absurd rfl hl
  rfl)
 have HFA:=Hd (fZ Γ (W.priv w.heap.size W2.heap.size) s W2 (hF.priv hb2 (aA _)) (hD.priv hb2 _) 121 (by omega));clear hl hF hD hT hb2 hs2 hk1 hk2 hW2 hxl hx hΓ;go_enter Tryz.func98,Tryz.ntmps98;go_upto_region 1 with fail;rw[<-HW2.o];go_wp2_with fail;refine HFA.o.mono ?_;rintro e w3 ⟨cs,rfl,-,hd,ho⟩;have hr3:=HK2.o.only ho (fun h=>by have:=HLP.o _ h;omega);have HR3:=Hd hr3;have HD3:=Hd hd;have HO3:=Hd ho;obtain⟨e0,e1,e2,e3,e4,e5⟩:=gH hr3;clear hd ho hr3 b0 b1 b2 b3 b4 b5 d0 d1 d2 d3 d4 d5;go_wp2_with ((with_reducible refine is_store ?_);refine wpList_store_blk rfl 32 _ _ rfl (w.heap.size+1) zF zF 32 rfl rfl HR3.o rfl (by kernel_rfl) (by simp[Value.oneCell']) ?_;intro w5 hk5 ho5;have HK5:=Hd hk5;have HO5:=Hd ho5;clear hk5 ho5);obtain⟨r0,r1,r2,r3,r4,r5⟩:=gH HK5.o;refine bodyPost_ret (v:=.agg zF) (by simp[results,Tryz.results98,go_sem,r0,r1,r2,r3,r4,r5]) rfl ?_;rw[HE.o];refine⟨_,rfl,OM,(HD3.o.off HO5.o (fun k hk e=>?_)).leave,?_⟩
 .subst e;exact⟨.inr ⟨aU _ _,by have:=HS2.o;omega⟩,fun h=>by have:=HLP.o _ h;omega⟩
 exact((aK HB2.o W.F).F2 (W:=W) HO3.o).trans HO5.o (fun k hk e=>by omega)
