/- Part of the proof. -/
import Derived.Test.YtjmklmngikpeaaaGreatDoorEw8
set_option maxRecDepth 100000
set_option maxHeartbeats 16000000
set_option linter.unusedVariables false
set_option linter.unusedSimpArgs false
namespace Go.Proofs.YtjmklmngikpeaaaGreatDoor
open Go.RowKit Go.Maps
variable {Γ:Eg}{s:Es}{x:Ex}{b sc:Nat}{α:Type}{l:List α}
def Vh.wx (W:Vh) (X:Nat->Prop):Vh:={W with X:=X}
def Vh.also (W:Vh) (P:Nat->Prop):Vh:=W.wx (fun k=>W.X k∨P k)
section
variable {Γ:Eg} {W:Vh} {w w':World} {s:Es} {X P:Nat->Prop}
theorem Dv.gain (h:Dv Γ W s w) (ho:fP P w w') (hP:∀ k,k<w.heap.size->P k->W.X k/\¬W.F k) (hX:∀ k,W.S k->k<w.heap.size->¬X k):Dv Γ (W.wx X) s w':=by
 have h':=h.off ho hP;obtain⟨L,g,h3,h4,h5⟩:=h.kept;have h4':=h4.only ho (fun e=>(hP _ h4.lt e).2 (.inr (.inr rfl)));exact⟨h'.wk,h'.und,⟨L,g,h3,h4',fun p=>(h5 p).keep (fun q hq hs=>cell_only ho hq (fun e=>hs.2 (hP _ hq e).1)) (fun k hk hl=>⟨hk.1,hX k hk hl⟩)⟩,h.ok⟩
theorem Trs.at.gain {ts:List Tr} {cs:List Value} (h:Trs.at W.S w ts cs) (ho:fP P w w') (hP:∀ k,k<w.heap.size->P k->W.X k∨W.F k) (hX:∀ k,W.S k->k<w.heap.size->¬X k):Trs.at (W.wx X).S w' ts cs :=
 Trs.at.keep (fun q hq hs=>cell_only ho hq (fun e=>by
  rcases hP _ hq e with h1 | h1
  .exact hs.1.2 h1
  exact hs.1.1 h1)) (fun k hk=>⟨hk.1.1,hX k hk.1 hk.2⟩) _ _ (Trs.at.bound _ _ h)
theorem Ls.gain2 {sz c:Nat} {tr:α->List Tr} {A:Option Addr} (h:Ls W.S w sz b tr A c l) (ho:fP P w w') (hP:∀ k,k<w.heap.size->P k->W.X k∨W.F k) (hX:∀ k,W.S k->k<w.heap.size->¬X k):Ls (W.wx X).S w' sz b tr A c l :=
 (h.bound.only ho (fun k hk e=>by
   rcases hP k hk.2 e with h1 | h1
   .exact hk.1.2 h1
   exact hk.1.1 h1)).mono (fun k hk=>⟨hk.1.1,hX k hk.1 hk.2⟩)
theorem Fxv.gain (h:Fxv Γ W w) (ho:fP P w w') (hP:∀ k,k<w.heap.size->P k->W.X k∨W.F k) (hX:∀ k,W.S k->k<w.heap.size->¬X k) (hl:∀ k,X k->k<w'.heap.size) (hv:∀ k,X k->W.X k∨w.heap.size<=k):Fxv Γ (W.wx X) w':=by
 have h':=h.off ho hP;obtain⟨n,hi⟩:=h.ids;exact⟨h.n1,h.n2,h.n3,⟨h.ib.1,hX _ h.ib hi.lt⟩,hl,h.sc.gain2 ho hP hX,h.nd.gain2 ho hP hX,h.ps.gain2 ho hP hX,h.cs.gain2 ho hP hX,h'.on,fun ad e hn=>⟨(h.onb ad e hn).1,hX _ (h.onb ad e hn) (by
  have:=h.on;change W.EA=some ad at e;rw[e] at this;exact this.lt (by rw[cX];exact hn))⟩,h'.ids,by
  obtain⟨w0,v1,v2,v3⟩:=h.vo;obtain⟨w1,u1,u2,u3⟩:=h'.vo;have h2:Below w0.heap.size w0 w':=⟨ho.os.trans v2.os,ho.tape.trans v2.tape,ho.output.trans v2.output,bB v2.size ho.size,fun k hk=>(ho.block k (aO hk v2.size) (fun hp=>by
   have:=hP k (aO hk v2.size) hp;have:=v3 k (this.elim .inr .inl);omega)).trans (v2.block k hk)⟩
  exact⟨w0,v1,h2,fun k hk=>by
   rcases hk with hk | hk
   .exact v3 k (.inl hk)
   rcases hv k hk with h1 | h1
   .exact v3 k (.inr h1)
   have:=v2.size;omega⟩⟩
end
theorem info_va9:(Tryz.prog.info? 74).map (fun i=>(i.zero,i.size,i.bytes))=some (some (.agg zA),9,96):=by kernel_rfl
def IE (Γ:Eg) (W:Vh) (r:List Va × Es) (w:World) (e:Ending) (w':World):Prop:=∃ (A:Option Addr) (c:Nat),e=.returned (.slice A r.1.length c)/\Ls W.S w' 9 96 Va.tr A c r.1/\Dv Γ W r.2 w'/\fP W.F w w'
structure lC (Γ:Eg) (W:Vh) (w0:World) (vs:List Va) (s:Es) (A:Option Addr) (c:Nat) (w:World):Prop where
 own:∃ xs,Ow w w0.heap.size 74 9 A vs.length c xs/\Trs.at (W.also (fun k=>blk A=some k)).S w (vs.flatMap Va.tr) xs/\∀ u∈xs,u.oneCell'=true
 fx:Fxv Γ (W.also (fun k=>blk A=some k)) w
 dv:Dv Γ (W.also (fun k=>blk A=some k)) s w
 on:fP W.F w0 w
section
variable {Γ:Eg} {W:Vh} {w0 w w':World} {vs:List Va} {s t:Es} {A:Option Addr} {c:Nat}
theorem lC.nil (hF:Fxv Γ W w) (hD:Dv Γ W s w):lC Γ W w [] s none 0 w:=by
 have hX:∀ k,W.S k->k<w.heap.size->¬(W.X k∨blk none=some k):=fun k hk _ h=>h.elim hk.2 (fun h=>by simp[blk] at h)
 refine⟨⟨[],dF _ _ _ _,by simp[Trs.at],by simp⟩,?_,?_,bG _ _⟩
 .exact hF.gain (P:=fun _=>False) (bG _ _) (fun _ _ h=>h.elim) hX (fun k hk=>hk.elim (hF.xl k) (fun h=>by simp[blk] at h)) (fun k hk=>hk.elim .inl (fun h=>by simp[blk] at h))
 exact hD.gain (P:=fun _=>False) (bG _ _) (fun _ _ h=>h.elim) hX
theorem lC.lt (h:lC Γ W w0 vs s A c w) {k:Nat} (hk:blk A=some k):w0.heap.size<=k/\k<w.heap.size:=by
 obtain⟨xs,h1,_⟩:=h.own;exact h1.lt hk
theorem lC.low (h:lC Γ W w0 vs s A c w) {sz d:Nat} {tr:α->List Tr} {B:Option Addr} (hl:Ls (fun k=>W.S k/\k<w0.heap.size) w0 sz b tr B d l):Ls (W.also (fun k=>blk A=some k)).S w sz b tr B d l :=
 (hl.only h.on (fun k hk=>hk.1.1)).mono (fun k hk=>⟨hk.1.1,fun hx=>hx.elim hk.1.2 (fun hx=>by have:=(h.lt hx).1;have:=hk.2;omega)⟩)
theorem lC.go (h:lC Γ W w0 vs s A c w) (hd:Dv Γ (W.also (fun k=>blk A=some k)) t w') (ho:fP W.F w w') (hlt:∀ k,W.F k->k<w0.heap.size):lC Γ W w0 vs t A c w':=by
 obtain⟨xs,h1,h2,h3⟩:=h.own;refine⟨⟨xs,h1.only ho (fun g hg hf=>by have:=(h1.lt hg).1;have:=hlt g hf;omega),Trs.at.step h2 ho,h3⟩,h.fx.step ho,hd,h.on.F2 ho⟩
theorem lC.below (h:lC Γ W w0 vs s A c w) (hb:Below w.heap.size w w'):lC Γ W w0 vs s A c w':=by
 obtain⟨xs,h1,h2,h3⟩:=h.own;exact⟨⟨xs,h1.below hb,h2.below hb,h3⟩,h.fx.below hb,h.dv.below hb,h.on.F2 (W:=W) (aK hb _)⟩
theorem lC.fin (h:lC Γ W w0 vs s A c w):Dv Γ W s w:=by
 have h2:=h.dv.gain (P:=fun _=>False) (X:=W.X) (bG _ _) (fun _ _ h=>h.elim) (fun k hk _ hx=>hk.2 (.inl hx));exact h2
theorem lC.row (h:lC Γ W w0 vs s A c w) (hv:vs.length<=1000000) (hF:∀ k,W.F k->k<w0.heap.size) (hX:∀ k,W.X k->k<w0.heap.size):Ls W.S w 9 96 Va.tr A c vs:=by
 obtain⟨xs,h1,h2,h3⟩:=h.own;exact⟨by omega,by omega,h1.cap,h1.max,fun ad e hn=>by
  have:=(h1.lt (g:=ad.block) (by rw[e];rfl)).1;exact⟨fun hf=>by have:=hF _ hf;omega,fun hx=>by have:=hX _ hx;omega⟩,xs,h1.rd,h2.mono (fun k hk=>⟨hk.1,fun hx=>hk.2 (.inl hx)⟩)⟩
theorem lC.app (h:lC Γ W w0 vs s A c w) (hF:∀ k,W.F k->k<w0.heap.size) {v:Va} {xs ds:List Value} {A':Option Addr} {c':Nat} (hx:Trs.at (W.also (fun k=>blk A=some k)).S w (vs.flatMap Va.tr) xs) (h1:∀ u∈xs,u.oneCell'=true) (hd:Trs.at (W.also (fun k=>blk A=some k)).S w v.tr ds) (h2:∀ u∈ds,u.oneCell'=true)
 (ho:Ow w' w0.heap.size 74 9 A' (vs.length+1) c' (xs++ds)) (hg:w.grownBy w' (blk A)) (hat:A'=A∨A'=some ⟨w.heap.size,0,none⟩):lC Γ W w0 (vs++[v]) s A' c' w':=by
 have hog:fP (fun k=>some k=blk A) w w':=bX hg;have hPX:∀ k,k<w.heap.size->some k=blk A->(W.also (fun k=>blk A=some k)).X k/\¬(W.also (fun k=>blk A=some k)).F k:=fun k _ e=>⟨.inr e.symm,fun hf=>by have:=(h.lt e.symm).1;have:=hF k hf;omega⟩
 have hX:∀ k,(W.also (fun k=>blk A=some k)).S k->k<w.heap.size->¬(W.X k∨blk A'=some k):=fun k hk hl hq=>by
  rcases hq with hq | hq
  .exact hk.2 (.inl hq)
  rcases hat with rfl | rfl
  .exact hk.2 (.inr hq)
  simp[blk] at hq;omega
 have hon:fP W.F w0 w':=h.on.trans hog (fun k hk e=>by have:=(h.lt e.symm).1;omega);refine⟨⟨xs++ds,by simpa using ho,?_,fun u hu=>?_⟩,?_,?_,hon⟩
 .rw[bE];refine Trs.at.app.2 ⟨xs,ds,rfl,hx.gain hog (fun k hk e=>.inl (hPX k hk e).1) hX,?_⟩;rw[show [v].flatMap Va.tr=v.tr by simp];exact hd.gain hog (fun k hk e=>.inl (hPX k hk e).1) hX
 .rcases List.mem_append.1 hu with hu | hu
  .exact h1 u hu
  exact h2 u hu
 .refine h.fx.gain hog (fun k hk e=>.inl (hPX k hk e).1) hX (fun k hk=>?_) (fun k hk=>?_)
  .rcases hk with hk | hk
   .exact aO (h.fx.xl k (.inl hk)) hg.size
   exact(ho.lt hk).2
  rcases hk with hk | hk
  .exact .inl (.inl hk)
  rcases hat with rfl | rfl
  .exact .inl (.inr hk)
  simp[blk] at hk;omega
 exact h.dv.gain hog hPX hX
end
theorem partsF_cons (rec:sD) (sc:Nat) (x:Ex) (l:List Ex) (s:Es):partsF rec sc (x::l) s=(if (partK (rec sc x s)).e≠0 then ([],partK (rec sc x s)) else ((rec sc x s).1::(partsF rec sc l (partK (rec sc x s))).1,(partsF rec sc l (partK (rec sc x s))).2)):=rfl
def R1 (v:Va):Bool:=v.lst||(!v.unk&&(decide (v.v.kind≠3)&&decide (v.v.kind≠2)))
theorem JQ (v:Va) (t:Es):partK (v,t)=if t.e=0/\R1 v=true then t.fail 121 else t:=by
 unfold partK R1;simp
theorem sR (Γ:Eg) (hΓ:vC Γ) (n:Nat) (IH:BL Γ n) (W:Vh) (s:Es) (sc:Nat) (hsc:sc<Γ.G.sc.length) (l:List Ex) (A:Option Addr) (c:Nat) (w:World) (hm:∀ y∈l,oT Γ s y<=n) (hx:∀ y∈l,exOk y/\exTx y) (hll:l.length<=1000) (hF:Fxv Γ W w) (hD:Dv Γ W s w) (hl:Ls W.S w 6 88 Ex.tr A c l) :
 Calls Tryz.prog 97 #[.pointer (some ⟨W.wb,0,none⟩),.int .i64 (sc:Int),.slice A l.length c] w (IE Γ W (partsF (evF n Γ) sc l s) w):=by
 have hcap:=hl.cap;have HL:=Hd hl.bound;have HF:=Hd hF;have HD:=Hd hD;have HM:=Hd hm;have HX:=Hd hx;have HI:=Hd IH;have HΓ:=Hd hΓ;have HLP:Hid (∀ k,W.F k->k<w.heap.size):=Hd hD.lts;have HXL:Hid (∀ k,W.X k->k<w.heap.size):=Hd hF.xl;have h0:lC Γ W w [] s none 0 w:=lC.nil hF hD;have H0:=Hd h0;clear hl hF hD hm hx IH hΓ h0;go_enter Tryz.func97,Tryz.ntmps97;go_wp2_with fail;go_step3;go_wp2_with fail;go_step3;go_wp2_with fail;go_loopg [6,12] l.length (fun g out i wr=>∃ (j:Nat) (vs:List Va) (sj:Es) (R:Option Addr) (rc:Nat),j+g=l.length/\i=.int .i64 (j:Nat)/\out=.slice R j rc/\Hid (vs.length=j)/\Hid (lC Γ W w vs sj R rc wr)/\Hid (sj.und=s.und)/\Hid (partsF (evF n Γ) sc l s=(vs++(partsF (evF n Γ) sc (l.drop j) sj).1,(partsF (evF n Γ) sc (l.drop j) sj).2)))
 case atStart=>exact⟨0,[],s,none,0,by omega,rfl,rfl,Hd rfl,H0,Hd rfl,Hd (by simp)⟩
 obtain⟨j,vs,sj,R,rc,hj,rfl,rfl,HVJ,HP,HU,HQ⟩:=hrel;rename World=>wr
 cases gk with
 | zero =>
   have hjj:¬((j:Int)<(l.length:Int)):=by omega
   have HE:Hid (partsF (evF n Γ) sc l s=(vs,sj)):=Hd (by rw[HQ.o,aP (by omega)];simp[partsF]);go_wp2_with fail;refine bodyPost_ret (v:=.slice R j rc) (by simp[results,Tryz.results97,go_sem]) rfl ?_;rw[HE.o];exact⟨R,rc,by rw[HVJ.o],HP.o.row (by have:=HVJ.o;omega) HLP.o HXL.o,HP.o.fin,HP.o.on⟩
 | succ g =>
   have hjj:(j:Int)<(l.length:Int):=by omega
   have hji:(0:Int)<=(j:Int)/\(j:Int)<(l.length:Int):=by omega
   obtain⟨y,hy⟩:=fO (l:=l) (i:=j) (by omega);have hll:=HP.o.low HL.o;obtain⟨ad,ys,hA,hyt,hyc⟩:=hll.elem eB hy;subst hA;obtain⟨YA,yc,rfl,-⟩:=Ex.at_iff.1 hyt;obtain⟨y0,y1,y2,y3,y4,y5⟩:=iA hyc;have hmem:=aD hy;have hb1:Below wr.heap.size wr (wr.alloc (.cells (kX y YA yc) 32)):=(aB _ wr).alloc (aA _) _;have HP1:=Hd (HP.o.below hb1);have HC:=Hd (HI.o (W.also (fun k=>blk R=some k)) y sj sc (kX y YA yc).toList _ (by rw[xM HU.o];exact HM.o y hmem) hsc (HX.o y hmem).1 (HX.o y hmem).2 HP1.o.fx HP1.o.dv (hyt.below hb1));have HQ2:Hid (partsF (evF n Γ) sc l s=(vs++(partsF (evF n Γ) sc (y::l.drop (j+1)) sj).1,(partsF (evF n Γ) sc (y::l.drop (j+1)) sj).2)):=Hd (by rw[HQ.o,fS hy]);have HOK:=Hd (kL HΓ.out.s n sc y sj (HX.o y hmem).2 HP.o.dv.ok);obtain⟨rv,hrv⟩:∃ rv,rv=evF n Γ sc y sj:=⟨_,rfl⟩;obtain⟨v,t⟩:=rv;have HQ3:Hid (partsF (evF n Γ) sc l s=(if (partK (v,t)).e≠0 then (vs,partK (v,t)) else ((vs++[v])++(partsF (evF n Γ) sc (l.drop (j+1)) (partK (v,t))).1,(partsF (evF n Γ) sc (l.drop (j+1)) (partK (v,t))).2))):=Hd (by
    rw[HQ2.o,partsF_cons,<-hrv];split
    .simp
    simp)
   rw[<-hrv] at HC HOK;have HPK:=Hd (JQ v t);clear hll hyt hyc hy hmem hb1 HQ HQ2 hrv;go_wp2_with fail;refine HC.o.mono ?_;rintro e w3 ⟨ds,rfl,hdt0,hdv0,hdo⟩;have hdt:Trs.at (W.also (fun k=>blk R=some k)).S w3 v.tr ds:=hdt0;have hdv:Dv Γ (W.also (fun k=>blk R=some k)) t w3:=hdv0;clear hdt0 hdv0;obtain⟨VA,VB,vc,vd,rfl,-⟩:=fT hdt;have HP3:=Hd (HP1.o.go hdv hdo HLP.o);have HDT:=Hd hdt;clear hdt hdv hdo HC HP1 y0 y1 y2 y3 y4 y5;have hb4:Below w3.heap.size w3 (w3.alloc (.cells (kA v VA vc VB vd) 74)):=(aB _ w3).alloc (aA _) _;obtain⟨W4,hW4⟩:∃ W4,W4=w3.alloc (.cells (kA v VA vc VB vd) 74):=⟨_,rfl⟩;rw[<-hW4] at hb4;have hk4:Blk W4 w3.heap.size (kA v VA vc VB vd) 74:=by rw[hW4];exact aJ _ _ _
   obtain⟨f0,f1,f2,f3,f4,f5,f6,f7,f8⟩:=iY hk4;have HP4:=Hd (HP3.o.below hb4);have HDT4:=Hd (HDT.o.below hb4);have HK4:=Hd hk4;have HW4:=Hd hW4;have e9:W4.cell? ⟨W.wb,9,none⟩=some (.int .i64 (t.e:Int)):=HP4.o.dv.wk.cell 9 rfl;clear hb4 hW4 hk4;go_upto_region 5 with fail;rw[<-HW4.o];have HOWN:=Hd HP4.o.own;obtain⟨bad,hbad⟩:∃ bad,bad=R1 v:=⟨_,rfl⟩;have HBE:Hid (bad=(v.lst||(!v.unk&&(decide (v.v.kind≠3)&&decide (v.v.kind≠2))))):=Hd hbad;rw[<-hbad] at HPK;clear hbad;by_cases he:t.e=0
   .rw[he] at e9;go_cut [45] from 20 to 45 (fun cx wx=>cx=.bool bad/\wx=W4)
    case first =>
     rcases bD v.lst with q1 | q1
     .rw[q1] at f1;have hB:=HBE.o;rw[q1] at hB;clear q1;go_wp2_with fail;go_meet;exact⟨by rw[hB];rfl,rfl⟩
     rw[q1] at f1;have hB:=HBE.o;rw[q1] at hB;clear q1;rcases bD v.unk with q2 | q2
     .rw[q2] at f0 hB;clear q2;go_wp2_with fail;go_meet;exact⟨by rw[hB];rfl,rfl⟩
     rw[q2] at f0 hB;clear q2;by_cases q3:v.v.kind=3
     .rw[q3] at f2 hB;clear q3;go_wp2_with fail;go_meet;exact⟨by rw[hB];rfl,rfl⟩
     have q33:(v.v.kind !=3)=true:=by simpa using q3
     by_cases q4:v.v.kind=2
     .rw[q4] at f2 hB;clear q3 q33 q4;go_wp2_with fail;go_meet;exact⟨by rw[hB];rfl,rfl⟩
     have q44:(v.v.kind !=2)=true:=by simpa using q4
     have hB2:bad=true:=by rw[hB];simp[q3,q4]
     clear q3 q4 hB;go_wp2_with fail;go_meet;exact⟨by rw[hB2],rfl⟩
    obtain⟨rfl,rfl⟩:=hcut;rename World=>W4
    cases bad with
    | true =>
      have HPE:Hid (partK (v,t)=t.fail 121):=Hd (by rw[HPK.o,if_pos ⟨he,rfl⟩]);have HE:Hid (partsF (evF n Γ) sc l s=(vs,t.fail 121)):=Hd (by rw[HQ3.o,HPE.o,if_pos (by rw[jP he];decide)]);have HFA:=Hd (fZ Γ (W.also (fun k=>blk R=some k)) t W4 HP4.o.fx HP4.o.dv 121 (by omega));clear HQ3 HPK HBE f0 f1 f2 f3 f4 f5 f6 f7 f8 e9;go_wp2_with fail;refine HFA.o.mono ?_;rintro e w5 ⟨gs,rfl,-,hd,ho⟩;have HP5:=Hd (HP4.o.go hd ho HLP.o);have e9:w5.cell? ⟨W.wb,9,none⟩=some (.int .i64 121):=by
       have:=HP5.o.dv.wk.cell 9 rfl;rw[jP he] at this;exact this
      clear hd ho he;go_wp2_with fail;refine bodyPost_ret (v:=.slice R j rc) (by simp[results,Tryz.results97,go_sem]) rfl ?_;rw[HE.o];exact⟨R,rc,by rw[HVJ.o],HP5.o.row (by have:=HVJ.o;omega) HLP.o HXL.o,HP5.o.fin,HP5.o.on⟩
    | false =>
      have HPE:Hid (partK (v,t)=t):=Hd (by rw[HPK.o,if_neg (by simp)]);have HQ4:Hid (partsF (evF n Γ) sc l s=((vs++[v])++(partsF (evF n Γ) sc (l.drop (j+1)) t).1,(partsF (evF n Γ) sc (l.drop (j+1)) t).2)):=Hd (by rw[HQ3.o,HPE.o,gT he]);have HU2:Hid (t.und=s.und):=Hd (HOK.o.2.2.trans HU.o);obtain⟨xs,how,hxt,hx1⟩:=HOWN.o;rw[HVJ.o] at how;have HOW:=Hd how;have HXT:=Hd hxt;have HX1:=Hd hx1;have HP5:=Hd (HP4.o.below ((aB _ W4).alloc (aA _) (.cells (kA v VA vc VB vd) 74)));have hjl:j+1<=1000:=by omega
      have HWS:Hid (w.heap.size<=W4.heap.size):=Hd HP4.o.on.size;clear HQ3 HPK HBE how hxt hx1 he;go_wp2_with (at_builtin;refine wpList_row info_va9 Tryz.underlying163 rfl (by omega) rfl (.tmp 53) (.tmp 55) rfl w.heap.size R rc j xs (by rfl) (HOW.o.alloc (.cells (kA v VA vc VB vd) 74)) (some ⟨W4.heap.size,0,none⟩) 1 1 (kA v VA vc VB vd).toList (by rfl) (cQ W4 9 1 (kA v VA vc VB vd) 74 (0,0) rfl (by simp[maxLen])) (by simp[Value.oneCell']) (by omega) (by omega) (by have:=HWS.o;simp;omega) ?_;intro A2 c2 w6 ho2 hg2 hat2;have HO2:=Hd ho2;have HG2:=Hd hg2;have HAT:=Hd hat2;clear ho2 hg2 hat2);go_roundg g
      case measure=>omega
      case rel =>
       have hw5:(W4.alloc (.cells (kA v VA vc VB vd) 74)).heap.size=W4.heap.size+1:=by simp
       refine⟨j+1,vs++[v],t,A2,c2,by omega,by go_num,rfl,Hd (by simp[HVJ.o]),Hd ?_,HU2,HQ4⟩;refine HP5.o.app HLP.o (HXT.o.below ((aB _ W4).alloc (aA _) _)) HX1.o (HDT4.o.below ((aB _ W4).alloc (aA _) _)) (by simp[Value.oneCell']) (by rw[HVJ.o];exact HO2.o) HG2.o ?_;exact HAT.o
   have hne:((t.e:Int)==0)=false:=by simpa using he
   have hne2:((t.e:Int)!=0)=true:=by simpa using he
   have HPE:Hid (partK (v,t)=t):=Hd (by rw[HPK.o,if_neg (fun h=>he h.1)]);have HE:Hid (partsF (evF n Γ) sc l s=(vs,t)):=Hd (by rw[HQ3.o,HPE.o,if_er he]);have HP5:=HP4;clear HQ3 HPK HBE he;go_wp2_with fail;refine bodyPost_ret (v:=.slice R j rc) (by simp[results,Tryz.results97,go_sem]) rfl ?_;rw[HE.o];exact⟨R,rc,by rw[HVJ.o],HP5.o.row (by have:=HVJ.o;omega) HLP.o HXL.o,HP5.o.fin,HP5.o.on⟩
theorem uJ {Γ:Eg} {sc:Nat} {x:Ex} {s:Es} (h:¬(s.e=0/\x.kind=6)):∀ k,gN Γ sc k x s=(x,s)
 | 0=>rfl
 | k+1=>by unfold gN;rw[if_neg h]
theorem rQ:(fV Γ sc x s).1∈x.l∨(fV Γ sc x s).2.e≠0:=by
 unfold fV;split
 .next a b h =>
  left;rw[h];split<;>simp
 exact .inr (es_fail (by decide))
theorem RO:exOk SK:=.mk (by decide) (by decide) (by decide) (fun y hy=>by cases hy)
theorem uQ (h:exOk x):exOk (fV Γ sc x s).1:=by
 unfold fV;split
 .next a b hl =>
  have ha:=h.sub (y:=a) (by rw[hl];simp);have hb:=h.sub (y:=b) (by rw[hl];simp);split
  .exact hb
  .exact ha
  exact hb
 exact RO
theorem Q6 {t:Es} {y:Ex} {n:Nat} (h:oT Γ s x<=n+1) (hy:SizeOf.sizeOf y<SizeOf.sizeOf x) (ht:t.und=s.und):oT Γ t y<=n:=by
 rw[xM ht];unfold oT at h ⊢;omega
structure UY (Γ:Eg) (W:Vh) (w0:World) (sc:Nat) (x0:Ex) (s0:Es) (k:Nat) (y:Ex) (s:Es) (YA:Option Addr) (yc:Nat) (w:World):Prop where
 bx:Blk w w0.heap.size (kX y YA yc) 32
 tr:Trs.at (W.priv w0.heap.size (w0.heap.size+1)).S w y.tr (kX y YA yc).toList
 fx:Fxv Γ (W.priv w0.heap.size (w0.heap.size+1)) w
 dv:Dv Γ (W.priv w0.heap.size (w0.heap.size+1)) s w
 on:fP W.F w0 w
 un:s.und=s0.und
 ok:exOk y/\exTx y
 sz:s.e=0->SizeOf.sizeOf y<=SizeOf.sizeOf x0
 eq:gN Γ sc (SizeOf.sizeOf x0) x0 s0=gN Γ sc k y s
 fu:SizeOf.sizeOf y<=k∨s.e≠0
theorem oL (Γ:Eg) (hΓ:vC Γ) (n:Nat) (IH:BL Γ n) (W:Vh) (s:Es) (sc:Nat) (hsc:sc<Γ.G.sc.length) (x:Ex) (cs:List Value) (w:World) (hm:oT Γ s x<=n+1) (hx:exOk x/\exTx x) (hF:Fxv Γ W w) (hD:Dv Γ W s w) (hT:Trs.at W.S w x.tr cs) :
 Calls Tryz.prog 89 #[.pointer (some ⟨W.wb,0,none⟩),.int .i64 (sc:Int),.agg cs.toArray] w (IE Γ W (elemsF (evF n Γ) Γ sc x s) w):=by
 obtain⟨XA,xc,rfl,-,-,-,-,-,-⟩:=Ex.at_iff.1 hT;have hb1:Below w.heap.size w (w.alloc (.cells (kX x XA xc) 32)):=(aB _ w).alloc (aA _) _;have H0:Hid (UY Γ W w sc x s (SizeOf.sizeOf x) x s XA xc (w.alloc (.cells (kX x XA xc) 32))):=Hd ⟨aJ _ _ _,hT.priv hb1 _,hF.priv hb1 (by simp),hD.priv hb1 _,aK hb1 _,rfl,hx,fun _=>aA _,rfl,.inl (aA _)⟩;have HF:=Hd hF;have HM:=Hd hm;have HI:=Hd IH;have HΓ:=Hd hΓ;have HLP:Hid (∀ k,W.F k->k<w.heap.size):=Hd hD.lts;have HEF:Hid (elemsF (evF n Γ) Γ sc x s=(if (iC (gN Γ sc (SizeOf.sizeOf x) x s)).e≠0 then ([],iC (gN Γ sc (SizeOf.sizeOf x) x s)) else partsF (evF n Γ) sc (gN Γ sc (SizeOf.sizeOf x) x s).1.l (iC (gN Γ sc (SizeOf.sizeOf x) x s)))):=Hd rfl;clear hT hm hx hF hD IH hΓ hb1;go_enter Tryz.func89,Tryz.ntmps89;go_wp2_with fail;go_loopg [20] (SizeOf.sizeOf x+1) (fun g out wr=>∃ (k:Nat) (y:Ex) (t:Es) (YA:Option Addr) (yc:Nat),g=k+1/\Hid (UY Γ W w sc x s k y t YA yc wr))
 case atStart=>exact⟨_,x,s,XA,xc,rfl,H0⟩
 obtain⟨k,y,t,YA,yc,hg,HP⟩:=hrel;rename World=>wr
 cases gk with
 | zero=>omega
 | succ g =>
   have hgk:g=k:=by omega
   subst hgk;obtain⟨y0,y1,y2,y3,y4,y5⟩:=gH HP.o.bx;have e9:wr.cell? ⟨W.wb,9,none⟩=some (.int .i64 (t.e:Int)):=HP.o.dv.wk.cell 9 rfl;by_cases he:t.e=0
   .rw[he] at e9;by_cases hk:y.kind=6
    .rw[hk] at y0;have hch:=rD Γ (W.priv w.heap.size (w.heap.size+1)) t wr HΓ.out HP.o.fx HP.o.dv sc hsc y _ HP.o.ok.1 HP.o.tr;unfold kX at hch;rw[show (Value.int .i8 y.kind)=.int .i8 6 by rw[hk]] at hch;have HCH:=Hd hch;have HBX:Hid (Blk wr w.heap.size #[.int .i8 6,.string y.text,.int .i64 y.num,.string y.name,.string y.attr,.slice YA y.l.length yc] 32):=Hd (by have:=HP.o.bx;unfold kX at this;rw[hk] at this;exact this);have HSB:Hid ((fV Γ sc y t).1∈y.l∨(fV Γ sc y t).2.e≠0):=Hd rQ;have HCO:=Hd (mH (Γ:=Γ) sc HP.o.ok.2 HP.o.dv.ok);have HCX:Hid (exOk (fV Γ sc y t).1):=Hd (uQ HP.o.ok.1);have hsz1:SizeOf.sizeOf y<=g:=HP.o.fu.elim (fun h=>h) (fun h=>absurd he h);have hsz2:0<SizeOf.sizeOf y:=by cases y;simp only[Ex.mk.sizeOf_spec];omega
     obtain⟨k',rfl⟩:∃ k',g=k'+1:=⟨g-1,by omega⟩;have HEQ:Hid (gN Γ sc (k'+1) y t=gN Γ sc k' (fV Γ sc y t).1 (fV Γ sc y t).2):=Hd (by conv=>lhs;unfold gN;rw[if_pos ⟨he,hk⟩]);have HSZ:=Hd hsz1;have HE0:=Hd he;obtain⟨zt,hzt0⟩:∃ zt,zt=fV Γ sc y t:=⟨_,rfl⟩;obtain⟨z,t2⟩:=zt;rw[<-hzt0] at HCH HSB HCO HCX HEQ;clear hch hsz1 hsz2 he hk hzt0 hg;go_wp2_with fail;refine HCH.o.mono ?_;rintro e w3 ⟨ds,rfl,hzt,hzd0,hzo⟩;have hzd:Dv Γ (W.priv w.heap.size (w.heap.size+1)) t2 w3:=hzd0;have hzt2:Trs.at (W.priv w.heap.size (w.heap.size+1)).S w3 z.tr ds:=hzt;obtain⟨ZA,zc,rfl,-⟩:=Ex.at_iff.1 hzt2;have HZT:=Hd hzt2;have HZD:=Hd hzd;have HZO:=Hd hzo;have hfb:¬W.F w.heap.size:=fun h=>by have:=HLP.o _ h;omega
     have HB3:=Hd (HBX.o.only hzo hfb);clear hzt hzd0 hzo hzd hzt2 y0 y1 y2 y3 y4 y5 e9 HCH;go_wp2_with ((with_reducible refine is_store ?_);refine wpList_store_blk rfl 32 _ _ rfl w.heap.size (kX z ZA zc) #[.int .i8 6,.string y.text,.int .i64 y.num,.string y.name,.string y.attr,.slice YA y.l.length yc] 32 rfl rfl HB3.o rfl (by kernel_rfl) (by simp[Value.oneCell']) ?_;intro w5 hk5 ho5;have HK5:=Hd hk5;have HO5:=Hd ho5;clear hk5 ho5);go_roundg (k'+1)
     case measure=>omega
     case rel =>
      have hpv:∀ k,k=w.heap.size->(W.priv w.heap.size (w.heap.size+1)).X k/\¬(W.priv w.heap.size (w.heap.size+1)).F k:=fun k e=>by
       subst e;exact⟨.inr ⟨aA _,Nat.lt_succ_self _⟩,fun h=>by have:=HLP.o _ h;omega⟩
      refine⟨k',z,t2,ZA,zc,rfl,Hd ⟨HK5.o,HZT.o.off HO5.o (fun k _ e=>.inl (hpv k e).1),(HP.o.fx.step HZO.o).off HO5.o (fun k _ e=>.inl (hpv k e).1),HZD.o.off HO5.o (fun k _ e=>hpv k e),(HP.o.on.F2 (W:=W) HZO.o).trans HO5.o (fun k hk e=>by omega),HCO.o.2.2.trans HP.o.un,⟨HCX.o,HCO.o.1⟩,fun h0=>?_,HP.o.eq.trans HEQ.o,?_⟩⟩
      .rcases HSB.o with h | h
       .have:=pK h;have:=HP.o.sz HE0.o;omega
       exact absurd h0 h
      rcases HSB.o with h | h
      .have:=pK h;have:=HSZ.o;exact .inl (by omega)
      exact .inr h
    have hk6:(y.kind==6)=false:=by simpa using hk
    have HEE:Hid (gN Γ sc (SizeOf.sizeOf x) x s=(y,t)):=Hd (HP.o.eq.trans (uJ (fun h=>hk h.2) g));by_cases hk2:y.kind=2
    .have HEK:Hid (elemsF (evF n Γ) Γ sc x s=partsF (evF n Γ) sc y.l t):=Hd (by
      rw[HEF.o,HEE.o]
      have h1:iC (y,t)=t:=by unfold iC;rw[if_neg (fun h=>h.2 hk2)]
      rw[h1,gT he])
     have hcell:Trs.at W.S wr y.tr (kX y YA yc).toList:=HP.o.tr.leave;obtain⟨_,_,hcs,-,-,-,-,-,hyl⟩:=Ex.at_iff.1 hcell;injection hcs with _ hcs;injection hcs with _ hcs;injection hcs with _ hcs;injection hcs with _ hcs;injection hcs with _ hcs;injection hcs with hcs _;injection hcs with hc1 _ hc2;subst hc1 hc2;have HPA:=Hd (sR Γ HΓ.out n HI.o W t sc hsc y.l YA yc wr (fun q hq=>Q6 HM.o (by have:=pK hq;have:=HP.o.sz he;omega) HP.o.un) (fun q hq=>⟨HP.o.ok.1.sub hq,HP.o.ok.2.sub hq⟩) HP.o.ok.2.sz.2 (HF.o.step HP.o.on) HP.o.dv.leave hyl);rw[hk2] at y0;clear he hk hk2 HEF HEE hcell hyl;go_wp2_with fail;refine HPA.o.mono ?_;rintro e w3 ⟨RA,rc,rfl,hrl,hrd,hro⟩;have HRL:=Hd hrl;have HRD:=Hd hrd;have HRO:=Hd hro;clear hrl hrd hro y0 y1 y2 y3 y4 y5 e9;go_wp2_with fail;refine bodyPost_ret (v:=.slice RA (partsF (evF n Γ) sc y.l t).1.length rc) (by simp[results,Tryz.results89,go_sem]) rfl ?_;rw[HEK.o];exact⟨RA,rc,rfl,HRL.o,HRD.o,HP.o.on.F2 (W:=W) HRO.o⟩
    have hk22:(y.kind !=2)=true:=by simpa using hk2
    have HEK:Hid (elemsF (evF n Γ) Γ sc x s=([],t.fail 121)):=Hd (by
     rw[HEF.o,HEE.o];have h1:iC (y,t)=t.fail 121:=by unfold iC;rw[if_pos ⟨he,hk2⟩]
     rw[h1,if_er (es_fail (by decide))])
    have HFA:=Hd (fZ Γ W t wr (HF.o.step HP.o.on) HP.o.dv.leave 121 (by omega));have HT0:Hid ((t.fail 121).e=121):=Hd (jP he);clear he hk hk2 HEF HEE;go_wp2_with fail;refine HFA.o.mono ?_;rintro e w3 ⟨gs,rfl,-,hd,ho⟩;have e9':w3.cell? ⟨W.wb,9,none⟩=some (.int .i64 121):=by
     have:=hd.wk.cell 9 rfl;rw[HT0.o] at this;exact this
    have HD3:=Hd hd;have HO3:=Hd ho;clear hd ho y0 y1 y2 y3 y4 y5 e9;go_wp2_with fail;refine bodyPost_ret (v:=.slice none 0 0) (by simp[results,Tryz.results89,go_sem]) rfl ?_;rw[HEK.o];exact⟨none,0,rfl,cF _ _ _ _ (by omega) _,HD3.o,HP.o.on.F2 (W:=W) HO3.o⟩
   have hne:((t.e:Int)==0)=false:=by simpa using he
   have hne2:((t.e:Int)!=0)=true:=by simpa using he
   have HEE:Hid (gN Γ sc (SizeOf.sizeOf x) x s=(y,t)):=Hd (HP.o.eq.trans (uJ (fun h=>he h.1) g));have HEK:Hid (elemsF (evF n Γ) Γ sc x s=([],t)):=Hd (by
    rw[HEF.o,HEE.o];have h1:iC (y,t)=t:=by unfold iC;rw[if_neg (fun h=>he h.1)]
    rw[h1,if_er he])
   clear he HEF HEE;go_wp2_with fail;refine bodyPost_ret (v:=.slice none 0 0) (by simp[results,Tryz.results89,go_sem]) rfl ?_;rw[HEK.o];exact⟨none,0,rfl,cF _ _ _ _ (by omega) _,HP.o.dv.leave,HP.o.on⟩
