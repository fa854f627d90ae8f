/- Part of the proof. -/
import Derived.Test.YtjmklmngikpeaaaGreatDoorDfA
set_option maxRecDepth 100000
set_option maxHeartbeats 8000000
set_option linter.unusedVariables false
set_option linter.unusedSimpArgs false
namespace Go.Proofs.YtjmklmngikpeaaaGreatDoor
open Go.RowKit
variable {ad:Addr}{g:Gd}{es gs l:List Gd}{B b c i j n q z:Nat}{F S:Nat->Prop}{A:Option Addr}{r:Rs}{e:TypeId}{c0 c1:Value}{w:World}
theorem SN {t:TypeId} (h:Blk w q #[c0,c1] t):w.cell? ⟨q,0,none⟩=some c0/\w.cell? ⟨q,1,none⟩=some c1:=⟨h.cell 0 rfl,h.cell 1 rfl⟩
theorem gd_one {S:Nat->Prop} {w:World}:∀ {l:List Gd} {vs:List Value},Trs.at S w (l.flatMap Gd.tr) vs->∀ u∈vs,u.oneCell'=true
 | [],vs,h=>by obtain rfl:=gJ.1 h;intro u hu;cases hu
 | g::l,vs,h=>by
   rw[aW] at h;obtain⟨a,b,rfl,h1,h2⟩:=Trs.at.app.1 h;obtain⟨_,rfl,h3,h1⟩:=fQ.1 h1;obtain⟨_,rfl,h4,h1⟩:=fQ.1 h1;obtain rfl:=gJ.1 h1;intro u hu;rcases List.mem_append.1 hu with hu | hu
   .simp at hu;rcases hu with rfl | rfl<;>rfl
   exact gd_one h2 u hu
def cGz (l:List Gd):List Value:=l.flatMap fun g=>[.int .i64 g.scope,.string g.name]
theorem uC {S:Nat->Prop} {w:World}:∀ {l:List Gd} {vs:List Value},Trs.at S w (l.flatMap Gd.tr) vs->vs=cGz l
 | [],vs,h=>by obtain rfl:=gJ.1 h;rfl
 | g::l,vs,h=>by
   rw[aW] at h;obtain⟨a,b,rfl,h1,h2⟩:=Trs.at.app.1 h;obtain⟨_,rfl,h3,h1⟩:=fQ.1 h1;obtain⟨_,rfl,h4,h1⟩:=fQ.1 h1;obtain rfl:=gJ.1 h1;rw[uC h2];rfl
theorem KT {S:Nat->Prop} {w:World} {n:Nat} (hn:n<=1000000):∀ {l:List Gd},(∀ g∈l,qC n g)->Trs.at S w (l.flatMap Gd.tr) (cGz l)
 | [],h=>gJ.2 rfl
 | g::l,h=>by
   have h1:=h g (.head _);unfold qC at h1;rw[aW,cGz,aW];exact Trs.at.app.2 ⟨_,_,rfl,fQ.2 ⟨_,rfl,by simp[mD,Lit.wf,IntKind.min,IntKind.max,IntKind.bits,IntKind.signed];omega,fQ.2 ⟨_,rfl,by show g.name.size<=9007199254740992;omega,gJ.2 rfl⟩⟩,KT hn fun g hg=>h g (.tail _ hg)⟩
def gZ (z:Nat) (gs:List Gd) (r:Rs):List Gd:=if fW r.cond ByteArray.empty then gs else gs++[⟨z,r.cond⟩]
def eT (z:Nat) (es:List Gd) (r:Rs) (j:Nat):List Gd:=es++(r.depends.take j).map fun d=>⟨z,d⟩
theorem RT (h:j<=r.depends.length):(eT z es r j).length=es.length+j:=by unfold eT;simp;omega
theorem OO {d:ByteArray} (h:r.depends[j]?=some d):eT z es r (j+1)=eT z es r j++[⟨z,d⟩]:=by
 unfold eT;rw[aT,h];simp
theorem OH (z:Nat) (gs:List Gd) (r:Rs):(gZ z gs r).length<=gs.length+(if fW r.cond ByteArray.empty=true then 0 else 1):=by unfold gZ;split<;>simp
theorem KU (z:Nat) (gs:List Gd) (r:Rs):(gZ z gs r).length<=gs.length+1:=by unfold gZ;split<;>simp
theorem wK {w':World} (h:w.grownBy w' (blk none)):Below w.heap.size w w':=(aB _ w).grown h (aA _) (fun k hk=>by cases hk)
theorem qC.le {m:Nat} (h:qC n g) (hnm:n<=m):qC m g:=⟨h.1,h.2.1,by have:=h.2.2;omega⟩
theorem RJ (h:∀ g∈gs,qC n g) (hz:z<n) (hr:rZ r):∀ g∈gZ z gs r,qC n g:=by
 intro g hg;unfold gZ at hg;split at hg
 .exact h g hg
 rcases List.mem_append.1 hg with hg | hg
 .exact h g hg
 rw[aR] at hg;subst hg;have:=hr.1;exact⟨by show r.cond.size<=3000000000000000;omega,by show (0:Int)<=(z:Int);omega,by show (z:Int)<_;omega⟩
theorem RU (h:∀ g∈es,qC n g) (hz:z<n) (hr:rZ r):∀ g∈eT z es r j,qC n g:=by
 intro g hg;unfold eT at hg;rcases List.mem_append.1 hg with hg | hg
 .exact h g hg
 obtain⟨d,hd,rfl⟩:=List.mem_map.1 hg;have:=hr.2.2 d (List.mem_of_mem_take hd);exact⟨by show d.size<=3000000000000000;omega,by show (0:Int)<=(z:Int);omega,by show (z:Int)<_;omega⟩
theorem PP (ho:Ow w b e 2 A l.length c (cGz l)) (hBb:B<=b) (hF:∀ k,b<=k->¬F k) (hf:∀ g∈l,qC n g) (hn:n<=1000000) (hl:l.length<=1000):Ls (Sf B F w) w 2 24 Gd.tr A c l:=by
 have hr:=ho.rd;exact⟨by omega,by omega,hr.cap,hr.max,fun ad e _=>⟨hF _ (ho.blk_lt ad e).1,(ho.blk_lt ad e).2,by have:=(ho.blk_lt ad e).1;omega⟩,cGz l,hr,KT hn hf⟩
theorem FU {KS:Sc->Prop} {KN:Nd->Prop} {k dp z0:Nat} {pre:ByteArray} {t:Tm} (hI:∀ k',k=k'+1->MM KS KN B q k') (hZ:IC KS KN k dp z0 pre t) (hd:xR k t=true) (hr:r∈t.res) (hs:r.type=mB) (hkd:k+dp<=4) :
 ∃ (τ:Tm) (k':Nat),r.inner=[τ]/\MM KS KN B q k'/\(∀ z':Nat,IC KS KN k' (dp+1) z' (pre++r.id++oJ) τ)/\xR k' τ=true/\k'+(dp+1)<=4/\(∀ z pre,pre.size<=6000000000000000->KS ⟨z,pre,jK τ,r.props⟩)/\∀ a,cnOne (xX k) a r=(a.1+(lF k' τ).1,a.2+(lF k' τ).2):=by
 rw[DG,fB] at hd;have h1:=hd r hr;unfold jU at h1;rw[if_pos (bEq_iff.2 hs)] at h1;cases hin:r.inner with
 | nil=>rw[hin] at h1;cases h1
 | cons τ l =>
   cases l with
   | cons _ _=>rw[hin] at h1;cases h1
   | nil =>
     rw[hin] at h1;simp only[bJ,decide_eq_true_eq] at h1;cases k with
     | zero=>exact absurd rfl h1.1
     | succ k' =>
       have h2:=hZ.inner hr (τ:=τ) (by rw[hin];simp);exact⟨τ,k',rfl,hI k' rfl,h2.2,h1.2,by omega,h2.1,fun a=>by unfold cnOne;rw[if_pos (bEq_iff.2 hs),hin];rfl⟩
theorem FV {f:Tm->Nat × Nat} (hs:r.type≠mB) (a:Nat × Nat):cnOne f a r=(a.1+1,a.2):=by unfold cnOne;rw[if_neg (by rw[bEq_ne hs];simp)]
theorem QZ {id:ByteArray} {z:Int} {rcs:List Value} {G:Option Addr} {gc:Nat} {af:List ByteArray} {ac:Nat} (hid:id.size<=3000000000000000) (hz:0<=z/\z<=1000000) (hr:Trs.at S w r.tr rcs) (hg:Ls S w 2 24 Gd.tr G gc gs) (ha:Ss S w A ac af) :
 Trs.at S w (Nd.tr ⟨id,z,r,gs,af⟩) (.string id::.int .i64 z::(rcs++[.slice G gs.length gc,.slice A af.length ac])):=by
 unfold Nd.tr;refine fQ.2 ⟨_,rfl,by show id.size<=_;omega,fQ.2 ⟨_,rfl,by simp[mD,Lit.wf,IntKind.min,IntKind.max,IntKind.bits,IntKind.signed];omega,Trs.at.app.2 ⟨_,_,rfl,hr,gL.2 ⟨_,_,_,rfl,hg,oW.2 ⟨A,ac,[],rfl,ha,gJ.2 rfl⟩⟩⟩⟩⟩
theorem I0 {l:List ByteArray} (ho:Ow w b e 1 A l.length c (l.map .string)) (hBb:B<=b) (hF:∀ k,b<=k->¬F k) (hs:∀ d∈l,d.size<=9000000000000000) (hl:l.length<=100000):Ss (Sf B F w) w A c l :=
 Ls.mk_strs ho.rd (by omega) (fun d hd=>by have:=hs d hd;omega) (fun ad e _=>⟨hF _ (ho.blk_lt ad e).1,(ho.blk_lt ad e).2,by have:=(ho.blk_lt ad e).1;omega⟩)
theorem S8 {a:Addr} (h:i7 w a [c0,c1]):w.cell? a=some c0/\w.cell? ⟨a.block,a.off+1,none⟩=some c1:=⟨h 0 _ rfl,h 1 _ rfl⟩
theorem PQ (h:Ls S w 2 24 Gd.tr A c l) (hg:l[i]?=some g):∃ ad,A=some ad/\w.cell? (ad.add (i*2))=some (.int .i64 g.scope)/\w.cell? ⟨(ad.add (i*2)).block,(ad.add (i*2)).off+1,none⟩=some (.string g.name):=by
 obtain⟨ad,cs,hA,htr,hc⟩:=h.elem Gd.trlen hg;unfold Gd.tr at htr;obtain⟨_,rfl,h3,h1⟩:=fQ.1 htr;obtain⟨_,rfl,h4,h1⟩:=fQ.1 h1;obtain rfl:=gJ.1 h1;exact⟨ad,hA,S8 hc⟩
theorem RH (h:Ls S w 2 24 Gd.tr (some ad) c l) (hg:l[i]?=some g):w.cell? (ad.add (i*2))=some (.int .i64 g.scope)/\w.cell? ⟨(ad.add (i*2)).block,(ad.add (i*2)).off+1,none⟩=some (.string g.name):=by
 obtain⟨ad',h1,h2,h3⟩:=PQ h hg;injection h1 with h1;subst h1;exact⟨h2,h3⟩
theorem Bz.preAt {R:Rz} {sc:List Sc} {nd:List Nd} (h:Bz B w q R sc nd) (hA:R.A1=some ad) {c:Sc} (hc:sc[i]?=some c):w.cell? ⟨(ad.add (i*7)).block,(ad.add (i*7)).off+1,none⟩=some (.string c.pre):=by
 obtain⟨ad',h1,h2,h3⟩:=h.pre hc;rw[hA] at h1;injection h1 with h1;subst h1;exact h2
theorem put_step2 (KS:Sc->Prop) (KN:Nd->Prop) (B q k:Nat) (hI:∀ k',k=k'+1->MM KS KN B q k'):MM KS KN B q k:=by
 intro dp t cs z zc G gc gs E ec es R sc nd w hkd hZ hdp hb2 hb1 hB htr hc0 hpre hpres hgl hgf hel hef hG hE;obtain⟨A,a,Bq,b,C,c,D,d,rfl,h1,h2,h3,h4⟩:=Tm.at_iff.1 htr;have hcap:=h3.cap;have hmax:=h3.max;unfold maxLen at hmax;have hrl:=hZ.res.1;obtain⟨W1,hW1⟩:∃ W1,W1=w.alloc (.cells (kT t A a Bq b C c D d) 27):=⟨_,rfl⟩;have hbw:Below w.heap.size w W1:=by rw[hW1];exact(aB _ w).alloc (aA _) _
 have hbk:Blk W1 w.heap.size (kT t A a Bq b C c D d) 27:=by rw[hW1];exact aJ w _ _
 have hsz1:W1.heap.size=w.heap.size+1:=by rw[hW1];simp
 have HZ:=Hd hZ;have HI:=Hd hI;have HE0:=Hd (LP k t);have HDP:=Hd hdp;have HB:=Hd (hB.below hbw);have HBW:=Hd hbw;have HBK:=Hd hbk;have HW1:=Hd hW1;have H3:=Hd (h3.go (bL (F:=R.mu q) hbw));have HG:=Hd (hG.go (bL (F:=R.mu q) hbw));have HE:=Hd (hE.go (bL (F:=R.mu q) hbw));have HC0:=Hd hc0;have HPS:=Hd hpres;have HGF:=Hd hgf;have HEF:=Hd hef;have HNB:Hid (¬R.mu q w.heap.size):=Hd (fun h=>by have:=(hB.mu_lt h).2;omega);clear hZ hI hdp hB hbw hbk hW1 h1 h2 h3 h4 hG hE hc0 hpres hgf hef htr;go_enter Tryz.func41,Tryz.ntmps41;go_upto_region 1 with fail;rw[<-HW1.o];go_wp2_with fail;go_loopg [10] t.res.length (fun g i wr=>∃ (j:Nat) (R':Rz) (sc':List Sc) (nd':List Nd) (p m:Nat),j+g=t.res.length/\i=.int .i64 (j:Nat)/\Hid ((t.res.take j).foldl (cnOne (xX k)) (0,1)=(p,m))/\Hid (Bz B wr q R' sc' nd')/\Hid (lP (R.mu q) (R'.mu q) W1 wr)/\Hid (PutR KS KN sc sc' nd nd' p m))
 case atStart=>exact⟨0,R,sc,nd,0,1,by omega,rfl,Hd (by simp),HB,Hd (lP.refl _ _),Hd (PutR.nil _ _ _ _)⟩
 obtain⟨j,R',sc',nd',p,m,hj,rfl,HA,HBj,HGo,HPR⟩:=hrel;rename World=>wo
 obtain⟨x0,x1,x2,x3⟩:=j1 (HBK.o.only HGo.o.only HNB.o);cases gk with
 | zero =>
   have hjj:¬((j:Int)<(t.res.length:Int)):=by omega
   have HT:Hid (lF k t=(p,m)):=Hd (by rw[HE0.o];have:=HA.o;rwa [aN (by omega)] at this);go_wp2_with fail;go_end0;rw[HT.o];exact⟨rfl,R',sc',nd',HBj.o,(bL HBW.o).trans HGo.o,HPR.o⟩
 | succ g =>
   have hjj:(j:Int)<(t.res.length:Int):=by omega
   have hji:(0:Int)<=(j:Int)/\(j:Int)<(t.res.length:Int):=by omega
   obtain⟨r,hr⟩:=fO (l:=t.res) (i:=j) (by omega);have HRJ:=Hd (HZ.o.res.2 r (aD hr));obtain⟨adr,rcs,hAr,hrt,hrc'⟩:=(H3.o.go HGo.o).elem Rs.trlen hr;obtain⟨P1,p1,D1,d1,I1,i1,rfl,-⟩:=Rs.at_iff.1 hrt;obtain⟨e0,e1,e2,e3,e4,e5,e6⟩:=lO hrc';subst hAr;have HRT:=Hd hrt;have HRM:=Hd (aD hr);have HRI:=Hd hr;clear hr hrt hrc';go_upto_region 6 with fail;have BW2:Below wo.heap.size wo (wo.alloc (.cells (kR r P1 p1 D1 d1 I1 i1) 50)):=(aB _ wo).alloc (aA _) _;have BR2:Blk (wo.alloc (.cells (kR r P1 p1 D1 d1 I1 i1) 50)) wo.heap.size (kR r P1 p1 D1 d1 I1 i1) 50:=aJ wo _ _;have SZ2:(wo.alloc (.cells (kR r P1 p1 D1 d1 I1 i1) 50)).heap.size=wo.heap.size+1:=by simp
   obtain⟨w2,hw2⟩:∃ w2,w2=(wo.alloc (.cells (kR r P1 p1 D1 d1 I1 i1) 50)):=⟨_,rfl⟩;rw[<-hw2] at BW2 BR2 SZ2;rw[<-hw2];have HBW2:=Hd BW2;have HBR2:=Hd BR2;have HSZ2:=Hd SZ2;clear hw2 e0 e1 e2 e3 e4 e5 e6 x0 x1 x2 x3 BW2 BR2 SZ2;have HG2:=Hd ((HG.o.go HGo.o).go (bL (F:=R'.mu q) HBW2.o));obtain⟨gv,hgr,hgt⟩:=HG2.o.cells;have HGR:=Hd hgr;have HGT:=Hd hgt;clear hgr hgt;go_upto_region 7 with (at_builtin;refine wpList_row info_gd Tryz.underlying51 rfl (by omega) rfl (.tmp 30) (.tmp 31) rfl w2.heap.size none 0 0 [] rfl (dF w2 w2.heap.size 151 2) G gs.length gc gv rfl HGR.o (gd_one HGT.o) (by omega) (by omega) (aA _) ?_;intro G1 gc1 w3 ho hgw hat;have HO:=Hd ho;have HGW:=Hd hgw;have HAT:=Hd hat;clear ho hgw hat);have HB3:Hid (Below w2.heap.size w2 w3):=Hd (wK HGW.o);have HE3:=Hd (((HE.o.go HGo.o).go (bL (F:=R'.mu q) HBW2.o)).go (bL (F:=R'.mu q) HB3.o));obtain⟨ev,her,het⟩:=HE3.o.cells;have HER:=Hd her;have HET:=Hd het;clear her het;go_upto_region 8 with (at_builtin;refine wpList_row info_gd Tryz.underlying51 rfl (by omega) rfl (.tmp 33) (.tmp 34) rfl w3.heap.size none 0 0 [] rfl (dF w3 w3.heap.size 151 2) E es.length ec ev rfl HER.o (gd_one HET.o) (by omega) (by omega) (aA _) ?_;intro E1 ec1 w4 ho hgw hat;have HO2:=Hd ho;have HGW2:=Hd hgw;have HAT2:=Hd hat;clear ho hgw hat);have HB4:Hid (Below w3.heap.size w3 w4):=Hd (wK HGW2.o);have HOG:Hid (Ow w4 w2.heap.size 151 2 G1 gs.length gc1 (cGz gs)):=Hd (by have:=HO.o.below HB4.o;rw[uC HGT.o] at this;simpa using this);have HOE:Hid (Ow w4 w3.heap.size 151 2 E1 es.length ec1 (cGz es)):=Hd (by have:=HO2.o;rw[uC HET.o] at this;simpa using this);have HNE:Hid (blk G1=none∨blk G1≠blk E1):=Hd (by
    rcases HAT.o with rfl | rfl
    .exact .inl rfl
    right;intro e;have h1:=HO.o.lt (g:=w2.heap.size) rfl;have h2:=(HO2.o.lt (g:=w2.heap.size) e.symm).1;omega)
   have HB24:Hid (Below wo.heap.size wo w4):=Hd ((HBW2.o.trans (HB3.o.mono HBW2.o.size)).trans (HB4.o.mono (bB HBW2.o.size HB3.o.size)));have HBR4:=Hd ((HBR2.o.below HB3.o).below HB4.o);obtain⟨b0,b1,b2,b3,b4,b5,b6⟩:=jV HBR4.o;have hsz4:wo.heap.size+1<=w3.heap.size/\wo.heap.size+1<=w2.heap.size/\w3.heap.size<=w4.heap.size/\w2.heap.size<=w3.heap.size:=⟨by have:=HB3.o.size;have:=HSZ2.o;omega,by have:=HSZ2.o;omega,HB4.o.size,HB3.o.size⟩
   clear HO HO2 HGW HGW2 HAT HAT2 HET HER HE3 HGT HGR HG2 HBR2 HB3 HB4;go_upto_if 38 with (fail);go_cut [12] from 38 to 45 (fun gsl wx=>∃ (G':Option Addr) (gc':Nat),gsl=.slice G' (gZ z gs r).length gc'/\Hid (Below wo.heap.size wo wx)/\Hid (Blk wx wo.heap.size (kR r P1 p1 D1 d1 I1 i1) 50)/\Hid (Ow wx (wo.heap.size+1) 151 2 G' (gZ z gs r).length gc' (cGz (gZ z gs r)))/\Hid (Ow wx (wo.heap.size+1) 151 2 E1 es.length ec1 (cGz es))/\Hid (blk G'=none∨blk G'≠blk E1))
   case first =>
    by_cases hcn:r.cond=ByteArray.empty
    .have hE:r.cond.toList=[]:=by rw[hcn,Lib.toList_data];rfl
     have hE2:(!r.cond.toList.isEmpty)=false:=by simp[hE]
     rw[hE2];clear hE hE2;have HGG:Hid (gZ z gs r=gs):=Hd (by unfold gZ;rw[bEq_iff.2 hcn];rfl);clear hcn;go_wp2_with fail;go_meet;exact⟨G1,gc1,by rw[HGG.o],HB24,HBR4,by rw[HGG.o];exact Hd (HOG.o.le (by omega)),Hd (HOE.o.le (by omega)),HNE⟩
    have hE:¬(r.cond.toList=[]):=fun e=>hcn (kQ (by rw[<-Lib.toList_data,e];rfl))
    have hE2:(!r.cond.toList.isEmpty)=true:=by simpa using hE
    rw[hE2];clear hE hE2;have HGG:Hid (gZ z gs r=gs++[⟨z,r.cond⟩]):=Hd (by unfold gZ;rw[bEq_ne hcn];rfl);clear hcn;have hgl2:gs.length<=1000:=by omega
    go_wp2_with (at_builtin;refine wpList_row info_gd Tryz.underlying51 rfl (by omega) rfl (.tmp 39) (.tmp 44) rfl w2.heap.size G1 gc1 gs.length (cGz gs) rfl (HOG.o.alloc _) (some ⟨w4.heap.size,0,none⟩) 1 1 [.int .i64 (z:Int),.string r.cond] rfl (cQ w4 2 1 #[.int .i64 (z:Int),.string r.cond] _ _ rfl (by simp[maxLen])) (by simp[Value.oneCell']) (by omega) (by omega) (by simp;omega) ?_;intro G' gc' w5 ho hgw hat;have HO:=Hd ho;have HGW:=Hd hgw;have HAT:=Hd hat;clear ho hgw hat);go_meet;have ha:Below w4.heap.size w4 (w4.alloc (.cells #[.int .i64 (z:Int),.string r.cond] 151)):=(aB _ w4).alloc (aA _) _;have hne:blk E1=none∨blk E1≠blk G1:=by
     rcases HNE.o with h | h
     .cases hE1:blk E1 with
      | none=>exact .inl rfl
      | some k=>right;rw[h];exact fun e=>by cases e
     exact .inr fun e=>h e.symm
    have hoe:=(HOE.o.below ha).grown HGW.o hne;have hbr:=(HBR4.o.below ha).grown HGW.o (fun e=>by have:=(HOG.o.lt e).1;omega);have hbw:Below wo.heap.size wo w5:=(HB24.o.trans (ha.mono HB24.o.size)).grown HGW.o (by have:=HB24.o.size;simp;omega) (fun k hk=>by have:=(HOG.o.lt hk).1;omega);refine⟨G',gc',by rw[HGG.o];simp,Hd hbw,Hd hbr,?_,Hd (hoe.le (by omega)),?_⟩
    .rw[HGG.o];have:=HO.o.le (base':=wo.heap.size+1) (by omega);exact Hd (by simpa [cGz] using this)
    refine Hd ?_;rcases HAT.o with rfl | rfl
    .exact HNE.o
    right;intro e;have:=(HOE.o.lt (g:=(w4.alloc (.cells #[.int .i64 (z:Int),.string r.cond] 151)).heap.size) e.symm).2;have hs:(w4.alloc (.cells #[.int .i64 (z:Int),.string r.cond] 151)).heap.size=w4.heap.size+1:=by simp
    omega
   obtain⟨G',gc',rfl,HBWc,HBRc,HOGc,HOEc,HNEc⟩:=hcut;rename World=>wc
   clear HBR4 HB24 HOG HOE HNE hsz4 b0 b1 b2 b3 b4 b5 b6;have HDS:=Hd (Rs.at_iff.1 HRT.o);obtain⟨P2,p2,D2,d2,I2,i2,he,-,-,-,hpr,hdp,hin⟩:=HDS.o;simp only[List.cons.injEq,Value.slice.injEq,Value.string.injEq,true_and,and_true] at he;obtain⟨⟨rfl,rfl⟩,⟨rfl,rfl⟩,rfl,rfl⟩:=he;have HPRr:=Hd hpr;have HDPr:=Hd hdp;have HIN:=Hd hin;have hdc:=hdp.cap;have hdl:r.depends.length<=60:=HRJ.o.1.2.1;have hes:es.length<=600:=by omega
   obtain⟨b0,b1,b2,b3,b4,b5,b6⟩:=jV HBRc.o;clear HDS hpr hdp hin;go_wp2_with fail;clear b0 b1 b2 b3 b4 b5 b6;go_loopg [13,14] r.depends.length (fun g dv iv wr=>∃ (j2:Nat) (E2:Option Addr) (ec2:Nat),j2+g=r.depends.length/\dv=.slice E2 (es.length+j2) ec2/\iv=.int .i64 (j2:Nat)/\Hid (Below wo.heap.size wo wr)/\Hid (Blk wr wo.heap.size (kR r P1 p1 D1 d1 I1 i1) 50)/\Hid (Ow wr (wo.heap.size+1) 151 2 G' (gZ z gs r).length gc' (cGz (gZ z gs r)))/\Hid (Ow wr (wo.heap.size+1) 151 2 E2 (es.length+j2) ec2 (cGz (eT z es r j2)))/\Hid (blk G'=none∨blk G'≠blk E2))
   case atStart=>exact⟨0,E1,ec1,by omega,rfl,rfl,HBWc,HBRc,HOGc,by simpa [eT] using HOEc,HNEc⟩
   obtain⟨j2,E2,ec2,hj2,rfl,rfl,HBWd,HBRd,HOGd,HOEd,HNEd⟩:=hrel;clear HBWc HBRc HOGc HOEc HNEc;rename World=>wd
   obtain⟨b0,b1,b2,b3,b4,b5,b6⟩:=jV HBRd.o;cases gk with
   | zero =>
     obtain rfl:j2=r.depends.length:=(by omega);have hjj:¬((r.depends.length:Int)<(r.depends.length:Int)):=by omega
     obtain⟨ne,hne⟩:∃ ne,ne=es.length+r.depends.length:=⟨_,rfl⟩;have hnel:ne<=660:=by omega
     rw[<-hne] at HOEd ⊢;have HNEL:=Hd hne;clear hne;obtain⟨pre,hpre'⟩:∃ pre,pre=zc.pre:=⟨_,rfl⟩;have HPE:=Hd hpre';have HBD:=Hd (HBj.o.below HBWd.o);obtain⟨q0,q1⟩:=SN HBD.o.box;obtain⟨ad1,hA1,hpc,hzl⟩:=HBD.o.pre (HPR.o.at HC0.o);rw[hA1] at q0;rw[<-hpre'] at hpc;have hps:pre.size<=450300000000000*dp:=by rw[hpre'];exact hpre
     have hrz:=HRJ.o.1.1;clear hpre';have hzi:(0:Int)<=(z:Int)/\(z:Int)<(sc'.length:Int):=by omega
     have hql:=HBD.o.box.lt;have hcat:∀ w',(Op.stringOp .add pre r.id).run Tryz.prog w'=.ok (.string (pre++r.id)) w':=fun w'=>run_string_add_sum _ _ _ (by omega)
     have HRZ:=Hd HRJ.o.1;clear hrz;go_wp2_with fail;go_cut [15] from 63 to 74 (fun idv wx=>idv=.string (pre++r.id)/\Hid (Below wo.heap.size wo wx)/\Hid (Blk wx wo.heap.size (kR r P1 p1 D1 d1 I1 i1) 50)/\Hid (Ow wx (wo.heap.size+1) 151 2 G' (gZ z gs r).length gc' (cGz (gZ z gs r)))/\Hid (Ow wx (wo.heap.size+1) 151 2 E2 ne ec2 (cGz (eT z es r r.depends.length))))
     case first =>
      go_region;all_goals
       go_wp2_with fail
       go_meet
       exact⟨rfl,Hd HBWd.o.drew,Hd HBRd.o.drew,Hd HOGd.o.drew,Hd HOEd.o.drew⟩
     obtain⟨rfl,HBWe,HBRe,HOGe,HOEe⟩:=hcut;rename World=>we
     clear HBD q0 q1 hA1 hpc b0 b1 b2 b3 b4 b5 b6 HBWd HBRd HOGd HOEd HNEd hql hcat ad1;have HBE:=Hd (HBj.o.below HBWe.o);obtain⟨q0,q1⟩:=SN HBE.o.box;have hql:=HBE.o.box.lt;have hwl:wo.heap.size<we.heap.size:=HBRe.o.lt;have HSL:Hid (sc'.length+1=sc.length+m/\nd'.length=nd.length+p/\sc.length<=sc'.length):=Hd (by
      obtain⟨⟨ls,h1,h2,-⟩,ln,h3,h4,-⟩:=HPR.o;rw[h1,h3,aS,aS];omega)
     have HZS:Hid (z<sc.length):=Hd (List.getElem?_eq_some_iff.1 HC0.o).1;have HMF:Hid (∀ k,wo.heap.size+1<=k->¬R'.mu q k):=Hd (fun k hk h=>by have:=(HBj.o.mu_lt h).2;omega);have HGFZ:Hid (∀ g∈gZ z gs r,qC sc'.length g):=Hd (fun g hg=>(RJ HGF.o HZS.o HRZ.o g hg).le HSL.o.2.2);have HEFZ:Hid (∀ g∈eT z es r r.depends.length,qC sc'.length g):=Hd (fun g hg=>(RU HEF.o HZS.o HRZ.o g hg).le HSL.o.2.2);have HEL:Hid ((eT z es r r.depends.length).length=ne):=Hd (by rw[HNEL.o];exact RT (aA _));have HLM:Hid (sc'.length<=1000000/\nd'.length+1<=1000001):=Hd (by
      have h1:=(nU (f:=xX k) (l:=t.res) (j:=j))
      rw[HA.o,<-HE0.o] at h1;have:=HSL.o;simp only at h1;omega)
     have HNR:Hid (¬R'.mu q wo.heap.size):=Hd (fun h=>by have:=(HBj.o.mu_lt h).2;omega);have HLG:Hid (Ls (Sf B (R'.mu q) we) we 2 24 Gd.tr G' gc' (gZ z gs r)):=Hd (PP HOGe.o (by have:=HBj.o.hq;have:=HBj.o.box.lt;omega) HMF.o HGFZ.o HLM.o.1 (by have:=KU z gs r;omega));have HLE:Hid (Ls (Sf B (R'.mu q) we) we 2 24 Gd.tr E2 ec2 (eT z es r r.depends.length)):=Hd (PP (by rw[HEL.o];exact HOEe.o) (by have:=HBj.o.hq;have:=HBj.o.box.lt;omega) HMF.o HEFZ.o HLM.o.1 (by rw[HEL.o];omega));obtain⟨b0,b1,b2,b3,b4,b5,b6⟩:=jV HBRe.o;go_upto_if 77 with (fail);by_cases hT:r.type=mB
     .rw[tB hT];obtain⟨τ,k',hin1,hIk,hZk,hDk,hkk,hKSk,hCn⟩:=FU HI.o HZ.o HDP.o HRM.o hT hkd;rw[<-HPE.o] at hZk;have hil:0<r.inner.length:=by rw[hin1];simp
      have hic:r.inner.length<=i1:=HIN.o.cap;have HT1:=Hd hin1;have HIK:=Hd hIk;have HZK:=Hd hZk;have HDK:=Hd hDk;have HKS:=Hd hKSk;have HCN:Hid ((t.res.take (j+1)).foldl (cnOne (xX k)) (0,1)=(p+(lF k' τ).1,m+(lF k' τ).2)):=Hd (by rw[xV HRI.o,HA.o,hCn]);have HCL:Hid (p+(lF k' τ).1<=(lF k t).1/\m+(lF k' τ).2<=(lF k t).2):=Hd (by
       have h1:=(nU (f:=xX k) (l:=t.res) (j:=j+1))
       rw[HCN.o,<-HE0.o] at h1;exact h1)
      clear hin1 hIk hZk hDk hKSk hCn hT;have HRT5:=Hd (HRT.o.go (bL (F:=R'.mu q) HBWe.o));have HIN5:=Hd (HIN.o.go (bL (F:=R'.mu q) HBWe.o));obtain⟨adi,ics,hIa,hit,hic'⟩:=HIN5.o.elem (i:=0) (x:=τ) Tm.trlen (by rw[HT1.o];rfl);obtain⟨Q1,e1,Q2,e2,Q3,e3,Q4,e4,rfl,hQ1,hQ2,hQ3,hQ4⟩:=Tm.at_iff.1 hit;subst hIa;have hadi:adi.add (0*4)=adi:=by simp[Addr.add]
      rw[hadi] at hic';obtain⟨u0,u1,u2,u3⟩:=DI hic';have HIT:=Hd hit;have HIC:=Hd hic';have hcat2:∀ w',(Op.stringOp .add (pre++r.id) ⟨#[46]⟩).run Tryz.prog w'=.ok (.string (pre++r.id++oJ)) w':=fun w'=>run_string_add_sum _ _ _ (by rw[mT];show _+1<=_;have:=HRZ.o.1;omega)
      have hB9:B<=we.heap.size:=bB HBE.o.hq (Nat.le_of_lt HBE.o.box.lt);have hsl:sc'.length+1<=1000001:=by have:=HLM.o.1;omega
      have HNI:Hid (¬R'.mu q adi.block):=Hd (HIN5.o.blk adi rfl (by omega)).1;have fq:=HBE.o.box.frozen 0;have HSP:Hid ((pre++r.id++oJ).size<=450300000000000*(dp+1)):=Hd (by rw[mT,mT];have:oJ.size=1:=rfl;have:=HRZ.o.1;omega);clear hit hic' hQ1 hQ2 hQ3 hQ4 hadi;go_wp2_with fail;go_cut [] from 78 to 99 (fun wx=>∃ R2:Rz,Hid (Bz B wx q R2 (sc'++[⟨(z:Int),pre++r.id++oJ,jK τ,r.props⟩]) nd')/\Hid (lP (R'.mu q) (R2.mu q) we wx))
      case first =>
       refine cK 22 (fun w'=>w'.cell? ⟨q,0,none⟩=some (.slice R'.A1 sc'.length R'.c1)/\w'.cell? ⟨wo.heap.size,3,none⟩=some (.slice P1 r.props.length p1)/\w'.cell? ⟨wo.heap.size,6,none⟩=some (.slice (some adi) r.inner.length i1)/\w'.cell? adi=some (.slice Q1 τ.params.length e1)/\w'.cell? ⟨adi.block,adi.off+1,none⟩=some (.slice Q2 τ.conds.length e2)/\w'.cell? ⟨adi.block,adi.off+2,none⟩=some (.slice Q3 τ.res.length e3)/\w'.cell? ⟨adi.block,adi.off+3,none⟩=some (.slice Q4 τ.outs.length e4)) (by kernel_rfl) (by go_keep) (fun hH0=>?_);simp only[aQ,bC,aX,bA,aZ,Nat.reduceAdd];refine aL hH0 0 ?_;refine aL hH0 1 ?_;refine aL hH0 2 ?_;refine aL hH0 3 ?_;refine aL hH0 4 ?_;refine aL hH0 5 ?_;refine aL hH0 6 ?_;refine aL hH0 7 ?_;refine aL hH0 8 ?_;refine aL hH0 9 ?_;refine aL hH0 10 ?_;refine aL hH0 11 ?_;refine aL hH0 12 ?_;refine aL hH0 14 ?_;refine aL hH0 15 ?_;refine cT 13 fun K hK=>?_
       go_simp;go_at_call 40;(with_reducible refine(rbare_any Q1 Q2 Q3 Q4 τ.params.length e1 τ.conds.length e2 τ.res.length e3 τ.outs.length e4 _).mono ?_);rintro e w5 ⟨rfl,hb5⟩;have hb5':Below we.heap.size we w5:=(aB _ we).drew.trans hb5;obtain⟨k0,k1,k2,k3,k4,k5,k6⟩:=jV (HBRe.o.below hb5');obtain⟨v0,v1,v2,v3⟩:=DI (HIC.o.below hb5');have p0:=(HBE.o.box.below hb5').cell 0 rfl;have hz5:q<w5.heap.size:=aO hql hb5'.size;have HB5:=Hd hb5';clear hb5 hb5';refine cM hK fun hH1=>?_
       clear hK K hH0;try simp only[Act.put,aE,aH,aI]
       refine aL hH1 16 ?_;refine cT 17 fun K hK=>?_
       go_simp;refine cM hK fun hH2=>?_
       clear hK K hH1;try simp only[Act.put,aE,aH,aI]
       refine cT 18 fun K hK=>?_
       refine jR CT Tryz.underlying33 rfl (by omega) rfl (.tmp 83) (.tmp 95) rfl B R'.A1 R'.c1 sc'.length R'.x1 (by rfl) ((HBE.o.r1.below HB5.o).alloc (.cells #[.int .i64 (z:Int),.string (pre++r.id++oJ),.slice Q1 τ.params.length e1,.slice Q2 τ.conds.length e2,.slice none 0 0,.slice Q4 τ.outs.length e4,.slice P1 r.props.length p1] 89)) (some ⟨w5.heap.size,0,none⟩) 1 1 [.int .i64 (z:Int),.string (pre++r.id++oJ),.slice Q1 τ.params.length e1,.slice Q2 τ.conds.length e2,.slice none 0 0,.slice Q4 τ.outs.length e4,.slice P1 r.props.length p1] (by rfl) (cQ w5 7 1 #[.int .i64 (z:Int),.string (pre++r.id++oJ),.slice Q1 τ.params.length e1,.slice Q2 τ.conds.length e2,.slice none 0 0,.slice Q4 τ.outs.length e4,.slice P1 r.props.length p1] 89 (0,0) rfl (by simp[maxLen])) (by simp[Value.oneCell']) (by omega) (by omega) (by have:=HB5.o.size;simp;omega) ?_;intro A6 c6 w6 ho6 hg6 hat6;have HO6:=Hd ho6;have HG6:=Hd hg6;have HT6:=Hd hat6;have hbA:Below we.heap.size we (w5.alloc (.cells #[.int .i64 (z:Int),.string (pre++r.id++oJ),.slice Q1 τ.params.length e1,.slice Q2 τ.conds.length e2,.slice none 0 0,.slice Q4 τ.outs.length e4,.slice P1 r.props.length p1] 89)):=HB5.o.alloc HB5.o.size _;have hg1:=mu_grown (F:=R'.mu q) hg6 (fun k hk=>.inr (.inl hk));have hg2:=hg1.trans (Q5 (F:=R'.mu q) (w:=w6) (q:=q) (i:=0) (u:=.slice A6 (sc'.length+1) c6) (.inl rfl));have hk6:=(HBE.o.box.below hbA).grown hg6 (HBE.o.r1.ne_blk HBE.o.box (by decide));have f6:=hk6.frozen 0;have g6:=hk6.cell 0 rfl;obtain⟨m0,m1,m2,m3,m4,m5,m6⟩:=jV ((HBRe.o.below hbA).go hg1 HNR.o);obtain⟨o0,o1,o2,o3⟩:=DI ((HIC.o.below hbA).go hg1 HNI.o);have HG2:=Hd hg2;clear ho6 hg6 hat6 hk6 hg1 hg2 hbA;refine cM hK fun hH3=>?_
       clear hK K hH2;try simp only[Act.put,aE,aH,aI]
       refine aL hH3 19 ?_;refine aL hH3 20 ?_;refine aL hH3 21 ?_;refine dY fun K hK=>?_
       go_simp;refine hK.out _ _ ?_;clear hK K hH3;all_goals
        go_wp2_with fail
        go_meet
        have hbN:Below we.heap.size we (w5.alloc (.cells #[.int .i64 (z:Int),.string (pre++r.id++oJ),.slice Q1 τ.params.length e1,.slice Q2 τ.conds.length e2,.slice none 0 0,.slice Q4 τ.outs.length e4,.slice P1 r.props.length p1] 89)):=HB5.o.alloc HB5.o.size _
        have hst:=sc_tr (z:=(z:Int)) (pr:=pre++r.id++oJ) ⟨by omega,by have:=HLM.o.1;omega⟩ (by have:=HSP.o;omega) (HIT.o.go (bL (F:=R'.mu q) hbN)) (HPRr.o.go (bL (F:=R'.mu q) (HBWe.o.trans (hbN.mono HBWe.o.size))))
        obtain⟨R2,hB2,hgo2⟩:=HBE.o.add1 hbN hst HO6.o HG6.o HT6.o
        exact⟨R2,Hd hB2,Hd hgo2⟩
      obtain⟨R2,HB6,HGo6⟩:=hcut;rename World=>wf
      clear q0 q1 hql u0 u1 u2 u3 fq b0 b1 b2 b3 b4 b5 b6;have HBR6:=Hd (HBRe.o.go HGo6.o HNR.o);have HIC6:=Hd (HIC.o.go HGo6.o HNI.o);have HIT6:=Hd (HIT.o.go HGo6.o);have HLG6:=Hd (HLG.o.go HGo6.o);have HLE6:=Hd (HLE.o.go HGo6.o);obtain⟨b0,b1,b2,b3,b4,b5,b6⟩:=jV HBR6.o;obtain⟨u0,u1,u2,u3⟩:=DI HIC6.o;obtain⟨q0,q1⟩:=SN HB6.o.box;have hlen:(sc'++[(⟨(z:Int),pre++r.id++oJ,jK τ,r.props⟩:Sc)]).length=sc'.length+1:=by simp
      rw[hlen] at q0;have hql:=HB6.o.box.lt;have hD6:Below wf.heap.size wf wf.drew:=(aB _ wf).drew;have HD6:Hid (lP (R2.mu q) (R2.mu q) wf wf.drew):=Hd (bL hD6);have HIH:Hid (Calls Tryz.prog 41 #[.pointer (some ⟨q,0,none⟩),.agg (kT τ Q1 e1 Q2 e2 Q3 e3 Q4 e4),.int .i64 (sc'.length:Int),.slice G' (gZ z gs r).length gc',.slice E2 ne ec2] wf.drew
       fun e w'=>e=.returned (.tuple #[])/\∃ (R3:Rz) (sc3:List Sc) (nd3:List Nd),Bz B w' q R3 sc3 nd3/\lP (R2.mu q) (R3.mu q) wf.drew w'/\PutR KS KN (sc'++[⟨(z:Int),pre++r.id++oJ,jK τ,r.props⟩]) sc3 nd' nd3 (lF k' τ).1 (lF k' τ).2):=Hd (by
       have h:=HIK.o (dp+1) τ _ sc'.length ⟨(z:Int),pre++r.id++oJ,jK τ,r.props⟩ G' gc' (gZ z gs r) E2 ec2 (eT z es r r.depends.length) R2 (sc'++[⟨(z:Int),pre++r.id++oJ,jK τ,r.props⟩]) nd' wf.drew hkk (HZK.o sc'.length) HDK.o
        (by rw[hlen];have:=HCL.o.2;have:=HSL.o.1;omega) (by have:=HCL.o.1;have:=HSL.o.2.1;omega) (HB6.o.below hD6) (HIT6.o.go HD6.o) (by simp) HSP.o
        (fun c hc=>by
          rcases List.mem_append.1 hc with hc | hc
          .exact HPR.o.pre HPS.o c hc
          rw[aR] at hc;subst hc;have:=HSP.o;show (pre++r.id++oJ).size<=_;omega)
        (by have:=KU z gs r;omega) (fun g hg=>(HGFZ.o g hg).le (by rw[hlen];omega)) (by rw[HEL.o,HNEL.o];omega) (fun g hg=>(HEFZ.o g hg).le (by rw[hlen];omega)) (HLG6.o.go HD6.o) (HLE6.o.go HD6.o)
       rw[HEL.o] at h
       exact h)
      have HNR2:Hid (¬R2.mu q wo.heap.size):=Hd (fun h=>HNR.o (HGo6.o.less _ HBRe.o.lt h));have HPR6:Hid (PutR KS KN sc (sc'++[⟨(z:Int),pre++r.id++oJ,jK τ,r.props⟩]) nd nd' p (m+1)):=Hd (HPR.o.scope ⟨HKS.o _ _ (by have:=HSP.o;omega),by have:=HSP.o;show (pre++r.id++oJ).size<=_;omega⟩);have HGA:=Hd ((HGo.o.trans (bL HBWe.o)).trans (HGo6.o.trans HD6.o));have hwr:IntKind.i64.wrap (sc'.length:Int)=(sc'.length:Int):=IntWalk.i64_in _ (by have:=HLM.o.1;omega);clear hD6 hlen;go_wp2_with fail;refine cK 14 (fun w'=>w'.cell? ⟨q,0,none⟩=some (.slice R2.A1 (sc'.length+1) R2.c1)/\w'.cell? ⟨wo.heap.size,6,none⟩=some (.slice (some adi) r.inner.length i1)/\w'.cell? adi=some (.slice Q1 τ.params.length e1)/\w'.cell? ⟨adi.block,adi.off+1,none⟩=some (.slice Q2 τ.conds.length e2)/\w'.cell? ⟨adi.block,adi.off+2,none⟩=some (.slice Q3 τ.res.length e3)/\w'.cell? ⟨adi.block,adi.off+3,none⟩=some (.slice Q4 τ.outs.length e4)) (by kernel_rfl) (by go_keep) (fun hH0=>?_);simp only[aQ,bC,aX,bA,aZ,Nat.reduceAdd];refine aL hH0 0 ?_;refine aL hH0 1 ?_;refine aL hH0 2 ?_;refine aL hH0 3 ?_;refine aL hH0 4 ?_;refine aL hH0 5 ?_;refine aL hH0 6 ?_;refine aL hH0 7 ?_;refine aL hH0 8 ?_;refine aL hH0 9 ?_;refine aL hH0 10 ?_;refine aL hH0 11 ?_;refine aL hH0 12 ?_;refine aL hH0 13 ?_;refine dY fun K hK=>?_
      go_simp;go_at_call 41;(try rw[hwr]);(with_reducible refine HIH.o.mono ?_);rintro e w7 ⟨rfl,R3,sc3,nd3,hb7,hg7,hpr7⟩;obtain⟨k0,k1,k2,k3,k4,k5,k6⟩:=jV (HBR6.o.drew.go hg7 HNR2.o);have HB7:=Hd hb7;have HGo7:=Hd (HGA.o.trans hg7);have HPR7:=Hd (HPR6.o.then hpr7);clear hb7 hg7 hpr7;refine hK.out _ _ ?_;clear hK K hH0;all_goals
       go_wp2_with fail
       go_roundg g
       case measure=>omega
       case rel=>exact⟨j+1,R3,sc3,nd3,p+(lF k' τ).1,m+(lF k' τ).2,by omega,by go_num,HCN,HB7,HGo7,by have h:=HPR7.o;rw[show m+1+(lF k' τ).2-1=m+(lF k' τ).2 by omega] at h;exact Hd h⟩
     rw[sZ hT];have HCN:Hid ((t.res.take (j+1)).foldl (cnOne (xX k)) (0,1)=(p+1,m)):=Hd (by rw[xV HRI.o,HA.o,FV hT]);clear hT;have HIDS:Hid ((pre++r.id).size<=3000000000000000):=Hd (by rw[mT];have:=HRZ.o.1;omega);have HB8:Hid (Below we.heap.size we (we.alloc (.cells #[.string (pre++r.id),.int .i64 (z:Int),.string r.id,.string r.type,.string r.cond,.slice P1 r.props.length p1,.slice D1 r.depends.length d1,.bool r.retain,.slice I1 r.inner.length i1,.slice G' (gZ z gs r).length gc',.slice none 0 0] 53))):=Hd ((aB _ we).alloc (aA _) _);have HN8:Hid (Blk (we.alloc (.cells #[.string (pre++r.id),.int .i64 (z:Int),.string r.id,.string r.type,.string r.cond,.slice P1 r.props.length p1,.slice D1 r.depends.length d1,.bool r.retain,.slice I1 r.inner.length i1,.slice G' (gZ z gs r).length gc',.slice none 0 0] 53)) we.heap.size #[.string (pre++r.id),.int .i64 (z:Int),.string r.id,.string r.type,.string r.cond,.slice P1 r.props.length p1,.slice D1 r.depends.length d1,.bool r.retain,.slice I1 r.inner.length i1,.slice G' (gZ z gs r).length gc',.slice none 0 0] 53):=Hd (aJ we _ _);have HHQ:Hid (B<=we.heap.size/\q<wo.heap.size):=Hd ⟨by have:=HBj.o.hq;omega,HBj.o.box.lt⟩;go_wp2_with fail;clear q0 q1 hql b0 b1 b2 b3 b4 b5 b6;go_loopg [17] ne (fun g iv wr=>∃ (j3:Nat) (A3:Option Addr) (c3:Nat) (l3:List ByteArray),j3+g=ne/\iv=.int .i64 (j3:Nat)/\Hid (l3.length=j3/\∀ d∈l3,d.size<=9000000000000000)/\Hid (Below we.heap.size we wr)/\Hid (Blk wr we.heap.size #[.string (pre++r.id),.int .i64 (z:Int),.string r.id,.string r.type,.string r.cond,.slice P1 r.props.length p1,.slice D1 r.depends.length d1,.bool r.retain,.slice I1 r.inner.length i1,.slice G' (gZ z gs r).length gc',.slice A3 j3 c3] 53)/\Hid (Ow wr (we.heap.size+1) 9 1 A3 j3 c3 (l3.map .string)))
     case atStart=>exact⟨0,none,0,[],by omega,rfl,Hd ⟨rfl,fun d hd=>by cases hd⟩,HB8,HN8,Hd (dF _ _ _ _)⟩
     obtain⟨j3,A3,c3,l3,hj3,rfl,HL3,HBW9,HN9,HO9⟩:=hrel;rename World=>wg
     clear HB8 HN8;have HBE9:=Hd (HBE.o.below HBW9.o);obtain⟨q0,q1⟩:=SN HBE9.o.box;obtain⟨n0,n1,n2,n3,n4,n5,n6,n7,n8,n9,n10⟩:=kO HN9.o;have hql:=HBE9.o.box.lt;have hwl9:=HN9.o.lt;have hq8:¬(we.heap.size=q):=by have:=HHQ.o.2;omega
     cases gk with
     | zero =>
       obtain rfl:j3=ne:=(by omega);have hjj:¬((j3:Int)<(j3:Int)):=by omega
       have fq:=HBE9.o.box.frozen 1;have hnl:nd'.length+1<=1000001:=HLM.o.2;have HNA:Hid (blk R'.A2≠some we.heap.size):=Hd (fun e=>by have:=(HBj.o.r2.lt e).2;omega);have hB9:B<=wg.heap.size:=by have:=HHQ.o.1;omega
       go_wp2_with fail;refine cK 12 (fun w'=>w'.cell? ⟨q,1,none⟩=some (.slice R'.A2 nd'.length R'.c2)/\w'.cell? ⟨we.heap.size,0,none⟩=some (.string (pre++r.id))/\w'.cell? ⟨we.heap.size,1,none⟩=some (.int .i64 (z:Int))/\w'.cell? ⟨we.heap.size,2,none⟩=some (.string r.id)/\w'.cell? ⟨we.heap.size,3,none⟩=some (.string r.type)/\w'.cell? ⟨we.heap.size,4,none⟩=some (.string r.cond)/\w'.cell? ⟨we.heap.size,5,none⟩=some (.slice P1 r.props.length p1)/\w'.cell? ⟨we.heap.size,6,none⟩=some (.slice D1 r.depends.length d1)/\w'.cell? ⟨we.heap.size,7,none⟩=some (.bool r.retain)/\w'.cell? ⟨we.heap.size,8,none⟩=some (.slice I1 r.inner.length i1)/\w'.cell? ⟨we.heap.size,9,none⟩=some (.slice G' (gZ z gs r).length gc')/\w'.cell? ⟨we.heap.size,10,none⟩=some (.slice A3 j3 c3)) (by kernel_rfl) (by go_keep) (fun hH0=>?_);simp only[aQ,bC,aX,bA,aZ,Nat.reduceAdd];refine aL hH0 0 ?_;refine aL hH0 1 ?_;refine aL hH0 2 ?_;refine aL hH0 3 ?_;refine aL hH0 4 ?_;refine aL hH0 5 ?_;refine aL hH0 6 ?_;refine cT 7 fun K hK=>?_
       go_simp;refine cM hK fun hH1=>?_
       clear hK K hH0;try simp only[Act.put,aE,aH,aI]
       refine cT 8 fun K hK=>?_
       refine jR GI Tryz.underlying34 rfl (by omega) rfl (.tmp 155) (.tmp 157) rfl B R'.A2 R'.c2 nd'.length R'.x2 (by rfl) (HBE9.o.r2.drew.alloc (.cells #[.string (pre++r.id),.int .i64 (z:Int),.string r.id,.string r.type,.string r.cond,.slice P1 r.props.length p1,.slice D1 r.depends.length d1,.bool r.retain,.slice I1 r.inner.length i1,.slice G' (gZ z gs r).length gc',.slice A3 j3 c3] 53)) (some ⟨wg.drew.heap.size,0,none⟩) 1 1 [.string (pre++r.id),.int .i64 (z:Int),.string r.id,.string r.type,.string r.cond,.slice P1 r.props.length p1,.slice D1 r.depends.length d1,.bool r.retain,.slice I1 r.inner.length i1,.slice G' (gZ z gs r).length gc',.slice A3 j3 c3] (by rfl) (cQ wg.drew 11 1 #[.string (pre++r.id),.int .i64 (z:Int),.string r.id,.string r.type,.string r.cond,.slice P1 r.props.length p1,.slice D1 r.depends.length d1,.bool r.retain,.slice I1 r.inner.length i1,.slice G' (gZ z gs r).length gc',.slice A3 j3 c3] 53 (0,0) rfl (by simp[maxLen])) (by simp[Value.oneCell']) (by omega) (by omega) (by simp;omega) ?_;intro A6 c6 w6 ho6 hg6 hat6;have HO6:=Hd ho6;have HG6:=Hd hg6;have HT6:=Hd hat6;have hk6:=(HBE9.o.box.drew.alloc (.cells #[.string (pre++r.id),.int .i64 (z:Int),.string r.id,.string r.type,.string r.cond,.slice P1 r.props.length p1,.slice D1 r.depends.length d1,.bool r.retain,.slice I1 r.inner.length i1,.slice G' (gZ z gs r).length gc',.slice A3 j3 c3] 53)).grown hg6 (HBE9.o.r2.ne_blk HBE9.o.box (by decide));have f6:=hk6.frozen 1;have g6:=hk6.cell 1 rfl;obtain⟨m0,m1,m2,m3,m4,m5,m6,m7,m8,m9,m10⟩:=kO ((HN9.o.drew.alloc (.cells #[.string (pre++r.id),.int .i64 (z:Int),.string r.id,.string r.type,.string r.cond,.slice P1 r.props.length p1,.slice D1 r.depends.length d1,.bool r.retain,.slice I1 r.inner.length i1,.slice G' (gZ z gs r).length gc',.slice A3 j3 c3] 53)).grown hg6 HNA.o);clear ho6 hg6 hat6 hk6;refine cM hK fun hH2=>?_
       clear hK K hH1;try simp only[Act.put,aE,aH,aI]
       refine aL hH2 9 ?_;refine aL hH2 10 ?_;refine aL hH2 11 ?_;refine dY fun K hK=>?_
       go_simp;refine hK.out _ _ ?_;clear hK K hH2;all_goals
        have hbN:Below wg.heap.size wg (wg.drew.alloc (.cells #[.string (pre++r.id),.int .i64 (z:Int),.string r.id,.string r.type,.string r.cond,.slice P1 r.props.length p1,.slice D1 r.depends.length d1,.bool r.retain,.slice I1 r.inner.length i1,.slice G' (gZ z gs r).length gc',.slice A3 j3 c3] 53)):=((aB _ wg).drew).alloc (aA _) _
        have HBWg:=Hd (HBWe.o.trans (HBW9.o.mono HBWe.o.size))
        have hrt:=HRT.o.go (bL (F:=R'.mu q) (HBWg.o.trans (hbN.mono HBWg.o.size)))
        have hgt:=HLG.o.go (bL (F:=R'.mu q) (HBW9.o.trans (hbN.mono HBW9.o.size)))
        have hl3:=HL3.o
        have hat:Ss (Sf B (R'.mu q) wg) wg A3 c3 l3:=I0 (by rw[hl3.1];exact HO9.o) (by have:=HHQ.o.1;omega) (fun k hk=>HMF.o k (by omega)) hl3.2 (by omega)
        have hat2:=hat.go (bL (F:=R'.mu q) hbN)
        have hnt:=QZ (id:=pre++r.id) (z:=(z:Int)) HIDS.o ⟨by omega,by have:=HLM.o.1;omega⟩ hrt hgt hat2
        rw[hl3.1] at hnt
        obtain⟨R3,hB3,hgo3⟩:=HBE9.o.add2 hbN hnt HO6.o HG6.o HT6.o
        have HB7:=Hd hB3
        have HGo7:=Hd ((HGo.o.trans (bL HBWg.o)).trans hgo3)
        have HPR7:=Hd (HPR.o.node (x:=⟨pre++r.id,(z:Int),r,gZ z gs r,l3⟩) (by have h:=HRJ.o.2;unfold rK at h;rw[<-HPE.o] at h;exact h _ _ HIDS.o (by have:=OH z gs r;omega) (by rw[hl3.1];have:=HNEL.o;omega) hl3.2))
        clear hB3 hgo3 hbN hnt hrt hgt hat hat2 hl3
        go_wp2_with fail
        go_roundg g
        case measure=>omega
        case rel=>exact⟨j+1,R3,sc',_,p+1,m,by omega,by go_num,HCN,HB7,HGo7,HPR7⟩
     | succ g3 =>
       have hjj:(j3:Int)<(ne:Int):=by omega
       have hji:(0:Int)<=(j3:Int)/\(j3:Int)<(ne:Int):=by omega
       obtain⟨gg,hgg⟩:=fO (l:=eT z es r r.depends.length) (i:=j3) (by rw[HEL.o];omega);have HLE9:=Hd (HLE.o.go (bL (F:=R'.mu q) HBW9.o));obtain⟨adg,hE2,hg0,hg1⟩:=PQ HLE9.o hgg;subst hE2;have hgf:=HEFZ.o gg (aD hgg);obtain⟨iz,hiz⟩:∃ iz:Nat,gg.scope=(iz:Int):=⟨gg.scope.toNat,by have:=hgf.2.1;omega⟩;rw[hiz] at hg0;have hizl:iz<sc'.length:=by have:=hgf.2.2;omega
       obtain⟨cz,hcz⟩:=fO (l:=sc') (i:=iz) hizl;obtain⟨ad1,hA1,hpc,_⟩:=HBE9.o.pre hcz;rw[hA1] at q0;have hcs:=HPR.o.pre HPS.o cz (aD hcz);have hnm:=hgf.1;have hzi2:(0:Int)<=(iz:Int)/\(iz:Int)<(sc'.length:Int):=by omega
       have hcat3:∀ w',(Op.stringOp .add cz.pre gg.name).run Tryz.prog w'=.ok (.string (cz.pre++gg.name)) w':=fun w'=>run_string_add_sum _ _ _ (by omega)
       have fz:=HN9.o.frozen 10;have HGI:=Hd hiz;have HGG:=Hd hgg;have HCZ:=Hd hcz;have HA1:=Hd hA1;have HSZ3:Hid ((cz.pre++gg.name).size<=9000000000000000):=Hd (by rw[mT];omega);clear hgg hcz hA1 hiz hgf;go_wp2_with fail;refine cK 24 (fun w'=>w'.cell? ⟨we.heap.size,10,none⟩=some (.slice A3 j3 c3)/\w'.cell? ⟨q,0,none⟩=some (.slice (some ad1) sc'.length R'.c1)/\w'.cell? ⟨(ad1.add (iz*7)).block,(ad1.add (iz*7)).off+1,none⟩=some (.string cz.pre)/\w'.cell? (adg.add (j3*2))=some (.int .i64 (iz:Int))/\w'.cell? ⟨(adg.add (j3*2)).block,(adg.add (j3*2)).off+1,none⟩=some (.string gg.name)) (by kernel_rfl) (by go_keep) (fun hH0=>?_);simp only[aQ,bC,aX,bA,aZ,Nat.reduceAdd];refine aL hH0 0 ?_;refine aL hH0 1 ?_;refine aL hH0 2 ?_;refine aL hH0 3 ?_;refine aL hH0 4 ?_;refine aL hH0 5 ?_;refine aL hH0 6 ?_;refine aL hH0 7 ?_;refine aL hH0 8 ?_;refine aL hH0 9 ?_;refine aL hH0 10 ?_;refine aL hH0 11 ?_;refine aL hH0 12 ?_;refine aL hH0 13 ?_;refine aL hH0 14 ?_;refine aL hH0 15 ?_;refine aL hH0 16 ?_;refine aL hH0 17 ?_;refine aL hH0 18 ?_;refine aL hH0 19 ?_;refine aL hH0 20 ?_;refine cT 21 fun K hK=>?_
       go_simp;refine cM hK fun hH1=>?_
       clear hK K hH0;try simp only[Act.put,aE,aH,aI]
       refine cT 22 fun K hK=>?_
       refine jR info_str Tryz.underlying42 rfl (by omega) rfl (.tmp 127) (.tmp 147) rfl (we.heap.size+1) A3 c3 j3 (l3.map .string) (by rfl) (HO9.o.drew.alloc (.cells #[.string (cz.pre++gg.name)] 9)) (some ⟨wg.drew.heap.size,0,none⟩) 1 1 [.string (cz.pre++gg.name)] (by rfl) (cQ wg.drew 1 1 #[.string (cz.pre++gg.name)] 9 (0,0) rfl (by simp[maxLen])) (by simp[Value.oneCell']) (by omega) (by omega) (by simp;omega) ?_;intro A6 c6 w6 ho6 hg6 hat6;have HO6:=Hd ho6;have hbA:Below we.heap.size we w6:=((HBW9.o.drew).alloc (by simp;omega) (.cells #[.string (cz.pre++gg.name)] 9)).grown hg6 (by simp;omega) (fun k hk=>by have:=(HO9.o.lt hk).1;omega);have HBA:=Hd hbA;have hk6:=(HN9.o.drew.alloc (.cells #[.string (cz.pre++gg.name)] 9)).grown hg6 (fun e=>by have:=(HO9.o.lt e).1;omega);have HK6:=Hd hk6;have f6:=hk6.frozen 10;have g6:=hk6.cell 10 rfl;have hb6:=HBE.o.below hbA;obtain⟨p0,p1⟩:=SN hb6.box;have p2:=hb6.preAt HA1.o HCZ.o;obtain⟨p3,p4⟩:=RH (HLE.o.go (bL (F:=R'.mu q) hbA)) HGG.o;rw[HA1.o] at p0;rw[HGI.o] at p3;clear ho6 hg6 hat6 hk6 hbA hb6;refine cM hK fun hH2=>?_
       clear hK K hH1;try simp only[Act.put,aE,aH,aI]
       refine aL hH2 23 ?_;refine dY fun K hK=>?_
       go_simp;refine hK.out _ _ ?_;clear hK K hH2;all_goals
        go_wp2_with fail
        go_roundg g3
        case measure=>omega
        case rel =>
         refine⟨j3+1,A6,c6,l3++[cz.pre++gg.name],by omega,by go_num,Hd ⟨by simp[HL3.o.1],fun d hd=>?_⟩,Hd (HBA.o.setCell (by simp) _),Hd ((HK6.o.set 10 _).eq (by simp)),Hd ?_⟩
         .rcases List.mem_append.1 hd with hd | hd
          .exact HL3.o.2 d hd
          rw[aR] at hd;subst hd;exact HSZ3.o
         have:=HO6.o.setOther ⟨we.heap.size,10,none⟩ (.slice A6 (j3+1) c6) (fun e=>by have:=(HO6.o.lt e).1;simp at this;omega);simpa using this
   | succ g2 =>
     have hjj:(j2:Int)<(r.depends.length:Int):=by omega
     obtain⟨dd,hd⟩:=fO (l:=r.depends) (i:=j2) (by omega);obtain⟨add,rfl,hdc',hds⟩:=(HDPr.o.go (bL (F:=R'.mu q) HBWd.o)).str hd;have HEF2:=Hd (OO (z:=z) (es:=es) hd);clear hd;go_wp2_with (at_builtin;refine wpList_row info_gd Tryz.underlying51 rfl (by omega) rfl (.tmp 53) (.tmp 61) rfl (wo.heap.size+1) E2 ec2 (es.length+j2) (cGz (eT z es r j2)) rfl (HOEd.o.alloc _) (some ⟨wd.heap.size,0,none⟩) 1 1 [.int .i64 (z:Int),.string dd] rfl (cQ wd 2 1 #[.int .i64 (z:Int),.string dd] _ _ rfl (by simp[maxLen])) (by simp[Value.oneCell']) (by omega) (by omega) (by have:=HBRd.o.lt;simp;omega) ?_;intro E3 ec3 w5 ho hgw hat;have HO:=Hd ho;have HGW:=Hd hgw;have HAT:=Hd hat;clear ho hgw hat);go_roundg g2
     case measure=>omega
     case rel =>
      have ha:Below wd.heap.size wd (wd.alloc (.cells #[.int .i64 (z:Int),.string dd] 151)):=(aB _ wd).alloc (aA _) _;have hs:(wd.alloc (.cells #[.int .i64 (z:Int),.string dd] 151)).heap.size=wd.heap.size+1:=by simp
      have hog:=(HOGd.o.below ha).grown HGW.o HNEd.o;have hbr:=(HBRd.o.below ha).grown HGW.o (fun e=>by have:=(HOEd.o.lt e).1;omega);have hbw:Below wo.heap.size wo w5:=(HBWd.o.trans (ha.mono HBWd.o.size)).grown HGW.o (by have:=HBWd.o.size;omega) (fun k hk=>by have:=(HOEd.o.lt hk).1;omega);refine⟨j2+1,E3,ec3,by omega,by go_num,by go_num,Hd hbw,Hd hbr,Hd hog,?_,?_⟩
      .rw[HEF2.o];have:=HO.o;exact Hd (by simpa [cGz,Nat.add_assoc] using this)
      refine Hd ?_;rcases HAT.o with rfl | rfl
      .exact HNEd.o
      right;intro e;have:=(HOGd.o.lt (g:=(wd.alloc (.cells #[.int .i64 (z:Int),.string dd] 151)).heap.size) e).2;omega
theorem JL (KS:Sc->Prop) (KN:Nd->Prop) (B q:Nat):∀ k,MM KS KN B q k:=by
 intro k;induction k with
 | zero=>exact put_step2 KS KN B q 0 (fun k' h=>by omega)
 | succ k ih => exact put_step2 KS KN B q (k + 1) (fun k' h => by
   obtain rfl : k = k' := by omega
   exact ih)
