/- Part of the proof. -/
import Derived.Test.YtjmklmngikpeaaaGreatDoorPma
set_option maxRecDepth 100000
set_option maxHeartbeats 16000000
set_option linter.unusedVariables false
set_option linter.unusedSimpArgs false
namespace Go.Proofs.YtjmklmngikpeaaaGreatDoor
open Go.RowKit
variable {cs:List Value}{j:Nat}{S:Nat->Prop}{α:Type}{w:World}{l:List α}{p:α->Bool}
def pY (l:List Pm):Nat->ByteArray
 | 0=>ByteArray.empty
 | j+1=>((l[j]?).map Pm.name).getD ByteArray.empty
def MY (l:List Pm) (j:Nat):Bool:=match l[j]? with | some p=>!F5 p||QK p.name (pY l j) | none=>false
theorem JP (S:Nat->Prop) (p:Pm) (pc:List Value) (last:ByteArray) (lb:Nat) (w:World) (hV:j4 w) (hp:Trs.at S w p.tr pc) (hs:iM p) (hlb:Blk w lb #[.string last] 9) :
 Calls Tryz.prog 174 (#[.agg pc.toArray]++#[.pointer (some ⟨lb,0,none⟩)]) w fun e w'=>e=.returned (.bool (!F5 p||QK p.name last))/\Blk w' lb #[.string p.name] 9/\fP (fun k=>k=lb) w w':=by
 obtain⟨A1,B1,A2,c1,d1,c2,rfl,hP⟩:=mO.of hp hs;have hlt:=hlb.lt;have hbn:Below w.heap.size w (w.alloc (.cells (kP p A1 c1 B1 d1 A2 c2) 145)):=(aB _ w).alloc (aA _) _;have HM:=Hd (yZ S p A1 B1 A2 c1 d1 c2 (w.alloc (.cells (kP p A1 c1 B1 d1 A2 c2) 145)) (hV.below hbn) (hP.below hbn));have hk1:=aJ w (kP p A1 c1 B1 d1 A2 c2) 145;have HK1:=Hd hk1;have HK2:=Hd (hlb.alloc (.cells (kP p A1 c1 B1 d1 A2 c2) 145));obtain⟨a0,a1,a2,a3,a4,a5,a6,a7,a8,a9⟩:=iG hk1;have HB:=Hd hbn;have HT:Hid (QK p.name last=(Op.bytesLess p.name.toList last.toList||(p.name.toList==last.toList))):=Hd rfl;obtain⟨m,hm⟩:∃ m,m=F5 p:=⟨_,rfl⟩;rw[<-hm] at HM ⊢;clear hm hp hs hP hV hlb hbn hk1;simp only[bV,bS,bM,bP];go_enter Tryz.func174,Tryz.ntmps174;go_wp2_with fail;refine HM.o.mono ?_;rintro e w2 ⟨rfl,hb⟩;have HB2:=Hd (HB.o.trans (hb.mono HB.o.size));have k1:=HK1.o.below hb;have k2:=HK2.o.below hb;clear a0 a1 a2 a3 a4 a5 a6 a7 a8 a9 hb;obtain⟨a0,a1,a2,a3,a4,a5,a6,a7,a8,a9⟩:=iG k1;have l0:=i9 k2;have z0:=k2.frozen 0;have K2:=Hd k2;have HO:Hid (fP (fun k=>k=lb) w (w2.setCell ⟨lb,0,none⟩ (.string p.name))):=Hd ((aK HB2.o _).setCell _ _ (fun _=>rfl));have HKL:Hid (Blk (w2.setCell ⟨lb,0,none⟩ (.string p.name)) lb #[.string p.name] 9):=Hd ((k2.set 0 (.string p.name)).eq (by simp));clear k1 k2;cases m with
 | false =>
   go_wp2;go_ret;exact⟨by rfl,HKL.o,HO.o⟩
 | true =>
   go_wp2;go_ret;exact⟨by rw[HT.o];try rfl,HKL.o,HO.o⟩
theorem rJ (l:List Pm):∀ (g j:Nat),j+g=l.length->(mV (pY l j) (l.drop j)=true↔∃ i,j<=i/\MY l i=true)
 | 0,j,h=>by
   rw[aP (by omega)];constructor
   .intro h;cases h
   rintro⟨i,hi,hq⟩;unfold MY at hq;rw[bN (by omega)] at hq;cases hq
 | g+1,j,h=>by
   obtain⟨p,hp⟩:=fO (l:=l) (i:=j) (by omega);rw[fS hp,mV];have e1:pY l (j+1)=p.name:=by simp[pY,hp]
   have e2:MY l j=(!F5 p||QK p.name (pY l j)):=by unfold MY;rw[hp]
   have ih:=rJ l g (j+1) (by omega);rw[e1] at ih;rw[<-e2,eD,ih];constructor
   .rintro(hq | ⟨i,hi,hq⟩)
    .exact⟨j,aA _,hq⟩
    exact⟨i,by omega,hq⟩
   rintro⟨i,hi,hq⟩;rcases bI j i with h' | h'
   .exact .inr ⟨i,h',hq⟩
   have:i=j:=by omega
   subst this;exact .inl hq
theorem OD {q:Nat->Bool} {n:Nat} (h:∀ i,n<=i->q i=false):0<=jX q n↔∃ i,q i=true:=by
 unfold jX;cases hf:(List.range n).find? q with
 | none =>
   rw[eU] at hf;constructor
   .intro h0;simp at h0
   rintro⟨i,hi⟩;rcases bI i n with h' | h'
   .exact absurd hi (hf i (List.mem_range.2 h'))
   rw[h i h'] at hi;cases hi
 | some i=>exact⟨fun _=>⟨i,eA hf⟩,fun _=>by simp⟩
theorem CJ (l:List Pm):mV ByteArray.empty l=decide (0<=jX (MY l) l.length):=by
 have h1:=rJ l l.length 0 (by omega);have h2:=OD (q:=MY l) (n:=l.length) (fun i hi=>by unfold MY;rw[bN (by omega)]);rw[Bool.eq_iff_iff,decide_eq_true_iff,h2];exact h1.trans ⟨fun ⟨i,_,h⟩=>⟨i,h⟩,fun ⟨i,h⟩=>⟨i,eH _,h⟩⟩
theorem CH (S:Nat->Prop) (A:Option Addr) (c:Nat) (l:List Pm) (w:World) (hV:j4 w) (hl:Ls S w 10 128 Pm.tr A c l) (hn:l.length<=1000000) (hs:∀ p∈l,iM p) :
 Calls Tryz.prog 128 #[.slice A l.length c] w fun e w'=>e=.returned (.int .i64 (pCheck l:Nat))/\Below w.heap.size w w':=by
 have hcap:=hl.cap;have hmax:=hl.max;have HP:Hid (pCheck l=if 6<l.length then 3 else if mV ByteArray.empty l=true then 2 else 0):=Hd rfl;by_cases h6:6<l.length
 .have h6i:(6:Int)<(l.length:Int):=by omega
  rw[if_pos h6] at HP;clear h6 hl hV hs;go_enter Tryz.func128,Tryz.ntmps128;go_wp2;go_ret;exact⟨by rw[HP.o];try rfl,aB _ _⟩
 have h6i:¬((6:Int)<(l.length:Int)):=by omega
 rw[if_neg h6] at HP;have hbn:Below w.heap.size w (w.alloc (.cells #[.string ByteArray.empty] 9)):=(aB _ w).alloc (aA _) _;have hW:(w.alloc (.cells #[.string ByteArray.empty] 9)).heap.size=w.heap.size+1:=by simp
 have hlb:=(hl.bound).below hbn;have HFD:=Hd (uH (fun k=>S k/\k<w.heap.size) 174 #[.pointer (some ⟨w.heap.size,0,none⟩)] (MY l)
  (fun j w'=>fP (fun k=>k=w.heap.size) (w.alloc (.cells #[.string ByteArray.empty] 9)) w'/\Blk w' w.heap.size #[.string (pY l j)] 9) A c l (w.alloc (.cells #[.string ByteArray.empty] 9))
  (fun j w' h=>hlb.only h.1 (fun k hk e=>by rw[e] at hk;exact Nat.lt_irrefl _ hk.2)) hn (callFunc_go Tryz.func174 rfl rfl) ⟨bG _ _,aJ w _ _⟩
  (fun j w' w'' h hb=>⟨h.1.trans (aK hb _) (fun _ _ h=>h),h.2.below hb⟩)
  (fun j x hx cs w' h ht=>by
    have hbw:Below w.heap.size w w':=h.1.belowB hbn (fun _ h=>by omega);refine(JP _ x cs (pY l j) w.heap.size w' (hV.below hbw) ht (hs x (aD hx)) h.2).mono ?_;rintro e w'' ⟨rfl,h1,h2⟩;refine⟨?_,h.1.trans h2 (fun _ _ h=>h),?_⟩
    .unfold MY;rw[hx]
    rw[show pY l (j+1)=x.name by simp[pY,hx]];exact h1))
 have HG:=Hd (CJ l);obtain⟨z,hz⟩:∃ z,z=jX (MY l) l.length:=⟨_,rfl⟩;rw[<-hz] at HFD HG;have HB:=Hd hbn;clear h6 hl hV hs hbn hW hlb hz;go_enter Tryz.func128,Tryz.ntmps128;go_wp2_with fail;refine HFD.o.mono ?_;rintro e w2 ⟨rfl,j,ho,-⟩;have HB2:Hid (Below w.heap.size w w2):=Hd (ho.belowB HB.o (fun _ h=>by omega));clear ho;by_cases hz0:0<=z
 .rw[HG.o,decide_eq_true hz0,if_pos rfl] at HP;go_wp2;go_ret;exact⟨by rw[HP.o];try rfl,HB2.o⟩
 rw[HG.o,decide_eq_false hz0,if_neg (by decide)] at HP;go_wp2;go_ret;exact⟨by rw[HP.o];try rfl,HB2.o⟩
theorem jL (a b:ByteArray):(a.toList==b.toList)=fW a b:=by
 by_cases h:a=b
 .rw[yU h,bEq_iff.2 h]
 rw[vK h,bEq_ne h]
theorem fX {g:Gv} (h:Trs.at S w g.tr cs):∃ (GA GB:Option Addr) (gc gd:Nat),cs=(kG g GA gc GB gd).toList/\g.name.size<=9007199254740992/\Trs.at S w g.v.tr [.int .i8 g.v.kind,.bool g.v.bool,.int .i64 g.v.num,.string g.v.text,.slice GA g.v.list.length gc,.slice GB g.v.keys.length gd]:=by
 obtain⟨vs,rfl,hn,hv⟩:=Gv.at_iff.1 h;have hv':=hv;obtain⟨GA,gc,GB,gd,rfl,-⟩:=Vl.at_iff.1 hv';exact⟨GA,GB,gc,gd,rfl,hn,hv⟩
theorem K8 (S:Nat->Prop) (g:Gv) (cs:List Value) (nm:ByteArray) (nb:Nat) (w:World) (hg:Trs.at S w g.tr cs) (hnb:Blk w nb #[.string nm] 9) :
 Calls Tryz.prog 102 (#[.agg cs.toArray]++#[.pointer (some ⟨nb,0,none⟩)]) w (BoolB (fW g.name nm) w):=by
 obtain⟨GA,GB,gc,gd,rfl,-,-⟩:=fX hg;have hbn:Below w.heap.size w (w.alloc (.cells (kG g GA gc GB gd) 46)):=(aB _ w).alloc (aA _) _;have HB:=Hd hbn;obtain⟨e0,e1,e2,e3,e4,e5,e6,e7⟩:=gI (aJ w (kG g GA gc GB gd) 46);have n0:=i9 (hnb.alloc (.cells (kG g GA gc GB gd) 46));have HE:=Hd (jL g.name nm);clear hg hnb hbn;simp only[bV,bS,bM,bP];go_enter Tryz.func102,Tryz.ntmps102;go_wp2;go_ret;exact⟨by rw[<-HE.o];try rfl,HB.o⟩
theorem wO {k:Nat} (h:l.findIdx? p=some k):k<l.length/\l.find? p=l[k]?/\iT p l=(k:Int):=by
 obtain⟨hk,hp,hlt⟩:=List.findIdx?_eq_some_iff_getElem.1 h;refine⟨hk,?_,by unfold iT;rw[h]⟩;rw[aM hk,dX];exact⟨hp,k,hk,rfl,fun j hj=>by simpa using hlt j hj⟩
theorem wP (h:l.findIdx? p=none):l.find? p=none/\iT p l=-1:=by
 refine⟨?_,by unfold iT;rw[h]⟩;rw[dC] at h;exact List.find?_eq_none.2 (fun x hx=>by rw[h x hx];decide)
def E5 (S:Nat->Prop) (o:Option Gv) (w:World) (e:Ending) (w':World):Prop:=Below w.heap.size w w'/\match o with
 | some g=>∃ cs:List Value,e=.returned (.tuple #[.agg cs.toArray,.bool true])/\Trs.at S w' g.tr cs
 | none=>e=.returned (.tuple #[.agg zeroCells,.bool false])
theorem qN (S:Nat->Prop) (A:Option Addr) (c:Nat) (l:List Gv) (nm:ByteArray) (w:World) (hls:Ls S w 8 104 Gv.tr A c l) (hn:l.length<=1000000) :
 Calls Tryz.prog 60 #[.slice A l.length c,.string nm] w (E5 S (gR l nm) w):=by
 have hcap:=hls.cap;have hbyt:=hls.bytes;have hb0:Below w.heap.size w ((w.alloc (.cells #[.string nm] 9)).alloc (.cells zC 46)):=((aB _ w).alloc (aA _) _).alloc (by simp) _;have hxn:Blk ((w.alloc (.cells #[.string nm] 9)).alloc (.cells zC 46)) w.heap.size #[.string nm] 9:=(aJ w _ _).alloc _;have hxg:Blk ((w.alloc (.cells #[.string nm] 9)).alloc (.cells zC 46)) (w.heap.size+1) zC 46:=by
  have:=aJ (w.alloc (.cells #[.string nm] 9)) zC 46;rwa [show (w.alloc (.cells #[.string nm] 9)).heap.size=w.heap.size+1 by simp] at this
 have hlb:=hls.bound;have HFD:=Hd (wN _ 102 #[.pointer (some ⟨w.heap.size,0,none⟩)] (fun g=>fW g.name nm) A c l ((w.alloc (.cells #[.string nm] 9)).alloc (.cells zC 46)) (hlb.below hb0) hn (callFunc_go Tryz.func102 rfl rfl) (fun x hx cs w' hb ht=>K8 _ x cs nm w.heap.size w' ht (hxn.below hb)));have HLS:=Hd (hlb.below hb0);have HLW:=Hd hlb;have HXG:=Hd hxg;have HB0:=Hd hb0;have HGF:Hid (gR l nm=l.find? fun g=>fW g.name nm):=Hd rfl;obtain⟨W2,hW2⟩:∃ W2,((w.alloc (.cells #[.string nm] 9)).alloc (.cells zC 46))=W2:=⟨_,rfl⟩;have HW:=Hd hW2;rw[hW2] at HFD HXG HB0 HLS;clear hls hb0 hxn hxg hlb hW2;cases hfi:l.findIdx? (fun g=>fW g.name nm) with
 | none =>
   obtain⟨h1,h2⟩:=wP hfi;rw[h2] at HFD;rw[h1] at HGF;clear hfi h1 h2;go_enter Tryz.func60,Tryz.ntmps60;go_wp2_with fail;rw[HW.o];go_wp2_with fail;refine HFD.o.mono ?_;rintro e w3 ⟨rfl,hb⟩;have HB3:=Hd (HB0.o.trans (hb.mono HB0.o.size));have hxg3:=HXG.o.below hb;have HXG3:=Hd hxg3;obtain⟨e0,e1,e2,e3,e4,e5,e6,e7⟩:=gI hxg3;clear hb hxg3;go_wp2_with ((with_reducible refine is_store ?_);refine wpList_store_blk rfl 46 _ _ rfl (w.heap.size+1) zC zC 46 rfl rfl HXG3.o rfl (by kernel_rfl) (by simp[Value.oneCell']) ?_;intro w5 hk5 ho5;have HK5:=Hd hk5;have HO5:=Hd ho5;clear hk5 ho5);obtain⟨r0,r1,r2,r3,r4,r5,r6,r7⟩:=gI HK5.o;refine bodyPost_ret (v:=.tuple #[.agg zeroCells,.bool false]) (by simp[zeroCells,results,Tryz.results60,go_sem,r0,r1,r2,r3,r4,r5,r6,r7]) rfl ?_;rw[HGF.o];exact⟨HO5.o.belowB HB3.o (fun k hk=>by omega),rfl⟩
 | some k =>
   obtain⟨hkl,h1,h2⟩:=wO hfi;obtain⟨g,hg⟩:=fO (l:=l) (i:=k) hkl;rw[h2] at HFD;rw[h1,hg] at HGF;clear hfi h1 h2;go_enter Tryz.func60,Tryz.ntmps60;go_wp2_with fail;rw[HW.o];go_wp2_with fail;refine HFD.o.mono ?_;rintro e w3 ⟨rfl,hb⟩;have HB3:=Hd (HB0.o.trans (hb.mono HB0.o.size));have HXG3:=Hd (HXG.o.below hb);obtain⟨ad,cs,rfl,hpt,hpc⟩:=(HLS.o.below hb).elem dA hg;have hpt':=hpt;obtain⟨GA,GB,gc,gd,rfl,-,-⟩:=fX hpt';obtain⟨d0,d1,d2,d3,d4,d5,d6,d7⟩:=l8 hpc;have hki:(0:Int)<=(k:Int)/\(k:Int)<(l.length:Int):=by omega
   have hkn:¬((k:Int)<0):=by omega
   have HPT:=Hd hpt;clear hb hpt hpt' hpc hg;go_wp2_with ((with_reducible refine is_store ?_);refine wpList_store_blk rfl 46 _ _ rfl (w.heap.size+1) (kG g GA gc GB gd) zC 46 rfl rfl HXG3.o rfl (by kernel_rfl) (by simp[Value.oneCell']) ?_;intro w5 hk5 ho5;have HK5:=Hd hk5;have HO5:=Hd ho5;clear hk5 ho5);obtain⟨r0,r1,r2,r3,r4,r5,r6,r7⟩:=gI HK5.o;refine bodyPost_ret (v:=.tuple #[.agg (kG g GA gc GB gd),.bool true]) (by simp[results,Tryz.results60,go_sem,r0,r1,r2,r3,r4,r5,r6,r7]) rfl ?_;rw[HGF.o];exact⟨HO5.o.belowB HB3.o (fun k hk=>by omega),_,rfl,(HPT.o.only HO5.o (fun k hk=>by have:=hk.2;omega)).mono (fun k hk=>hk.1)⟩
variable {p:Pm}
theorem JN (h:Trs.at S w p.tr cs):∃ (A1 B1 A2:Option Addr) (c1 d1 c2:Nat),cs=(kP p A1 c1 B1 d1 A2 c2).toList:=by
 obtain⟨vs,A2,c2,rfl,hn,hv,hl⟩:=Pm.at_iff.1 h;obtain⟨A1,c1,B1,d1,rfl,-⟩:=Vl.at_iff.1 hv;exact⟨A1,B1,A2,c1,d1,c2,rfl⟩
theorem MC (S:Nat->Prop) (p:Pm) (pc:List Value) (g:Gv) (GA GB:Option Addr) (gc gd:Nat) (gb:Nat) (w:World) (hp:Trs.at S w p.tr pc) (hgb:Blk w gb (kG g GA gc GB gd) 46) :
 Calls Tryz.prog 131 (#[.agg pc.toArray]++#[.pointer (some ⟨gb,0,none⟩)]) w (BoolB (fW p.name g.name) w):=by
 obtain⟨A1,B1,A2,c1,d1,c2,rfl⟩:=JN hp;have hbn:Below w.heap.size w (w.alloc (.cells (kP p A1 c1 B1 d1 A2 c2) 145)):=(aB _ w).alloc (aA _) _;have HB:=Hd hbn;obtain⟨a0,a1,a2,a3,a4,a5,a6,a7,a8,a9⟩:=iG (aJ w (kP p A1 c1 B1 d1 A2 c2) 145);obtain⟨e0,e1,e2,e3,e4,e5,e6,e7⟩:=gI (hgb.alloc (.cells (kP p A1 c1 B1 d1 A2 c2) 145));have HE:=Hd (jL p.name g.name);clear hp hgb hbn;simp only[bV,bS,bM,bP];go_enter Tryz.func131,Tryz.ntmps131;go_wp2;go_ret;exact⟨by rw[<-HE.o];try rfl,HB.o⟩
theorem O5 (S S':Nat->Prop) (PA:Option Addr) (pc:Nat) (l:List Pm) (lb:Nat) (g:Gv) (cs:List Value) (w:World) (hl:Ls S w 10 128 Pm.tr PA pc l) (hn:l.length<=1000000) (hlb:Blk w lb #[.slice PA l.length pc] 22) (hg:Trs.at S' w g.tr cs) :
 Calls Tryz.prog 129 (#[.agg cs.toArray]++#[.pointer (some ⟨lb,0,none⟩)]) w (BoolB (!l.any fun p=>fW p.name g.name) w):=by
 obtain⟨GA,GB,gc,gd,rfl,-,-⟩:=fX hg;have hbn:Below w.heap.size w (w.alloc (.cells (kG g GA gc GB gd) 46)):=(aB _ w).alloc (aA _) _;have HB:=Hd hbn;have n0:=i9 (hlb.alloc (.cells (kG g GA gc GB gd) 46));have HFD:=Hd (GV S 131 #[.pointer (some ⟨w.heap.size,0,none⟩)] (fun p=>fW p.name g.name) PA pc l _ (hl.below hbn) hn (callFunc_go Tryz.func131 rfl rfl) (fun x hx cs' w' hb ht=>MC S x cs' g GA GB gc gd w.heap.size w' ht ((aJ w (kG g GA gc GB gd) 46).below hb)));have HG:=Hd (EL (fun p=>fW p.name g.name) l);obtain⟨z,hz⟩:∃ z,z=iT (fun p=>fW p.name g.name) l:=⟨_,rfl⟩;rw[<-hz] at HFD HG;have hcap:=hl.cap;clear hl hlb hbn hg hz;simp only[bV,bS,bM,bP];go_enter Tryz.func129,Tryz.ntmps129;go_wp2_with fail;refine HFD.o.mono ?_;rintro e w2 ⟨rfl,hb⟩;have HB2:=Hd (HB.o.trans (hb.mono HB.o.size));clear hb;go_wp2;go_ret;exact⟨by rw[<-HG.o];try rfl,HB2.o⟩
def PJ (S:Nat->Prop) (r:Nat ⊕ List Gv) (w:World) (e:Ending) (w':World):Prop:=Below w.heap.size w w'/\match r with
 | .inl n=>∃ s,e=.returned (.tuple #[.slice none 0 0,.string s,.int .i64 (n:Nat)])
 | .inr o=>∃ A c xs,e=.returned (.tuple #[.slice A o.length c,.string ⟨#[]⟩,.int .i64 0])/\Ow w' w.heap.size 46 8 A o.length c xs/\Trs.at S w' (o.flatMap Gv.tr) xs
variable {l:List Gv}
theorem GQ {x y:Gv} (hx:l[j]?=some x) (hy:l[j+1]?=some y):AM (l.drop j)=(B0 x.name y.name&&AM (l.drop (j+1))):=by
 rw[fS hx,fS hy];rfl
theorem KW (h:l.length<=j+1):AM (l.drop j)=true:=by
 have:(l.drop j).length<=1:=by simp;omega
 match l.drop j,this with
 | [],_=>rfl
 | [x],_=>rfl
theorem F7 {given:List Gv} {l:List Pm} (h:l[j]?=some p):jE given (l.take (j+1))=(jE given (l.take j)).bind fun o=>(pOne given p).map fun v=>o++[v]:=by
 rw[aT,h,cA,vU]
theorem vV {given:List Gv} {p:Pm}:∀ {l:List Pm},p∈l->pOne given p=none->jE given l=none
 | q::r,h,hp=>by
   unfold jE;rcases List.mem_cons.1 h with rfl | h
   .rw[hp]
   cases pOne given q with
   | none=>rfl
   | some b=>simp only;rw[vV h hp];rfl
theorem vP (S:Nat->Prop) (PA:Option Addr) (pc:Nat) (l:List Pm) (A:Option Addr) (c:Nat) (given:List Gv) (w:World) (hV:j4 w) (hl:Ls S w 10 128 Pm.tr PA pc l) (hn:l.length<=1000000) (hs:∀ p∈l,iM p) (hls:Ls S w 8 104 Gv.tr A c given) (hgn:given.length<=1000000) (hsg:∀ g∈given,fR g.v) :
 Calls Tryz.prog 84 #[.slice PA l.length pc,.slice A given.length c] w (PJ S (jC l given) w):=by
 have hcap:=hl.cap;have hmax:=hl.max;have hcap2:=hls.cap;have hmax2:=hls.max;have HL:=Hd hl.bound;have HLS:=Hd hls.bound;have HS:=Hd hs;have HSG:=Hd hsg;have HV:=Hd hV;have hb1:Below w.heap.size w (w.alloc (.cells #[.slice PA l.length pc] 22)):=(aB _ w).alloc (aA _) _;have HB1:=Hd hb1;have hlb:=aJ w #[.slice PA l.length pc] 22;have HLB:=Hd hlb;have l0:=i9 hlb;have HCK:=Hd (CH S PA pc l _ (hV.below hb1) (hl.below hb1) hn hs);have HP:Hid (jC l given=if pCheck l≠0 then .inl (pCheck l) else if AM given=false then .inl 2 else if given.any (fun g=>!l.any fun p=>fW p.name g.name)=true then .inl 140 else match jE given l with | none=>.inl 140 | some o=>.inr o):=Hd rfl;obtain⟨z,hz⟩:∃ z,z=pCheck l:=⟨_,rfl⟩;rw[<-hz] at HCK HP;clear hz hV hl hs hls hsg hb1 hlb;go_enter Tryz.func84,Tryz.ntmps84;go_wp2_with fail;refine HCK.o.mono ?_;rintro e w2 ⟨rfl,hb⟩;have HB2:=Hd (HB1.o.trans (hb.mono HB1.o.size));have HLB2:=Hd (HLB.o.below hb);clear hb l0;by_cases h0:z=0
 .subst h0;rw[if_neg (by decide)] at HP;go_wp2_with fail;go_loopg [8,4] (given.length-1) (fun g i o wr=>∃ j:Nat,j+g=given.length-1/\i=.int .i64 ((j:Int)+1)/\o=.slice none 0 0/\Hid (AM given=AM (given.drop j))/\Hid (Below w.heap.size w wr)/\Hid (Blk wr w.heap.size #[.slice PA l.length pc] 22))
  case atStart=>exact⟨0,by omega,rfl,rfl,Hd rfl,HB2,HLB2⟩
  obtain⟨j,hj,rfl,rfl,HN,HB3,HLB3⟩:=hrel;rename World=>wo
  cases gk with
  | zero =>
    have hjj:¬((j:Int)+1<(given.length:Int)):=by omega
    rw[HN.o,KW (show given.length<=j+1 by omega),if_neg (by decide)] at HP;have HFD:=Hd (wN _ 129 #[.pointer (some ⟨w.heap.size,0,none⟩)] (fun g=>!l.any fun p=>fW p.name g.name) A c given wo (HLS.o.below HB3.o) hgn (callFunc_go Tryz.func129 rfl rfl) (fun x hx cs w' hb ht=>O5 _ _ PA pc l w.heap.size x cs w' ((HL.o.below HB3.o).below hb) hn (HLB3.o.below hb) ht));have HG:=Hd (nT (fun g=>!l.any fun p=>fW p.name g.name) given);rw[<-HG.o] at HP;cases hfi:given.findIdx? (fun g=>!l.any fun p=>fW p.name g.name) with
    | some k =>
      obtain⟨hkl,-,h2⟩:=wO hfi;obtain⟨g,hg⟩:=fO (l:=given) (i:=k) hkl;rw[h2] at HFD HP;rw[if_pos (decide_eq_true (by omega))] at HP;clear hfi h2 HG;go_wp2_with fail;refine HFD.o.mono ?_;rintro e w4 ⟨rfl,hb⟩;have HB4:=Hd (HB3.o.trans (hb.mono HB3.o.size));obtain⟨ad,cs,rfl,hpt,hpc⟩:=(HLS.o.below HB4.o).elem dA hg;obtain⟨GA,GB,gc,gd,rfl,-,-⟩:=fX hpt;obtain⟨d0,d1,d2,d3,d4,d5,d6,d7⟩:=l8 hpc;have hki:(0:Int)<=(k:Int)/\(k:Int)<(given.length:Int):=by omega
      have hk0:(0:Int)<=(k:Int):=by omega
      clear hb hpt hpc hg;go_wp2_with fail;go_quiet (fail);go_wp2_with fail;refine bodyPost_ret (v:=.tuple #[.slice none 0 0,.string g.name,.int .i64 140]) (by simp[results,Tryz.results84,go_sem]) rfl ?_;rw[HP.o];exact⟨HB4.o.drewN _,g.name,rfl⟩
    | none =>
      obtain⟨-,h2⟩:=wP hfi;rw[h2] at HFD HP;rw[if_neg (by decide)] at HP;clear hfi h2 HG;go_wp2_with fail;refine HFD.o.mono ?_;rintro e w4 ⟨rfl,hb⟩;have HB4:=Hd (HB3.o.trans (hb.mono HB3.o.size));have l0:=i9 (HLB3.o.below hb);clear hb;go_wp2_with fail;go_loopg [49,4] l.length (fun g i o wr=>∃ (j:Nat) (O:List Gv) (OA:Option Addr) (oc:Nat) (xs:List Value),j+g=l.length/\i=.int .i64 (j:Nat)/\o=.slice OA O.length oc/\O.length<=j/\Hid (jE given (l.take j)=some O)/\Hid (Ow wr w.heap.size 46 8 OA O.length oc xs)/\Hid (Trs.at (fun k=>S k/\k<w.heap.size) wr (O.flatMap Gv.tr) xs)/\Hid (Below w.heap.size w wr))
      case atStart=>exact⟨0,[],none,0,[],by omega,rfl,rfl,aA _,Hd rfl,Hd (dF _ _ _ _),Hd (by simp[Trs.at]),HB4⟩
      clear l0;obtain⟨j2,O,OA,oc,xs,hj2,rfl,rfl,hOj,HO,HOW,HTR,HB5⟩:=hrel;rename World=>wp
      cases gk with
      | zero =>
        have hjj2:¬((j2:Int)<(l.length:Int)):=by omega
        have HO2:=HO.o;rw[aN (by omega)] at HO2;rw[HO2] at HP;clear HO2;go_wp2_with fail;refine bodyPost_ret (v:=.tuple #[.slice OA O.length oc,.string ⟨#[]⟩,.int .i64 0]) (by simp[results,Tryz.results84,go_sem]) rfl ?_;rw[HP.o];exact⟨HB5.o,OA,oc,xs,rfl,HOW.o,HTR.o.mono (fun k hk=>hk.1)⟩
      | succ g2 =>
        have hjj2:(j2:Int)<(l.length:Int):=by omega
        obtain⟨p,hp⟩:=fO (l:=l) (i:=j2) (by omega);have HTK:=Hd (F7 (given:=given) hp);rw[HO.o] at HTK;have hpm:=aD hp;have HNO:Hid (pOne given p=none->jC l given=.inl 140):=Hd (fun h=>by rw[HP.o,vV hpm h]);obtain⟨ad,cs,rfl,hpt,hpc⟩:=(HL.o.below HB5.o).elem Pm.trlen hp;obtain⟨A1,B1,A2,c1,d1,c2,rfl,hPM⟩:=mO.of hpt (HS.o p hpm);obtain⟨a0,a1,a2,a3,a4,a5,a6,a7,a8,a9⟩:=BB hpc;have hbn:Below wp.heap.size wp (wp.alloc (.cells (kP p A1 c1 B1 d1 A2 c2) 145)):=(aB _ wp).alloc (aA _) _;have hbw:=HB5.o.trans (hbn.mono HB5.o.size);have HPM0:=Hd hPM;have HPM:=Hd (hPM.below hbn);have HKP:=Hd (aJ wp (kP p A1 c1 B1 d1 A2 c2) 145);have p0:=(HKP.o.cell 0 (v:=.string p.name) rfl)
        have HBN:=Hd hbn;have HBW:=Hd hbw;have HFN:=Hd (qN (fun k=>S k/\k<w.heap.size) A c given p.name (wp.alloc (.cells (kP p A1 c1 B1 d1 A2 c2) 145)) (HLS.o.below hbw) hgn);have HON:Hid (pOne given p=match gR given p.name with | some v=>if pMayV p v=true then some v else none | none=>if p.has=false then none else if pMayV p ⟨p.name,false,p.dflt⟩=true then some ⟨p.name,false,p.dflt⟩ else none):=Hd rfl;have hmem:∀ v,gR given p.name=some v->fR v.v:=fun v h=>HSG.o v (bK h)
        have HMEM:=Hd hmem;clear hp hpt hpc hPM hbn hbw hpm hmem;cases hgf:gR given p.name with
        | some g =>
          rw[hgf] at HFN HON;have hsv:=HMEM.o g hgf;clear hgf HMEM;go_wp2_with fail;refine HFN.o.mono ?_;rintro e w5 ⟨hb,cs,rfl,ht⟩;obtain⟨GA,GB,gc,gd,rfl,-,hvt⟩:=fX ht;have hb6:Below w5.heap.size w5 (w5.alloc (.cells (kG g GA gc GB gd) 46)):=(aB _ w5).alloc (aA _) _;have hb56:=hb.trans (hb6.mono hb.size);have HB6:=Hd (HBW.o.trans (hb56.mono HBW.o.size));have hk1:=HKP.o.below hb56;have hk2:=aJ w5 (kG g GA gc GB gd) 46;have HK1:=Hd hk1;have HK2:=Hd hk2;have HT:=Hd (ht.below hb6);have HM:=Hd (nR (fun k=>S k/\k<w.heap.size) p A1 B1 A2 c1 d1 c2 g GA GB gc gd _ (HV.o.below HB6.o) (HPM.o.below hb56) (hvt.below hb6) hsv);have HPW:=Hd (hb56);obtain⟨q,hq⟩:∃ q,q=pMayV p g:=⟨_,rfl⟩;rw[<-hq] at HM HON;clear p0 a0 a1 a2 a3 a4 a5 a6 a7 a8 a9 hb hb6 hb56 ht hvt hsv hq;obtain⟨a0,a1,a2,a3,a4,a5,a6,a7,a8,a9⟩:=iG hk1;obtain⟨e0,e1,e2,e3,e4,e5,e6,e7⟩:=gI hk2;clear hk1 hk2;go_wp2_with fail;refine HM.o.mono ?_;rintro e w7 ⟨rfl,hb⟩;have HB7:=Hd (HB6.o.trans (hb.mono HB6.o.size));have hk1:=HK1.o.below hb;have hk2:=HK2.o.below hb;have HPW7:=Hd ((HBN.o.trans (HPW.o.mono HBN.o.size)).trans (hb.mono (HBN.o.trans (HPW.o.mono HBN.o.size)).size));have HT7:=Hd (HT.o.below hb);clear a0 a1 a2 a3 a4 a5 a6 a7 a8 a9 e0 e1 e2 e3 e4 e5 e6 e7 hb;obtain⟨a0,a1,a2,a3,a4,a5,a6,a7,a8,a9⟩:=iG hk1;obtain⟨e0,e1,e2,e3,e4,e5,e6,e7⟩:=gI hk2;clear hk1 hk2;cases q with
          | false =>
            have HE:=Hd (HNO.o (by rw[HON.o];rfl));go_wp2_with fail;go_quiet (fail);go_wp2_with fail;refine bodyPost_ret (v:=.tuple #[.slice none 0 0,.string p.name,.int .i64 140]) (by simp[results,Tryz.results84,go_sem]) rfl ?_;rw[HE.o];exact⟨HB7.o.drewN _,p.name,rfl⟩
          | true =>
            have HOW7:=Hd (HOW.o.below HPW7.o);have HTR7:=Hd (HTR.o.below HPW7.o);have HRN:=Hd (cQ w7 8 1 (kG g GA gc GB gd) 46 (0,0) rfl (by simp[maxLen]));have hlo:=HB7.o.size;go_wp2_with (at_builtin;refine wpList_row info_given Tryz.underlying28 rfl (by omega) rfl (.tmp 82) (.tmp 84) rfl w.heap.size OA oc O.length xs rfl (HOW7.o.alloc _) (some ⟨w7.heap.size,0,none⟩) 1 1 (kG g GA gc GB gd).toList rfl HRN.o (by simp[Value.oneCell']) (by omega) (by omega) (by simp;omega) ?_;intro A' c' w8 ho hg hat;have HO8:=Hd ho;have HG8:=Hd hg;clear ho hg hat);go_roundg g2
            case measure=>omega
            case rel =>
             have hb8:Below w.heap.size w w8:=(HB7.o.alloc hlo _).grown HG8.o (by simp;omega) (fun k hk=>(HOW7.o.lt hk).1);have hon:fP (fun k=>some k=blk OA) w7 w8:=((bG _ _).alloc _).grown HG8.o (fun g hg _=>hg.symm);have hlw:∀ k,(S k/\k<w.heap.size)->¬(some k=blk OA):=fun k hk e=>by have:=(HOW7.o.lt e.symm).1;omega
             refine⟨j2+1,O++[g],A',c',xs++(kG g GA gc GB gd).toList,by omega,by go_num,by simp,by simp;omega,Hd (by rw[HTK.o,HON.o];rfl),Hd (by simpa using HO8.o),Hd ?_,Hd hb8⟩;rw[bE];refine Trs.at.app.2 ⟨_,_,rfl,HTR7.o.only hon hlw,?_⟩;simp only[aW,bW,bQ];exact HT7.o.only hon hlw
        | none =>
          rw[hgf] at HFN HON;clear hgf HMEM;go_wp2_with fail;refine HFN.o.mono ?_;rintro e w5 ⟨hb,rfl⟩;have hb6:Below w5.heap.size w5 (w5.alloc (.cells zC 46)):=(aB _ w5).alloc (aA _) _;have hb56:=hb.trans (hb6.mono hb.size);have HB6:=Hd (HBW.o.trans (hb56.mono HBW.o.size));have hk1:=HKP.o.below hb56;have hk2:=aJ w5 zC 46;have HK1:=Hd hk1;have HK2:=Hd hk2;have hsz5:wp.heap.size<w5.heap.size:=by have:=hb.size;simp at this;omega
          have HPW:=Hd (HBN.o.trans (hb56.mono HBN.o.size));have HPM6:=Hd (HPM.o.below hb56);clear p0 a0 a1 a2 a3 a4 a5 a6 a7 a8 a9 hb hb6 hb56;obtain⟨a0,a1,a2,a3,a4,a5,a6,a7,a8,a9⟩:=iG hk1;obtain⟨e0,e1,e2,e3,e4,e5,e6,e7⟩:=gI hk2;clear hk1 hk2;cases hh:p.has with
          | false =>
            unfold kP at HK1;rw[hh] at a2 HK1;have HE:=Hd (HNO.o (by rw[HON.o,hh];rfl));clear hh;unfold zeroCells;go_wp2_with ((with_reducible refine is_store ?_);refine wpList_store_blk rfl 46 _ _ rfl w5.heap.size #[.string p.name,.bool false,.int .i8 p.dflt.kind,.bool p.dflt.bool,.int .i64 p.dflt.num,.string p.dflt.text,.slice A1 p.dflt.list.length c1,.slice B1 p.dflt.keys.length d1] zC 46 rfl rfl HK2.o rfl (by kernel_rfl) (by simp[Value.oneCell']) ?_;intro w6 hk6 ho6;have HK6:=Hd hk6;have HO6:=Hd ho6;have k16:=HK1.o.only ho6 (by omega);clear hk6 ho6 a0 a1 a2 a3 a4 a5 a6 a7 a8 a9 e0 e1 e2 e3 e4 e5 e6 e7;obtain⟨a0,a1,a2,a3,a4,a5,a6,a7,a8,a9⟩:=iG k16;obtain⟨e0,e1,e2,e3,e4,e5,e6,e7⟩:=gI HK6.o);have hbp6:=HO6.o.belowB HPW.o (fun k hk=>by omega);have hbw6:=HB5.o.trans (hbp6.mono HB5.o.size);have HB7:=Hd hbw6;have HPW6:=Hd hbp6;have hpm6:=HPM0.o.below hbp6;have HK16:=Hd k16;have HM:=Hd (nR (fun k=>S k/\k<w.heap.size) p A1 B1 A2 c1 d1 c2 ⟨p.name,false,p.dflt⟩ A1 B1 c1 d1 w6 (HV.o.below hbw6) hpm6 hpm6.dflt hpm6.sm.2.1);have HNV:Hid (Trs.at (fun k=>S k/\k<w.heap.size) w6 (Gv.tr ⟨p.name,false,p.dflt⟩) #[.string p.name,.bool false,.int .i8 p.dflt.kind,.bool p.dflt.bool,.int .i64 p.dflt.num,.string p.dflt.text,.slice A1 p.dflt.list.length c1,.slice B1 p.dflt.keys.length d1].toList):=Hd (Gv.at_iff.2 ⟨_,rfl,hpm6.nm,hpm6.dflt⟩);clear hbp6 hbw6 hpm6 k16;clear HM;go_wp2_with fail;go_quiet (fail);go_wp2_with fail;refine bodyPost_ret (v:=.tuple #[.slice none 0 0,.string p.name,.int .i64 140]) (by simp[results,Tryz.results84,go_sem]) rfl ?_;rw[HE.o];exact⟨HB7.o.drewN _,p.name,rfl⟩
          | true =>
            rw[hh,if_neg (by decide)] at HON;unfold kP at HK1;rw[hh] at a2 HK1;unfold zeroCells;go_wp2_with ((with_reducible refine is_store ?_);refine wpList_store_blk rfl 46 _ _ rfl w5.heap.size #[.string p.name,.bool false,.int .i8 p.dflt.kind,.bool p.dflt.bool,.int .i64 p.dflt.num,.string p.dflt.text,.slice A1 p.dflt.list.length c1,.slice B1 p.dflt.keys.length d1] zC 46 rfl rfl HK2.o rfl (by kernel_rfl) (by simp[Value.oneCell']) ?_;intro w6 hk6 ho6;have HK6:=Hd hk6;have HO6:=Hd ho6;have k16:=HK1.o.only ho6 (by omega);clear hk6 ho6 a0 a1 a2 a3 a4 a5 a6 a7 a8 a9 e0 e1 e2 e3 e4 e5 e6 e7;obtain⟨a0,a1,a2,a3,a4,a5,a6,a7,a8,a9⟩:=iG k16;obtain⟨e0,e1,e2,e3,e4,e5,e6,e7⟩:=gI HK6.o);have hbp6:=HO6.o.belowB HPW.o (fun k hk=>by omega);have hbw6:=HB5.o.trans (hbp6.mono HB5.o.size);have HB7:=Hd hbw6;have HPW6:=Hd hbp6;have hpm6:=HPM0.o.below hbp6;have HK16:=Hd k16;have HM:=Hd (nR (fun k=>S k/\k<w.heap.size) p A1 B1 A2 c1 d1 c2 ⟨p.name,false,p.dflt⟩ A1 B1 c1 d1 w6 (HV.o.below hbw6) hpm6 hpm6.dflt hpm6.sm.2.1);have HNV:Hid (Trs.at (fun k=>S k/\k<w.heap.size) w6 (Gv.tr ⟨p.name,false,p.dflt⟩) #[.string p.name,.bool false,.int .i8 p.dflt.kind,.bool p.dflt.bool,.int .i64 p.dflt.num,.string p.dflt.text,.slice A1 p.dflt.list.length c1,.slice B1 p.dflt.keys.length d1].toList):=Hd (Gv.at_iff.2 ⟨_,rfl,hpm6.nm,hpm6.dflt⟩);clear hbp6 hbw6 hpm6 k16;unfold kP at HM;rw[hh] at HM;clear hh;obtain⟨q,hq⟩:∃ q,q=pMayV p ⟨p.name,false,p.dflt⟩:=⟨_,rfl⟩;rw[<-hq] at HM HON;clear hq;go_wp2_with fail;refine HM.o.mono ?_;rintro e w7 ⟨rfl,hb⟩;have HB8:=Hd (HB7.o.trans (hb.mono HB7.o.size));have HPW7:=Hd (HPW6.o.trans (hb.mono HPW6.o.size));have HT7:=Hd (HNV.o.below hb);have hk1:=HK16.o.below hb;have hk2:=HK6.o.below hb;clear a0 a1 a2 a3 a4 a5 a6 a7 a8 a9 e0 e1 e2 e3 e4 e5 e6 e7 hb;obtain⟨a0,a1,a2,a3,a4,a5,a6,a7,a8,a9⟩:=iG hk1;obtain⟨e0,e1,e2,e3,e4,e5,e6,e7⟩:=gI hk2;clear hk1 hk2;cases q with
            | false =>
              have HE:=Hd (HNO.o (by rw[HON.o];rfl));go_wp2_with fail;go_quiet (fail);go_wp2_with fail;refine bodyPost_ret (v:=.tuple #[.slice none 0 0,.string p.name,.int .i64 140]) (by simp[results,Tryz.results84,go_sem]) rfl ?_;rw[HE.o];exact⟨HB8.o.drewN _,p.name,rfl⟩
            | true =>
              have HOW7:=Hd (HOW.o.below HPW7.o);have HTR7:=Hd (HTR.o.below HPW7.o);have HRN:=Hd (cQ w7 8 1 #[.string p.name,.bool false,.int .i8 p.dflt.kind,.bool p.dflt.bool,.int .i64 p.dflt.num,.string p.dflt.text,.slice A1 p.dflt.list.length c1,.slice B1 p.dflt.keys.length d1] 46 (0,0) rfl (by simp[maxLen]));have hlo:=HB8.o.size;go_wp2_with (at_builtin;refine wpList_row info_given Tryz.underlying28 rfl (by omega) rfl (.tmp 82) (.tmp 84) rfl w.heap.size OA oc O.length xs rfl (HOW7.o.alloc _) (some ⟨w7.heap.size,0,none⟩) 1 1 #[.string p.name,.bool false,.int .i8 p.dflt.kind,.bool p.dflt.bool,.int .i64 p.dflt.num,.string p.dflt.text,.slice A1 p.dflt.list.length c1,.slice B1 p.dflt.keys.length d1].toList rfl HRN.o (by simp[Value.oneCell']) (by omega) (by omega) (by simp;omega) ?_;intro A' c' w8 ho hg hat;have HO8:=Hd ho;have HG8:=Hd hg;clear ho hg hat);go_roundg g2
              case measure=>omega
              case rel =>
               have hb8:Below w.heap.size w w8:=(HB8.o.alloc hlo _).grown HG8.o (by simp;omega) (fun k hk=>(HOW7.o.lt hk).1);have hon:fP (fun k=>some k=blk OA) w7 w8:=((bG _ _).alloc _).grown HG8.o (fun g hg _=>hg.symm);have hlw:∀ k,(S k/\k<w.heap.size)->¬(some k=blk OA):=fun k hk e=>by have:=(HOW7.o.lt e.symm).1;omega
               refine⟨j2+1,O++[⟨p.name,false,p.dflt⟩],A',c',xs++#[.string p.name,.bool false,.int .i8 p.dflt.kind,.bool p.dflt.bool,.int .i64 p.dflt.num,.string p.dflt.text,.slice A1 p.dflt.list.length c1,.slice B1 p.dflt.keys.length d1].toList,by omega,by go_num,by simp,by simp;omega,Hd (by rw[HTK.o,HON.o];rfl),Hd (by simpa using HO8.o),Hd ?_,Hd hb8⟩;rw[bE];refine Trs.at.app.2 ⟨_,_,rfl,HTR7.o.only hon hlw,?_⟩;simp only[aW,bW,bQ];exact HT7.o.only hon hlw
  | succ g =>
    have hjj:(j:Int)+1<(given.length:Int):=by omega
    obtain⟨x,hx⟩:=fO (l:=given) (i:=j) (by omega);obtain⟨y,hy⟩:=fO (l:=given) (i:=j+1) (by omega);have HD:=Hd (GQ hx hy);obtain⟨ad,cs,rfl,hpt,hpc⟩:=(HLS.o.below HB3.o).elem dA hx;obtain⟨ad',cs',e',hpt',hpc'⟩:=(HLS.o.below HB3.o).elem dA hy;injection e' with e';subst e';obtain⟨GA,GB,gc,gd,rfl,-,-⟩:=fX hpt;obtain⟨HA,HBB,hc,hd,rfl,-,-⟩:=fX hpt';obtain⟨d0,d1,d2,d3,d4,d5,d6,d7⟩:=l8 hpc;obtain⟨e0,e1,e2,e3,e4,e5,e6,e7⟩:=l8 hpc';have hwr:IntKind.i64.wrap ((j:Int)+1-1)=(j:Int):=by rw[IntKind.wrap_i64];omega
    have hji:(0:Int)<=(j:Int)/\(j:Int)<(given.length:Int):=by omega
    have hjk:(0:Int)<=(j:Int)+1/\(j:Int)+1<(given.length:Int):=by omega
    have HTL:Hid (B0 x.name y.name=Op.bytesLess x.name.toList y.name.toList):=Hd rfl;clear hx hy hpt hpt' hpc hpc';cases hlt:Op.bytesLess x.name.toList y.name.toList with
    | true =>
      rw[hlt] at HTL;go_wp2_with fail;go_quiet (fail);go_wp2_with fail;go_roundg g
      case measure=>omega
      case rel=>exact⟨j+1,by omega,by go_num,rfl,Hd (by rw[HN.o,HD.o,HTL.o];rfl),Hd (HB3.o.drewN _),Hd HLB3.o⟩
    | false =>
      rw[hlt] at HTL;rw[HN.o,HD.o,HTL.o,if_pos (by rfl)] at HP;go_wp2_with fail;go_quiet (fail);go_wp2_with fail;refine bodyPost_ret (v:=.tuple #[.slice none 0 0,.string ⟨#[]⟩,.int .i64 2]) (by simp[results,Tryz.results84,go_sem]) rfl ?_;rw[HP.o];exact⟨HB3.o.drewN _,_,rfl⟩
 have hz:((z:Int)==0)=false:=by simpa using h0
 rw[if_pos h0] at HP;clear h0;go_wp2_with fail;refine bodyPost_ret (v:=.tuple #[.slice none 0 0,.string ⟨#[]⟩,.int .i64 z]) (by simp[results,Tryz.results84,go_sem]) rfl ?_;rw[HP.o];exact⟨HB2.o,_,rfl⟩
