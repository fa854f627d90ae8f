/- Part of the proof. -/
import Derived.Deep.DeepCutAuto
import Derived.Test.YtjmklmngikpeaaaGreatDoorCn8
set_option maxRecDepth 100000
set_option maxHeartbeats 8000000
set_option linter.unusedVariables false
set_option linter.unusedSimpArgs false
namespace Go.Proofs.YtjmklmngikpeaaaGreatDoor
open Go.RowKit
variable {q:Nat}{S:Nat->Prop}{α:Type}{W w:World}
theorem sA (l:List α) (i:Nat) (a:α):l.toArray.setIfInBounds i a=(l.set i a).toArray:=aE ..
theorem sB (x:α) (l:List α) (a:α):(x::l).set 0 a=a::l:=aH
theorem sC (x:α) (l:List α) (n:Nat) (a:α):(x::l).set (n+1) a=x::l.set n a:=aI
def jO (t:ByteArray):Vl:=⟨3,false,0,t,[],[]⟩
def oA (n:Int):Vl:=⟨2,false,n,ByteArray.empty,[],[]⟩
def gV:Vl:=⟨0,false,0,ByteArray.empty,[],[]⟩
def BO (ps:List Gv) (s:ByteArray):Option Nat:=ps.findIdx? fun p=>fW p.name s
def plainG (e:Ex) (ps:List Gv):Option Gv :=
 if gF e=false then none else if e.kind=0 then some ⟨ByteArray.empty,false,jO e.text⟩ else if e.kind=1 then some ⟨ByteArray.empty,false,oA e.num⟩
 else match BO ps e.name with | some k=>(ps[k]?).map (fun p=>⟨ByteArray.empty,p.unknown,p.v⟩) | none=>none
theorem NQ (bx:Nat) (e:Ex) (XA:Option Addr) (xc:Nat) (p:Gv) (GL GK:Option Addr) (lc kc:Nat) (w:World) (hx:Blk w bx (kX e XA xc) 32) :
 Calls Tryz.prog 127 #[.agg (kG p GL lc GK kc),.pointer (some ⟨bx,0,none⟩)] w (BoolB (fW p.name e.name) w):=by
 have c3:=hx.cell 3 (v:=.string e.name) rfl;have hlt:=hx.lt;have c3':=(cL w (.cells (kG p GL lc GK kc) 46) ⟨bx,3,none⟩ hlt).trans c3;have HB:Hid (Below w.heap.size w (w.alloc (.cells (kG p GL lc GK kc) 46))):=Hd ((aB _ w).alloc (aA _) _);clear hx c3;go_enter Tryz.func127,Tryz.ntmps127;go_wp2;go_ret;refine⟨?_,HB.o⟩;unfold fW;rw[<-Lib.toList_data,<-Lib.toList_data];first | rfl | simp
def xO (ps:List Gv) (s:ByteArray):Int:=match BO ps s with | some i=>(i:Int) | none=>-1
theorem GO (S:Nat->Prop) (bx:Nat) (e:Ex) (XA:Option Addr) (xc:Nat) (A:Option Addr) (c:Nat) (ps:List Gv) (w:World) (hx:Blk w bx (kX e XA xc) 32) (hr:Ls S w 8 104 Gv.tr A c ps) :
 Calls Tryz.prog 126 #[.slice A ps.length c,.func (.func 127) #[] #[.pointer (some ⟨bx,0,none⟩)]] w fun e' w'=>e'=.returned (.int .i64 (xO ps e.name))/\Below w.heap.size w w':=by
 have hcap:=hr.cap;have hbyt:=hr.bytes;have HR:=Hd hr;have HX:=Hd hx;clear hr hx;go_enter Tryz.func126,Tryz.ntmps126;go_wp2_with fail;go_loopg [8] ps.length (fun g i wr=>∃ j:Nat,j+g=ps.length/\i=.int .i64 (j:Nat)/\Hid (BO (ps.take j) e.name=none)/\Hid (Below w.heap.size w wr))
 case atStart=>exact⟨0,by omega,rfl,Hd (by simp[BO]),Hd (aB _ _)⟩
 obtain⟨j,hj,rfl,HN,HB⟩:=hrel;rename World=>wo
 cases gk with
 | zero =>
   have hjj:¬((j:Int)<(ps.length:Int)):=by omega
   have HE:Hid (xO ps e.name=-1):=Hd (by
    have:=HN.o;rw[aN (by omega)] at this;unfold xO;rw[this])
   go_wp2;go_ret;rw[HE.o];exact⟨rfl,HB.o⟩
 | succ g =>
   have hjj:(j:Int)<(ps.length:Int):=by omega
   obtain⟨p,hp⟩:=fO (l:=ps) (i:=j) (by omega);obtain⟨ad,cs,rfl,hpt,hpc⟩:=(HR.o.below HB.o).elem dA hp;obtain⟨vs,rfl,_,hvt⟩:=Gv.at_iff.1 hpt;obtain⟨GL,lc,GK,kc,rfl,_⟩:=Vl.at_iff.1 hvt;obtain⟨d0,d1,d2,d3,d4,d5,d6,d7⟩:=l8 hpc;have HCL:=Hd (NQ bx e XA xc p GL GK lc kc wo (HX.o.below HB.o));have HTK:Hid (BO (ps.take (j+1)) e.name=(BO (ps.take j) e.name).or (if fW p.name e.name then some j else none)):=Hd (by
    unfold BO;rw[aT,hp,cO];congr 1;simp only[cA,dW,cH];split<;>simp<;>omega)
   have HFI:Hid (fW p.name e.name=true->BO ps e.name=some j):=Hd (fun hp=>by
    have h1:=HTK.o;rw[HN.o,hp] at h1;unfold BO at h1 ⊢;rw[<-cJ (j+1) ps,cO,h1];rfl)
   clear hp hpt hpc hvt;cases hp:fW p.name e.name with
   | true =>
     rw[hp] at HCL;have HE:Hid (xO ps e.name=(j:Int)):=Hd (by unfold xO;rw[HFI.o hp]);clear hp;go_wp2_with fail;refine HCL.o.mono ?_;rintro e w2 ⟨rfl,hb2⟩;have HB2:=Hd (HB.o.trans (hb2.mono HB.o.size));clear hb2;go_wp2;go_ret;rw[HE.o];exact⟨rfl,HB2.o⟩
   | false =>
     rw[hp] at HCL HTK;clear hp HFI;go_wp2_with fail;refine HCL.o.mono ?_;rintro e w2 ⟨rfl,hb2⟩;have HB2:=Hd (HB.o.trans (hb2.mono HB.o.size));clear hb2;go_wp2_with fail;go_roundg g
     case measure=>omega
     case rel=>exact⟨j+1,by omega,by go_num,Hd (by rw[HTK.o,HN.o];rfl),HB2⟩
def DQ (cs:Array Value) (w:World) (e:Ending) (w':World):Prop:=e=.returned (.agg cs)/\Below w.heap.size w w'
theorem ttext_any (s:ByteArray) (w:World):Calls Tryz.prog 124 #[.string s] w (DQ #[.int .i8 3,.bool false,.int .i64 0,.string s,.slice none 0 0,.slice none 0 0] w):=by
 go_enter Tryz.func124,Tryz.ntmps124;go_wp2_with fail;exact bodyPost_ret (v:=.agg #[.int .i8 3,.bool false,.int .i64 0,.string s,.slice none 0 0,.slice none 0 0]) (by simp[results,Tryz.results124,go_sem]) rfl ⟨rfl,(aB _ w).alloc (aA _) _⟩
theorem IZ (n:Int) (w:World):Calls Tryz.prog 125 #[.int .i64 n] w (DQ #[.int .i8 2,.bool false,.int .i64 n,.string ByteArray.empty,.slice none 0 0,.slice none 0 0] w):=by
 go_enter Tryz.func125,Tryz.ntmps125;go_wp2_with fail;exact bodyPost_ret (v:=.agg #[.int .i8 2,.bool false,.int .i64 n,.string ByteArray.empty,.slice none 0 0,.slice none 0 0]) (by simp[results,Tryz.results125,go_sem];try rfl) rfl ⟨rfl,(aB _ w).alloc (aA _) _⟩
theorem Blk.set8 {cs:Array Value} {t:TypeId} (h:Blk W q cs t) (hs:cs.size=8) (b0 b1 b2 b3 b4 b5 b6 b7:Value) :
 Blk ((((((((W.setCell ⟨q,0,none⟩ b0).setCell ⟨q,1,none⟩ b1).setCell ⟨q,2,none⟩ b2).setCell ⟨q,3,none⟩ b3).setCell ⟨q,4,none⟩ b4).setCell ⟨q,5,none⟩ b5).setCell ⟨q,6,none⟩ b6).setCell ⟨q,7,none⟩ b7) q #[b0,b1,b2,b3,b4,b5,b6,b7] t:=by
 refine((((((((h.set 0 b0).set 1 b1).set 2 b2).set 3 b3).set 4 b4).set 5 b5).set 6 b6).set 7 b7).eq ?_;obtain⟨l⟩:=cs;match l,hs with
 | [_,_,_,_,_,_,_,_],_=>simp
theorem Below.set8 {B:Nat} (h:Below B w W) (hq:B<=q) (b0 b1 b2 b3 b4 b5 b6 b7:Value) :
 Below B w ((((((((W.setCell ⟨q,0,none⟩ b0).setCell ⟨q,1,none⟩ b1).setCell ⟨q,2,none⟩ b2).setCell ⟨q,3,none⟩ b3).setCell ⟨q,4,none⟩ b4).setCell ⟨q,5,none⟩ b5).setCell ⟨q,6,none⟩ b6).setCell ⟨q,7,none⟩ b7) :=
 (((((((h.setCell hq _).setCell hq _).setCell hq _).setCell hq _).setCell hq _).setCell hq _).setCell hq _).setCell hq _
theorem i7.only {F:Nat->Prop} {w':World} {a:Addr} {cs:List Value} (h:i7 w a cs) (ho:fP F w w') (hF:¬F a.block):i7 w' a cs:=fun j u hu=>by
 have h1:=h j u hu;have hb:(if j=0 then a else ⟨a.block,a.off+j,none⟩:Addr).block=a.block:=by split<;>rfl
 have hlt:=aF w _ h1;rw[hb] at hlt;exact(bU (by rw[hb];exact ho.block _ hlt hF)).trans h1
theorem i7.drew {w:World} {a:Addr} {cs:List Value} (h:i7 w a cs):i7 w.drew a cs:=h
def zeroCells:Array Value:=zC
def kZ (S:Nat->Prop) (o:Option Gv) (w:World) (e:Ending) (w':World):Prop:=Below w.heap.size w w'/\match o with
 | some g=>∃ cs:List Value,e=.returned (.tuple #[.agg cs.toArray,.int .i64 0])/\Trs.at S w' g.tr cs
 | none=>e=.returned (.tuple #[.agg zeroCells,.int .i64 150])
theorem R5 {t:ByteArray} (h:t.size<=9007199254740992):Trs.at S w (Gv.tr ⟨ByteArray.empty,false,jO t⟩) [.string ByteArray.empty,.bool false,.int .i8 3,.bool false,.int .i64 0,.string t,.slice none 0 0,.slice none 0 0] :=
 Gv.at_iff.2 ⟨_,rfl,by show ByteArray.empty.size<=_;decide,Vl.at_iff.2 ⟨none,0,none,0,rfl,(by show (Lit.int .i8 3).wf=true;decide),(by show (Lit.int .i64 0).wf=true;decide),h,cF _ _ _ _ (by omega) _,cF _ _ _ _ (by omega) _⟩⟩
theorem R6 {n:Int} (h:(Lit.int .i64 n).wf=true):Trs.at S w (Gv.tr ⟨ByteArray.empty,false,oA n⟩) [.string ByteArray.empty,.bool false,.int .i8 2,.bool false,.int .i64 n,.string ByteArray.empty,.slice none 0 0,.slice none 0 0] :=
 Gv.at_iff.2 ⟨_,rfl,by show ByteArray.empty.size<=_;decide,Vl.at_iff.2 ⟨none,0,none,0,rfl,(by show (Lit.int .i8 2).wf=true;decide),h,by show ByteArray.empty.size<=_;decide,cF _ _ _ _ (by omega) _,cF _ _ _ _ (by omega) _⟩⟩
theorem OE {ps:List Gv} {s:ByteArray} {k:Nat} (h:BO ps s=some k):k<ps.length:=by
 unfold BO at h;rw[eV] at h;exact h.1
theorem xI (S:Nat->Prop) (e:Ex) (XA:Option Addr) (xc:Nat) (A:Option Addr) (c:Nat) (ps:List Gv) (w:World) (hV:j4 w) (hx:Trs.at S w e.tr [.int .i8 e.kind,.string e.text,.int .i64 e.num,.string e.name,.string e.attr,.slice XA e.l.length xc]) (hls:Ls S w 8 104 Gv.tr A c ps) :
 Calls Tryz.prog 83 #[.agg (kX e XA xc),.slice A ps.length c] w (kZ S (plainG e ps) w):=by
 obtain⟨hwk,hwn,hts⟩:(Lit.int .i8 e.kind).wf=true/\(Lit.int .i64 e.num).wf=true/\e.text.size<=9007199254740992:=by
  obtain⟨_,_,_,h1,h2,h3,_⟩:=Ex.at_iff.1 hx;exact⟨h1,h2,h3⟩
 have hcap:=hls.cap;have hbyt:=hls.bytes;have hb0:Below w.heap.size w ((w.alloc (.cells (kX e XA xc) 32)).alloc (.cells zC 46)):=((aB _ w).alloc (aA _) _).alloc (by simp) _;have hxe:Blk ((w.alloc (.cells (kX e XA xc) 32)).alloc (.cells zC 46)) w.heap.size (kX e XA xc) 32:=(aJ w (kX e XA xc) 32).alloc _;have hxg:Blk ((w.alloc (.cells (kX e XA xc) 32)).alloc (.cells zC 46)) (w.heap.size+1) zC 46:=by
  have:=aJ (w.alloc (.cells (kX e XA xc) 32)) zC 46;rwa [show (w.alloc (.cells (kX e XA xc) 32)).heap.size=w.heap.size+1 by simp] at this
 have HP:Hid (Calls Tryz.prog 123 #[.agg (kX e XA xc)] ((w.alloc (.cells (kX e XA xc) 32)).alloc (.cells zC 46)) fun e' w'=>e'=.returned (.bool (gF e))/\Below w.heap.size w w'/\Blk w' w.heap.size (kX e XA xc) 32/\Blk w' (w.heap.size+1) zC 46) :=
  Hd ((qL e XA xc _ (hV.below hb0) hts).mono (by
   rintro e' w' ⟨rfl,h2⟩;exact⟨rfl,hb0.trans (h2.mono hb0.size),hxe.below h2,hxg.below h2⟩))
 have HLS:=Hd hls.bound;obtain⟨pv,hpv⟩:∃ pv,pv=gF e:=⟨_,rfl⟩;have HPV:=Hd hpv;rw[<-hpv] at HP;clear hV hx hls hb0 hxe hxg hpv;go_enter Tryz.func83,Tryz.ntmps83;go_wp2_with fail;refine HP.o.mono ?_;rintro e' w3 ⟨rfl,hb3,hxe,hxg⟩;have HB3:=Hd hb3;have HXE:=Hd hxe;have HXG:=Hd hxg;have hw3:=hb3.size;clear hb3 hxe hxg HP;cases pv with
 | false =>
   have HE:Hid (plainG e ps=none):=Hd (by unfold plainG;rw[<-HPV.o];rfl);go_wp2_with ((with_reducible refine is_store ?_);refine wpList_store_blk rfl 46 _ _ rfl (w.heap.size+1) zC zC 46 rfl rfl HXG.o rfl (by kernel_rfl) (by simp[Value.oneCell']) ?_;intro w5 hk5 ho5;have HK5:=Hd hk5;have HO5:=Hd ho5;clear hk5 ho5);obtain⟨r0,r1,r2,r3,r4,r5,r6,r7⟩:=gI HK5.o;refine bodyPost_ret (v:=.tuple #[.agg zeroCells,.int .i64 150]) (by simp[zeroCells,results,Tryz.results83,go_sem,r0,r1,r2,r3,r4,r5,r6,r7]) rfl ?_;rw[HE.o];exact⟨HO5.o.belowB HB3.o (fun k hk=>by omega),rfl⟩
 | true =>
   obtain⟨e0,e1,e2,e3,e4,e5⟩:=gH HXE.o;have HPL:Hid (plainG e ps=if e.kind=0 then some ⟨ByteArray.empty,false,jO e.text⟩ else if e.kind=1 then some ⟨ByteArray.empty,false,oA e.num⟩ else match BO ps e.name with | some k=>(ps[k]?).map (fun p=>⟨ByteArray.empty,p.unknown,p.v⟩) | none=>none):=Hd (by unfold plainG;rw[<-HPV.o];rfl);by_cases h0:e.kind=0
   .have k0:(e.kind==0)=true:=by rw[h0];rfl
    have HE:Hid (plainG e ps=some ⟨ByteArray.empty,false,jO e.text⟩):=Hd (by rw[HPL.o,if_pos h0]);have HT:=Hd (ttext_any e.text w3);clear h0;go_wp2_with fail;refine HT.o.mono ?_;rintro e' w4 ⟨rfl,hb4⟩;have HB4:=Hd (HB3.o.trans (hb4.mono hw3));have HXG4:=Hd (HXG.o.below hb4);clear hb4 e0 e1 e2 e3 e4 e5;go_wp2_with ((with_reducible refine is_store ?_);refine wpList_store_blk rfl 46 _ _ rfl (w.heap.size+1) #[.string ⟨#[]⟩,.bool false,.int .i8 3,.bool false,.int .i64 0,.string e.text,.slice none 0 0,.slice none 0 0] zC 46 rfl rfl HXG4.o rfl (by kernel_rfl) (by simp[Value.oneCell']) ?_;intro w5 hk5 ho5;have HK5:=Hd hk5;have HO5:=Hd ho5;clear hk5 ho5);obtain⟨r0,r1,r2,r3,r4,r5,r6,r7⟩:=gI HK5.o;refine bodyPost_ret (v:=.tuple #[.agg #[.string ⟨#[]⟩,.bool false,.int .i8 3,.bool false,.int .i64 0,.string e.text,.slice none 0 0,.slice none 0 0],.int .i64 0]) (by simp[results,Tryz.results83,go_sem,r0,r1,r2,r3,r4,r5,r6,r7]) rfl ?_;rw[HE.o];exact⟨HO5.o.belowB HB4.o (fun k hk=>by omega),_,rfl,R5 hts⟩
   have k0:(e.kind==0)=false:=by simpa using h0
   by_cases h1:e.kind=1
   .have k1:(e.kind==1)=true:=by rw[h1];rfl
    have HE:Hid (plainG e ps=some ⟨ByteArray.empty,false,oA e.num⟩):=Hd (by rw[HPL.o,if_neg h0,if_pos h1]);have HT:=Hd (IZ e.num w3);clear h0 h1;go_wp2_with fail;refine HT.o.mono ?_;rintro e' w4 ⟨rfl,hb4⟩;have HB4:=Hd (HB3.o.trans (hb4.mono hw3));have HXG4:=Hd (HXG.o.below hb4);clear hb4 e0 e1 e2 e3 e4 e5;go_wp2_with ((with_reducible refine is_store ?_);refine wpList_store_blk rfl 46 _ _ rfl (w.heap.size+1) #[.string ⟨#[]⟩,.bool false,.int .i8 2,.bool false,.int .i64 e.num,.string ByteArray.empty,.slice none 0 0,.slice none 0 0] zC 46 rfl rfl HXG4.o rfl (by kernel_rfl) (by simp[Value.oneCell']) ?_;intro w5 hk5 ho5;have HK5:=Hd hk5;have HO5:=Hd ho5;clear hk5 ho5);obtain⟨r0,r1,r2,r3,r4,r5,r6,r7⟩:=gI HK5.o;refine bodyPost_ret (v:=.tuple #[.agg #[.string ⟨#[]⟩,.bool false,.int .i8 2,.bool false,.int .i64 e.num,.string ByteArray.empty,.slice none 0 0,.slice none 0 0],.int .i64 0]) (by simp[results,Tryz.results83,go_sem,r0,r1,r2,r3,r4,r5,r6,r7]) rfl ?_;rw[HE.o];exact⟨HO5.o.belowB HB4.o (fun k hk=>by omega),_,rfl,R6 hwn⟩
   have k1:(e.kind==1)=false:=by simpa using h1
   have HPF:Hid (plainG e ps=match BO ps e.name with | some k=>(ps[k]?).map (fun p=>⟨ByteArray.empty,p.unknown,p.v⟩) | none=>none):=Hd (by rw[HPL.o,if_neg h0,if_neg h1]);have HIX:=Hd (GO _ w.heap.size e XA xc A c ps w3 HXE.o (HLS.o.below HB3.o));clear h0 h1 HPL;cases hfi:BO ps e.name with
   | none =>
     have HE:Hid (plainG e ps=none):=Hd (by rw[HPF.o,hfi]);have hi:xO ps e.name=-1:=by unfold xO;rw[hfi]
     rw[hi] at HIX;clear hfi hi HPF;go_wp2_with fail;refine HIX.o.mono ?_;rintro e' w4 ⟨rfl,hb4⟩;have HB4:=Hd (HB3.o.trans (hb4.mono hw3));have HXG4:=Hd (HXG.o.below hb4);clear hb4 e0 e1 e2 e3 e4 e5;go_wp2_with ((with_reducible refine is_store ?_);refine wpList_store_blk rfl 46 _ _ rfl (w.heap.size+1) zC zC 46 rfl rfl HXG4.o rfl (by kernel_rfl) (by simp[Value.oneCell']) ?_;intro w5 hk5 ho5;have HK5:=Hd hk5;have HO5:=Hd ho5;clear hk5 ho5);obtain⟨r0,r1,r2,r3,r4,r5,r6,r7⟩:=gI HK5.o;refine bodyPost_ret (v:=.tuple #[.agg zeroCells,.int .i64 150]) (by simp[zeroCells,results,Tryz.results83,go_sem,r0,r1,r2,r3,r4,r5,r6,r7]) rfl ?_;rw[HE.o];exact⟨HO5.o.belowB HB4.o (fun k hk=>by omega),rfl⟩
   | some k =>
     have hkl:=OE hfi;obtain⟨p,hp⟩:=fO (l:=ps) (i:=k) hkl;have HE:Hid (plainG e ps=some ⟨ByteArray.empty,p.unknown,p.v⟩):=Hd (by rw[HPF.o,hfi];simp[hp]);have hi:xO ps e.name=(k:Int):=by unfold xO;rw[hfi]
     rw[hi] at HIX;clear hfi hi HPF;go_wp2_with fail;refine HIX.o.mono ?_;rintro e' w4 ⟨rfl,hb4⟩;have HB4:=Hd (HB3.o.trans (hb4.mono hw3));have HXG4:=Hd (HXG.o.below hb4);clear hb4 e0 e1 e2 e3 e4 e5;obtain⟨ad,cs,rfl,hpt,hpc⟩:=(HLS.o.below HB4.o).elem dA hp;obtain⟨vs,rfl,hpn,hvt⟩:=Gv.at_iff.1 hpt;obtain⟨GL,lc,GK,kc,rfl,hw1,hw2,hw3,hw4,hw5⟩:=Vl.at_iff.1 hvt;obtain⟨d0,d1,d2,d3,d4,d5,d6,d7⟩:=l8 hpc;have hne:(ad.add (k*8)).block<w.heap.size:=by
      obtain⟨_,_,e1,ht1,h1⟩:=HLS.o.elem dA hp;injection e1 with e1;subst e1;obtain⟨_,rfl,_⟩:=Gv.at_iff.1 ht1;exact aF w _ (h1 0 _ rfl)
     have hki:(0:Int)<=(k:Int)/\(k:Int)<(ps.length:Int):=by omega
     have hkn:¬((k:Int)<0):=by omega
     have HVT:=Hd hvt;have HPC:=Hd hpc;clear hpt hpc hvt hp hw1 hw2 hw3 hw4 hw5;go_wp2_with fail;refine cK 12 (fun w'=>w'.cell? ⟨(ad.add (k*8)).block,(ad.add (k*8)).off+1,none⟩=some (.bool p.unknown)/\w'.cell? ⟨(ad.add (k*8)).block,(ad.add (k*8)).off+2,none⟩=some (.int .i8 p.v.kind)/\w'.cell? ⟨(ad.add (k*8)).block,(ad.add (k*8)).off+3,none⟩=some (.bool p.v.bool)/\w'.cell? ⟨(ad.add (k*8)).block,(ad.add (k*8)).off+4,none⟩=some (.int .i64 p.v.num)/\w'.cell? ⟨(ad.add (k*8)).block,(ad.add (k*8)).off+5,none⟩=some (.string p.v.text)/\w'.cell? ⟨(ad.add (k*8)).block,(ad.add (k*8)).off+6,none⟩=some (.slice GL p.v.list.length lc)/\w'.cell? ⟨(ad.add (k*8)).block,(ad.add (k*8)).off+7,none⟩=some (.slice GK p.v.keys.length kc)) (by kernel_rfl) (by go_keep) (fun hH0=>?_);simp only[aQ,bC,aX,bA,aZ,Nat.reduceAdd];refine aL hH0 0 ?_;try simp only[Act.put,sA,sB,sC]
     refine aL hH0 1 ?_;try simp only[Act.put,sA,sB,sC]
     refine aL hH0 2 ?_;try simp only[Act.put,sA,sB,sC]
     refine aL hH0 3 ?_;try simp only[Act.put,sA,sB,sC]
     refine aL hH0 4 ?_;try simp only[Act.put,sA,sB,sC]
     refine aL hH0 5 ?_;try simp only[Act.put,sA,sB,sC]
     refine aL hH0 6 ?_;try simp only[Act.put,sA,sB,sC]
     refine aL hH0 7 ?_;try simp only[Act.put,sA,sB,sC]
     refine aL hH0 8 ?_;try simp only[Act.put,sA,sB,sC]
     refine aL hH0 9 ?_;try simp only[Act.put,sA,sB,sC]
     refine aL hH0 10 ?_;try simp only[Act.put,sA,sB,sC]
     refine cT 11 fun K hK=>?_
     refine gG 46 _ _ rfl rfl (w.heap.size+1) #[.string ⟨#[]⟩,.bool p.unknown,.int .i8 p.v.kind,.bool p.v.bool,.int .i64 p.v.num,.string p.v.text,.slice GL p.v.list.length lc,.slice GK p.v.keys.length kc] zC 46 rfl rfl HXG4.o.drew rfl (by kernel_rfl) (by simp[Value.oneCell']) ?_;intro w5 hk5 ho5;have HK5:=Hd hk5;have HO5:=Hd ho5;have hne5:¬(ad.add (k*8)).block=w.heap.size+1:=(by omega);obtain⟨f0,f1,f2,f3,f4,f5,f6,f7⟩:=l8 ((i7.drew HPC.o).only ho5 hne5);clear hk5 ho5;refine cM hK fun hH1=>?_
     clear hK K hH0;try simp only[Act.put,aE,aH,aI]
     refine dY fun K hK=>?_
     go_simp;refine hK.out _ _ ?_;clear hK K hH1;go_wp2_with fail;obtain⟨r0,r1,r2,r3,r4,r5,r6,r7⟩:=gI HK5.o;refine bodyPost_ret (v:=.tuple #[.agg #[.string ⟨#[]⟩,.bool p.unknown,.int .i8 p.v.kind,.bool p.v.bool,.int .i64 p.v.num,.string p.v.text,.slice GL p.v.list.length lc,.slice GK p.v.keys.length kc],.int .i64 0]) (by simp[results,Tryz.results83,go_sem,r0,r1,r2,r3,r4,r5,r6,r7]) rfl ?_;rw[HE.o];exact⟨HO5.o.belowB HB4.o.drew (fun k hk=>by omega),_,rfl,Gv.at_iff.2 ⟨_,rfl,by show ByteArray.empty.size<=_;decide,((HVT.o.drewN 1).only HO5.o (fun k hk=>by have:=hk.2;omega)).mono (fun k hk=>hk.1)⟩⟩
