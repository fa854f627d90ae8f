/- Part of the proof. -/
import Derived.Deep.QuietTactic
import Derived.BigQuiet
import Derived.Deep.OwnRows
import Derived.Test.YtjmklmngikpeaaaGreatDoorCn1
set_option maxRecDepth 100000
set_option maxHeartbeats 8000000
set_option linter.unusedVariables false
set_option linter.unusedSimpArgs false
namespace Go.Proofs.YtjmklmngikpeaaaGreatDoor
open Go.RowKit
variable {c:Cd}{l:List Cd}{n:List Nat}{i z:Nat}{w:World}
theorem gC (w:World) (n:Nat):Below w.heap.size w (w.drewN n):=⟨rfl,rfl,rfl,aA _,fun _ _=>rfl⟩
def SJ (rb tb nb:Nat) (p:Nat->Bool) (O:List Nat) (w:World):Prop :=
 ∀ k∈O,∀ w',Below w.heap.size w w'->Calls Tryz.prog 227 #[.int .i64 (k:Int),.pointer (some ⟨rb,0,none⟩),.pointer (some ⟨tb,0,none⟩),.pointer (some ⟨nb,0,none⟩)] w' fun e w''=>e=.returned (.bool (p k))/\Below w'.heap.size w' w''
def idxOf (p:Nat->Bool) (O:List Nat):Int:=match O.findIdx? p with | some i=>(i:Int) | none=>-1
theorem GJ (rb tb nb:Nat) (p:Nat->Bool) (A:Option Addr) (c:Nat) (O:List Nat) (w:World) (hr:Rd w 1 A O.length c (cN O)) (hO:O.length<=1000000) (hf:SJ rb tb nb p O w) :
 Calls Tryz.prog 235 #[.slice A O.length c,.func (.func 227) #[] #[.pointer (some ⟨rb,0,none⟩),.pointer (some ⟨tb,0,none⟩),.pointer (some ⟨nb,0,none⟩)]] w fun e w'=>e=.returned (.int .i64 (idxOf p O))/\Below w.heap.size w w':=by
 have HR:=Hd hr;have hcap:=hr.cap;have HF:=Hd hf;clear hr hf;go_enter Tryz.func235,Tryz.ntmps235;go_wp2_with fail;go_loopg [8] O.length (fun g i wr=>∃ j:Nat,j+g=O.length/\i=.int .i64 (j:Nat)/\Hid ((O.take j).findIdx? p=none)/\Hid (Below w.heap.size w wr))
 case atStart=>exact⟨0,by omega,rfl,Hd (by simp),Hd (aB _ _)⟩
 case round =>
  obtain⟨j,hj,rfl,HN,HB⟩:=hrel;rename World=>wo
  cases gk with
  | zero =>
    have hjj:¬((j:Int)<(O.length:Int)):=by omega
    have HE:Hid (idxOf p O=-1):=Hd (by
     have:=HN.o;rw[aN (by omega)] at this;unfold idxOf;rw[this])
    go_wp2;go_ret;rw[HE.o];exact⟨rfl,HB.o⟩
  | succ g =>
    have hjj:(j:Int)<(O.length:Int):=by omega
    obtain⟨k,hk⟩:=fO (l:=O) (i:=j) (by omega);obtain⟨ad,rfl,hc⟩:=(HR.o.below HB.o).at_ j (.int .i64 (k:Int)) (by simp[cN,hk]);have HCL:=Hd (HF.o k (aD hk) wo HB.o);have HTK:Hid ((O.take (j+1)).findIdx? p=((O.take j).findIdx? p).or (if p k then some j else none)):=Hd (by
     rw[aT,hk,cO];congr 1;simp only[cA,dW,cH];split<;>simp<;>omega)
    have HFI:Hid (p k=true->O.findIdx? p=some j):=Hd (fun hp=>by
     have h1:=HTK.o;rw[HN.o,hp] at h1;rw[<-cJ (j+1) O,cO,h1];rfl)
    clear hk;cases hp:p k with
    | true =>
      rw[hp] at HCL;have HE:Hid (idxOf p O=(j:Int)):=Hd (by unfold idxOf;rw[HFI.o hp]);clear hp;go_wp2_with fail;refine HCL.o.mono ?_;rintro e w2 ⟨rfl,hb2⟩;have HB2:=Hd (HB.o.trans (hb2.mono HB.o.size));clear hb2;go_wp2;go_ret;rw[HE.o];exact⟨rfl,HB2.o⟩
    | false =>
      rw[hp] at HCL HTK;clear hp HFI;go_wp2_with fail;refine HCL.o.mono ?_;rintro e w2 ⟨rfl,hb2⟩;have HB2:=Hd (HB.o.trans (hb2.mono HB.o.size));clear hb2;go_wp2_with fail;go_roundg g
      case measure=>omega
      case rel=>exact⟨j+1,by omega,by go_num,Hd (by rw[HTK.o,HN.o];rfl),HB2⟩
theorem KG (p:Nat->Bool) (O:List Nat):decide (0<=idxOf p O)=O.any p:=by
 unfold idxOf;cases h:O.findIdx? p with
 | none =>
   rw[dC] at h;have:O.any p=false:=by
    rw[eZ];intro x hx;have:=h x hx;simp[this]
   rw[this];rfl
 | some i =>
   obtain⟨hi,h1,_⟩:=List.findIdx?_eq_some_iff_getElem.1 h;have:O.any p=true:=List.any_eq_true.2 ⟨_,dJ hi,h1⟩;rw[this];simp
theorem CW (rb tb nb:Nat) (p:Nat->Bool) (A:Option Addr) (c:Nat) (O:List Nat) (w:World) (hr:Rd w 1 A O.length c (cN O)) (hO:O.length<=1000000) (hf:SJ rb tb nb p O w) :
 Calls Tryz.prog 226 #[.slice A O.length c,.func (.func 227) #[] #[.pointer (some ⟨rb,0,none⟩),.pointer (some ⟨tb,0,none⟩),.pointer (some ⟨nb,0,none⟩)]] w fun e w'=>e=.returned (.bool (O.any p))/\Below w.heap.size w w':=by
 have HI:=Hd (GJ rb tb nb p A c O w hr hO hf);have HG:=Hd (KG p O);obtain⟨z,hz⟩:∃ z,z=idxOf p O:=⟨_,rfl⟩;rw[<-hz] at HI HG;clear hr hf hz;go_enter Tryz.func226,Tryz.ntmps226;go_wp2_with fail;refine HI.o.mono ?_;rintro e w2 ⟨rfl,hb2⟩;have HB2:=Hd hb2;clear hb2;go_wp2;go_ret;exact⟨by rw[<-HG.o];rfl,HB2.o⟩
theorem O4 (rb tb nb r tg:Nat) (n:List Nat) (NA:Option Addr) (nc k:Nat) (w:World) (hR:Blk w rb #[.int .i64 (r:Int)] 3) (hT:Blk w tb #[.int .i64 (tg:Int)] 3) (hN:Blk w nb #[.slice NA n.length nc] 116) (hn:Rd w 1 NA n.length nc (cN n)) (hk:k<n.length) (hr:1<=r)
 (hnl:n.length<=1000000) (hrl:r<=1000000) :
 Calls Tryz.prog 227 #[.int .i64 (k:Int),.pointer (some ⟨rb,0,none⟩),.pointer (some ⟨tb,0,none⟩),.pointer (some ⟨nb,0,none⟩)] w fun e w' =>
  e=.returned (.bool ((decide (r=1)&&decide (k=tg))||(decide (1<r)&&decide (n.getD k 0=r-1))))/\Below w.heap.size w w':=by
 obtain⟨z,hz⟩:=fO (l:=n) (i:=k) hk
 obtain⟨ad,rfl,hc⟩:=hn.at_ k (.int .i64 (z:Int)) (by simp[cN,hz])
 have c0:=hR.cell 0 (v:=.int .i64 (r:Int)) rfl
 have c1:=hT.cell 0 (v:=.int .i64 (tg:Int)) rfl
 have c2:=hN.cell 0 (v:=.slice (some ad) n.length nc) rfl
 have hzg:n.getD k 0=z:=by rw[aG,hz];rfl
 have hcap:=hn.cap
 have hkk:(k:Int)<(n.length:Int):=by omega
 have HZ:=Hd hzg
 clear hR hT hN hn hz hzg hk
 by_cases h1:r=1
 .subst h1;by_cases h2:k=tg
  .subst h2;go_enter Tryz.func227,Tryz.ntmps227;go_wp2_with fail;go_quiet (fail);go_wp2;go_ret;exact⟨by simp,gC _ _⟩
  have e2:((k:Int)==(tg:Int))=false:=by simp;omega
  go_enter Tryz.func227,Tryz.ntmps227;go_wp2_with fail;go_quiet (fail);go_wp2;go_ret;exact⟨by simp[h2],gC _ _⟩
 have e1:((r:Int)==1)=false:=by simp;omega
 have e2:(1:Int)<(r:Int):=by omega
 have ew:IntKind.i64.wrap ((r:Int)-1)=(r:Int)-1:=by rw[IntKind.wrap_i64];omega
 by_cases h3:z=r-1
 .have e3:((z:Int)==(r:Int)-1)=true:=by rw[beq_iff_eq];omega
  go_enter Tryz.func227,Tryz.ntmps227;go_wp2_with fail;go_quiet (fail);go_wp2;go_ret;exact⟨by rw[HZ.o,decide_eq_true h3,decide_eq_true (show 1<r by omega)];simp;omega,gC _ _⟩
 have e3:((z:Int)==(r:Int)-1)=false:=by simp;omega
 go_enter Tryz.func227,Tryz.ntmps227
 go_wp2_with fail
 go_quiet (fail)
 go_wp2_with fail
 go_ret
 exact⟨by rw[HZ.o];simp[h1,h3],gC _ _⟩
theorem N5 (n:Nat):madeCells #[.int .i64 0] n=(cN (List.replicate n 0)).toArray:=by
 apply Array.ext
 .simp[madeCells,cN]
 intro i h1 h2;simp[madeCells,cN,Nat.mod_one]
theorem EI (n:Nat) (h:n<=1000000) (w:World):(Instr.makeSlice 116 (.int .i64 (n:Int)) (.int .i64 (n:Int))).run Tryz.prog w=.ok (.slice (some ⟨w.heap.size,0,none⟩) n n) (w.alloc (.cells (cN (List.replicate n 0)).toArray 3)):=by
 have:=run_make_row' (P:=Tryz.prog) 116 3 (.int .i64 0) 8 Tryz.underlying116 info_int rfl .i64 .i64 n (by omega) (by omega) w;rw[N5] at this;exact this
theorem Rd.ofblk {g:Nat} (h:Blk w g (cN n).toArray 3) (hn:n.length<=1000000):Rd w 1 (some ⟨g,0,none⟩) n.length n.length (cN n) :=
 ⟨by simp[cN],aA _,by unfold maxLen;omega,fun j u hu=>⟨_,rfl,by
   rw[nX,aZ];exact Blk.cell h j (by simpa using hu)⟩⟩
structure Bst (w0:World) (tb nb g tg len:Nat) (n:List Nat) (w:World):Prop where
 tbx:Blk w tb #[.int .i64 (tg:Int)] 3
 nbx:Blk w nb #[.slice (some ⟨g,0,none⟩) len len] 116
 row:Blk w g (cN n).toArray 3
 len:n.length=len
 be:Below w0.heap.size w0 w
 hg:w0.heap.size<=g
 ne:g≠tb
theorem Bst.below {w0 w w':World} {tb nb g tg len:Nat} {n:List Nat} (h:Bst w0 tb nb g tg len n w) (hb:Below w.heap.size w w'):Bst w0 tb nb g tg len n w' :=
 ⟨h.tbx.below hb,h.nbx.below hb,h.row.below hb,h.len,h.be.trans (hb.mono h.be.size),h.hg,h.ne⟩
theorem Blk.type_ne {a b:Nat} {cs ds:Array Value} {t u:TypeId} (h:Blk w a cs t) (k:Blk w b ds u) (hne:t≠u):a≠b:=fun e=>by
 subst e;unfold Blk at h k;rw[h] at k;injection k with k;injection k with _ k;exact hne k
theorem Bst.set {w0 w:World} {tb nb g tg len:Nat} {n:List Nat} (h:Bst w0 tb nb g tg len n w) (i r:Nat):Bst w0 tb nb g tg len (n.set i r) (w.setCell ⟨g,i,none⟩ (.int .i64 (r:Int))):=by
 refine⟨h.tbx.setOther _ _ h.ne.symm,h.nbx.setOther _ _ (h.nbx.type_ne h.row (by decide)),(h.row.set i (.int .i64 (r:Int))).eq ?_,by rw[dZ];exact h.len,h.be.setCell h.hg _,h.hg,h.ne⟩;simp[cN,List.map_set]
theorem G8 (w:World) (tg n:Nat):Bst w w.heap.size (w.heap.size+1+1) (w.heap.size+1) tg n (List.replicate n 0)
 ((((w.alloc (.cells #[.int .i64 (tg:Int)] 3)).alloc (.cells (cN (List.replicate n 0)).toArray 3)).alloc (.cells #[.slice (some ⟨w.heap.size+1,0,none⟩) n n] 116)).alloc (.cells #[.int .i64 1] 3)):=by
 have e1:(w.alloc (.cells #[.int .i64 (tg:Int)] 3)).heap.size=w.heap.size+1:=by simp
 have e2:((w.alloc (.cells #[.int .i64 (tg:Int)] 3)).alloc (.cells (cN (List.replicate n 0)).toArray 3)).heap.size=w.heap.size+1+1:=by simp
 have b1:=aJ (w.alloc (.cells #[.int .i64 (tg:Int)] 3)) (cN (List.replicate n 0)).toArray 3;have b2:=aJ ((w.alloc (.cells #[.int .i64 (tg:Int)] 3)).alloc (.cells (cN (List.replicate n 0)).toArray 3)) #[.slice (some ⟨w.heap.size+1,0,none⟩) n n] 116;rw[e1] at b1;rw[e2] at b2;exact⟨(((aJ w _ _).alloc _).alloc _).alloc _,b2.alloc _,(b1.alloc _).alloc _,by simp,((((aB _ w).alloc (aA _) _).alloc (by simp) _).alloc (by simp;omega) _).alloc (by simp;omega) _,by omega,by omega⟩
theorem zT (h:CsOk l) (i:Nat):(nextOf l i).length<=1000000:=by
 unfold nextOf;split
 .next c hc =>
  split
  .simp
  have h1:=(h c (aD hc)).2.1;have h2:=List.length_filterMap_le (plAt l) (names c);have h3:(names c).length<=0+(cNm 20 c).length:=foldT_len (cNm 20 c) [];omega
 simp
theorem ME (S:Nat->Prop) (A:Option Addr) (ac:Nat) (l:List Cd) (mb mn tg:Nat) (w:World) (hls:Ls S w 15 224 Cd.tr A ac l) (hm:MP w mb mn (plAt l)) (hl:l.length<=1000) (hok:CsOk l) :
 Calls Tryz.prog 202 #[.slice A l.length ac,.map (some mb),.int .i64 (tg:Int)] w fun e w'=>Below w.heap.size w w'/\∃ g,w.heap.size<=g/\e=.returned (.slice (some ⟨g,0,none⟩) l.length l.length)/\(bk l tg).length=l.length/\Blk w' g (cN (bk l tg)).toArray 3:=by
 have hmk:∀ w',(Instr.makeSlice 116 (.int .i64 (l.length:Int)) (.int .i64 (l.length:Int))).run Tryz.prog w'=.ok (.slice (some ⟨w'.heap.size,0,none⟩) l.length l.length) (w'.alloc (.cells (cN (List.replicate l.length 0)).toArray 3)):=fun w'=>EI _ (by omega) w'
 have HLS:=Hd hls;have HM:=Hd hm;have HOK:=Hd hok;have HB0:Hid (Bst w w.heap.size (w.heap.size+1+1) (w.heap.size+1) tg l.length (List.replicate l.length 0) ((((w.alloc (.cells #[.int .i64 (tg:Int)] 3)).alloc (.cells (cN (List.replicate l.length 0)).toArray 3)).alloc (.cells #[.slice (some ⟨w.heap.size+1,0,none⟩) l.length l.length] 116)).alloc (.cells #[.int .i64 1] 3))):=Hd (G8 w tg l.length);have HR0:Hid (Blk ((((w.alloc (.cells #[.int .i64 (tg:Int)] 3)).alloc (.cells (cN (List.replicate l.length 0)).toArray 3)).alloc (.cells #[.slice (some ⟨w.heap.size+1,0,none⟩) l.length l.length] 116)).alloc (.cells #[.int .i64 1] 3)) (w.heap.size+1+1+1) #[.int .i64 ((1:Nat):Int)] 3):=Hd (by
  have:=aJ (((w.alloc (.cells #[.int .i64 (tg:Int)] 3)).alloc (.cells (cN (List.replicate l.length 0)).toArray 3)).alloc (.cells #[.slice (some ⟨w.heap.size+1,0,none⟩) l.length l.length] 116)) #[.int .i64 1] 3;rw[show (((w.alloc (.cells #[.int .i64 (tg:Int)] 3)).alloc (.cells (cN (List.replicate l.length 0)).toArray 3)).alloc (.cells #[.slice (some ⟨w.heap.size+1,0,none⟩) l.length l.length] 116)).heap.size=w.heap.size+1+1+1 by simp] at this;exact this)
 clear hls hm hok;go_enter Tryz.func202,Tryz.ntmps202;go_wp2_with fail;go_loopg [8] l.length (fun g p wr=>∃ (r rb:Nat) (n:List Nat),r+g=l.length+1/\1<=r/\w.heap.size+1<rb/\p=.pointer (some ⟨rb,0,none⟩)/\Hid (bk l tg=(((List.range l.length).map (·+1)).drop (r-1)).foldl (fun n r=>jJ l tg r n) n) /\
  Hid (Bst w w.heap.size (w.heap.size+1+1) (w.heap.size+1) tg l.length n wr)/\Hid (Blk wr rb #[.int .i64 (r:Int)] 3))
 case atStart=>exact⟨1,_,_,by omega,by omega,by omega,rfl,Hd rfl,HB0,HR0⟩
 case round =>
  obtain⟨r,rb,n,hr,hr1,hrbg,rfl,HE,HB,HRB⟩:=hrel;rename World=>wo
  clear HB0 HR0;have hrb:=HRB.o.cell 0 (v:=.int .i64 (r:Int)) rfl;cases gk with
  | zero =>
    have hrr:¬((r:Int)<=(l.length:Int)):=by omega
    have HEE:Hid (bk l tg=n):=Hd (by rw[HE.o,aP (by simp;omega)];rfl);have hnb:=HB.o.nbx.cell 0 (v:=.slice (some ⟨w.heap.size+1,0,none⟩) l.length l.length) rfl;go_wp2;go_ret;rw[HEE.o];exact⟨HB.o.be,w.heap.size+1,by omega,rfl,HB.o.len,HB.o.row⟩
  | succ g =>
    have hrr:(r:Int)<=(l.length:Int):=by omega
    have HDR:Hid ((((List.range l.length).map (·+1)).drop (r-1))=r::(((List.range l.length).map (·+1)).drop (r+1-1))):=Hd (by
     rw[show r+1-1=r-1+1 by omega];refine fS ?_;rw[eG,fD (by omega)];simp;omega)
    go_wp2_with fail;clear hrb;go_loopg [22] l.length (fun g i wr=>∃ (j:Nat) (n2:List Nat),j+g=l.length/\i=.int .i64 (j:Nat)/\Hid (jJ l tg r n=((List.range l.length).drop j).foldl (bkStep l tg r) n2)/\Hid (Bst w w.heap.size (w.heap.size+1+1) (w.heap.size+1) tg l.length n2 wr)/\Hid (Blk wr rb #[.int .i64 (r:Int)] 3))
    case atStart=>exact⟨0,n,by omega,rfl,Hd rfl,HB,HRB⟩
    case round =>
     obtain⟨j,n2,hj,rfl,HE2,HB2,HRB2⟩:=hrel;rename World=>wp
     clear HB HRB;cases gk with
     | zero =>
       have hjj:¬((j:Int)<(l.length:Int)):=by omega
       have hrb:=HRB2.o.cell 0 (v:=.int .i64 (r:Int)) rfl;have hw1:IntKind.i64.wrap ((r:Int)+1)=(r:Int)+1:=by rw[IntKind.wrap_i64];omega
       have HE3:Hid (jJ l tg r n=n2):=Hd (by rw[HE2.o,aP (by simp;omega)];rfl);go_wp2_with fail;go_roundg g
       case measure=>omega
       case rel=>exact⟨r+1,_,n2,by omega,by omega,by have:=HB2.o.row.lt;omega,rfl,Hd (by rw[HE.o,HDR.o,bR,HE3.o]),Hd (HB2.o.below ((aB _ wp).alloc (aA _) _)),Hd ((aJ wp _ _).eq (by simp))⟩
     | succ g2 =>
       have hjj:(j:Int)<(l.length:Int):=by omega
       have HNX:=Hd (zU S A ac l mb mn j wp (HLS.o.below HB2.o.be) (HM.o.below HB2.o.be) (by omega) HOK.o);have HNL:=Hd (fun k (hk:k∈nextOf l j)=>pT hk);have HRNG:Hid ((List.range l.length).drop j=j::(List.range l.length).drop (j+1)):=Hd (fS (by rw[fD (by omega)]));have HLD:Hid (lG l tg r n2 j=(nextOf l j).any fun k=>(decide (r=1)&&decide (k=tg))||(decide (1<r)&&decide (n2.getD k 0=r-1))):=Hd rfl;have HOL:Hid ((nextOf l j).length<=1000000):=Hd (zT HOK.o j);obtain⟨O,hO⟩:∃ O,O=nextOf l j:=⟨_,rfl⟩;rw[<-hO] at HNX HNL HLD HOL;clear hO;go_wp2_with fail;refine HNX.o.mono ?_;rintro e w3 ⟨OA,oc,rfl,hoo,hob⟩;have hask:SJ rb w.heap.size (w.heap.size+1+1) (fun k=>(decide (r=1)&&decide (k=tg))||(decide (1<r)&&decide (n2.getD k 0=r-1))) O w3:=fun k hk w' hb'=>by
        have hb:=hob.trans (hb'.mono hob.size);have hlen:=HB2.o.len;have hnb:=(HB2.o.nbx.below hb)
        rw[<-hlen] at hnb;have hrd:=Rd.ofblk (HB2.o.row.below hb) (by omega);exact O4 rb w.heap.size (w.heap.size+1+1) r tg n2 _ _ k w' (HRB2.o.below hb) (HB2.o.tbx.below hb) hnb hrd (by rw[hlen];exact HNL.o k hk) hr1 (by omega) (by omega)
       have HCF:=Hd (CW rb w.heap.size (w.heap.size+1+1) _ OA oc O w3 hoo.rd HOL.o hask);rw[<-HLD.o] at HCF;have HB3:=Hd (HB2.o.below hob);have HRB3:=Hd (HRB2.o.below hob);clear hoo hob hask HNX;go_wp2_with fail;refine HCF.o.mono ?_;rintro e w4 ⟨rfl,hb4⟩;have hb44:=HB3.o.below hb4;have HB4:=Hd hb44;have HRB4:=Hd (HRB3.o.below hb4);have hnb:=hb44.nbx.cell 0 (v:=.slice (some ⟨w.heap.size+1,0,none⟩) l.length l.length) rfl;obtain⟨z,hz⟩:=fO (l:=n2) (i:=j) (by rw[hb44.len];omega);have hzc:=hb44.row.cell j (v:=.int .i64 (z:Int)) (by simp[cN,hz]);have hzf:=hb44.row.frozen j;have hrb:=HRB4.o.cell 0 (v:=.int .i64 (r:Int)) rfl;have hzg:n2.getD j 0=z:=by rw[aG,hz];rfl
       have HZ:=Hd hzg;clear hb4 hb44 hz hzg HCF HB3 HRB3;by_cases hc:z=0/\lG l tg r n2 j=true
       .obtain⟨h0,hld⟩:=hc;subst h0;have HST:Hid (bkStep l tg r n2 j=n2.set j r):=Hd (by unfold bkStep;rw[if_pos ⟨HZ.o,hld⟩]);rw[hld];go_wp2_with fail;go_roundg g2
        case measure=>omega
        case rel=>exact⟨j+1,n2.set j r,by omega,by go_num,Hd (by rw[HE2.o,HRNG.o,bR,HST.o]),Hd (HB4.o.set j r),Hd (HRB4.o.setOther _ _ (by show rb≠w.heap.size+1;omega))⟩
       have HST:Hid (bkStep l tg r n2 j=n2):=Hd (by unfold bkStep;rw[if_neg (by rw[HZ.o];exact hc)]);by_cases h0:z=0
       .subst h0;have hld:lG l tg r n2 j=false:=by
         cases hb:lG l tg r n2 j with
         | false=>rfl
         | true=>exact absurd ⟨rfl,hb⟩ hc
        rw[hld];clear hc hld;go_wp2_with fail;go_roundg g2
        case measure=>omega
        case rel=>exact⟨j+1,n2,by omega,by go_num,Hd (by rw[HE2.o,HRNG.o,bR,HST.o]),HB4,HRB4⟩
       have ez:((z:Int)==0)=false:=by simp;omega
       clear hc h0;go_wp2_with fail;go_roundg g2
       case measure=>omega
       case rel=>exact⟨j+1,n2,by omega,by go_num,Hd (by rw[HE2.o,HRNG.o,bR,HST.o]),HB4,HRB4⟩
theorem zQ (h:l[i]?=some c):zR l i=c.name:=by unfold zR;rw[h];rfl
theorem rI (h:l[i]?=some c):∃ q,plAt l c.name=some q:=by
 cases hp:plAt l c.name with
 | some q=>exact⟨q,rfl⟩
 | none=>exact absurd rfl (F0 hp c (aD h))
def O6 (b:Option Nat):Int:=match b with | some k=>(k:Int) | none=>-1
theorem DH {q:Nat} (hc:l[i]?=some c) (hq:plAt l c.name=some q) (hz:(bk l i).getD i 0=z):jH l i=(decide (q=i)&&decide (z≠0)):=by
 unfold jH;rw[show (Option.map Cd.name l[i]?).getD ByteArray.empty=c.name by rw[hc];rfl,hq,hz];simp
theorem sM (h:n[i]?=some z):n.getD i 0=z:=by rw[aG,h];rfl
theorem LU (S:Nat->Prop) (A:Option Addr) (ac:Nat) (l:List Cd) (w:World) (hls:Ls S w 15 224 Cd.tr A ac l) (hl:l.length<=1000) (hok:CsOk l) :
 Calls Tryz.prog 169 #[.slice A l.length ac] w (kY (l7 l) w):=by
 have HPL:=Hd (oR S A ac l w hls);have HLS:=Hd hls;have HOK:=Hd hok;have hcap:=hls.cap;have HFI:Hid (∀ i,(List.range l.length).find? (jH l)=some i->l7 l=(i::lN l (bk l i) (l.length+1) i).map (zR l)):=Hd (fun i hi=>by unfold l7 EU;rw[hi]);have HFN:Hid ((List.range l.length).find? (jH l)=none->l7 l=[]):=Hd (fun h=>by unfold l7 EU;rw[h];rfl);clear hls hok;go_enter Tryz.func169,Tryz.ntmps169;go_wp2_with fail;refine HPL.o.mono ?_;rintro e w1 ⟨rfl,hmp,hb1⟩;have HMP:=Hd hmp;have HB1:=Hd hb1;have HLS1:=Hd (HLS.o.below hb1);have hw1:=hb1.size;clear hmp hb1 HPL;go_wp2_with fail;go_loopg [15,2] l.length (fun g i v wr=>∃ (j:Nat),j+g=l.length/\i=.int .i64 (j:Nat)/\v=.slice none 0 0/\Hid ((List.range l.length).find? (jH l)=((List.range l.length).drop j).find? (jH l))/\Hid (Below w1.heap.size w1 wr))
 case atStart=>exact⟨0,by omega,rfl,rfl,Hd rfl,Hd (aB _ _)⟩
 case round =>
  obtain⟨j,hj,rfl,rfl,HFD,HB⟩:=hrel;rename World=>wo
  cases gk with
  | zero =>
    have hjj:¬((j:Int)<(l.length:Int)):=by omega
    have HE:Hid (l7 l=[]):=Hd (HFN.o (by rw[HFD.o,aP (by simp;omega)];rfl));go_wp2;go_ret;rw[HE.o];exact⟨none,0,rfl,dF _ _ _ _,HB1.o.trans (HB.o.mono hw1),by simp⟩
  | succ g =>
    have hjj:(j:Int)<(l.length:Int):=by omega
    obtain⟨c,hc⟩:=fO (l:=l) (i:=j) (by omega);obtain⟨ad,cs,rfl,hct,hcc⟩:=(HLS1.o.below HB.o).elem cY hc;obtain⟨xs,ys,L,lc,rfl,hns,_,hxa,hxb,_⟩:=Cd.at_iff.1 hct;obtain⟨A1,n1,rfl,_⟩:=iF hxa;obtain⟨B1,n2,rfl,_⟩:=iF hxb;obtain⟨c0,c1,c2,c3,c4,c5,c6,c7,c8,c9,c10,c11,c12,c13,c14⟩:=gP hcc;obtain⟨q,hq⟩:=rI hc;have hbw:Below wo.heap.size wo (wo.alloc (.cells (kD c A1 n1 B1 n2 L lc) 148)):=(aB _ wo).alloc (aA _) _;have hbc:=HB.o.trans (hbw.mono HB.o.size);have HBK:=Hd (ME S _ ac l w.heap.size l.length j _ (HLS1.o.below hbc) (HMP.o.below hbc) hl HOK.o);have HCB:Hid (Blk (wo.alloc (.cells (kD c A1 n1 B1 n2 L lc) 148)) wo.heap.size (kD c A1 n1 B1 n2 L lc) 148):=Hd (aJ wo _ _);have HBC:=Hd hbc;have HQ:=Hd hq;have HC:=Hd hc;have HRNG:Hid ((List.range l.length).drop j=j::(List.range l.length).drop (j+1)):=Hd (fS (by rw[fD (by omega)]));have hqi:q<l.length:=plAt_lt hq;clear hc hct hcc hxa hxb hq hbw hbc;go_wp2_with fail;refine HBK.o.mono ?_;rintro e w3 ⟨hb3,gb,hgb,rfl,hnl,hrow⟩;have hb13:=HBC.o.trans (hb3.mono HBC.o.size);have HB3:=Hd hb13;obtain⟨z,hz⟩:=fO (l:=bk l j) (i:=j) (by omega);have hzc:=hrow.cell j (v:=.int .i64 (z:Int)) (by simp[cN,hz]);have HZ:=Hd (sM hz);have hlk:=(HMP.o.below hb13).look (d:=c.name) (by unfold maxLen;omega);rw[HQ.o] at hlk;have hnm:=(HCB.o.below hb3).cell 0 (v:=.string c.name) rfl;have HCA:=Hd (DH HC.o HQ.o HZ.o);have HROW:=Hd hrow;have HNL:=Hd hnl;have hgb1:w1.heap.size<=gb:=bB HBC.o.size hgb;clear hb3 hb13 hz hrow c0 c1 c2 c3 c4 c5 c6 c7 c8 c9 c10 c11 c12 c13 c14 hgb HBK HBC;by_cases hcir:q=j/\z≠0
    .obtain⟨rfl,hz0⟩:=hcir;have HFS:Hid (l7 l=(q::lN l (bk l q) (l.length+1) q).map (zR l)):=Hd (HFI.o q (by
      have:jH l q=true:=by rw[HCA.o];simp[hz0]
      rw[HFD.o,HRNG.o,cP,this]))
     have HBKO:=Hd (L5 l q);have HBLE:=Hd (fun i=>PU l q i);have hez:((z:Int)==0)=false:=by simp;omega
     have HNMA:Hid (zR l q=c.name):=Hd (zQ HC.o);obtain⟨nv,hnv⟩:∃ nv,nv=bk l q:=⟨_,rfl⟩;rw[<-hnv] at HFS HBKO HBLE HROW HNL;have HRN:=Hd (cQ w3 1 1 #[.string c.name] 9 (0,0) rfl (by simp[maxLen]));have hw3:=HB3.o.size;clear hnv HCA HFI HFN HFD HRNG hz0;go_wp2_with (at_builtin;refine wpList_row info_str Tryz.underlying42 rfl (by omega) rfl (.tmp 37) (.tmp 40) rfl w1.heap.size none 0 0 [] rfl (dF _ _ _ _) (some ⟨w3.heap.size,0,none⟩) 1 1 [.string c.name] rfl HRN.o (by simp[Value.oneCell']) (by omega) (by omega) (by simp;omega) ?_;intro A' c' w6 ho hg hat;have HO6:=Hd ho;have HG6:=Hd hg;clear ho hg hat);have hb6:Below w1.heap.size w1 w6:=(HB3.o.alloc hw3 _).grown HG6.o (by simp;omega) (fun k hk=>by cases hk);have hr6:=(HROW.o.alloc (.cells #[.string c.name] 9)).grown HG6.o (by simp);have HB6:=Hd hb6;have HR6:=Hd hr6;clear hb6 hr6 hzc hlk hnm;go_loopg [7,2] (l.length+1) (fun f i v wr=>∃ (h:Nat) (OA:Option Addr) (oc:Nat) (O:List ByteArray),i=.int .i64 (h:Nat)/\v=.slice OA O.length oc/\h<l.length/\O.length+f<=l.length+2/\Hid (l7 l=O++(lN l nv f h).map (zR l))/\Hid (nv.getD h 0<=f) /\
      Hid (Ow wr w1.heap.size 9 1 OA O.length oc (O.map .string))/\Hid (Blk wr gb (cN nv).toArray 3)/\Hid (Below w1.heap.size w1 wr)/\Hid (∀ x∈O,x.size<=9007199254740992))
     case atStart=>exact⟨q,A',c',[c.name],rfl,by simp,hqi,by simp;omega,Hd (by rw[HFS.o,bY,HNMA.o];rfl),Hd (bB (HBLE.o q) (by omega)),Hd (by simpa using HO6.o),HR6,HB6,Hd (by simpa using hns)⟩
     case round =>
      obtain⟨h,OA,oc,O,rfl,rfl,hhl,hOf,HE,HF,HOW,HRW,HBW,HOS⟩:=hrel;rename World=>wp
      clear HFS HO6 HG6 HR6 HB6 HRN HROW HB3;obtain⟨zh,hzh⟩:=fO (l:=nv) (i:=h) (by have:=HNL.o;omega);have hzc:=HRW.o.cell h (v:=.int .i64 (zh:Int)) (by simp[cN,hzh]);have hzg:=sM hzh;have HZG:=Hd hzg;clear hzh;by_cases hgt:1<zh
      .have hgi:(1:Int)<(zh:Int):=by omega
       cases gk with
       | zero=>exact absurd HF.o (by rw[hzg];omega)
       | succ f =>
         obtain⟨kk,hbest,hkn,hk0,hklt⟩:=best_next HBKO.o (i:=h) (by rw[hzg];exact hgt);have hkl:kk<l.length:=pT hkn;have HGO:Hid (lN l nv (f+1) h=kk::lN l nv f kk):=Hd (by simp only[lN];rw[if_pos (by rw[hzg];exact hgt),hbest]);have HKF:Hid (nv.getD kk 0<=f):=Hd (by have:=HF.o;omega);have HBEST:=Hd hbest;have HNX:=Hd (zU S _ ac l w.heap.size l.length h wp (HLS1.o.below HBW.o) (HMP.o.below HBW.o) hhl HOK.o);have HNL2:=Hd (fun k (hk:k∈nextOf l h)=>pT hk);have HOL:=zT HOK.o h;obtain⟨ks,hks⟩:∃ ks,ks=nextOf l h:=⟨_,rfl⟩;rw[<-hks] at HNX HNL2 HOL HBEST;clear hzg hbest hkn hk0 hklt hks;go_wp2_with fail;refine HNX.o.mono ?_;rintro e w7 ⟨KA,kc,rfl,hko,hkb⟩;have HKO:=Hd hko;have HKB:=Hd hkb;have hkcap:=hko.cap;have HR7:=Hd (HRW.o.below hkb);have HO7:=Hd (HOW.o.below hkb);have HB7:=Hd (HBW.o.trans (hkb.mono HBW.o.size));clear hko hkb hzc HNX;go_wp2_with fail;go_loopg [53,8] ks.length (fun g i v wr=>∃ (j3:Nat) (b:Option Nat),j3+g=ks.length/\i=.int .i64 (j3:Nat)/\v=.int .i64 (O6 b)/\Hid (yA nv ks=(ks.drop j3).foldl (better nv) b)/\Hid (∀ x,b=some x->x<l.length)/\Hid (Below w7.heap.size w7 wr))
         case atStart=>exact⟨0,none,by omega,rfl,rfl,Hd rfl,Hd (by simp),Hd (aB _ _)⟩
         case round =>
          obtain⟨j3,b,hj3,rfl,rfl,HBE,HBL,HBa⟩:=hrel;rename World=>wq
          cases gk with
          | zero =>
            have hjj3:¬((j3:Int)<(ks.length:Int)):=by omega
            have HBB:Hid (b=some kk):=Hd (by
             have:=HBE.o;rw[aP (by omega),HBEST.o] at this;exact this.symm)
            have hbk2:O6 b=(kk:Int):=by rw[HBB.o];rfl
            rw[hbk2];have hkki:(kk:Int)<(l.length:Int):=by omega
            obtain⟨c2,hc2⟩:=fO (l:=l) (i:=kk) hkl;have hbq:=HB7.o.trans (HBa.o.mono HB7.o.size);obtain⟨ad2,cs2,hA2,hct2,hcc2⟩:=(HLS1.o.below hbq).elem cY hc2;injection hA2 with hA2;subst hA2;obtain⟨_,_,d0,_,_,_,hnm2⟩:=nE hct2 hcc2;have HNM2:Hid (zR l kk=c2.name):=Hd (zQ hc2);have HRN2:=Hd (cQ wq 1 1 #[.string c2.name] 9 (0,0) rfl (by simp[maxLen]));have HOQ:=Hd (HO7.o.below HBa.o);have HRQ:=Hd (HR7.o.below HBa.o);have hwq:=hbq.size;have HBQ:=Hd hbq;clear hc2 hct2 hcc2 hbq hbk2;go_wp2_with (at_builtin;refine wpList_row info_str Tryz.underlying42 rfl (by omega) rfl (.tmp 80) (.tmp 86) rfl w1.heap.size OA oc O.length (O.map .string) rfl (HOQ.o.alloc _) (some ⟨wq.heap.size,0,none⟩) 1 1 [.string c2.name] rfl HRN2.o (by simp[Value.oneCell']) (by omega) (by omega) (by simp;omega) ?_;intro A'' c'' w8 ho hg hat;have HO8:=Hd ho;have HG8:=Hd hg;clear ho hg hat);go_roundg f
            case measure=>omega
            case rel =>
             refine⟨kk,A'',c'',O++[c2.name],rfl,by simp,hkl,by simp;omega,Hd (by rw[HE.o,HGO.o,bY,HNM2.o];simp),HKF,Hd (by simpa using HO8.o),Hd ((HRQ.o.alloc _).grown HG8.o (HOQ.o.ne_blk HRQ.o (by decide))),Hd ((HBQ.o.alloc hwq _).grown HG8.o (by simp;omega) (fun k hk=>(HOQ.o.lt hk).1)),Hd (fun x hx=>?_)⟩;rcases List.mem_append.1 hx with hx | hx
             .exact HOS.o x hx
             rw[aR] at hx;subst hx;exact hnm2
          | succ g3 =>
            have hjj3:(j3:Int)<(ks.length:Int):=by omega
            obtain⟨k,hk⟩:=fO (l:=ks) (i:=j3) (by omega);obtain⟨ka,rfl,hkc⟩:=(HKO.o.below HBa.o).rd.at_ j3 (.int .i64 (k:Int)) (by simp[cN,hk]);have hkl2:=HNL2.o k (aD hk);have hkki:(k:Int)<(l.length:Int):=by omega
            obtain⟨zk,hzk⟩:=fO (l:=nv) (i:=k) (by have:=HNL.o;omega);have hrq:=HR7.o.below HBa.o;have hzkc:=hrq.cell k (v:=.int .i64 (zk:Int)) (by simp[cN,hzk]);have hzkg:=sM hzk;have HDR:Hid (ks.drop j3=k::ks.drop (j3+1)):=Hd (fS hk);have HBR:Hid (Below w7.heap.size w7 (wq.drewN 1)):=Hd (HBa.o.trans ((gC _ _).mono HBa.o.size));clear hk hzk;by_cases h0:zk=0
            .have HBT:Hid (better nv b k=b):=Hd (by unfold better;rw[if_neg (by rw[hzkg];omega)]);subst h0;clear hzkg hrq;go_wp2_with fail;go_quiet (fail);go_wp2_with fail;go_roundg g3
             case measure=>omega
             case rel=>exact⟨j3+1,b,by omega,by go_num,rfl,Hd (by rw[HBE.o,HDR.o,bR,HBT.o]),HBL,Hd (HBa.o.trans ((gC _ _).mono HBa.o.size))⟩
            have h0i:(0:Int)<(zk:Int):=by omega
            have h0n:0<zk:=by omega
            have h0d:decide ((0:Int)<(zk:Int))=true:=by simpa using h0n
            cases b with
            | none =>
              have HBT:Hid (better nv none k=some k):=Hd (by unfold better;rw[if_pos (by rw[hzkg];omega)]);have hbi:O6 none=-1:=rfl;rw[hbi];clear hzkg hrq h0;go_wp2_with fail;go_quiet (fail);go_wp2_with fail;go_roundg g3
              case measure=>omega
              case rel=>exact⟨j3+1,some k,by omega,by go_num,rfl,Hd (by rw[HBE.o,HDR.o,bR,HBT.o]),Hd (fun x hx=>by injection hx with hx;omega),Hd (HBa.o.trans ((gC _ _).mono HBa.o.size))⟩
            | some x =>
              have hxl:=HBL.o x rfl;have hxi:(x:Int)<(l.length:Int):=by omega
              have hxn:¬((x:Int)<0):=by omega
              obtain⟨zx,hzx⟩:=fO (l:=nv) (i:=x) (by have:=HNL.o;omega);have hzxc:=hrq.cell x (v:=.int .i64 (zx:Int)) (by simp[cN,hzx]);have hzxg:=sM hzx;have hbi:O6 (some x)=(x:Int):=rfl;rw[hbi];by_cases hlt:zk<zx
              .have hlti:(zk:Int)<(zx:Int):=by omega
               have HBT:Hid (better nv (some x) k=some k):=Hd (by unfold better;rw[if_pos (by rw[hzkg];omega)];exact if_pos (by rw[hzkg,hzxg];exact hlt));clear hzkg hrq h0 hzx hzxg hlt hbi;go_wp2_with fail;go_quiet (fail);go_wp2_with fail;go_roundg g3
               case measure=>omega
               case rel=>exact⟨j3+1,some k,by omega,by go_num,rfl,Hd (by rw[HBE.o,HDR.o,bR,HBT.o]),Hd (fun x hx=>by injection hx with hx;omega),Hd (HBa.o.trans ((gC _ _).mono HBa.o.size))⟩
              have hlti:¬((zk:Int)<(zx:Int)):=by omega
              have HBT:Hid (better nv (some x) k=some x):=Hd (by unfold better;rw[if_pos (by rw[hzkg];omega)];exact if_neg (by rw[hzkg,hzxg];exact hlt));clear hzkg hrq h0 hzx hzxg hlt hbi;go_wp2_with fail;go_quiet (fail);go_wp2_with fail;go_roundg g3
              case measure=>omega
              case rel=>exact⟨j3+1,some x,by omega,by go_num,rfl,Hd (by rw[HBE.o,HDR.o,bR,HBT.o]),HBL,Hd (HBa.o.trans ((gC _ _).mono HBa.o.size))⟩
      have hgi:¬((1:Int)<(zh:Int)):=by omega
      have HEE:Hid (l7 l=O):=Hd (by
       rw[HE.o];cases gk with
       | zero=>simp[lN]
       | succ f=>simp only[lN];rw[if_neg (by rw[hzg];exact hgt)];simp)
      clear hzg hgt;go_wp2;go_ret;rw[HEE.o];exact⟨OA,oc,rfl,HOW.o.le hw1,HB1.o.trans (HBW.o.mono hw1),HOS.o⟩
    have HCF:Hid ((List.range l.length).find? (jH l)=((List.range l.length).drop (j+1)).find? (jH l)):=Hd (by
     have:jH l j=false:=by
      rw[HCA.o];by_cases h1:q=j
      .have h2:z=0:=by
        rcases dG z with h | h
        .exact h
        exact absurd ⟨h1,by omega⟩ hcir
       simp[h2]
      simp[h1]
     rw[HFD.o,HRNG.o,cP,this])
    by_cases h1:q=j
    .have h2:z=0:=by
      rcases dG z with h | h
      .exact h
      exact absurd ⟨h1,by omega⟩ hcir
     subst h1 h2;clear hcir;go_wp2_with fail;go_roundg g
     case measure=>omega
     case rel=>exact⟨_,by omega,by go_num,rfl,HCF,HB3⟩
    have e1:((q:Int)==(j:Int))=false:=by simp;omega
    clear hcir h1;go_wp2_with fail;go_roundg g
    case measure=>omega
    case rel=>exact⟨j+1,by omega,by go_num,rfl,HCF,HB3⟩
