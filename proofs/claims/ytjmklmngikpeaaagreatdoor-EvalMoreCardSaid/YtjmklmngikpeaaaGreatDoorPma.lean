/- Part of the proof. -/
import Derived.Test.YtjmklmngikpeaaaGreatDoorCp1
set_option maxRecDepth 100000
set_option maxHeartbeats 8000000
set_option linter.unusedVariables false
set_option linter.unusedSimpArgs false
namespace Go.Proofs.YtjmklmngikpeaaaGreatDoor
variable {j n:Nat}{q:Nat->Bool}{α:Type}
def mQ (s:ByteArray):Bool:=decide (s.size<=64)&&Lib.validD s.data.toList
def pKind (p:Pm) (v:Vl):Bool:=if vChk v≠0 then false else if p.number=true then decide (v.kind=2) else if v.kind=3 then mQ v.text else false
def jD (p:Pm) (v:Vl):Bool:=decide (p.allowed.length=0)||p.allowed.any (fun x=>pF x v)
def oO (v:Vl):Bool:=decide (v.kind=0)&&(!v.bool&&(decide (v.num=0)&&(fW v.text ByteArray.empty&&(decide (v.list.length=0)&&decide (v.keys.length=0)))))
def lT:List Vl->List Vl->Bool
 | _,[]=>false
 | pre,x::r=>pre.any (fun v=>pF v x)||lT (pre++[x]) r
def mW (l:List Vl):Bool:=lT [] l
def F5 (p:Pm):Bool:=!((!iI p.name||decide (8<p.allowed.length))||(p.allowed.any (fun v=>!pKind p v)||(mW p.allowed||((!p.has&&!oO p.dflt)||(p.has&&!(pKind p p.dflt&&jD p p.dflt))))))
def pMayV (p:Pm) (g:Gv):Bool:=if F5 p=false then false else if g.unknown=false then pKind p g.v&&jD p g.v else if p.number=true then false else if 0<p.allowed.length then false else oO g.v
def B0 (s t:ByteArray):Bool:=Op.bytesLess s.toList t.toList
def QK (s t:ByteArray):Bool:=B0 s t||(s.toList==t.toList)
def mV:ByteArray->List Pm->Bool
 | _,[]=>false
 | last,p::r=>(!F5 p||QK p.name last)||mV p.name r
def pCheck (l:List Pm):Nat:=if 6<l.length then 3 else if mV ByteArray.empty l=true then 2 else 0
def AM:List Gv->Bool
 | []=>true
 | g::r=>(match r with | []=>true | h::_=>B0 g.name h.name)&&AM r
def gR (l:List Gv) (s:ByteArray):Option Gv:=l.find? fun g=>fW g.name s
def pOne (given:List Gv) (p:Pm):Option Gv:=match gR given p.name with
 | some v=>if pMayV p v=true then some v else none
 | none=>if p.has=false then none else if pMayV p ⟨p.name,false,p.dflt⟩=true then some ⟨p.name,false,p.dflt⟩ else none
def jE (given:List Gv):List Pm->Option (List Gv)
 | []=>some []
 | p::r=>match pOne given p with
   | none=>none
   | some v=>(jE given r).map (v::·)
def jC (l:List Pm) (given:List Gv):Nat ⊕ List Gv :=
 if pCheck l≠0 then .inl (pCheck l) else if AM given=false then .inl 2 else if given.any (fun g=>!l.any fun p=>fW p.name g.name)=true then .inl 140
 else match jE given l with
  | none=>.inl 140
  | some o=>.inr o
def jY (out:List Gv) (a:Pr):Gv:=match plainG a.e out with
 | some g=>⟨a.name,g.unknown,g.v⟩
 | none=>⟨a.name,true,gV⟩
theorem mX {given:List Gv}:∀ {l:List Pm} {o:List Gv},jE given l=some o->o.length=l.length
 | [],o,h=>by
   unfold jE at h;injection h with h;subst h;rfl
 | p::r,o,h=>by
   unfold jE at h;split at h
   .cases h
   obtain⟨x,hx,rfl⟩:=Option.map_eq_some_iff.1 h;simp[mX hx]
theorem vU {given:List Gv} {p:Pm}:∀ {l:List Pm},jE given (l++[p])=(jE given l).bind fun o=>(pOne given p).map fun v=>o++[v]
 | []=>by
   simp only[bP,jE];cases pOne given p<;>simp
 | q::r=>by
   simp only[bM,jE];cases pOne given q with
   | none=>rfl
   | some b =>
     simp only[vU (l:=r)];cases jE given r with
     | none=>rfl
     | some m=>cases pOne given p<;>simp
open Go.RowKit
theorem FT (s:ByteArray) (w:World) (hV:j4 w) (hs:s.size<=9007199254740992):Calls Tryz.prog 217 #[.string s] w (BoolB (mQ s) w):=by
 have HV:=Hd (hV s w hs (aB _ w));by_cases h:s.size<=64
 .have hi:(s.size:Int)<=64:=by omega
  have HE:Hid (mQ s=Lib.validD s.data.toList):=Hd (by unfold mQ;simp[h]);clear h hV;go_enter Tryz.func217,Tryz.ntmps217;go_wp2_with fail;refine HV.o.mono ?_;rintro e w2 ⟨rfl,hb⟩;have HB:=Hd hb;clear hb;go_wp2;go_ret;exact⟨by rw[HE.o];rfl,HB.o⟩
 have hi:¬((s.size:Int)<=64):=by omega
 have HE:Hid (mQ s=false):=Hd (by unfold mQ;simp[h]);clear h hV;go_enter Tryz.func217,Tryz.ntmps217;go_wp2;go_ret;exact⟨by rw[HE.o];rfl,aB _ w⟩
def iT {α:Type} (p:α->Bool) (l:List α):Int:=match l.findIdx? p with | some i=>(i:Int) | none=>-1
theorem EL (p:α->Bool) (l:List α):decide (iT p l<0)=!l.any p:=by
 unfold iT;cases h:l.findIdx? p with
 | none =>
   rw[dC] at h;have:l.any p=false:=by
    rw[eZ];intro x hx;simp[h x hx]
   rw[this];rfl
 | some i =>
   have h2:=List.findIdx?_eq_some_iff_getElem.1 h;obtain⟨hi,hp,_⟩:=h2;have:l.any p=true:=List.any_eq_true.2 ⟨_,dJ hi,hp⟩;rw[this];simp
theorem nT (p:α->Bool) (l:List α):decide (0<=iT p l)=l.any p:=by
 have:=EL p l;have h2:decide (0<=iT p l)=!decide (iT p l<0):=by
  by_cases h:iT p l<0
  .simp[h,show ¬(0<=iT p l) by omega]
  simp[h,show 0<=iT p l by omega]
 rw[h2,this,Bool.not_not]
def jX (q:Nat->Bool) (n:Nat):Int:=match (List.range n).find? q with | some i=>(i:Int) | none=>-1
theorem lW (h:∀ i,i<n->q i=false):jX q n=-1:=by
 unfold jX;have:(List.range n).find? q=none:=List.find?_eq_none.2 (fun x hx=>by rw[h x (List.mem_range.1 hx)];decide);rw[this]
theorem lV (hj:j<n) (hq:q j=true) (h:∀ i,i<j->q i=false):jX q n=(j:Int):=by
 unfold jX;have:(List.range n).find? q=some j:=by
  rw[List.find?_range_eq_some];exact⟨hq,List.mem_range.2 hj,fun i hi=>by rw[h i hi];rfl⟩
 rw[this]
theorem CV {p:α->Bool} {l:List α}:jX (fun j=>(l[j]?.map p).getD false) l.length=iT p l:=by
 unfold iT;cases h:l.findIdx? p with
 | none =>
   rw[dC] at h;refine lW fun i hi=>?_
   rw[aM hi];simpa using h _ (dJ hi)
 | some i =>
   obtain⟨hi,hp,hlt⟩:=List.findIdx?_eq_some_iff_getElem.1 h;refine lV hi (by simp only[aM hi,cE,dT];exact hp) fun k hk=>?_
   have:=hlt k hk;simp only[aM (show k<l.length by omega),cE,dT];simpa using this
theorem callFunc_go {P : Program} {f : FuncId} {fn : Func} (h : P.funcs[f]? = some fn) (hn : (fn.name == "runtime.NumGoroutine") = false) (hb : fn.body.isNone = false) (args : Array Value) (w : World) : (callFunc f args).run P w = .ok (.enter f args) w := by
 have hn' : ¬ fn.name = "runtime.NumGoroutine" := by simpa using hn
 have hb':¬fn.body=none:=fun e=>by rw[e] at hb;cases hb
 simp[callFunc,go_sem,h,hn',hb']
def DV {α:Type} (tr:α->List Tr) (fid:FuncId) (caps:Array Value) (p:α->Bool) (l:List α) (S:Nat->Prop) (w:World):Prop :=
 ∀ x∈l,∀ (cs:List Value) (w':World),Below w.heap.size w w'->Trs.at S w' (tr x) cs->Calls Tryz.prog fid (#[.agg cs.toArray]++caps) w' (BoolB (p x) w')
def SI {α:Type} (tr:α->List Tr) (fid:FuncId) (caps:Array Value) (q:Nat->Bool) (l:List α) (S:Nat->Prop) (J:Nat->World->Prop):Prop :=
 ∀ (j:Nat) (x:α),l[j]?=some x->∀ (cs:List Value) (w':World),J j w'->Trs.at S w' (tr x) cs->Calls Tryz.prog fid (#[.agg cs.toArray]++caps) w' fun e w''=>e=.returned (.bool (q j))/\J (j+1) w''
theorem DA (S:Nat->Prop) (fid:FuncId) (caps:Array Value) (q:Nat->Bool) (J:Nat->World->Prop) (A:Option Addr) (c:Nat) (l:List Vl) (w:World) (hl:∀ j w',J j w'->Ls S w' 6 80 Vl.tr A c l) (hn:l.length<=1000000) (hcf:∀ args w',(callFunc fid args).run Tryz.prog w'=.ok (.enter fid args) w') (h0:J 0 w) (hJ:∀ j w' w'',J j w'->Below w'.heap.size w' w''->J j w'') (hf:SI Vl.tr fid caps q l S J) :
 Calls Tryz.prog 208 #[.slice A l.length c,.func (.func fid) #[] caps] w fun e w'=>e=.returned (.int .i64 (jX q l.length))/\∃ j,J j w':=by
 have HL:=Hd hl;have hl0:=hl 0 w h0;have hcap:=hl0.cap;have hbyt:=hl0.bytes;have HF:=Hd hf;have H0:=Hd h0;have HJB:=Hd hJ;clear hl hf hl0 h0 hJ;go_enter Tryz.func208,Tryz.ntmps208;go_wp2_with fail;go_loopg [9] l.length (fun g i wr=>∃ j:Nat,j+g=l.length/\i=.int .i64 (j:Nat)/\Hid (∀ i,i<j->q i=false)/\Hid (J j wr))
 case atStart=>exact⟨0,by omega,rfl,Hd (fun i hi=>absurd hi (by omega)),H0⟩
 obtain⟨j,hj,rfl,HN,HJ⟩:=hrel;rename World=>wo
 cases gk with
 | zero =>
   have hjj:¬((j:Int)<(l.length:Int)):=by omega
   have HE:Hid (jX q l.length=-1):=Hd (lW (fun i hi=>HN.o i (by omega)));go_wp2;go_ret;rw[HE.o];exact⟨rfl,j,HJ.o⟩
 | succ g =>
   have hjj:(j:Int)<(l.length:Int):=by omega
   obtain⟨k,hk⟩:=fO (l:=l) (i:=j) (by omega);obtain⟨ad,cs,rfl,hxt,hxc⟩:=(HL.o j wo HJ.o).elem dK hk;have HXT:=Hd hxt;obtain⟨A2,c2,B2,d2,rfl,-⟩:=Vl.at_iff.1 hxt;obtain⟨e0,e1,e2,e3,e4,e5⟩:=iA hxc;have hbn:Below wo.heap.size wo (wo.alloc (.cells (kV k A2 c2 B2 d2) 44)):=(aB _ wo).alloc (aA _) _;have HCL:=Hd (HF.o j k hk _ _ (HJB.o j _ _ HJ.o hbn) (HXT.o.below hbn));clear hbn;have HE:Hid (q j=true->jX q l.length=(j:Int)):=Hd (fun hq=>lV (by omega) hq HN.o);clear hk hxt hxc;cases hp:q j with
   | true =>
     rw[hp] at HCL;have HE2:=Hd (HE.o hp);clear hp HE;go_wp2_with fail;refine HCL.o.mono ?_;rintro e w2 ⟨rfl,hb2⟩;have HB2:=Hd hb2;clear hb2;go_wp2;go_ret;rw[HE2.o];exact⟨rfl,j+1,HB2.o⟩
   | false =>
     rw[hp] at HCL;have HN2:Hid (∀ i,i<j+1->q i=false):=Hd (fun i hi=>by
      rcases bI i j with h | h
      .exact HN.o i h
      rw[show i=j by omega];exact hp)
     clear hp HE;go_wp2_with fail;refine HCL.o.mono ?_;rintro e w2 ⟨rfl,hb2⟩;have HB2:=Hd hb2;clear hb2;go_wp2_with fail;go_roundg g
     case measure=>omega
     case rel=>exact⟨j+1,by omega,by go_num,HN2,HB2⟩
theorem qT (S:Nat->Prop) (fid:FuncId) (caps:Array Value) (p:Vl->Bool) (A:Option Addr) (c:Nat) (l:List Vl) (w:World) (hl:Ls S w 6 80 Vl.tr A c l) (hn:l.length<=1000000) (hcf:∀ args w',(callFunc fid args).run Tryz.prog w'=.ok (.enter fid args) w') (hf:DV Vl.tr fid caps p l S w) :
 Calls Tryz.prog 208 #[.slice A l.length c,.func (.func fid) #[] caps] w fun e w'=>e=.returned (.int .i64 (iT p l))/\Below w.heap.size w w' :=
 (DA S fid caps (fun j=>(l[j]?.map p).getD false) (fun _ w'=>Below w.heap.size w w') A c l w (fun _ _ h=>hl.below h) hn hcf (aB _ w) (fun _ _ _ h h'=>h.trans (h'.mono h.size)) (fun j x hx cs w' hb ht=>(hf x (aD hx) cs w' hb ht).mono (by
   rintro e w'' ⟨rfl,hb'⟩;exact⟨by simp[hx],hb.trans (hb'.mono hb.size)⟩))).mono (by
   rintro e w' ⟨rfl,_,h⟩;exact⟨by rw[CV],h⟩)
theorem uH (S:Nat->Prop) (fid:FuncId) (caps:Array Value) (q:Nat->Bool) (J:Nat->World->Prop) (A:Option Addr) (c:Nat) (l:List Pm) (w:World) (hl:∀ j w',J j w'->Ls S w' 10 128 Pm.tr A c l) (hn:l.length<=1000000) (hcf:∀ args w',(callFunc fid args).run Tryz.prog w'=.ok (.enter fid args) w') (h0:J 0 w) (hJ:∀ j w' w'',J j w'->Below w'.heap.size w' w''->J j w'') (hf:SI Pm.tr fid caps q l S J) :
 Calls Tryz.prog 130 #[.slice A l.length c,.func (.func fid) #[] caps] w fun e w'=>e=.returned (.int .i64 (jX q l.length))/\∃ j,J j w':=by
 have HL:=Hd hl;have hl0:=hl 0 w h0;have hcap:=hl0.cap;have hbyt:=hl0.bytes;have HF:=Hd hf;have H0:=Hd h0;have HJB:=Hd hJ;clear hl hf hl0 h0 hJ;go_enter Tryz.func130,Tryz.ntmps130;go_wp2_with fail;go_loopg [9] l.length (fun g i wr=>∃ j:Nat,j+g=l.length/\i=.int .i64 (j:Nat)/\Hid (∀ i,i<j->q i=false)/\Hid (J j wr))
 case atStart=>exact⟨0,by omega,rfl,Hd (fun i hi=>absurd hi (by omega)),H0⟩
 obtain⟨j,hj,rfl,HN,HJ⟩:=hrel;rename World=>wo
 cases gk with
 | zero =>
   have hjj:¬((j:Int)<(l.length:Int)):=by omega
   have HE:Hid (jX q l.length=-1):=Hd (lW (fun i hi=>HN.o i (by omega)));go_wp2;go_ret;rw[HE.o];exact⟨rfl,j,HJ.o⟩
 | succ g =>
   have hjj:(j:Int)<(l.length:Int):=by omega
   obtain⟨k,hk⟩:=fO (l:=l) (i:=j) (by omega);obtain⟨ad,cs,rfl,hxt,hxc⟩:=(HL.o j wo HJ.o).elem Pm.trlen hk;have HXT:=Hd hxt;obtain⟨vs,A3,c3,rfl,-,hxv,-⟩:=Pm.at_iff.1 hxt;obtain⟨A2,c2,B2,d2,rfl,-⟩:=Vl.at_iff.1 hxv;obtain⟨e0,e1,e2,e3,e4,e5,e6,e7,e8,e9⟩:=BB hxc;have hbn:Below wo.heap.size wo (wo.alloc (.cells (kP k A2 c2 B2 d2 A3 c3) 145)):=(aB _ wo).alloc (aA _) _;have HCL:=Hd (HF.o j k hk _ _ (HJB.o j _ _ HJ.o hbn) (HXT.o.below hbn));clear hbn;have HE:Hid (q j=true->jX q l.length=(j:Int)):=Hd (fun hq=>lV (by omega) hq HN.o);clear hk hxt hxc hxv;cases hp:q j with
   | true =>
     rw[hp] at HCL;have HE2:=Hd (HE.o hp);clear hp HE;go_wp2_with fail;refine HCL.o.mono ?_;rintro e w2 ⟨rfl,hb2⟩;have HB2:=Hd hb2;clear hb2;go_wp2;go_ret;rw[HE2.o];exact⟨rfl,j+1,HB2.o⟩
   | false =>
     rw[hp] at HCL;have HN2:Hid (∀ i,i<j+1->q i=false):=Hd (fun i hi=>by
      rcases bI i j with h | h
      .exact HN.o i h
      rw[show i=j by omega];exact hp)
     clear hp HE;go_wp2_with fail;refine HCL.o.mono ?_;rintro e w2 ⟨rfl,hb2⟩;have HB2:=Hd hb2;clear hb2;go_wp2_with fail;go_roundg g
     case measure=>omega
     case rel=>exact⟨j+1,by omega,by go_num,HN2,HB2⟩
theorem GV (S:Nat->Prop) (fid:FuncId) (caps:Array Value) (p:Pm->Bool) (A:Option Addr) (c:Nat) (l:List Pm) (w:World) (hl:Ls S w 10 128 Pm.tr A c l) (hn:l.length<=1000000) (hcf:∀ args w',(callFunc fid args).run Tryz.prog w'=.ok (.enter fid args) w') (hf:DV Pm.tr fid caps p l S w) :
 Calls Tryz.prog 130 #[.slice A l.length c,.func (.func fid) #[] caps] w fun e w'=>e=.returned (.int .i64 (iT p l))/\Below w.heap.size w w' :=
 (uH S fid caps (fun j=>(l[j]?.map p).getD false) (fun _ w'=>Below w.heap.size w w') A c l w (fun _ _ h=>hl.below h) hn hcf (aB _ w) (fun _ _ _ h h'=>h.trans (h'.mono h.size)) (fun j x hx cs w' hb ht=>(hf x (aD hx) cs w' hb ht).mono (by
   rintro e w'' ⟨rfl,hb'⟩;exact⟨by simp[hx],hb.trans (hb'.mono hb.size)⟩))).mono (by
   rintro e w' ⟨rfl,_,h⟩;exact⟨by rw[CV],h⟩)
theorem DB (S:Nat->Prop) (fid:FuncId) (caps:Array Value) (q:Nat->Bool) (J:Nat->World->Prop) (A:Option Addr) (c:Nat) (l:List Gv) (w:World) (hl:∀ j w',J j w'->Ls S w' 8 104 Gv.tr A c l) (hn:l.length<=1000000) (hcf:∀ args w',(callFunc fid args).run Tryz.prog w'=.ok (.enter fid args) w') (h0:J 0 w) (hJ:∀ j w' w'',J j w'->Below w'.heap.size w' w''->J j w'') (hf:SI Gv.tr fid caps q l S J) :
 Calls Tryz.prog 101 #[.slice A l.length c,.func (.func fid) #[] caps] w fun e w'=>e=.returned (.int .i64 (jX q l.length))/\∃ j,J j w':=by
 have HL:=Hd hl;have hl0:=hl 0 w h0;have hcap:=hl0.cap;have hbyt:=hl0.bytes;have HF:=Hd hf;have H0:=Hd h0;have HJB:=Hd hJ;clear hl hf hl0 h0 hJ;go_enter Tryz.func101,Tryz.ntmps101;go_wp2_with fail;go_loopg [9] l.length (fun g i wr=>∃ j:Nat,j+g=l.length/\i=.int .i64 (j:Nat)/\Hid (∀ i,i<j->q i=false)/\Hid (J j wr))
 case atStart=>exact⟨0,by omega,rfl,Hd (fun i hi=>absurd hi (by omega)),H0⟩
 obtain⟨j,hj,rfl,HN,HJ⟩:=hrel;rename World=>wo
 cases gk with
 | zero =>
   have hjj:¬((j:Int)<(l.length:Int)):=by omega
   have HE:Hid (jX q l.length=-1):=Hd (lW (fun i hi=>HN.o i (by omega)));go_wp2;go_ret;rw[HE.o];exact⟨rfl,j,HJ.o⟩
 | succ g =>
   have hjj:(j:Int)<(l.length:Int):=by omega
   obtain⟨k,hk⟩:=fO (l:=l) (i:=j) (by omega);obtain⟨ad,cs,rfl,hxt,hxc⟩:=(HL.o j wo HJ.o).elem dA hk;have HXT:=Hd hxt;obtain⟨vs,rfl,-,hxv⟩:=Gv.at_iff.1 hxt;obtain⟨A2,c2,B2,d2,rfl,-⟩:=Vl.at_iff.1 hxv;obtain⟨e0,e1,e2,e3,e4,e5,e6,e7⟩:=l8 hxc;have hbn:Below wo.heap.size wo (wo.alloc (.cells (kG k A2 c2 B2 d2) 46)):=(aB _ wo).alloc (aA _) _;have HCL:=Hd (HF.o j k hk _ _ (HJB.o j _ _ HJ.o hbn) (HXT.o.below hbn));clear hbn;have HE:Hid (q j=true->jX q l.length=(j:Int)):=Hd (fun hq=>lV (by omega) hq HN.o);clear hk hxt hxc hxv;cases hp:q j with
   | true =>
     rw[hp] at HCL;have HE2:=Hd (HE.o hp);clear hp HE;go_wp2_with fail;refine HCL.o.mono ?_;rintro e w2 ⟨rfl,hb2⟩;have HB2:=Hd hb2;clear hb2;go_wp2;go_ret;rw[HE2.o];exact⟨rfl,j+1,HB2.o⟩
   | false =>
     rw[hp] at HCL;have HN2:Hid (∀ i,i<j+1->q i=false):=Hd (fun i hi=>by
      rcases bI i j with h | h
      .exact HN.o i h
      rw[show i=j by omega];exact hp)
     clear hp HE;go_wp2_with fail;refine HCL.o.mono ?_;rintro e w2 ⟨rfl,hb2⟩;have HB2:=Hd hb2;clear hb2;go_wp2_with fail;go_roundg g
     case measure=>omega
     case rel=>exact⟨j+1,by omega,by go_num,HN2,HB2⟩
theorem wN (S:Nat->Prop) (fid:FuncId) (caps:Array Value) (p:Gv->Bool) (A:Option Addr) (c:Nat) (l:List Gv) (w:World) (hl:Ls S w 8 104 Gv.tr A c l) (hn:l.length<=1000000) (hcf:∀ args w',(callFunc fid args).run Tryz.prog w'=.ok (.enter fid args) w') (hf:DV Gv.tr fid caps p l S w) :
 Calls Tryz.prog 101 #[.slice A l.length c,.func (.func fid) #[] caps] w fun e w'=>e=.returned (.int .i64 (iT p l))/\Below w.heap.size w w' :=
 (DB S fid caps (fun j=>(l[j]?.map p).getD false) (fun _ w'=>Below w.heap.size w w') A c l w (fun _ _ h=>hl.below h) hn hcf (aB _ w) (fun _ _ _ h h'=>h.trans (h'.mono h.size)) (fun j x hx cs w' hb ht=>(hf x (aD hx) cs w' hb ht).mono (by
   rintro e w'' ⟨rfl,hb'⟩;exact⟨by simp[hx],hb.trans (hb'.mono hb.size)⟩))).mono (by
   rintro e w' ⟨rfl,_,h⟩;exact⟨by rw[CV],h⟩)
theorem qM (S:Nat->Prop) (p:Pm) (A1 B1 A2:Option Addr) (c1 d1 c2:Nat) (v:Vl) (A B:Option Addr) (c d:Nat) (w:World) (hV:j4 w) (hv:Trs.at S w v.tr (kV v A c B d).toList) (hs:fR v) :
 Calls Tryz.prog 176 #[.agg (kP p A1 c1 B1 d1 A2 c2),.agg (kV v A c B d)] w (BoolB (pKind p v) w):=by
 have hb2:Below w.heap.size w ((w.alloc (.cells (kP p A1 c1 B1 d1 A2 c2) 145)).alloc (.cells (kV v A c B d) 44)):=((aB _ w).alloc (aA _) _).alloc (by simp) _;have HC:=Hd (sY S v A c B d ((w.alloc (.cells (kP p A1 c1 B1 d1 A2 c2) 145)).alloc (.cells (kV v A c B d) 44)) (hV.below hb2) (hv.below hb2) hs);have HVW:Hid (∀ w',Below w.heap.size w w'->Calls Tryz.prog 217 #[.string v.text] w' (BoolB (mQ v.text) w')):=Hd (fun w' hb=>FT v.text w' (hV.below hb) (by obtain⟨_,_,_,_,_,_,_,ht,_⟩:=Vl.at_iff.1 hv;exact ht));have hk1:Blk ((w.alloc (.cells (kP p A1 c1 B1 d1 A2 c2) 145)).alloc (.cells (kV v A c B d) 44)) w.heap.size (kP p A1 c1 B1 d1 A2 c2) 145:=(aJ w _ _).alloc _;have hk2:Blk ((w.alloc (.cells (kP p A1 c1 B1 d1 A2 c2) 145)).alloc (.cells (kV v A c B d) 44)) (w.heap.size+1) (kV v A c B d) 44:=by
  have:=aJ (w.alloc (.cells (kP p A1 c1 B1 d1 A2 c2) 145)) (kV v A c B d) 44;rwa [show (w.alloc (.cells (kP p A1 c1 B1 d1 A2 c2) 145)).heap.size=w.heap.size+1 by simp] at this
 obtain⟨e0,e1,e2,e3,e4,e5⟩:=gH hk2;have K1:=Hd hk1;have K2:=Hd hk2;have HB2:=Hd hb2;have HPK:Hid (pKind p v=if vChk v≠0 then false else if p.number=true then decide (v.kind=2) else if v.kind=3 then mQ v.text else false):=Hd rfl;obtain⟨z,hz⟩:∃ z,z=vChk v:=⟨_,rfl⟩;rw[<-hz] at HC HPK;obtain⟨W2,hW2⟩:∃ W2,((w.alloc (.cells (kP p A1 c1 B1 d1 A2 c2) 145)).alloc (.cells (kV v A c B d) 44))=W2:=⟨_,rfl⟩;have HW:=Hd hW2;rw[hW2] at HC e0 e1 e2 e3 e4 e5 K1 K2 HB2;clear hz hb2 hk1 hk2 hv hV hs hW2;go_enter Tryz.func176,Tryz.ntmps176;go_wp2_with fail;rw[HW.o];go_wp2_with fail;refine HC.o.mono ?_;rintro e w2 ⟨rfl,hb⟩;have HB:=Hd (HB2.o.trans (hb.mono HB2.o.size));have k1:=K1.out.below hb;have k2:=K2.out.below hb;obtain⟨a0,a1,a2,a3,a4,a5,a6,a7,a8,a9⟩:=iG k1;obtain⟨b0,b1,b2,b3,b4,b5⟩:=gH k2;clear hb k1 k2 e0 e1 e2 e3 e4 e5 K1 K2;by_cases h0:z=0
 .subst h0;rw[if_neg (by decide)] at HPK;cases hnb:p.number with
  | true =>
    rw[hnb] at HPK a1;clear hnb;rw[if_pos rfl] at HPK;go_wp2_with fail;all_goals
     go_ret
     refine⟨?_,HB.o⟩
     rw[HPK.o]
     first
      | rfl
      | (simp[*];done)
  | false =>
    rw[hnb] at HPK a1;clear hnb;rw[if_neg (by decide)] at HPK;by_cases h3:v.kind=3
    .have e3:(v.kind==3)=true:=by rw[h3];rfl
     rw[if_pos h3] at HPK;clear h3;go_wp2_with fail;refine(HVW.o w2 HB.o).mono ?_;rintro e w3 ⟨rfl,hb⟩;have HB3:=Hd (HB.o.trans (hb.mono HB.o.size));clear hb;go_wp2;go_ret;exact⟨by rw[HPK.o];try rfl,HB3.o⟩
    have e3:(v.kind==3)=false:=by simpa using h3
    rw[if_neg h3] at HPK;clear h3;go_wp2;go_ret;exact⟨by rw[HPK.o];try rfl,HB.o⟩
 have hz:((z:Int)==0)=false:=by simpa using h0
 rw[if_pos h0] at HPK;clear h0;go_wp2;go_ret;exact⟨by rw[HPK.o];try rfl,HB.o⟩
theorem tK (v:Vl) (A B:Option Addr) (c d:Nat) (w:World) :
 Calls Tryz.prog 178 #[.agg (kV v A c B d)] w (BoolB (oO v) w):=by
 have hb:Below w.heap.size w (w.alloc (.cells (kV v A c B d) 44)):=(aB _ w).alloc (aA _) _;have HB:=Hd hb;obtain⟨e0,e1,e2,e3,e4,e5⟩:=gH (aJ w (kV v A c B d) 44);have HE:Hid (oO v=(decide (v.kind=0)&&(!v.bool&&(decide (v.num=0)&&(fW v.text ByteArray.empty&&(decide (v.list.length=0)&&decide (v.keys.length=0))))))):=Hd rfl;clear hb;by_cases h0:v.kind=0
 .have t0:(v.kind==0)=true:=by rw[h0];rfl
  rw[h0] at HE;clear h0;cases hbo:v.bool with
  | true =>
    rw[hbo] at e1 HE;go_enter Tryz.func178,Tryz.ntmps178;go_wp2;go_ret;exact⟨by rw[HE.o];try rfl,(aB _ w).alloc (aA _) _⟩
  | false =>
    rw[hbo] at e1 HE;by_cases h2:v.num=0
    .have t2:(v.num==0)=true:=by rw[h2];rfl
     rw[h2] at HE;clear h2;by_cases h3:v.text=ByteArray.empty
     .have t3:(v.text.toList==[])=true:=by rw[h3,Lib.toList_data];rfl
      rw[h3,bEq_iff.2 rfl] at HE;clear h3;by_cases h4:v.list.length=0
      .have t4:((v.list.length:Int)==0)=true:=by simp[h4]
       rw[decide_eq_true h4] at HE;clear h4;by_cases h5:v.keys.length=0
       .have t5:((v.keys.length:Int)==0)=true:=by simp[h5]
        rw[decide_eq_true h5] at HE;clear h5;go_enter Tryz.func178,Tryz.ntmps178;go_wp2;go_ret;exact⟨by rw[HE.o];rfl,(aB _ w).alloc (aA _) _⟩
       have t5:((v.keys.length:Int)==0)=false:=by simpa using h5
       rw[decide_eq_false h5] at HE;clear h5;go_enter Tryz.func178,Tryz.ntmps178;go_wp2;go_ret;exact⟨by rw[HE.o];rfl,(aB _ w).alloc (aA _) _⟩
      have t4:((v.list.length:Int)==0)=false:=by simpa using h4
      rw[decide_eq_false h4] at HE;clear h4;go_enter Tryz.func178,Tryz.ntmps178;go_wp2;go_ret;exact⟨by rw[HE.o];simp,(aB _ w).alloc (aA _) _⟩
     have t3:(v.text.toList==[])=false:=by have h:=vK h3;rwa [show ByteArray.empty.toList=[] by rw[Lib.toList_data];rfl] at h
     rw[bEq_ne h3] at HE;clear h3;go_enter Tryz.func178,Tryz.ntmps178;go_wp2;go_ret;exact⟨by rw[HE.o];simp,(aB _ w).alloc (aA _) _⟩
    have t2:(v.num==0)=false:=by simpa using h2
    rw[decide_eq_false h2] at HE;clear h2;go_enter Tryz.func178,Tryz.ntmps178;go_wp2;go_ret;exact⟨by rw[HE.o];simp,(aB _ w).alloc (aA _) _⟩
 have t0:(v.kind==0)=false:=by simpa using h0
 rw[decide_eq_false h0] at HE;clear h0;go_enter Tryz.func178,Tryz.ntmps178;go_wp2;go_ret;exact⟨by rw[HE.o];try rfl,(aB _ w).alloc (aA _) _⟩
theorem MH (S:Nat->Prop) (v:Vl) (A B:Option Addr) (c d:Nat) (vb:Nat) (x:Vl) (xs:List Value) (w:World) (hV:j4 w) (hv:Trs.at S w v.tr (kV v A c B d).toList) (hvb:Blk w vb (kV v A c B d) 44) (hsv:fR v) (hsx:fR x) (hx:Trs.at S w x.tr xs) :
 Calls Tryz.prog 218 (#[.agg xs.toArray]++#[.pointer (some ⟨vb,0,none⟩)]) w (BoolB (pF x v) w):=by
 obtain⟨A2,c2,B2,d2,rfl,-⟩:=Vl.at_iff.1 hx;have hbn:Below w.heap.size w (w.alloc (.cells (kV x A2 c2 B2 d2) 44)):=(aB _ w).alloc (aA _) _;have HC:=Hd (qU w hV S x v _ _ _ hsx hsv hbn (hx.below hbn) (hv.below hbn));have HB:=Hd hbn;obtain⟨e0,e1,e2,e3,e4,e5⟩:=gH (hvb.alloc (.cells (kV x A2 c2 B2 d2) 44));obtain⟨q,hq⟩:∃ q,q=pF x v:=⟨_,rfl⟩;rw[<-hq] at HC ⊢;clear hq hv hx hvb hsv hsx hV hbn;simp only[bV,bS,Array.append_eq_toArray_iff,Array.toList_append,bM,bP];go_enter Tryz.func218,Tryz.ntmps218;go_wp2_with fail;refine HC.o.mono ?_;rintro e w2 ⟨rfl,hb⟩;have HB2:=Hd (HB.o.trans (hb.mono HB.o.size));clear hb;go_wp2;go_ret;exact⟨rfl,HB2.o⟩
theorem Ls.take {α:Type} {tr:α->List Tr} {S:Nat->Prop} {w:World} {sz b c:Nat} {A:Option Addr} {l:List α} (hsz:∀ a,(tr a).length=sz) (h:Ls S w sz b tr A c l) {j:Nat} (hj:j<=l.length):Ls S w sz b tr A c (l.take j):=by
 obtain⟨vs,hr,ht⟩:=h.cells;have hl:(l.take j).length=j:=by simp;omega
 refine⟨h.sz0,?_,by rw[hl];exact bB hj h.cap,h.max,fun ad e h0=>h.blk ad e (by rw[hl] at h0;omega),⟨vs.take (j*sz),by rw[hl];exact hr.take hj,?_⟩⟩
 .rw[hl];exact bB (bT b hj) h.bytes
 rw[<-cJ j l,bE] at ht;obtain⟨a,d,rfl,h1,_⟩:=Trs.at.app.1 ht;have hal:a.length=j*sz:=by
  rw[h1.len,List.length_flatMap,List.map_congr_left (fun a _=>hsz a),List.map_const',List.sum_replicate_nat,hl]
 rw[<-hal,List.take_left];exact h1
theorem pN (S:Nat->Prop) (p:Pm) (A1 B1 A2:Option Addr) (c1 d1 c2:Nat) (v:Vl) (A B:Option Addr) (c d:Nat) (w:World) (hV:j4 w) (ha:Ls S w 6 80 Vl.tr A2 c2 p.allowed) (hal:p.allowed.length<=1000000) (hsa:∀ x∈p.allowed,fR x) (hv:Trs.at S w v.tr (kV v A c B d).toList) (hs:fR v) :
 Calls Tryz.prog 177 #[.agg (kP p A1 c1 B1 d1 A2 c2),.agg (kV v A c B d)] w (BoolB (jD p v) w):=by
 have hb2:Below w.heap.size w ((w.alloc (.cells (kP p A1 c1 B1 d1 A2 c2) 145)).alloc (.cells (kV v A c B d) 44)):=((aB _ w).alloc (aA _) _).alloc (by simp) _;have hk1:Blk ((w.alloc (.cells (kP p A1 c1 B1 d1 A2 c2) 145)).alloc (.cells (kV v A c B d) 44)) w.heap.size (kP p A1 c1 B1 d1 A2 c2) 145:=(aJ w _ _).alloc _;have hk2:Blk ((w.alloc (.cells (kP p A1 c1 B1 d1 A2 c2) 145)).alloc (.cells (kV v A c B d) 44)) (w.heap.size+1) (kV v A c B d) 44:=by
  have:=aJ (w.alloc (.cells (kP p A1 c1 B1 d1 A2 c2) 145)) (kV v A c B d) 44;rwa [show (w.alloc (.cells (kP p A1 c1 B1 d1 A2 c2) 145)).heap.size=w.heap.size+1 by simp] at this
 have HFD:=Hd (qT S 218 #[.pointer (some ⟨w.heap.size+1,0,none⟩)] (fun x=>pF x v) A2 c2 p.allowed ((w.alloc (.cells (kP p A1 c1 B1 d1 A2 c2) 145)).alloc (.cells (kV v A c B d) 44)) (ha.below hb2) hal (callFunc_go Tryz.func218 rfl rfl) (fun x hx cs w' hb ht=>MH S v A B c d (w.heap.size+1) x cs w' ((hV.below hb2).below hb) ((hv.below hb2).below hb) (hk2.below hb) hs (hsa x hx) ht));have HG:=Hd (nT (fun x=>pF x v) p.allowed);have HPA:Hid (jD p v=(decide (p.allowed.length=0)||p.allowed.any (fun x=>pF x v))):=Hd rfl;obtain⟨z,hz⟩:∃ z,z=iT (fun x=>pF x v) p.allowed:=⟨_,rfl⟩;rw[<-hz] at HFD HG;obtain⟨a0,a1,a2,a3,a4,a5,a6,a7,a8,a9⟩:=iG hk1;have HB2:=Hd hb2;have hcap:=ha.cap;obtain⟨W2,hW2⟩:∃ W2,((w.alloc (.cells (kP p A1 c1 B1 d1 A2 c2) 145)).alloc (.cells (kV v A c B d) 44))=W2:=⟨_,rfl⟩;have HW:=Hd hW2;rw[hW2] at HFD HB2 a9;clear hz hb2 hk1 hk2 hv hV hs hsa ha hW2 a0 a1 a2 a3 a4 a5 a6 a7 a8;by_cases h0:p.allowed.length=0
 .have t0:((p.allowed.length:Int)==0)=true:=by simp[h0]
  rw[decide_eq_true h0] at HPA;clear h0;go_enter Tryz.func177,Tryz.ntmps177;go_wp2_with fail;rw[HW.o];go_wp2;go_ret;exact⟨by rw[HPA.o];try rfl,HB2.o⟩
 have t0:((p.allowed.length:Int)==0)=false:=by simpa using h0
 rw[decide_eq_false h0] at HPA;clear h0;go_enter Tryz.func177,Tryz.ntmps177;go_wp2_with fail;rw[HW.o];go_wp2_with fail;refine HFD.o.mono ?_;rintro e w3 ⟨rfl,hb⟩;have HB3:=Hd (HB2.o.trans (hb.mono HB2.o.size));clear hb;go_wp2_with fail;all_goals
  go_ret
  refine⟨?_,HB3.o⟩
  rw[HPA.o,<-HG.o]
  simp[*]
theorem M8 {l:List Vl} {x:Vl} (h:l[j]?=some x):lT (l.take j) (l.drop j)=((l.take j).any (fun v=>pF v x)||lT (l.take (j+1)) (l.drop (j+1))):=by
 rw[fS h,aT,h];rfl
theorem M9 (S:Nat->Prop) (A:Option Addr) (c:Nat) (l:List Vl) (lb jb j:Nat) (y:Vl) (hy:l[j]?=some y) (x:Vl) (xs:List Value) (w:World) (hV:j4 w) (hl:Ls S w 6 80 Vl.tr A c l) (hlb:Blk w lb #[.slice A l.length c] 41) (hjb:Blk w jb #[.int .i64 (j:Int)] 3) (hsy:fR y) (hsx:fR x) (hx:Trs.at S w x.tr xs) :
 Calls Tryz.prog 231 (#[.agg xs.toArray]++#[.pointer (some ⟨lb,0,none⟩),.pointer (some ⟨jb,0,none⟩)]) w (BoolB (pF x y) w):=by
 obtain⟨A2,c2,B2,d2,rfl,-⟩:=Vl.at_iff.1 hx;have hbn:Below w.heap.size w (w.alloc (.cells (kV x A2 c2 B2 d2) 44)):=(aB _ w).alloc (aA _) _;obtain⟨ad,ys,rfl,hyt,hyc⟩:=(hl.below hbn).elem dK hy;have hyt':=hyt;obtain⟨A3,c3,B3,d3,rfl,-⟩:=Vl.at_iff.1 hyt';have HC:=Hd (fun w' (hb:Below (w.alloc (.cells (kV x A2 c2 B2 d2) 44)).heap.size (w.alloc (.cells (kV x A2 c2 B2 d2) 44)) w')=>qU w hV S x y _ _ w' hsx hsy (hbn.trans (hb.mono hbn.size)) ((hx.below hbn).below hb) (hyt.below hb));have HB:=Hd hbn;have hcap:=hl.cap;have hmax:=hl.max;have hjn:j<l.length:=(List.getElem?_eq_some_iff.1 hy).1;have hjj:(0:Int)<=(j:Int)/\(j:Int)<(l.length:Int):=⟨by omega,by omega⟩
 obtain⟨f0,f1,f2,f3,f4,f5⟩:=iA hyc;obtain⟨e0,e1,e2,e3,e4,e5⟩:=gH (aJ w (kV x A2 c2 B2 d2) 44);have g0:=i9 (hlb.alloc (.cells (kV x A2 c2 B2 d2) 44));have g1:=i9 (hjb.alloc (.cells (kV x A2 c2 B2 d2) 44));obtain⟨q,hq⟩:∃ q,q=pF x y:=⟨_,rfl⟩;rw[<-hq] at HC ⊢;clear hq hyt hyt' hx hl hlb hjb hsy hsx hV hbn hyc hy;simp only[bV,bS,bM,bP];go_enter Tryz.func231,Tryz.ntmps231;go_wp2_with fail;generalize hW:w.alloc (.cells (kV x A2 c2 B2 d2) 44)=W at *;go_still_tail 5,(by kernel_rfl);change wpList _ _ _ _ _ W.drew;have HBD:Hid (Below W.heap.size W W.drew):=Hd (gC W 1);go_wp2_with fail;refine(HC.o _ HBD.o).mono ?_;rintro e w2 ⟨rfl,hb⟩;have HB2:=Hd (HB.o.trans ((HBD.o.trans (hb.mono HBD.o.size)).mono HB.o.size));clear hb;go_wp2;go_ret;exact⟨rfl,HB2.o⟩
theorem CF (S:Nat->Prop) (A:Option Addr) (c:Nat) (l:List Vl) (w:World) (hV:j4 w) (hl:Ls S w 6 80 Vl.tr A c l) (hn:l.length<=1000000) (hsm:∀ x∈l,fR x) :
 Calls Tryz.prog 211 #[.slice A l.length c] w (BoolB (mW l) w):=by
 have hcap:=hl.cap;have hmax:=hl.max;have hbn:Below w.heap.size w (w.alloc (.cells #[.slice A l.length c] 41)):=(aB _ w).alloc (aA _) _;have HB:=Hd hbn;have HKB:=Hd (aJ w #[.slice A l.length c] 41);have HL:=Hd hl;have HV:=Hd hV;have HSM:=Hd hsm;have e0:=i9 (aJ w #[.slice A l.length c] 41);clear hl hV hsm hbn;go_enter Tryz.func211,Tryz.ntmps211;go_wp2_with fail;go_loopg [6] l.length (fun g i wr=>∃ j:Nat,j+g=l.length/\i=.int .i64 (j:Nat)/\Hid (mW l=lT (l.take j) (l.drop j))/\Hid (Below (w.heap.size+1) (w.alloc (.cells #[.slice A l.length c] 41)) wr))
 case atStart=>exact⟨0,by omega,rfl,Hd rfl,Hd (aB _ _)⟩
 obtain⟨j,hj,rfl,HN,HR⟩:=hrel;rename World=>wo
 clear e0;cases gk with
 | zero =>
   have hjj:¬((j:Int)<(l.length:Int)):=by omega
   have HE:Hid (mW l=false):=Hd (by rw[HN.o,aP (by omega)];rfl);go_wp2;go_ret;rw[HE.o];exact⟨rfl,HB.o.trans (HR.o.mono (by omega))⟩
 | succ g =>
   have hjj:(j:Int)<(l.length:Int):=by omega
   have hjb:(0:Int)<=(j:Int)/\(j:Int)<=(c:Int):=⟨by omega,by omega⟩
   obtain⟨k,hk⟩:=fO (l:=l) (i:=j) (by omega);have HD:=Hd (M8 hk);have hr1:Below (w.alloc (.cells #[.slice A l.length c] 41)).heap.size (w.alloc (.cells #[.slice A l.length c] 41)) wo:=by simpa using HR.o
   have hwo:Below w.heap.size w wo:=HB.o.trans (hr1.mono HB.o.size);have hbj:Below wo.heap.size wo (wo.alloc (.cells #[.int .i64 (j:Int)] 3)):=(aB _ wo).alloc (aA _) _;have hwj:Below w.heap.size w (wo.alloc (.cells #[.int .i64 (j:Int)] 3)):=hwo.trans (hbj.mono hwo.size);have kb:Blk (wo.alloc (.cells #[.int .i64 (j:Int)] 3)) w.heap.size #[.slice A l.length c] 41:=(HKB.o.below hr1).alloc _;have kj:Blk (wo.alloc (.cells #[.int .i64 (j:Int)] 3)) wo.heap.size #[.int .i64 (j:Int)] 3:=aJ wo _ _;have htk:(l.take j).length=j:=by simp;omega
   have HFD:=qT S 231 #[.pointer (some ⟨w.heap.size,0,none⟩),.pointer (some ⟨wo.heap.size,0,none⟩)] (fun x=>pF x k) A c (l.take j) (wo.alloc (.cells #[.int .i64 (j:Int)] 3)) ((HL.o.take dK (by omega)).below hwj) (by omega) (callFunc_go Tryz.func231 rfl rfl)
    (fun x hx cs w' hb ht=>M9 S A c l w.heap.size wo.heap.size j k hk x cs w' ((HV.o.below hwj).below hb) ((HL.o.below hwj).below hb) (kb.below hb) (kj.below hb) (HSM.o k (aD hk)) (HSM.o x (List.mem_of_mem_take hx)) ht)
   rw[htk] at HFD;have HFD:=Hd HFD;have HG:=Hd (nT (fun x=>pF x k) (l.take j));obtain⟨z,hz⟩:∃ z,z=iT (fun x=>pF x k) (l.take j):=⟨_,rfl⟩;rw[<-hz] at HFD HG;have d0:=i9 kb;have d1:=i9 kj;have HBJ:=Hd hbj;clear hk hr1 hwo hbj hwj kb kj hz htk;go_wp2_with fail;refine HFD.o.mono ?_;rintro e w2 ⟨rfl,hb2⟩;have HB2:=Hd (HBJ.o.trans (hb2.mono HBJ.o.size));clear hb2;by_cases hz0:0<=z
   .have HE:Hid (mW l=true):=Hd (by
     have:=HG.o
     rw[decide_eq_true hz0] at this
     rw[HN.o,HD.o,<-this];rfl)
    go_wp2;go_ret;rw[HE.o];exact⟨rfl,HB.o.trans ((HR.o.trans (HB2.o.mono (by have:=HR.o.size;simpa using this))).mono (by omega))⟩
   have HE:Hid (mW l=lT (l.take (j+1)) (l.drop (j+1))):=Hd (by
    have:=HG.o;rw[decide_eq_false hz0] at this;rw[HN.o,HD.o,<-this];rfl)
   go_wp2_with fail;go_roundg g
   case measure=>omega
   case rel=>exact⟨j+1,by omega,by go_num,HE,Hd (HR.o.trans (HB2.o.mono (by have:=HR.o.size;simpa using this)))⟩
def iM (p:Pm):Prop:=p.allowed.length<=1000000/\fR p.dflt/\∀ x∈p.allowed,fR x
structure mO (S:Nat->Prop) (p:Pm) (A1 B1 A2:Option Addr) (c1 d1 c2:Nat) (w:World):Prop where
 dflt:Trs.at S w p.dflt.tr (kV p.dflt A1 c1 B1 d1).toList
 al:Ls S w 6 80 Vl.tr A2 c2 p.allowed
 nm:p.name.size<=9007199254740992
 sm:iM p
theorem mO.of {S:Nat->Prop} {p:Pm} {w:World} {cs:List Value} (h:Trs.at S w p.tr cs) (hs:iM p):∃ (A1 B1 A2:Option Addr) (c1 d1 c2:Nat),cs=(kP p A1 c1 B1 d1 A2 c2).toList/\mO S p A1 B1 A2 c1 d1 c2 w:=by
 obtain⟨vs,A2,c2,rfl,hn,hv,hl⟩:=Pm.at_iff.1 h;have hv':=hv;obtain⟨A1,c1,B1,d1,rfl,-⟩:=Vl.at_iff.1 hv';exact⟨A1,B1,A2,c1,d1,c2,rfl,hv,hl,hn,hs⟩
theorem mO.below {S:Nat->Prop} {p:Pm} {A1 B1 A2:Option Addr} {c1 d1 c2:Nat} {w w':World} (h:mO S p A1 B1 A2 c1 d1 c2 w) (hb:Below w.heap.size w w'):mO S p A1 B1 A2 c1 d1 c2 w':=⟨h.dflt.below hb,h.al.below hb,h.nm,h.sm⟩
def T2 (p:Pm):Bool:=!iI p.name||decide (8<p.allowed.length)
def T1 (p:Pm):Bool:=p.allowed.any (fun v=>!pKind p v)
def T0 (p:Pm):Bool:=!p.has&&!oO p.dflt
def TZ (p:Pm):Bool:=p.has&&!(pKind p p.dflt&&jD p p.dflt)
theorem m1_any (S:Nat->Prop) (p:Pm) (A1 B1 A2:Option Addr) (c1 d1 c2:Nat) (pb:Nat) (w:World) (hp:mO S p A1 B1 A2 c1 d1 c2 w) (hb:Blk w pb (kP p A1 c1 B1 d1 A2 c2) 145) :
 Calls Tryz.prog 206 #[.pointer (some ⟨pb,0,none⟩)] w (BoolB (T2 p) w):=by
 have HN:=Hd (vN p.name w hp.nm);obtain⟨a0,a1,a2,a3,a4,a5,a6,a7,a8,a9⟩:=iG hb;have HT:Hid (T2 p=(!iI p.name||decide (8<p.allowed.length))):=Hd rfl;have hcap:=hp.al.cap;have hmax:=hp.al.max;clear hp hb a1 a2 a3 a4 a5 a6 a7 a8;cases hi:iI p.name with
 | false =>
   rw[hi] at HN HT;clear hi;go_enter Tryz.func206,Tryz.ntmps206;go_wp2_with fail;refine HN.o.mono ?_;rintro e w2 ⟨rfl,rfl⟩;go_wp2;go_ret;exact⟨by rw[HT.o];try rfl,aB _ _⟩
 | true =>
   rw[hi] at HN HT;clear hi;by_cases h8:8<p.allowed.length
   .have h8i:(8:Int)<(p.allowed.length:Int):=by omega
    rw[decide_eq_true h8] at HT;clear h8;go_enter Tryz.func206,Tryz.ntmps206;go_wp2_with fail;refine HN.o.mono ?_;rintro e w2 ⟨rfl,rfl⟩;go_wp2;go_ret;exact⟨by rw[HT.o];simp[*],aB _ _⟩
   have h8i:¬((8:Int)<(p.allowed.length:Int)):=by omega
   rw[decide_eq_false h8] at HT;clear h8;go_enter Tryz.func206,Tryz.ntmps206;go_wp2_with fail;refine HN.o.mono ?_;rintro e w2 ⟨rfl,rfl⟩;go_wp2;go_ret;exact⟨by rw[HT.o];simp[*],aB _ _⟩
theorem N6 (S:Nat->Prop) (p:Pm) (A1 B1 A2:Option Addr) (c1 d1 c2:Nat) (pb:Nat) (x:Vl) (xs:List Value) (w:World) (hV:j4 w) (hb:Blk w pb (kP p A1 c1 B1 d1 A2 c2) 145) (hsx:fR x) (hx:Trs.at S w x.tr xs) :
 Calls Tryz.prog 209 (#[.agg xs.toArray]++#[.pointer (some ⟨pb,0,none⟩)]) w (BoolB (!pKind p x) w):=by
 obtain⟨A3,c3,B3,d3,rfl,-⟩:=Vl.at_iff.1 hx;have hbn:Below w.heap.size w (w.alloc (.cells (kV x A3 c3 B3 d3) 44)):=(aB _ w).alloc (aA _) _;have HC:=Hd (qM S p A1 B1 A2 c1 d1 c2 x A3 B3 c3 d3 _ (hV.below hbn) (hx.below hbn) hsx);have HB:=Hd hbn;obtain⟨e0,e1,e2,e3,e4,e5⟩:=gH (aJ w (kV x A3 c3 B3 d3) 44);obtain⟨a0,a1,a2,a3,a4,a5,a6,a7,a8,a9⟩:=iG (hb.alloc (.cells (kV x A3 c3 B3 d3) 44));obtain⟨q,hq⟩:∃ q,q=pKind p x:=⟨_,rfl⟩;rw[<-hq] at HC ⊢;clear hq hx hb hsx hV hbn;simp only[bV,bS,bM,bP];go_enter Tryz.func209,Tryz.ntmps209;go_wp2_with fail;refine HC.o.mono ?_;rintro e w2 ⟨rfl,hb⟩;have HB2:=Hd (HB.o.trans (hb.mono HB.o.size));clear hb;go_wp2;go_ret;exact⟨rfl,HB2.o⟩
theorem m2_any (S:Nat->Prop) (p:Pm) (A1 B1 A2:Option Addr) (c1 d1 c2:Nat) (pb:Nat) (w:World) (hV:j4 w) (hp:mO S p A1 B1 A2 c1 d1 c2 w) (hb:Blk w pb (kP p A1 c1 B1 d1 A2 c2) 145) :
 Calls Tryz.prog 207 #[.pointer (some ⟨pb,0,none⟩)] w (BoolB (T1 p) w):=by
 have HFD:=Hd (qT S 209 #[.pointer (some ⟨pb,0,none⟩)] (fun x=>!pKind p x) A2 c2 p.allowed w hp.al hp.sm.1 (callFunc_go Tryz.func209 rfl rfl) (fun x hx cs w' hbw ht=>N6 S p A1 B1 A2 c1 d1 c2 pb x cs w' (hV.below hbw) (hb.below hbw) (hp.sm.2.2 x hx) ht));have HG:=Hd (nT (fun x=>!pKind p x) p.allowed);have HT:Hid (T1 p=p.allowed.any (fun x=>!pKind p x)):=Hd rfl;obtain⟨z,hz⟩:∃ z,z=iT (fun x=>!pKind p x) p.allowed:=⟨_,rfl⟩;rw[<-hz] at HFD HG;obtain⟨a0,a1,a2,a3,a4,a5,a6,a7,a8,a9⟩:=iG hb;clear hp hb hz hV;go_enter Tryz.func207,Tryz.ntmps207;go_wp2_with fail;refine HFD.o.mono ?_;rintro e w2 ⟨rfl,hb⟩;have HB:=Hd hb;clear hb;go_wp2;go_ret;exact⟨by rw[HT.o,<-HG.o];try rfl,HB.o⟩
theorem m3_any (S:Nat->Prop) (p:Pm) (A1 B1 A2:Option Addr) (c1 d1 c2:Nat) (pb:Nat) (w:World) (hV:j4 w) (hp:mO S p A1 B1 A2 c1 d1 c2 w) (hb:Blk w pb (kP p A1 c1 B1 d1 A2 c2) 145) :
 Calls Tryz.prog 210 #[.pointer (some ⟨pb,0,none⟩)] w (BoolB (mW p.allowed) w):=by
 have HC:=Hd (CF S A2 c2 p.allowed w hV hp.al hp.sm.1 hp.sm.2.2);obtain⟨a0,a1,a2,a3,a4,a5,a6,a7,a8,a9⟩:=iG hb;clear hp hb hV;go_enter Tryz.func210,Tryz.ntmps210;go_wp2_with fail;refine HC.o.mono ?_;rintro e w2 ⟨rfl,hb⟩;have HB:=Hd hb;clear hb;go_wp2;go_ret;exact⟨rfl,HB.o⟩
theorem m4_any (S:Nat->Prop) (p:Pm) (A1 B1 A2:Option Addr) (c1 d1 c2:Nat) (pb:Nat) (w:World) (hb:Blk w pb (kP p A1 c1 B1 d1 A2 c2) 145) :
 Calls Tryz.prog 212 #[.pointer (some ⟨pb,0,none⟩)] w (BoolB (T0 p) w):=by
 have HC:=Hd (tK p.dflt A1 B1 c1 d1 w);have HT:Hid (T0 p=(!p.has&&!oO p.dflt)):=Hd rfl;obtain⟨q,hq⟩:∃ q,q=oO p.dflt:=⟨_,rfl⟩;rw[<-hq] at HC HT;obtain⟨a0,a1,a2,a3,a4,a5,a6,a7,a8,a9⟩:=iG hb;clear hb hq;cases hh:p.has with
 | true =>
   rw[hh] at HT a2;clear hh;go_enter Tryz.func212,Tryz.ntmps212;go_wp2;go_ret;exact⟨by rw[HT.o];try rfl,aB _ _⟩
 | false =>
   rw[hh] at HT a2;clear hh;go_enter Tryz.func212,Tryz.ntmps212;go_wp2_with fail;refine HC.o.mono ?_;rintro e w2 ⟨rfl,hb⟩;have HB:=Hd hb;clear hb;go_wp2;go_ret;exact⟨by rw[HT.o];try rfl,HB.o⟩
theorem m5_any (S:Nat->Prop) (p:Pm) (A1 B1 A2:Option Addr) (c1 d1 c2:Nat) (pb:Nat) (w:World) (hV:j4 w) (hp:mO S p A1 B1 A2 c1 d1 c2 w) (hb:Blk w pb (kP p A1 c1 B1 d1 A2 c2) 145) :
 Calls Tryz.prog 213 #[.pointer (some ⟨pb,0,none⟩)] w (BoolB (TZ p) w):=by
 have HC:=Hd (qM S p A1 B1 A2 c1 d1 c2 p.dflt A1 B1 c1 d1 w hV hp.dflt hp.sm.2.1);have HA:=Hd (fun w' (hbw:Below w.heap.size w w')=>pN S p A1 B1 A2 c1 d1 c2 p.dflt A1 B1 c1 d1 w' (hV.below hbw) (hp.al.below hbw) hp.sm.1 hp.sm.2.2 (hp.dflt.below hbw) hp.sm.2.1);have HT:Hid (TZ p=(p.has&&!(pKind p p.dflt&&jD p p.dflt))):=Hd rfl;obtain⟨q,hq⟩:∃ q,q=pKind p p.dflt:=⟨_,rfl⟩;obtain⟨r,hr⟩:∃ r,r=jD p p.dflt:=⟨_,rfl⟩;rw[<-hq] at HC;rw[<-hr] at HA;rw[<-hq,<-hr] at HT;obtain⟨a0,a1,a2,a3,a4,a5,a6,a7,a8,a9⟩:=iG hb;have HK:=Hd hb;clear hb hq hr hV hp;cases hh:p.has with
 | false =>
   rw[hh] at HT a2;clear hh;go_enter Tryz.func213,Tryz.ntmps213;go_wp2;go_ret;exact⟨by rw[HT.o];try rfl,aB _ _⟩
 | true =>
   unfold kP at HK HC HA;rw[hh] at HT a2 HK HC HA;clear hh;go_enter Tryz.func213,Tryz.ntmps213;go_wp2_with fail;refine HC.o.mono ?_;rintro e w2 ⟨rfl,hb⟩;have HB:=Hd hb;obtain⟨b0,b1,b2,b3,b4,b5,b6,b7,b8,b9⟩:=iG (HK.o.below hb);clear hb a0 a1 a2 a3 a4 a5 a6 a7 a8 a9;cases q with
   | false =>
     go_wp2;go_ret;exact⟨by rw[HT.o];try rfl,HB.o⟩
   | true =>
     go_wp2_with fail;refine(HA.o w2 HB.o).mono ?_;rintro e w3 ⟨rfl,hb⟩;have HB3:=Hd (HB.o.trans (hb.mono HB.o.size));clear hb;go_wp2;go_ret;exact⟨by rw[HT.o];try rfl,HB3.o⟩
theorem Q7 (fid:FuncId) (pb:Nat) (b:Bool) (w:World) (hcf:∀ args w',(callFunc fid args).run Tryz.prog w'=.ok (.enter fid args) w') (h:Calls Tryz.prog fid #[.pointer (some ⟨pb,0,none⟩)] w (BoolB b w)):Calls Tryz.prog 215 #[.func (.func fid) #[] #[.pointer (some ⟨pb,0,none⟩)]] w (BoolB b w):=by
 have H:=Hd h;clear h;go_enter Tryz.func215,Tryz.ntmps215;go_wp2_with fail;refine H.out.mono ?_;rintro e w2 ⟨rfl,hb⟩;have HB:=Hd hb;clear hb;go_wp2;go_ret;exact⟨rfl,HB.o⟩
def TR (pb:Nat) (f:FuncId):Value:=.func (.func f) #[] #[.pointer (some ⟨pb,0,none⟩)]
theorem GX (pb:Nat) (fs:List FuncId) (q:Nat->Bool) (A:Option Addr) (c:Nat) (w:World) (hr:Rd w 1 A fs.length c (fs.map (TR pb))) (hn:fs.length<=1000000) (hcf:∀ f∈fs,∀ args w',(callFunc f args).run Tryz.prog w'=.ok (.enter f args) w') (hf:∀ (j:Nat) (f:FuncId),fs[j]?=some f->∀ w',Below w.heap.size w w'->Calls Tryz.prog f #[.pointer (some ⟨pb,0,none⟩)] w' (BoolB (q j) w')) :
 Calls Tryz.prog 214 #[.slice A fs.length c,.func (.func 215) #[] #[]] w fun e w'=>e=.returned (.int .i64 (jX q fs.length))/\Below w.heap.size w w':=by
 have HR:=Hd hr;have hcap:=hr.cap;have HF:=Hd hf;have HCF:=Hd hcf;clear hr hf hcf;go_enter Tryz.func214,Tryz.ntmps214;go_wp2_with fail;go_loopg [9] fs.length (fun g i wr=>∃ j:Nat,j+g=fs.length/\i=.int .i64 (j:Nat)/\Hid (∀ i,i<j->q i=false)/\Hid (Below w.heap.size w wr))
 case atStart=>exact⟨0,by omega,rfl,Hd (fun i hi=>absurd hi (by omega)),Hd (aB _ _)⟩
 obtain⟨j,hj,rfl,HN,HB⟩:=hrel;rename World=>wo
 cases gk with
 | zero =>
   have hjj:¬((j:Int)<(fs.length:Int)):=by omega
   have HE:Hid (jX q fs.length=-1):=Hd (lW (fun i hi=>HN.o i (by omega)));go_wp2;go_ret;rw[HE.o];exact⟨rfl,HB.o⟩
 | succ g =>
   have hjj:(j:Int)<(fs.length:Int):=by omega
   obtain⟨k,hk⟩:=fO (l:=fs) (i:=j) (by omega);obtain⟨ad,rfl,hc⟩:=(HR.o.below HB.o).at_ j (TR pb k) (by simp[hk]);unfold TR at hc;have HBN:=HB;have HCL:=Hd (Q7 k pb (q j) wo (HCF.o k (aD hk)) (HF.o j k hk _ HBN.o));have HE:Hid (q j=true->jX q fs.length=(j:Int)):=Hd (fun hq=>lV (by omega) hq HN.o);clear hk;cases hp:q j with
   | true =>
     rw[hp] at HCL;have HE2:=Hd (HE.o hp);clear hp HE;go_wp2_with fail;refine HCL.o.mono ?_;rintro e w2 ⟨rfl,hb2⟩;have HB2:=Hd (HBN.o.trans (hb2.mono HBN.o.size));clear hb2;go_wp2;go_ret;rw[HE2.o];exact⟨rfl,HB2.o⟩
   | false =>
     rw[hp] at HCL;have HN2:Hid (∀ i,i<j+1->q i=false):=Hd (fun i hi=>by
      rcases bI i j with h | h
      .exact HN.o i h
      rw[show i=j by omega];exact hp)
     clear hp HE;go_wp2_with fail;refine HCL.o.mono ?_;rintro e w2 ⟨rfl,hb2⟩;have HB2:=Hd (HBN.o.trans (hb2.mono HBN.o.size));clear hb2;go_wp2_with fail;go_roundg g
     case measure=>omega
     case rel=>exact⟨j+1,by omega,by go_num,HN2,HB2⟩
def pQ (p:Pm) (j:Nat):Bool:=if j=0 then T2 p else if j=1 then T1 p else if j=2 then mW p.allowed else if j=3 then T0 p else TZ p
theorem T5 (q:Nat->Bool):decide (jX q 5<0)=!(q 0||(q 1||(q 2||(q 3||q 4)))):=by
 unfold jX;rw[show List.range 5=[0,1,2,3,4] from rfl];cases h0:q 0<;>cases h1:q 1<;>cases h2:q 2<;>cases h3:q 3<;>cases h4:q 4<;>simp[List.find?, *]
theorem NU (p:Pm):F5 p=decide (jX (pQ p) 5<0):=by rw[T5];rfl
theorem yZ (S:Nat->Prop) (p:Pm) (A1 B1 A2:Option Addr) (c1 d1 c2:Nat) (w:World) (hV:j4 w) (hp:mO S p A1 B1 A2 c1 d1 c2 w) :
 Calls Tryz.prog 175 #[.agg (kP p A1 c1 B1 d1 A2 c2)] w (BoolB (F5 p) w):=by
 have hb2:Below w.heap.size w ((w.alloc (.cells (kP p A1 c1 B1 d1 A2 c2) 145)).alloc (.cells #[.func (.func 206) #[] #[.pointer (some ⟨w.heap.size,0,none⟩)],.func (.func 207) #[] #[.pointer (some ⟨w.heap.size,0,none⟩)],.func (.func 210) #[] #[.pointer (some ⟨w.heap.size,0,none⟩)],.func (.func 212) #[] #[.pointer (some ⟨w.heap.size,0,none⟩)],.func (.func 213) #[] #[.pointer (some ⟨w.heap.size,0,none⟩)]] 40)):=((aB _ w).alloc (aA _) _).alloc (by simp) _;have hk1:Blk ((w.alloc (.cells (kP p A1 c1 B1 d1 A2 c2) 145)).alloc (.cells #[.func (.func 206) #[] #[.pointer (some ⟨w.heap.size,0,none⟩)],.func (.func 207) #[] #[.pointer (some ⟨w.heap.size,0,none⟩)],.func (.func 210) #[] #[.pointer (some ⟨w.heap.size,0,none⟩)],.func (.func 212) #[] #[.pointer (some ⟨w.heap.size,0,none⟩)],.func (.func 213) #[] #[.pointer (some ⟨w.heap.size,0,none⟩)]] 40)) w.heap.size (kP p A1 c1 B1 d1 A2 c2) 145:=(aJ w _ _).alloc _;have hr:Rd ((w.alloc (.cells (kP p A1 c1 B1 d1 A2 c2) 145)).alloc (.cells #[.func (.func 206) #[] #[.pointer (some ⟨w.heap.size,0,none⟩)],.func (.func 207) #[] #[.pointer (some ⟨w.heap.size,0,none⟩)],.func (.func 210) #[] #[.pointer (some ⟨w.heap.size,0,none⟩)],.func (.func 212) #[] #[.pointer (some ⟨w.heap.size,0,none⟩)],.func (.func 213) #[] #[.pointer (some ⟨w.heap.size,0,none⟩)]] 40)) 1 (some ⟨w.heap.size+1,0,none⟩) 5 5 ([206,207,210,212,213].map (TR w.heap.size)):=by
  have:=cQ (w.alloc (.cells (kP p A1 c1 B1 d1 A2 c2) 145)) 1 5 #[.func (.func 206) #[] #[.pointer (some ⟨w.heap.size,0,none⟩)],.func (.func 207) #[] #[.pointer (some ⟨w.heap.size,0,none⟩)],.func (.func 210) #[] #[.pointer (some ⟨w.heap.size,0,none⟩)],.func (.func 212) #[] #[.pointer (some ⟨w.heap.size,0,none⟩)],.func (.func 213) #[] #[.pointer (some ⟨w.heap.size,0,none⟩)]] 40 (0,0) rfl (by unfold maxLen;omega);rwa [show (w.alloc (.cells (kP p A1 c1 B1 d1 A2 c2) 145)).heap.size=w.heap.size+1 by simp] at this
 have HFD:=Hd (GX w.heap.size [206,207,210,212,213] (pQ p) (some ⟨w.heap.size+1,0,none⟩) 5 ((w.alloc (.cells (kP p A1 c1 B1 d1 A2 c2) 145)).alloc (.cells #[.func (.func 206) #[] #[.pointer (some ⟨w.heap.size,0,none⟩)],.func (.func 207) #[] #[.pointer (some ⟨w.heap.size,0,none⟩)],.func (.func 210) #[] #[.pointer (some ⟨w.heap.size,0,none⟩)],.func (.func 212) #[] #[.pointer (some ⟨w.heap.size,0,none⟩)],.func (.func 213) #[] #[.pointer (some ⟨w.heap.size,0,none⟩)]] 40)) hr (by decide) (fun f hf=>by
  simp only[List.mem_cons,fL,or_false] at hf;rcases hf with rfl | rfl | rfl | rfl | rfl
  .exact callFunc_go Tryz.func206 rfl rfl
  .exact callFunc_go Tryz.func207 rfl rfl
  .exact callFunc_go Tryz.func210 rfl rfl
  .exact callFunc_go Tryz.func212 rfl rfl
  .exact callFunc_go Tryz.func213 rfl rfl) (fun j f hf w' hb=>by
  have hV':=(hV.below hb2).below hb;have hp':=(hp.below hb2).below hb;have hk':=hk1.below hb;match j,hf with
  | 0,hf=>injection hf with hf;subst hf;exact m1_any S p A1 B1 A2 c1 d1 c2 _ w' hp' hk'
  | 1,hf=>injection hf with hf;subst hf;exact m2_any S p A1 B1 A2 c1 d1 c2 _ w' hV' hp' hk'
  | 2,hf=>injection hf with hf;subst hf;exact m3_any S p A1 B1 A2 c1 d1 c2 _ w' hV' hp' hk'
  | 3,hf=>injection hf with hf;subst hf;exact m4_any S p A1 B1 A2 c1 d1 c2 _ w' hk'
  | 4,hf=>injection hf with hf;subst hf;exact m5_any S p A1 B1 A2 c1 d1 c2 _ w' hV' hp' hk'
  | n+5,hf=>simp at hf))
 have HM:=Hd (NU p);rw[show ([206,207,210,212,213]).length=5 from rfl] at HFD;obtain⟨z,hz⟩:∃ z,z=jX (pQ p) 5:=⟨_,rfl⟩;rw[<-hz] at HFD HM;have HB2:=Hd hb2;clear hz hb2 hk1 hr hV hp;go_enter Tryz.func175,Tryz.ntmps175;go_wp2_with fail;refine HFD.o.mono ?_;rintro e w3 ⟨rfl,hb⟩;have HB3:=Hd (HB2.o.trans (hb.mono HB2.o.size));clear hb;go_wp2;go_ret;exact⟨by rw[HM.o];try rfl,HB3.o⟩
theorem nR (S:Nat->Prop) (p:Pm) (A1 B1 A2:Option Addr) (c1 d1 c2:Nat) (g:Gv) (GA GB:Option Addr) (gc gd:Nat) (w:World) (hV:j4 w) (hp:mO S p A1 B1 A2 c1 d1 c2 w) (hg:Trs.at S w g.v.tr (kV g.v GA gc GB gd).toList) (hsg:fR g.v) :
 Calls Tryz.prog 132 #[.agg (kP p A1 c1 B1 d1 A2 c2),.agg (kG g GA gc GB gd)] w (BoolB (pMayV p g) w):=by
 have hb2:Below w.heap.size w ((w.alloc (.cells (kP p A1 c1 B1 d1 A2 c2) 145)).alloc (.cells (kG g GA gc GB gd) 46)):=((aB _ w).alloc (aA _) _).alloc (by simp) _;have hk1:Blk ((w.alloc (.cells (kP p A1 c1 B1 d1 A2 c2) 145)).alloc (.cells (kG g GA gc GB gd) 46)) w.heap.size (kP p A1 c1 B1 d1 A2 c2) 145:=(aJ w _ _).alloc _;have hk2:Blk ((w.alloc (.cells (kP p A1 c1 B1 d1 A2 c2) 145)).alloc (.cells (kG g GA gc GB gd) 46)) (w.heap.size+1) (kG g GA gc GB gd) 46:=by
  have:=aJ (w.alloc (.cells (kP p A1 c1 B1 d1 A2 c2) 145)) (kG g GA gc GB gd) 46;rwa [show (w.alloc (.cells (kP p A1 c1 B1 d1 A2 c2) 145)).heap.size=w.heap.size+1 by simp] at this
 have HM:=Hd (yZ S p A1 B1 A2 c1 d1 c2 ((w.alloc (.cells (kP p A1 c1 B1 d1 A2 c2) 145)).alloc (.cells (kG g GA gc GB gd) 46)) (hV.below hb2) (hp.below hb2));have HC:=Hd (fun w' (hb:Below w.heap.size w w')=>qM S p A1 B1 A2 c1 d1 c2 g.v GA GB gc gd w' (hV.below hb) (hg.below hb) hsg);have HA:=Hd (fun w' (hb:Below w.heap.size w w')=>pN S p A1 B1 A2 c1 d1 c2 g.v GA GB gc gd w' (hV.below hb) (hp.al.below hb) hp.sm.1 hp.sm.2.2 (hg.below hb) hsg);have HE:=Hd (fun w'=>tK g.v GA GB gc gd w');have HT:Hid (pMayV p g=if F5 p=false then false else if g.unknown=false then pKind p g.v&&jD p g.v else if p.number=true then false else if 0<p.allowed.length then false else oO g.v):=Hd rfl;obtain⟨m,hm⟩:∃ m,m=F5 p:=⟨_,rfl⟩;obtain⟨q,hq⟩:∃ q,q=pKind p g.v:=⟨_,rfl⟩;obtain⟨r,hr⟩:∃ r,r=jD p g.v:=⟨_,rfl⟩;obtain⟨s,hs⟩:∃ s,s=oO g.v:=⟨_,rfl⟩;rw[<-hm] at HM;rw[<-hq] at HC;rw[<-hr] at HA;rw[<-hs] at HE;rw[<-hm,<-hq,<-hr,<-hs] at HT;have HB2:=Hd hb2;have HK1:=Hd hk1;have HK2:=Hd hk2;obtain⟨a0,a1,a2,a3,a4,a5,a6,a7,a8,a9⟩:=iG hk1;have hcap:=hp.al.cap;have hmax:=hp.al.max;obtain⟨W2,hW2⟩:∃ W2,((w.alloc (.cells (kP p A1 c1 B1 d1 A2 c2) 145)).alloc (.cells (kG g GA gc GB gd) 46))=W2:=⟨_,rfl⟩;have HW:=Hd hW2;rw[hW2] at HM HB2 HK1 HK2 a0 a1 a2 a3 a4 a5 a6 a7 a8 a9;clear hm hq hr hs hb2 hk1 hk2 hV hp hg hsg hW2;go_enter Tryz.func132,Tryz.ntmps132;go_wp2_with fail;rw[HW.o];go_wp2_with fail;refine HM.o.mono ?_;rintro e w3 ⟨rfl,hb⟩;have HB3:=Hd (HB2.o.trans (hb.mono HB2.o.size));have k1:=HK1.o.below hb;have k2:=HK2.o.below hb;have HK3:=Hd k1;have HK4:=Hd k2;clear a0 a1 a2 a3 a4 a5 a6 a7 a8 a9 hb;obtain⟨a0,a1,a2,a3,a4,a5,a6,a7,a8,a9⟩:=iG k1;obtain⟨b0,b1,b2,b3,b4,b5,b6,b7⟩:=gI k2;clear k1 k2;cases m with
 | false =>
   rw[if_pos rfl] at HT;go_wp2;go_ret;exact⟨by rw[HT.o];try rfl,HB3.o⟩
 | true =>
   rw[if_neg (by decide)] at HT;cases hu:g.unknown with
   | false =>
     rw[hu] at HT b1;rw[if_pos rfl] at HT;clear hu;go_wp2_with fail;refine(HC.o w3 HB3.o).mono ?_;rintro e w4 ⟨rfl,hb⟩;have HB4:=Hd (HB3.o.trans (hb.mono HB3.o.size));have k1:=HK3.o.below hb;have k2:=HK4.o.below hb;clear a0 a1 a2 a3 a4 a5 a6 a7 a8 a9 b0 b1 b2 b3 b4 b5 b6 b7 hb;obtain⟨a0,a1,a2,a3,a4,a5,a6,a7,a8,a9⟩:=iG k1;obtain⟨b0,b1,b2,b3,b4,b5,b6,b7⟩:=gI k2;clear k1 k2;cases q with
     | false =>
       go_wp2;go_ret;exact⟨by rw[HT.o];try rfl,HB4.o⟩
     | true =>
       go_wp2_with fail;refine(HA.o w4 HB4.o).mono ?_;rintro e w5 ⟨rfl,hb⟩;have HB5:=Hd (HB4.o.trans (hb.mono HB4.o.size));clear hb;go_wp2;go_ret;exact⟨by rw[HT.o];try rfl,HB5.o⟩
   | true =>
     rw[hu] at HT b1;rw[if_neg (by decide)] at HT;clear hu;cases hn:p.number with
     | true =>
       rw[hn] at HT a1;rw[if_pos rfl] at HT;clear hn;go_wp2;go_ret;exact⟨by rw[HT.o];try rfl,HB3.o⟩
     | false =>
       rw[hn] at HT a1;rw[if_neg (by decide)] at HT;clear hn;by_cases h0:0<p.allowed.length
       .have h0i:(0:Int)<(p.allowed.length:Int):=by omega
        rw[if_pos h0] at HT;clear h0;go_wp2;go_ret;exact⟨by rw[HT.o];try rfl,HB3.o⟩
       have h0i:¬((0:Int)<(p.allowed.length:Int)):=by omega
       rw[if_neg h0] at HT;clear h0;go_wp2_with fail;refine(HE.o w3).mono ?_;rintro e w4 ⟨rfl,hb⟩;have HB4:=Hd (HB3.o.trans (hb.mono HB3.o.size));clear hb;go_wp2;go_ret;exact⟨by rw[HT.o];try rfl,HB4.o⟩
