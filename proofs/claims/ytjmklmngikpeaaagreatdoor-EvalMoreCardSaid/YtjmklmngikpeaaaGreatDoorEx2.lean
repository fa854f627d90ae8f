/- Part of the proof. -/
import Derived.Test.YtjmklmngikpeaaaGreatDoorEx1
set_option maxRecDepth 100000
set_option maxHeartbeats 16000000
set_option linter.unusedVariables false
set_option linter.unusedSimpArgs false
namespace Go.Proofs.YtjmklmngikpeaaaGreatDoor
open Go.RowKit Go.Maps
variable {f:ByteArray->Option ByteArray}{g:Gv}{O:List (List (ByteArray × Bool))}{ids:List Gv}{K:List Pk}{cs:List Value}{b j n:Nat}{α:Type}{t:TypeId}{w:World}
def NoGv (w:World) (k:Nat):Prop:=∀ (a:Addr) (s:ByteArray) (b:Bool) (n:Int),a.block=k->w.cell? a=some (.string s)->w.cell? ⟨a.block,a.off+1,none⟩=some (.bool b)->w.cell? ⟨a.block,a.off+2,none⟩=some (.int .i8 n)->b=false/\n=0
theorem NoGv.map {k:Nat} (h:∀ cs t f,w.heap[k]?≠some (.cells cs t f)):NoGv w k:=fun a s b n ha h1 _ _=>by
 unfold World.cell? at h1;rw[ha] at h1;split at h1
 .next c t f hc=>exact(h _ _ _ hc).elim
 cases h1
theorem j5.nog (h:j5 w b n f):NoGv w b:=by
 obtain⟨D,⟨es,cl,h1,_⟩,_⟩:=h;exact NoGv.map (fun cs t f e=>by rw[e] at h1;cases h1)
theorem sQ.nog {f:Pk->Bool} (h:sQ w b K f):NoGv w b:=by
 obtain⟨_,_,D,⟨es,cl,h1,_⟩,_⟩:=h;exact NoGv.map (fun cs t f e=>by rw[e] at h1;cases h1)
theorem uW.nog {f:Pk->Option Value} (h:uW w b K f):NoGv w b:=by
 obtain⟨_,_,D,⟨es,cl,h1,_⟩,_⟩:=h;exact NoGv.map (fun cs t f e=>by rw[e] at h1;cases h1)
theorem NoGv.blk {k:Nat} {cs:Array Value} (h:Blk w k cs t) (hn:∀ v∈cs.toList,∀ b,v≠.bool b):NoGv w k:=fun a s b n ha h1 h2 _=>by
 unfold World.cell? at h2;simp only at h2;rw[ha,show w.heap[k]?=some (.cells cs t (0,0)) from h] at h2;simp only[Option.isSome_none] at h2;have:Value.bool b∈cs.toList:=by
  have h3:cs.toList[a.off+1]?=some (.bool b):=by simpa using h2
  exact aD h3
 exact absurd rfl (hn _ this b)
theorem NoGv.below {w':World} {k:Nat} (h:NoGv w k) (hk:k<w.heap.size) (hb:Below w.heap.size w w'):NoGv w' k:=fun a s b n ha h1 h2 h3=>by
 have e:∀ q:Addr,q.block=k->w'.cell? q=w.cell? q:=fun q hq=>hb.cell (by rw[hq];exact hk)
 rw[e a ha] at h1;rw[e ⟨a.block,a.off+1,none⟩ ha] at h2;rw[e ⟨a.block,a.off+2,none⟩ ha] at h3;exact h a s b n ha h1 h2 h3
theorem NoGv.zero {k:Nat} (h:Blk w k zC t):NoGv w k:=fun a s b n ha h1 h2 h3=>by
 obtain⟨q,o,sp⟩:=a;simp only at ha;subst ha;rw[show w.cell? (⟨q,o+1,none⟩:Addr)=_ from cell_of_row w q (o+1) _ t _ h] at h2;rw[show w.cell? (⟨q,o+2,none⟩:Addr)=_ from cell_of_row w q (o+2) _ t _ h] at h3;have h4:(zC:Array Value)[o]?=some (.string s):=by
  cases sp with
  | none=>rw[<-h1];exact(cell_of_row w q o _ t _ h).symm
  | some z =>
    unfold World.cell? at h1;simp only at h1;rw[show w.heap[q]?=_ from h] at h1;simp at h1
 rcases o with _ | _ | _ | _ | _ | _ | _ | _ | o
 .simp at h2 h3;exact⟨h2,h3.symm⟩
 all_goals first
  | (simp at h4;done)
  | (simp at h2;done)
section
variable {S S':Nat->Prop} {w:World}
theorem tY {sz c:Nat} {tr:α->List Tr} {A:Option Addr} (h:Ls S w sz b tr A c ([]:List α)):Ls S' w sz b tr A c ([]:List α):=by
 obtain⟨h1,h2,h3,h4,h5,vs,h6,h7⟩:=h;exact⟨h1,h2,h3,h4,fun ad _ h0=>absurd h0 (by simp),vs,h6,by simpa [Trs.at] using h7⟩
theorem RD (hg:g.v.list=[]/\g.v.keys=[]) (h:Trs.at S w g.tr cs):Trs.at S' w g.tr cs:=by
 obtain⟨vs,rfl,h1,h2⟩:=Gv.at_iff.1 h;obtain⟨A,c,B,d,rfl,k0,k1,k2,k3,k4⟩:=Vl.at_iff.1 h2;refine Gv.at_iff.2 ⟨_,rfl,h1,Vl.at_iff.2 ⟨A,c,B,d,rfl,k0,k1,k2,?_,?_⟩⟩
 .rw[hg.1] at k3 ⊢;exact tY k3
 rw[hg.2] at k4 ⊢;exact tY k4
theorem EM:∀ {l:List Gv} {cs:List Value},(∀ g∈l,g.v.list=[]/\g.v.keys=[])->Trs.at S w (l.flatMap Gv.tr) cs->Trs.at S' w (l.flatMap Gv.tr) cs
 | [],cs,_,h=>by simpa [Trs.at] using h
 | g::l,cs,hl,h=>by
   rw[aW] at h ⊢;obtain⟨a,b,rfl,h1,h2⟩:=Trs.at.app.1 h;exact Trs.at.app.2 ⟨a,b,rfl,RD (hl g (.head _)) h1,EM (fun q hq=>hl q (.tail _ hq)) h2⟩
theorem RF {l:List Gv} (hl:∀ g∈l,(g.v.list=[]/\g.v.keys=[])/\(g.unknown=true∨g.v.kind≠0)) (hb:∀ k,S k->S' k∨NoGv w k) (h:Trs.at S w (oB l) cs):Trs.at S' w (oB l) cs:=by
 obtain⟨A,c,rfl,hls⟩:=oI.1 h;refine oI.2 ⟨A,c,rfl,⟨hls.sz0,hls.bytes,hls.cap,hls.max,fun ad e h0=>?_,?_⟩⟩
 .rcases hb _ (hls.blk ad e h0) with h1 | h1
  .exact h1
  exfalso;obtain⟨g,hg⟩:=fO h0;obtain⟨ad2,ds,e2,ht,hc⟩:=hls.elem dA hg;rw[e] at e2;injection e2 with e2;subst e2;obtain⟨GA,GB,gc,gd,rfl,-⟩:=fX ht;have c0:=hc 0 _ rfl;have c1:=hc 1 _ rfl;have c2:=hc 2 _ rfl;simp[Addr.add] at c0 c1 c2;have h9:=h1 ad _ _ _ rfl c0 c1 c2;rcases (hl g (aD hg)).2 with h8 | h8
  .rw[h9.1] at h8;cases h8
  exact h8 h9.2
 obtain⟨vs,hr,ht⟩:=hls.cells;exact⟨vs,hr,EM (fun g hg=>(hl g hg).1) ht⟩
theorem xP (hb:∀ k,S k->S' k∨NoGv w k):∀ {P:List (List Gv)} {cs:List Value},(∀ l∈P,∀ g∈l,(g.v.list=[]/\g.v.keys=[])/\(g.unknown=true∨g.v.kind≠0))->Trs.at S w (P.flatMap oB) cs->Trs.at S' w (P.flatMap oB) cs
 | [],cs,_,h=>by simpa [Trs.at] using h
 | l::P,cs,hl,h=>by
   rw[aW] at h ⊢;obtain⟨a,b,rfl,h1,h2⟩:=Trs.at.app.1 h;exact Trs.at.app.2 ⟨a,b,rfl,RF (hl l (.head _)) hb h1,xP hb (fun q hq=>hl q (.tail _ hq)) h2⟩
theorem OY (hb:∀ k,S k->S' k∨NoGv w k) (h:Trs.at S w (O.flatMap rY) cs):Trs.at S' w (O.flatMap rY) cs:=by
 have e:O.flatMap rY=(O.map fun r=>r.map nY).flatMap oB:=by
  rw[List.flatMap_map];rfl
 rw[e] at h ⊢;refine xP hb (fun l hl g hg=>?_) h;obtain⟨r,_,rfl⟩:=List.mem_map.1 hl;obtain⟨x,_,rfl⟩:=List.mem_map.1 hg;exact⟨⟨rfl,rfl⟩,.inr (by show (1:Int)≠0;decide)⟩
end
def CK (X:Nat->Prop) (w:World) (k:Nat):Prop:=¬(w.heap.size+1<=k/\k<=w.heap.size+4)/\¬X k
theorem S0 {X:Nat->Prop} {w2:World} {Ku Kk:List Pk} {fu:Pk->Bool} {fk:Pk->Option Value} {cs:Array Value} (h1:j5 w2 (w.heap.size+1) n f) (h2:sQ w2 (w.heap.size+2) Ku fu) (h3:uW w2 (w.heap.size+3) Kk fk) (h4:Blk w2 (w.heap.size+4) cs t) (hc:∀ v∈cs.toList,∀ b,v≠.bool b) (hX:∀ k,X k->k<w.heap.size/\NoGv w k) (hb:Below w.heap.size w w2) (k:Nat):CK X w k∨NoGv w2 k:=by
 by_cases hx:X k
 .exact .inr ((hX k hx).2.below (hX k hx).1 hb)
 by_cases h:w.heap.size+1<=k/\k<=w.heap.size+4
 .have:k=w.heap.size+1∨k=w.heap.size+2∨k=w.heap.size+3∨k=w.heap.size+4:=by omega
  rcases this with rfl | rfl | rfl | rfl
  .exact .inr h1.nog
  .exact .inr h2.nog
  .exact .inr h3.nog
  exact .inr (NoGv.blk h4 hc)
 exact .inl ⟨h,hx⟩
structure UW (X:Nat->Prop) (K:List Cd->List Gv->Nat) (sc:List Sc) (nd:List Nd) (args:List Gv) (SA NA:Option Addr) (sC nC:Nat) (w:World) (n:Nat) (wx:World):Prop where
 bl:Below w.heap.size w wx
 i:j5 wx (w.heap.size+1) 0 (fun _=>none)
 u:sQ wx (w.heap.size+2) [] (fun _=>false)
 k:uW wx (w.heap.size+3) [] (fun _=>none)
 wk:∃ c2 c3 c4:Value,Blk wx (w.heap.size+4) #[.slice SA sc.length sC,.slice NA nd.length nC,c2,c3,c4,.map (some (w.heap.size+1)),.string ⟨#[]⟩,.map (some (w.heap.size+2)),.map (some (w.heap.size+3)),.int .i64 0] 82 /\
  match nConds K sc nd args with
  | .inl m=>n=m/\m≠0
  | .inr O=>n=0/\∃ (P:List (List Gv)) (PA CA EA:Option Addr) (pC cC eC:Nat),fY sc nd args=.inr P/\c2=.slice PA P.length pC/\c3=.slice CA O.length cC/\c4=.slice EA nd.length eC/\Ls (CK X w) wx 1 24 oB PA pC P/\Ls (CK X w) wx 1 24 rY CA cC O /\
    Rd wx 1 EA nd.length eC ((nd.map (iD O)).map .bool)/\∀ ad,EA=some ad->CK X w ad.block
def E0 (X:Nat->Prop) (K:List Cd->List Gv->Nat) (sc:List Sc) (nd:List Nd) (args ids:List Gv) (SA NA:Option Addr) (sC nC:Nat) (w:World) (e:Ending) (w':World):Prop:=Below w.heap.size w w'/\match nConds K sc nd args with
 | .inl n=>n≠0/\∃ p,e=.returned (.tuple #[.pointer p,.int .i64 (n:Nat)])
 | .inr O=>∃ (P:List (List Gv)) (W:Vh),fY sc nd args=.inr P/\e=.returned (.tuple #[.pointer (some ⟨W.wb,0,none⟩),.int .i64 0])/\W.X=X/\(∀ k,W.F k->w.heap.size<=k) /\
  Fxv ⟨⟨sc,nd,O,nd.map (iD O)⟩,P,jG ids,ByteArray.empty⟩ W w'/\Dv ⟨⟨sc,nd,O,nd.map (iD O)⟩,P,jG ids,ByteArray.empty⟩ W iX w'
theorem oS {K:List Cd->List Gv->Nat} {sc:List Sc} {nd:List Nd} {args:List Gv} (h:nConds K sc nd args=.inr O):∃ P,fY sc nd args=.inr P:=by
 unfold nConds at h;split at h
 .cases h
 next L hL=>exact⟨L,hL⟩
theorem K0 {n:ByteArray} (h:ids.any (fun g=>fW g.name n)=false):jG ids n=none:=by
 unfold jG;rw[Option.map_eq_none_iff,eU];intro x hx;have:=List.any_eq_false.1 h x hx;unfold idG;simp only[bJ,not_and];intro h1;exact absurd h1 this
def idsF (ids:List Gv) (j:Nat) (n:ByteArray):Option ByteArray:=if (ids.take j).any (fun g=>fW g.name n)=true then jG ids n else none
theorem KH:idsF ids 0=fun _=>none:=funext fun n=>by unfold idsF;simp
theorem AH (h:ids.length<=j):idsF ids j=jG ids:=funext fun n=>by
 unfold idsF;rw[aN h];split
 .rfl
 next h1=>exact(K0 (by simpa using h1)).symm
theorem wJ (h:ids[j]?=some g):idsF ids (j+1)=fun n=>if fW g.name n=true then jG ids n else idsF ids j n:=funext fun n=>by
 unfold idsF;rw[aT,h,cA,List.any_append];simp only[List.any_cons,List.any_nil,Bool.or_false,eD];by_cases h1:fW g.name n=true
 .rw[if_pos h1,if_pos (.inr h1)]
 rw[if_neg h1];by_cases h2:(ids.take j).any (fun g=>fW g.name n)=true
 .rw[if_pos h2,if_pos (.inl h2)]
 rw[if_neg h2,if_neg (by rintro(h3 | h3);exact h2 h3;exact h1 h3)]
theorem eopen_any (K:List Cd->List Gv->Nat) (hK:SP K) (X:Nat->Prop) (SA NA:Option Addr) (sC nC:Nat) (sc:List Sc) (nd:List Nd) (AA IA:Option Addr) (ac ic:Nat) (args ids:List Gv) (w0 w:World) (hV0:j4 w0) (hV1:Below w0.heap.size w0 w) (hX:∀ k,X k->(k<w.heap.size/\NoGv w k)/\w0.heap.size<=k) (hsc:Ls (fun k=>k<w.heap.size/\¬X k) w 7 144 Sc.tr SA sC sc) (hnd:Ls (fun k=>k<w.heap.size/\¬X k) w 11 200 Nd.tr NA nC nd)
 (h1:sc.length<=16) (h2:nd.length<=16) (hs:∀ s∈sc,I5 s/\s.pre.size<=6000000000000000) (hn:∀ x∈nd,Q0 x) (hag:Ls (fun k=>k<w.heap.size/\¬X k) w 8 104 Gv.tr AA ac args) (han:args.length<=1000000) (ha:∀ g∈args,fR g.v/\g.v.text.size<=6000)
 (hid:Ls (fun k=>k<w.heap.size/\¬X k) w 8 104 Gv.tr IA ic ids) (hin:ids.length<=1000000) (hiz:∀ g∈ids,g.name.size<=6000000000000000/\g.v.text.size<=6000) :
 Calls Tryz.prog 23 #[.agg #[.slice SA sc.length sC,.slice NA nd.length nC],.slice AA args.length ac,.slice IA ids.length ic] w (E0 X K sc nd args ids SA NA sC nC w):=by
 have hb00:Below w.heap.size w w:=aB _ _;have hV:j4 w:=hV0.below hV1;have hX1:∀ k,X k->k<w.heap.size/\NoGv w k:=fun k hk=>(hX k hk).1
 obtain⟨W5,hW5⟩:∃ W5,W5=(((((w.alloc (.cells #[.slice SA sc.length sC,.slice NA nd.length nC] 36)).alloc (.map #[] 0)).alloc (.map #[] 0)).alloc (.map #[] 0)).alloc (.cells #[.slice SA sc.length sC,.slice NA nd.length nC,.slice none 0 0,.slice none 0 0,.slice none 0 0,.map (some (w.heap.size+1)),.string ⟨#[]⟩,.map (some (w.heap.size+2)),.map (some (w.heap.size+3)),.int .i64 0] 82)):=⟨_,rfl⟩;have hb5:Below w.heap.size w W5:=by
  rw[hW5];exact((((((aB _ w).alloc (aA _) _).alloc (by simp) _).alloc (by simp;omega) _).alloc (by simp;omega) _).alloc (by simp;omega) _)
 have hs5:W5.heap.size=w.heap.size+5:=by rw[hW5];simp
 have kf:Blk W5 w.heap.size #[.slice SA sc.length sC,.slice NA nd.length nC] 36:=by rw[hW5];exact((((aJ w _ _).alloc _).alloc _).alloc _).alloc _
 have ki:j5 W5 (w.heap.size+1) 0 (fun _=>none):=by
  rw[hW5];have h:=j5.new (w.alloc (.cells #[.slice SA sc.length sC,.slice NA nd.length nC] 36));rw[show (w.alloc (.cells #[.slice SA sc.length sC,.slice NA nd.length nC] 36)).heap.size=w.heap.size+1 by simp] at h;exact h.below ((((aB _ _).alloc (aA _) _).alloc (by simp) _).alloc (by simp) _)
 have ku:sQ W5 (w.heap.size+2) [] (fun _=>false):=by
  rw[hW5];have h:=sQ.new ((w.alloc (.cells #[.slice SA sc.length sC,.slice NA nd.length nC] 36)).alloc (.map #[] 0));rw[show ((w.alloc (.cells #[.slice SA sc.length sC,.slice NA nd.length nC] 36)).alloc (.map #[] 0)).heap.size=w.heap.size+2 by simp] at h;exact h.below (((aB _ _).alloc (aA _) _).alloc (by simp) _)
 have kk:uW W5 (w.heap.size+3) [] (fun _=>none):=by
  rw[hW5];have h:=uW.new (((w.alloc (.cells #[.slice SA sc.length sC,.slice NA nd.length nC] 36)).alloc (.map #[] 0)).alloc (.map #[] 0));rw[show (((w.alloc (.cells #[.slice SA sc.length sC,.slice NA nd.length nC] 36)).alloc (.map #[] 0)).alloc (.map #[] 0)).heap.size=w.heap.size+3 by simp] at h;exact h.below ((aB _ _).alloc (aA _) _)
 have kw:Blk W5 (w.heap.size+4) #[.slice SA sc.length sC,.slice NA nd.length nC,.slice none 0 0,.slice none 0 0,.slice none 0 0,.map (some (w.heap.size+1)),.string ⟨#[]⟩,.map (some (w.heap.size+2)),.map (some (w.heap.size+3)),.int .i64 0] 82:=by rw[hW5];exact PV (by simp)
 have HCO:Hid (∀ w2,Below w.heap.size w w2->Calls Tryz.prog 45 #[.agg #[.slice SA sc.length sC,.slice NA nd.length nC],.slice AA args.length ac] w2 (BM (nConds K sc nd args) w2)):=Hd (fun w2 hb =>
  nconds_any K hK _ SA NA sC nC sc nd AA ac args w2 (hV.below hb) (hsc.below hb) (hnd.below hb) (by omega) (by omega) (fun x hx=>by have:=(hn x hx).2.1;omega) (fun s hm=>by have:=(hs s hm).1.cl;omega) (fun s hm=>(hs s hm).1.co) (fun s hm=>⟨by have:=(hs s hm).1.pl;omega,fun p hp=>((hs s hm).1.ps p hp).1,by have:=(hs s hm).1.al;omega⟩) (hag.below hb) han (fun g hg=>(ha g hg).1))
 have HPO:Hid (∀ w2,Below w.heap.size w w2->Calls Tryz.prog 46 #[.agg #[.slice SA sc.length sC,.slice NA nd.length nC],.slice AA args.length ac] w2 (rA (fY sc nd args) w2)):=Hd (fun w2 hb =>
  rM _ SA NA sC nC sc nd AA ac args w2 (hV.below hb) (hsc.below hb) (hnd.below hb) (by omega) (by omega) (fun x hx=>by have:=(hn x hx).2.1;omega) (fun s hm=>by have:=(hs s hm).1.cl;omega) (fun s hm=>⟨by have:=(hs s hm).1.pl;omega,fun p hp=>((hs s hm).1.ps p hp).1,by have:=(hs s hm).1.al;omega⟩) (hag.below hb) han (fun g hg=>(ha g hg).1))
 have HEN:Hid (∀ w2,Below w.heap.size w w2->Calls Tryz.prog 47 #[.agg #[.slice SA sc.length sC,.slice NA nd.length nC],.slice AA args.length ac] w2 (oZ (pV K sc nd args) w2)):=Hd (fun w2 hb =>
  xL K hK _ SA NA sC nC sc nd AA ac args w2 (hV.below hb) (hsc.below hb) (hnd.below hb) (by omega) (by omega) (fun x hx=>by have:=(hn x hx).2.1;omega) (fun s hm=>by have:=(hs s hm).1.cl;omega) (fun s hm=>(hs s hm).1.co) (fun s hm=>⟨by have:=(hs s hm).1.pl;omega,fun p hp=>((hs s hm).1.ps p hp).1,by have:=(hs s hm).1.al;omega⟩) (hag.below hb) han (fun g hg=>(ha g hg).1))
 have HEQ:Hid (pV K sc nd args=match nConds K sc nd args with | .inl e=>.inl e | .inr O=>.inr (nd.map (iD O))):=Hd rfl;have HPZ:Hid (∀ P,fY sc nd args=.inr P->∀ l∈P,∀ g∈l,(g.v.list=[]/\g.v.keys=[])/\(g.unknown=true∨g.v.kind≠0)):=Hd (fun P hP l hl g hg=>by
  obtain⟨i,hi⟩:=List.mem_iff_getElem?.1 hl;have h:=(tT hP (fun s hm=>(hs s hm).1) (fun g hg=>(ha g hg).2) i).2 g (by rw[aG,hi];exact hg);exact⟨⟨h.2.1.2,h.2.1.1⟩,h.2.2⟩)
 have HFX:Hid (∀ (W:Vh) (w':World),W.X=X->(∀ k,W.F k->w.heap.size<=k)->Below w.heap.size w w'->Ls W.S w' 7 144 Sc.tr SA sC sc/\Ls W.S w' 11 200 Nd.tr NA nC nd):=Hd (fun W w' hx hf hb=>by
  have hS:∀ k,k<w.heap.size/\¬X k->W.S k:=fun k hk=>⟨fun h=>by have:=hf k h;have:=hk.1;omega,by rw[hx];exact hk.2⟩
  exact⟨(hsc.below hb).mono hS,(hnd.below hb).mono hS⟩)
 have HOL0:Hid (∀ O,nConds K sc nd args=.inr O->O.length<=16):=Hd (fun O hO=>by
  rw[(qR (fun g hg=>(ha g hg).1) (fun s hm=>⟨by have:=(hs s hm).1.pl;omega,fun p hp=>((hs s hm).1.ps p hp).1⟩) hO).2.1];exact h1)
 have HX1:=Hd hX1;have HVV:Hid (∃ w0,j4 w0/\Below w0.heap.size w0 w/\∀ k,X k->w0.heap.size<=k):=Hd ⟨w0,hV0,hV1,fun k hk=>(hX k hk).2⟩;have HIL:=Hd hid;have HIZ:=Hd hiz;have hicap:=hid.cap;have hacap:=hag.cap;have HB5:=Hd hb5;have HKF:=Hd kf;have HKI:=Hd ki;have HKU:=Hd ku;have HKK:=Hd kk;have HKW:=Hd kw;have HS5:=Hd hs5;have HW5:=Hd hW5;have x0:=(gO kf).1;have x1:=(gO kf).2;clear hb00 hb5 hs5 kf ki ku kk kw hW5 hV hsc hnd hs hn hag ha hid hiz hK hX hX1 hV0 hV1;have hmm:=@run_makeMap Tryz.prog;go_enter Tryz.func23,Tryz.ntmps23;go_upto_region 2 with fail;rw[<-HW5.o,show w.heap.size+1+1+1+1=w.heap.size+4 from rfl,show w.heap.size+1+1+1=w.heap.size+3 from rfl,show w.heap.size+1+1=w.heap.size+2 from rfl];clear hmm;cases hnc:nConds K sc nd args with
 | inl m =>
   have hcc:=HCO.o W5 HB5.o;rw[hnc] at hcc;have HCC:=Hd hcc;have HNC:=Hd hnc;have hm0:=wC hnc;have hm1:((m:Int)==0)=false:=by simpa using hm0
   have HM0:=Hd hm0;clear hcc hnc hm0;go_wp2_with fail;refine HCC.o.mono ?_;rintro e w2 ⟨hb,rfl⟩;have hb2:=HB5.o.trans (hb.mono HB5.o.size);have hw2:=HKW.o.below hb;have z3:=hw2.frozen 3;have c3:=hw2.cell 3 (v:=.slice none 0 0) rfl;obtain⟨wx,hwx⟩:∃ wx,wx=w2.setCell ⟨w.heap.size+4,3,none⟩ (.slice none 0 0):=⟨_,rfl⟩;have ho:fP (fun k=>k=w.heap.size+4) w2 wx:=by rw[hwx];exact(bG _ w2).setCell _ _ (fun _=>rfl)
   have HOP:Hid (UW X K sc nd args SA NA sC nC w m wx):=Hd ⟨ho.belowB hb2 (fun k hk=>by omega),(HKI.o.below hb).only ho (fun e=>by omega),(HKU.o.below hb).only ho (fun e=>by omega),(HKK.o.below hb).only ho (fun e=>by omega),.slice none 0 0,.slice none 0 0,.slice none 0 0,by rw[hwx];exact(hw2.set 3 (.slice none 0 0)).eq (by simp),by rw[HNC.o];exact⟨rfl,HM0.o⟩⟩;have HWX:=Hd hwx;obtain⟨n,hn⟩:∃ n,n=m:=⟨_,rfl⟩;rw[<-hn] at HOP hm1;clear hb hb2 hw2 x0 x1 ho hwx;obtain⟨x0,x1⟩:True/\True:=⟨trivial,trivial⟩;go_upto_region 3 with fail;rw[<-HWX.o,<-hn];clear hn z3 c3;obtain⟨c2,c3,c4,hwk,hmm⟩:=HOP.o.wk;have HWK:=Hd hwk;have HMM:=Hd hmm;clear hwk hmm;go_wp2_with fail;clear x0 x1;go_loopg [50] ids.length (fun g i wr=>∃ j m:Nat,j+g=ids.length/\i=.int .i64 (j:Nat)/\m<=j/\Hid (j5 wr (w.heap.size+1) m (idsF ids j))/\Hid (fP (fun k=>k=w.heap.size+1) wx wr))
   case atStart=>exact⟨0,0,by omega,rfl,aA _,Hd (by rw[KH];exact HOP.o.i),Hd (bG _ _)⟩
   obtain⟨j,m,hj,rfl,hmj,HMI,HON⟩:=hrel;rename World=>wr
   have hbl:Below w.heap.size w wr:=HON.o.belowB HOP.o.bl (fun k hk=>by omega);have HBL:=Hd hbl;clear hbl;cases gk with
   | zero =>
     have hjj:¬((j:Int)<(ids.length:Int)):=by omega
     go_wp2_with fail;refine bodyPost_ret (v:=.tuple #[.pointer (some ⟨w.heap.size+4,0,none⟩),.int .i64 (n:Nat)]) (by simp[results,Tryz.results23,go_sem]) rfl ?_;unfold E0;have hm:=HMM.o;refine⟨HBL.o,?_⟩;cases hnc:nConds K sc nd args with
     | inl q =>
       rw[hnc] at hm;obtain⟨rfl,hq⟩:=hm;exact⟨hq,_,rfl⟩
     | inr O =>
       rw[hnc] at hm;obtain⟨rfl,P,PA,CA,EA,pC,cC,eC,hP,rfl,rfl,rfl,hps,hcs,hon,hoe⟩:=hm;have hnF:∀ k,(Vh.mk (w.heap.size+4) (w.heap.size+1) (w.heap.size+2) (w.heap.size+3) SA sC NA nC PA pC CA cC EA eC X).F k->w.heap.size<=k:=fun k hk=>by
        rcases hk with h | h | h<;>(simp only at h;omega)
       have hSo:∀ k,CK X w k->(Vh.mk (w.heap.size+4) (w.heap.size+1) (w.heap.size+2) (w.heap.size+3) SA sC NA nC PA pC CA cC EA eC X).S k:=fun k hk=>⟨fun h=>by
        rcases h with h | h | h<;>(simp only at h;exact hk.1 ⟨by omega,by omega⟩),hk.2⟩
       have hS1:∀ k,CK X w k->¬(k=w.heap.size+1):=fun k hk e=>hk.1 ⟨by omega,by omega⟩
       have hfx:=HFX.o (Vh.mk (w.heap.size+4) (w.heap.size+1) (w.heap.size+2) (w.heap.size+3) SA sC NA nC PA pC CA cC EA eC X) wr rfl hnF HBL.o;refine⟨P,Vh.mk (w.heap.size+4) (w.heap.size+1) (w.heap.size+2) (w.heap.size+3) SA sC NA nC PA pC CA cC EA eC X,hP,rfl,rfl,hnF,?_,?_⟩
       .refine⟨by show w.heap.size+4≠w.heap.size+2;omega,by show w.heap.size+4≠w.heap.size+3;omega,by show w.heap.size+2≠w.heap.size+3;omega,⟨fun h=>by rcases h with h | h | h<;>(simp only at h;omega),fun h=>by have:=(HX1.o _ h).1;simp only at this;omega⟩,fun k h=>aO (HX1.o k h).1 HBL.o.size,hfx.1,hfx.2,(hps.only HON.o hS1).mono hSo,(hcs.only HON.o hS1).mono hSo,?_,fun ad e _=>hSo _ (hoe ad e),⟨m,?_⟩,(by
         obtain⟨w0,v1,v2,v3⟩:=HVV.o
         exact⟨w0,v1,v2.trans (HBL.o.mono v2.size),fun k hk=>hk.elim (fun h=>bB v2.size (hnF k h)) (v3 k)⟩)⟩
        .have h:=hon.only HON.o (fun ad e hl hk=>hS1 _ (hoe ad e) hk);simpa using h
        have h:=HMI.o;rwa [AH (by omega)] at h
       refine⟨(HWK.o.only HON.o (fun e=>by omega)).eq (by simp[iX];rfl),⟨[],fun p hp=>(by cases hp),HOP.o.u.only HON.o (fun e=>by omega)⟩,⟨[],fun _=>none,fun p hp=>(by cases hp),HOP.o.k.only HON.o (fun e=>by omega),fun p=>rfl⟩,⟨fun p v h=>(by cases h),(by show (0:Nat)<=1000;omega)⟩⟩
   | succ g =>
     have hjj:(j:Int)<(ids.length:Int):=by omega
     have hji:(0:Int)<=(j:Int)/\(j:Int)<(ids.length:Int):=by omega
     obtain⟨x,hx⟩:=fO (l:=ids) (i:=j) (by omega);obtain⟨ad,cs,hA,hxt,hxc⟩:=(HIL.o.below HBL.o).elem dA hx;obtain⟨GA,GB,gc,gd,rfl,-,-⟩:=fX hxt;have e0:=hxc 0 _ rfl;rw[if_pos rfl] at e0;have HEI:=Hd (ER _ IA ic ids x.name wr (HIL.o.below HBL.o) hin);have HST:Hid (idsF ids (j+1)=fun n=>if fW x.name n=true then jG ids n else idsF ids j n):=Hd (wJ hx);have HXZ:=Hd (HIZ.o x (aD hx));have HTX:Hid (∀ s,jG ids x.name=some s->s.size<=6000):=Hd (fun s hs=>by
      unfold jG at hs;obtain⟨g,hg,rfl⟩:=Option.map_eq_some_iff.1 hs;exact(HIZ.o g (bK hg)).2)
     obtain⟨o,ho⟩:∃ o,o=jG ids x.name:=⟨_,rfl⟩;rw[<-ho] at HEI HTX;have HO:=Hd ho;have HE0:=Hd e0;subst hA;clear hx hxt hxc ho;cases o with
     | none =>
       have HSM:Hid (idsF ids (j+1)=idsF ids j):=Hd (by
        rw[HST.o];funext n;split
        .next h =>
         rw[<-bEq_iff.1 h,<-HO.o];unfold idsF;split
         .exact HO.o
         rfl
        rfl)
       go_wp2_with fail;refine HEI.o.mono ?_;rintro e w4 ⟨rfl,hb⟩;have HB4:=Hd hb;clear hb e0;go_wp2_with fail;go_roundg g
       case measure=>omega
       case rel=>exact⟨j+1,m,by omega,by go_num,by omega,Hd (by rw[HSM.o];exact HMI.o.below HB4.o),Hd (HON.o.trans (aK HB4.o (fun k=>k=w.heap.size+1)) (fun k _ h=>h))⟩
     | some s =>
       have HSM:Hid (idsF ids (j+1)=fun n=>if n=x.name then some s else idsF ids j n):=Hd (by
        rw[HST.o];funext n;by_cases h:n=x.name
        .subst h;rw[if_pos (bEq_iff.2 rfl),if_pos rfl,<-HO.o]
        rw[if_neg h,if_neg (fun e=>h (bEq_iff.1 e).symm)])
       go_wp2_with fail;refine HEI.o.mono ?_;rintro e w4 ⟨rfl,hb⟩;have HB4:=Hd hb;clear e0;have e0:=(hb.cell (aF wr _ HE0.o)).trans HE0.o;have k5:w4.cell? ⟨w.heap.size+4,5,none⟩=some (.map (some (w.heap.size+1))):=((HWK.o.only HON.o (fun e=>by omega)).below hb).cell 5 rfl;clear hb;go_upto_region 12 with fail;go_still_tail 10,(by kernel_rfl);change wpList _ _ _ _ _ w4.drew;have hb5:Below wr.heap.size wr w4.drew:=HB4.o.drew;generalize w4.drew=w5 at hb5 ⊢;have HB5':=Hd hb5;have HM5:=Hd (HMI.o.below hb5);have hx1:x.name.size<=maxLen:=by have:=HXZ.o.1;unfold maxLen;omega
       have hx2:s.size<=maxLen:=by have:=HTX.o s rfl;unfold maxLen;omega
       have hx3:m<maxLen:=by unfold maxLen;omega
       clear hb5 e0 k5;go_upto_region 13 with (refine put_MIds rfl _ _ _ rfl (w.heap.size+1) m (idsF ids j) rfl HM5.o hx3 x.name s hx1 hx2 rfl rfl ?_;intro w6 hm6 hg6;have HM6:=Hd hm6;have HG6:=Hd hg6;clear hm6 hg6);go_wp2_with fail;go_roundg g
       case measure=>omega
       case rel =>
        refine⟨j+1,m+1,by omega,by go_num,by omega,Hd (by rw[HSM.o];exact HM6.o),Hd ?_⟩;exact(HON.o.trans (aK HB5'.o (fun k=>k=w.heap.size+1)) (fun k _ h=>h)).trans (bX HG6.o) (fun k _ h=>by injection h)
 | inr O =>
   obtain⟨P,hP⟩:=oS hnc;have hcc:=HCO.o W5 HB5.o;rw[hnc] at hcc HEQ;have HCC:=Hd hcc;have HP2:Hid (∀ w2,Below w.heap.size w w2->Calls Tryz.prog 46 #[.agg #[.slice SA sc.length sC,.slice NA nd.length nC],.slice AA args.length ac] w2 (rA (.inr P) w2)):=Hd (fun w2 hb=>by have h:=HPO.o w2 hb;rwa [hP] at h);have HE2:Hid (∀ w2,Below w.heap.size w w2->Calls Tryz.prog 47 #[.agg #[.slice SA sc.length sC,.slice NA nd.length nC],.slice AA args.length ac] w2 (oZ (.inr (nd.map (iD O))) w2)):=Hd (fun w2 hb=>by have h:=HEN.o w2 hb;rwa [HEQ.o] at h);have HNC:=Hd hnc;have HNP:=Hd hP;have HPL:Hid (P.length<=16):=Hd (by rw[(kI hP).2.1];exact h1);have HOL:Hid (O.length<=16):=Hd (HOL0.o O hnc);have HPZ2:=Hd (HPZ.o P hP);clear hcc hnc hP;go_wp2_with fail;refine HCC.o.mono ?_;rintro e w2 ⟨hb,CA,cC,xs,rfl,how,htr⟩;have hz2:w.heap.size+5<=w2.heap.size:=by have:=hb.size;have:=HS5.o;omega
   have hb2:=HB5.o.trans (hb.mono HB5.o.size);have hw2:=HKW.o.below hb;have z3:=hw2.frozen 3;have c3:=hw2.cell 3 (v:=.slice none 0 0) rfl;obtain⟨W6,hW6⟩:∃ W6,W6=w2.setCell ⟨w.heap.size+4,3,none⟩ (.slice CA O.length cC):=⟨_,rfl⟩;have ho6:fP (fun k=>k=w.heap.size+4) w2 W6:=by rw[hW6];exact(bG _ w2).setCell _ _ (fun _=>rfl)
   have hcs:Ls (CK X w) W6 1 24 rY CA cC O:=by
    have h:=OY (S':=CK X w) (fun k _=>S0 (HKI.o.below hb) (HKU.o.below hb) (HKK.o.below hb) hw2 (by intro v hv b e;subst e;simp at hv) HX1.o hb2 k) htr;have h3:Ls (CK X w) w2 1 24 rY CA cC O:=⟨by omega,by have:=HOL.o;omega,how.cap,how.max,fun ad e _=>by
     have:=(how.lt (g:=ad.block) (by rw[e];rfl)).1;have:=HS5.o;exact⟨fun h=>by omega,fun h=>by have:=(HX1.o _ h).1;omega⟩,xs,how.rd,h⟩
    exact h3.only ho6 (fun k hk e=>by subst e;exact hk.1 ⟨by omega,by omega⟩)
   have hb6:=ho6.belowB hb2 (fun k hk=>by omega);have HB6:=Hd hb6;have HCS:=Hd hcs;have HK6:Hid (Blk W6 (w.heap.size+4) #[.slice SA sc.length sC,.slice NA nd.length nC,.slice none 0 0,.slice CA O.length cC,.slice none 0 0,.map (some (w.heap.size+1)),.string ⟨#[]⟩,.map (some (w.heap.size+2)),.map (some (w.heap.size+3)),.int .i64 0] 82):=Hd (by rw[hW6];exact(hw2.set 3 _).eq (by simp));have HI6:=Hd ((HKI.o.below hb).only ho6 (fun e=>by omega));have HU6:=Hd ((HKU.o.below hb).only ho6 (fun e=>by omega));have HE6:=Hd ((HKK.o.below hb).only ho6 (fun e=>by omega));have HF6:=Hd ((HKF.o.below hb).only ho6 (fun e=>by omega));have HZ6:Hid (w.heap.size+5<=W6.heap.size):=Hd (bB hz2 ho6.size);have HW6:=Hd hW6;have HP6:=Hd (HP2.o W6 hb6);clear hb hb2 hw2 hW6 ho6 hcs hb6 how htr x0 x1 hz2;obtain⟨x0,x1⟩:=gO HF6.o;go_upto_region 3 with fail;rw[<-HW6.o];clear z3 c3;go_wp2_with fail;refine HP6.o.mono ?_;rintro e w3 ⟨hb,PA,pC,ys,rfl,how,htr⟩;have hz3:w.heap.size+5<=w3.heap.size:=by have:=hb.size;have:=HZ6.o;omega
   have hb3:=HB6.o.trans (hb.mono HB6.o.size);have hw3:=HK6.o.below hb;have z2:=hw3.frozen 2;have c2:=hw3.cell 2 (v:=.slice none 0 0) rfl;obtain⟨W7,hW7⟩:∃ W7,W7=w3.setCell ⟨w.heap.size+4,2,none⟩ (.slice PA P.length pC):=⟨_,rfl⟩;have ho7:fP (fun k=>k=w.heap.size+4) w3 W7:=by rw[hW7];exact(bG _ w3).setCell _ _ (fun _=>rfl)
   have hps:Ls (CK X w) W7 1 24 oB PA pC P:=by
    have h:=xP (S':=CK X w) (fun k _=>S0 (HI6.o.below hb) (HU6.o.below hb) (HE6.o.below hb) hw3 (by intro v hv b e;subst e;simp at hv) HX1.o hb3 k) HPZ2.o htr;have h3:Ls (CK X w) w3 1 24 oB PA pC P:=⟨by omega,by have:=HPL.o;omega,how.cap,how.max,fun ad e _=>by
     have:=(how.lt (g:=ad.block) (by rw[e];rfl)).1;have:=HZ6.o;exact⟨fun h=>by omega,fun h=>by have:=(HX1.o _ h).1;omega⟩,ys,how.rd,h⟩
    exact h3.only ho7 (fun k hk e=>by subst e;exact hk.1 ⟨by omega,by omega⟩)
   have hb7:=ho7.belowB hb3 (fun k hk=>by omega);have HB7:=Hd hb7;have HPS:=Hd hps;have HCS7:=Hd ((HCS.o.below hb).only ho7 (fun k hk e=>by subst e;exact hk.1 ⟨by omega,by omega⟩));have HK7:Hid (Blk W7 (w.heap.size+4) #[.slice SA sc.length sC,.slice NA nd.length nC,.slice PA P.length pC,.slice CA O.length cC,.slice none 0 0,.map (some (w.heap.size+1)),.string ⟨#[]⟩,.map (some (w.heap.size+2)),.map (some (w.heap.size+3)),.int .i64 0] 82):=Hd (by rw[hW7];exact(hw3.set 2 _).eq (by simp));have HI7:=Hd ((HI6.o.below hb).only ho7 (fun e=>by omega));have HU7:=Hd ((HU6.o.below hb).only ho7 (fun e=>by omega));have HE7:=Hd ((HE6.o.below hb).only ho7 (fun e=>by omega));have HF7:=Hd ((HF6.o.below hb).only ho7 (fun e=>by omega));have HZ7:Hid (w.heap.size+5<=W7.heap.size):=Hd (bB hz3 ho7.size);have HW7:=Hd hW7;have HP7:=Hd (HE2.o W7 hb7);clear hb hb3 hw3 hW7 ho7 hps hb7 how htr x0 x1 hz3;obtain⟨x0,x1⟩:=gO HF7.o;go_upto_region 5 with fail;rw[<-HW7.o];clear z2 c2;go_wp2_with fail;refine HP7.o.mono ?_;rintro e w4 ⟨hb,EA,eC,rfl,how⟩;have hz4:w.heap.size+5<=w4.heap.size:=by have:=hb.size;have:=HZ7.o;omega
   have hb4:=HB7.o.trans (hb.mono HB7.o.size);have hw4:=HK7.o.below hb;have z4:=hw4.frozen 4;have c4:=hw4.cell 4 (v:=.slice none 0 0) rfl;obtain⟨wx,hwx⟩:∃ wx,wx=w4.setCell ⟨w.heap.size+4,4,none⟩ (.slice EA nd.length eC):=⟨_,rfl⟩;have ho:fP (fun k=>k=w.heap.size+4) w4 wx:=by rw[hwx];exact(bG _ w4).setCell _ _ (fun _=>rfl)
   have hoo:∀ ad,EA=some ad->CK X w ad.block:=fun ad e=>by
    have:=(how.lt (g:=ad.block) (by rw[e];rfl)).1;have:=HZ7.o;exact⟨fun h=>by omega,fun h=>by have:=(HX1.o _ h).1;omega⟩
   have hon:Rd wx 1 EA nd.length eC ((nd.map (iD O)).map .bool):=by
    have h:=how.rd.only ho (fun ad e hl hk=>(hoo ad e).1 ⟨by omega,by omega⟩);rwa [cX] at h
   have HOP:Hid (UW X K sc nd args SA NA sC nC w 0 wx):=Hd ⟨ho.belowB hb4 (fun k hk=>by omega),(HI7.o.below hb).only ho (fun e=>by omega),(HU7.o.below hb).only ho (fun e=>by omega),(HE7.o.below hb).only ho (fun e=>by omega),.slice PA P.length pC,.slice CA O.length cC,.slice EA nd.length eC,by rw[hwx];exact(hw4.set 4 _).eq (by simp),by
    rw[HNC.o];exact⟨rfl,P,PA,CA,EA,pC,cC,eC,HNP.o,rfl,rfl,rfl,(HPS.o.below hb).only ho (fun k hk e=>by subst e;exact hk.1 ⟨by omega,by omega⟩),(HCS7.o.below hb).only ho (fun k hk e=>by subst e;exact hk.1 ⟨by omega,by omega⟩),hon,hoo⟩⟩
   have HWX:=Hd hwx;clear hb hb4 hw4 x0 x1 ho hwx how hon hoo hz4;obtain⟨x0,x1⟩:True/\True:=⟨trivial,trivial⟩;go_upto_region 7 with fail;rw[<-HWX.o];clear z4 c4;obtain⟨c2,c3,c4,hwk,hmm⟩:=HOP.o.wk;have HWK:=Hd hwk;have HMM:=Hd hmm;clear hwk hmm;go_wp2_with fail;clear x0 x1;go_loopg [50] ids.length (fun g i wr=>∃ j m:Nat,j+g=ids.length/\i=.int .i64 (j:Nat)/\m<=j/\Hid (j5 wr (w.heap.size+1) m (idsF ids j))/\Hid (fP (fun k=>k=w.heap.size+1) wx wr))
   case atStart=>exact⟨0,0,by omega,rfl,aA _,Hd (by rw[KH];exact HOP.o.i),Hd (bG _ _)⟩
   obtain⟨j,m,hj,rfl,hmj,HMI,HON⟩:=hrel;rename World=>wr
   have hbl:Below w.heap.size w wr:=HON.o.belowB HOP.o.bl (fun k hk=>by omega);have HBL:=Hd hbl;clear hbl;cases gk with
   | zero =>
     have hjj:¬((j:Int)<(ids.length:Int)):=by omega
     go_wp2_with fail;refine bodyPost_ret (v:=.tuple #[.pointer (some ⟨w.heap.size+4,0,none⟩),.int .i64 0]) (by simp[results,Tryz.results23,go_sem]) rfl ?_;unfold E0;have hm:=HMM.o;refine⟨HBL.o,?_⟩;cases hnc:nConds K sc nd args with
     | inl q =>
       rw[hnc] at hm;exact absurd hm.1.symm hm.2
     | inr O =>
       rw[hnc] at hm;obtain⟨-,P,PA,CA,EA,pC,cC,eC,hP,rfl,rfl,rfl,hps,hcs,hon,hoe⟩:=hm;have hnF:∀ k,(Vh.mk (w.heap.size+4) (w.heap.size+1) (w.heap.size+2) (w.heap.size+3) SA sC NA nC PA pC CA cC EA eC X).F k->w.heap.size<=k:=fun k hk=>by
        rcases hk with h | h | h<;>(simp only at h;omega)
       have hSo:∀ k,CK X w k->(Vh.mk (w.heap.size+4) (w.heap.size+1) (w.heap.size+2) (w.heap.size+3) SA sC NA nC PA pC CA cC EA eC X).S k:=fun k hk=>⟨fun h=>by
        rcases h with h | h | h<;>(simp only at h;exact hk.1 ⟨by omega,by omega⟩),hk.2⟩
       have hS1:∀ k,CK X w k->¬(k=w.heap.size+1):=fun k hk e=>hk.1 ⟨by omega,by omega⟩
       have hfx:=HFX.o (Vh.mk (w.heap.size+4) (w.heap.size+1) (w.heap.size+2) (w.heap.size+3) SA sC NA nC PA pC CA cC EA eC X) wr rfl hnF HBL.o;refine⟨P,Vh.mk (w.heap.size+4) (w.heap.size+1) (w.heap.size+2) (w.heap.size+3) SA sC NA nC PA pC CA cC EA eC X,hP,rfl,rfl,hnF,?_,?_⟩
       .refine⟨by show w.heap.size+4≠w.heap.size+2;omega,by show w.heap.size+4≠w.heap.size+3;omega,by show w.heap.size+2≠w.heap.size+3;omega,⟨fun h=>by rcases h with h | h | h<;>(simp only at h;omega),fun h=>by have:=(HX1.o _ h).1;simp only at this;omega⟩,fun k h=>aO (HX1.o k h).1 HBL.o.size,hfx.1,hfx.2,(hps.only HON.o hS1).mono hSo,(hcs.only HON.o hS1).mono hSo,?_,fun ad e _=>hSo _ (hoe ad e),⟨m,?_⟩,(by
         obtain⟨w0,v1,v2,v3⟩:=HVV.o
         exact⟨w0,v1,v2.trans (HBL.o.mono v2.size),fun k hk=>hk.elim (fun h=>bB v2.size (hnF k h)) (v3 k)⟩)⟩
        .have h:=hon.only HON.o (fun ad e hl hk=>hS1 _ (hoe ad e) hk);simpa using h
        have h:=HMI.o;rwa [AH (by omega)] at h
       refine⟨(HWK.o.only HON.o (fun e=>by omega)).eq (by simp[iX];rfl),⟨[],fun p hp=>(by cases hp),HOP.o.u.only HON.o (fun e=>by omega)⟩,⟨[],fun _=>none,fun p hp=>(by cases hp),HOP.o.k.only HON.o (fun e=>by omega),fun p=>rfl⟩,⟨fun p v h=>(by cases h),(by show (0:Nat)<=1000;omega)⟩⟩
   | succ g =>
     have hjj:(j:Int)<(ids.length:Int):=by omega
     have hji:(0:Int)<=(j:Int)/\(j:Int)<(ids.length:Int):=by omega
     obtain⟨x,hx⟩:=fO (l:=ids) (i:=j) (by omega);obtain⟨ad,cs,hA,hxt,hxc⟩:=(HIL.o.below HBL.o).elem dA hx;obtain⟨GA,GB,gc,gd,rfl,-,-⟩:=fX hxt;have e0:=hxc 0 _ rfl;rw[if_pos rfl] at e0;have HEI:=Hd (ER _ IA ic ids x.name wr (HIL.o.below HBL.o) hin);have HST:Hid (idsF ids (j+1)=fun n=>if fW x.name n=true then jG ids n else idsF ids j n):=Hd (wJ hx);have HXZ:=Hd (HIZ.o x (aD hx));have HTX:Hid (∀ s,jG ids x.name=some s->s.size<=6000):=Hd (fun s hs=>by
      unfold jG at hs;obtain⟨g,hg,rfl⟩:=Option.map_eq_some_iff.1 hs;exact(HIZ.o g (bK hg)).2)
     obtain⟨o,ho⟩:∃ o,o=jG ids x.name:=⟨_,rfl⟩;rw[<-ho] at HEI HTX;have HO:=Hd ho;have HE0:=Hd e0;subst hA;clear hx hxt hxc ho;cases o with
     | none =>
       have HSM:Hid (idsF ids (j+1)=idsF ids j):=Hd (by
        rw[HST.o];funext n;split
        .next h =>
         rw[<-bEq_iff.1 h,<-HO.o];unfold idsF;split
         .exact HO.o
         rfl
        rfl)
       go_wp2_with fail;refine HEI.o.mono ?_;rintro e w4 ⟨rfl,hb⟩;have HB4:=Hd hb;clear hb e0;go_wp2_with fail;go_roundg g
       case measure=>omega
       case rel=>exact⟨j+1,m,by omega,by go_num,by omega,Hd (by rw[HSM.o];exact HMI.o.below HB4.o),Hd (HON.o.trans (aK HB4.o (fun k=>k=w.heap.size+1)) (fun k _ h=>h))⟩
     | some s =>
       have HSM:Hid (idsF ids (j+1)=fun n=>if n=x.name then some s else idsF ids j n):=Hd (by
        rw[HST.o];funext n;by_cases h:n=x.name
        .subst h;rw[if_pos (bEq_iff.2 rfl),if_pos rfl,<-HO.o]
        rw[if_neg h,if_neg (fun e=>h (bEq_iff.1 e).symm)])
       go_wp2_with fail;refine HEI.o.mono ?_;rintro e w4 ⟨rfl,hb⟩;have HB4:=Hd hb;clear e0;have e0:=(hb.cell (aF wr _ HE0.o)).trans HE0.o;have k5:w4.cell? ⟨w.heap.size+4,5,none⟩=some (.map (some (w.heap.size+1))):=((HWK.o.only HON.o (fun e=>by omega)).below hb).cell 5 rfl;clear hb;go_upto_region 12 with fail;go_still_tail 10,(by kernel_rfl);change wpList _ _ _ _ _ w4.drew;have hb5:Below wr.heap.size wr w4.drew:=HB4.o.drew;generalize w4.drew=w5 at hb5 ⊢;have HB5':=Hd hb5;have HM5:=Hd (HMI.o.below hb5);have hx1:x.name.size<=maxLen:=by have:=HXZ.o.1;unfold maxLen;omega
       have hx2:s.size<=maxLen:=by have:=HTX.o s rfl;unfold maxLen;omega
       have hx3:m<maxLen:=by unfold maxLen;omega
       clear hb5 e0 k5;go_upto_region 13 with (refine put_MIds rfl _ _ _ rfl (w.heap.size+1) m (idsF ids j) rfl HM5.o hx3 x.name s hx1 hx2 rfl rfl ?_;intro w6 hm6 hg6;have HM6:=Hd hm6;have HG6:=Hd hg6;clear hm6 hg6);go_wp2_with fail;go_roundg g
       case measure=>omega
       case rel =>
        refine⟨j+1,m+1,by omega,by go_num,by omega,Hd (by rw[HSM.o];exact HM6.o),Hd ?_⟩;exact(HON.o.trans (aK HB5'.o (fun k=>k=w.heap.size+1)) (fun k _ h=>h)).trans (bX HG6.o) (fun k _ h=>by injection h)
