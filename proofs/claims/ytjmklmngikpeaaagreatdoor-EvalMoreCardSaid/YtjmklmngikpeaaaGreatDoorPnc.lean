/- Part of the proof. -/
import Derived.DeepKeys5
import Derived.Maps.Keyed
import Derived.Test.YtjmklmngikpeaaaGreatDoorPnb
import Derived.Shelf.Sort.Plain
import Derived.Shelf.Slices.In.SortNone
import Derived.Maps.OwnSet
import Derived.Maps.OwnOps
import Derived.Maps.Views
import Derived.Maps.RangeWalk
import Derived.Deep.CutRange
import Derived.Deep.QuietTactic
import Derived.BigQuiet
import Derived.Deep.OwnRows
import Derived.Laws.IdiomRangeMap
import Derived.WalkSpells
set_option maxRecDepth 100000
set_option maxHeartbeats 16000000
set_option linter.unusedVariables false
set_option linter.unusedSimpArgs false
namespace Go.Proofs.YtjmklmngikpeaaaGreatDoor
open Go.RowKit Go.Maps
variable {ad:Addr}{s:ByteArray}{x:ByteArray × Bool}{i z:Int}{f:Int->ByteArray->Option Bool}{r:List (ByteArray × Bool)}{O:List (List (ByteArray × Bool))}{ls ms:List (List Int)}{bs:List Bool}{K:List Cd->List Gv->Nat}{args:List Gv}{nd:List Nd}{sc:List Sc}{N a b j k n q:Nat}{F S:Nat->Prop}{H α:Type}{w w' w0 w1:World}
theorem AC:laidOutB Tryz.prog=true:=by kernel_rfl
theorem key_gd:Keyed Tryz.prog 151:=Keyed.of_law (deep_law_gate AC (dM (by kernel_rfl)) (dM (by kernel_rfl)) (by kernel_rfl) (by kernel_rfl))
def CZ (i:Int) (s:ByteArray):Value:=.agg #[.int .i64 i,.string s]
theorem LW:Tryz.prog.cellsOf 151=2:=by kernel_rfl
theorem S3:Tryz.prog.keyType 151=true:=by kernel_rfl
theorem EO (hi:(Lit.int .i64 i).wf=true) (hs:s.size<=maxLen):∃ l,keyOf Tryz.prog 151 (CZ i s)=some l:=by
 have h1:Tryz.prog.cellsOf 3=1:=by kernel_rfl
 have h2:Tryz.prog.cellsOf 9=1:=by kernel_rfl
 have h3:1<=Tryz.prog.types.size:=dM (by kernel_rfl);obtain⟨n,hn⟩:∃ n,Tryz.prog.types.size+1=n+1+1:=⟨Tryz.prog.types.size-1,by omega⟩;unfold keyOf CZ;rw[Tryz.underlying151];simp only;rw[hn];simp[S3,Value.formed,Tryz.underlying151,LW,Program.keyLits,h1,h2,Tryz.underlying3,Tryz.underlying9,hi,hs,Value.cells]
theorem KX {i':Int} {s':ByteArray} (h:CZ i s=CZ i' s'):i=i'/\s=s':=by
 unfold CZ at h;injection h with h;have h1:=congrArg (fun a=>a.toList) h;simp at h1;exact h1
def MG (w:World) (b n:Nat) (f:Int->ByteArray->Option Bool):Prop :=
 ∃ D:DataW Unit,w.ownsMap Tryz.prog 151 (plainElem Tryz.prog 4) b n D/\Go.Maps.IsMap D/\∀ (i:Int) (s:ByteArray) (l:Lit),keyOf Tryz.prog 151 (CZ i s)=some l->D.atKey l (.lit (.bool false))=.lit (.bool ((f i s).getD false))
def IW (f:Int->ByteArray->Option Bool) (i:Int) (s:ByteArray) (y:Bool):Int->ByteArray->Option Bool:=fun i' s'=>if i'=i/\s'=s then some y else f i' s'
section
variable {w w':World} {b n:Nat} {f:Int->ByteArray->Option Bool}
theorem MG.new (w:World):MG (w.alloc (.map #[] 0)) w.heap.size 0 (fun _ _=>none):=⟨.map [],World.ownsMap_made _ _ _ _,⟨[],rfl⟩,fun _ _ _ _=>rfl⟩
theorem MG.only (h:MG w b n f) (ho:fP F w w') (hF:¬F b):MG w' b n f:=by
 obtain⟨D,h1,h2,h3⟩:=h;exact⟨D,gS h1 (ho.block b h1.lt hF),h2,h3⟩
theorem MG.lt (h:MG w b n f):b<w.heap.size:=by obtain⟨D,h1,_⟩:=h;exact h1.lt
theorem MG.below (h:MG w b n f) (hb:Below w.heap.size w w'):MG w' b n f:=h.only (aK hb (fun _=>False)) (fun h=>h)
theorem MG.map (h:MG w b n f):∃ es k,w.heap[b]?=some (.map es k):=by
 obtain⟨D,⟨es,k,h1,_⟩,_⟩:=h;exact⟨es,k,h1⟩
theorem MG.look (h:MG w b n f) (hi:(Lit.int .i64 i).wf=true) (hs:s.size<=maxLen):(Instr.lookup 159 (.map (some b)) (.agg #[.int .i64 i,.string s]) false).run Tryz.prog w=.ok (.bool ((f i s).getD false)) w:=by
 obtain⟨D,g1,g2,g3⟩:=h;obtain⟨l,hl⟩:=EO hi hs;obtain⟨v,ps,hrun,hv⟩:=g1.lookup key_gd Tryz.underlying159 (zero_bool w) (plainElem_bool Tryz.underlying4 false) hl;rw[g3 i s l hl] at hv;unfold CZ at hrun;rw[hrun];have hu:Tryz.prog.underlying 4=some .bool:=Tryz.underlying4;unfold plainElem at hv;rw[hu] at hv;cases v<;>simp_all
end
theorem wp_put_MG {ops:Array Oper} {rest:List Oper} {o:Oper} {a:Act} {Q:Exit->Act->World->Prop} (hg:o.guard=none) (m x v:Operand) (hop:o.op=Op.mapUpdate 159 m x v) (b n:Nat) (f:Int->ByteArray->Option Bool) (hm:a.eval m=.map (some b)) (h:MG w b n f) (hn:n<maxLen)
 (i:Int) (s:ByteArray) (hi:(Lit.int .i64 i).wf=true) (hs:s.size<=maxLen) (hx:a.eval x=.agg #[.int .i64 i,.string s]) (y:Bool) (hv:a.eval v=.bool y)
 (hK:∀ w',MG w' b (n+1) (IW f i s y)->w.grownBy w' (some b)->wpList Tryz.prog ops Q rest (a.put o.dst undef) w'):wpList Tryz.prog ops Q (o::rest) a w:=by
 obtain⟨D,g1,g2,g3⟩:=h;obtain⟨l,hl⟩:=EO hi hs;refine wpList_mapUpdate_own w hg m x v 159 hop 151 4 key_gd Tryz.underlying159 _ b n D hm g1 hn _ _ l hx hv hl (.lit (.bool y)) [] (plainElem_bool Tryz.underlying4 y) (fun w' h1 h2=>hK w' ⟨_,h1,g2.put _ _,fun i' s' l' hl'=>?_⟩ h2);unfold IW;by_cases hj:i'=i/\s'=s
 .obtain⟨rfl,rfl⟩:=hj;rw[hl] at hl';injection hl' with hl';subst hl';rw[Go.Maps.atKey_put_same g2 (key_gd.key hl)];simp
 have hne:l'≠l:=fun e=>hj (KX (key_gd.inj hl' (e ▸ hl)))
 rw[Go.Maps.atKey_put_other hne,g3 i' s' l' hl',if_neg hj]
def CY (i:Int):List (ByteArray × Bool)->(Int->ByteArray->Option Bool)->Int->ByteArray->Option Bool
 | [],f=>f
 | x::r,f=>CY i r (IW f i x.1 x.2)
def u7:Nat->List (List (ByteArray × Bool))->(Int->ByteArray->Option Bool)->Int->ByteArray->Option Bool
 | _,[],f=>f
 | i,r::R,f=>u7 (i+1) R (CY (i:Int) r f)
def SM (O:List (List (ByteArray × Bool))):Int->ByteArray->Option Bool:=u7 0 O (fun _ _=>none)
def iD (O:List (List (ByteArray × Bool))) (n:Nd):Bool:=n.guards.all fun g=>(SM O g.scope g.name).getD false
def pV (K:List Cd->List Gv->Nat) (sc:List Sc) (nd:List Nd) (args:List Gv):Nat ⊕ List Bool:=match nConds K sc nd args with
 | .inl e=>.inl e
 | .inr O=>.inr (nd.map (iD O))
def oZ (r:Nat ⊕ List Bool) (w:World) (e:Ending) (w':World):Prop:=Below w.heap.size w w'/\match r with
 | .inl n=>e=.returned (.tuple #[.slice none 0 0,.int .i64 (n:Nat)])
 | .inr B=>∃ A c,e=.returned (.tuple #[.slice A B.length c,.int .i64 0])/\Ow w' w.heap.size 4 1 A B.length c (B.map .bool)
theorem GN {i:Nat} (h:O[i]?=some r):u7 i (O.drop i) f=u7 (i+1) (O.drop (i+1)) (CY (i:Int) r f):=by rw[fS h];rfl
theorem GM (h:r[k]?=some x):CY i (r.drop k) f=CY i (r.drop (k+1)) (IW f i x.1 x.2):=by rw[fS h];rfl
theorem ON (S:Nat->Prop) (g:Gd) (cs:List Value) (bx mb n:Nat) (f:Int->ByteArray->Option Bool) (w:World) (hg:Trs.at S w g.tr cs) (hbx:Blk w bx #[.map (some mb)] 159) (hM:MG w mb n f) :
 Calls Tryz.prog 86 (#[.agg cs.toArray]++#[.pointer (some ⟨bx,0,none⟩)]) w (BoolB (!((f g.scope g.name).getD false)) w):=by
 obtain⟨rfl,hi,hs⟩:=Gd.at_iff' hg;have hbn:Below w.heap.size w (w.alloc (.cells #[.int .i64 g.scope,.string g.name] 151)):=(aB _ w).alloc (aA _) _;have HB:=Hd hbn;obtain⟨e0,e1⟩:=gO (aJ w #[.int .i64 g.scope,.string g.name] 151);have x0:=i9 (hbx.alloc (.cells #[.int .i64 g.scope,.string g.name] 151));have hlk:=(hM.below hbn).look hi (bB hs (by unfold maxLen;omega));clear hg hbx hM hbn hi hs;simp only[bV,bS,bM,bP];go_enter Tryz.func86,Tryz.ntmps86;go_wp2;go_ret;exact⟨rfl,HB.o⟩
theorem wC (h:nConds K sc nd args=.inl n):n≠0:=by
 have hg:∀ (l:List Sc) (L:List (List Gv)) (out:List (List (ByteArray × Bool))),cnGo K l L out=.inl n->n≠0:=by
  intro l;induction l with
  | nil=>intro L out h;unfold cnGo at h;cases h
  | cons s r ih =>
    intro L out h;cases L with
    | nil=>unfold cnGo at h;cases h
    | cons g L =>
      unfold cnGo at h;split at h
      .next e he=>injection h with h;subst h;exact runOf_ne he
      exact ih _ _ h
 unfold nConds at h;split at h
 .next e he=>injection h with h;subst h;exact nParams_ne he
 exact hg _ _ _ h
theorem cnGo_ok {K:List Cd->List Gv->Nat}:∀ {l:List Sc} {L:List (List Gv)} {out O:List (List (ByteArray × Bool))},L.length=l.length->cnGo K l L out=.inr O ->
 O.length=out.length+l.length/\∀ (j:Nat) (r:List (ByteArray × Bool)),O[j]?=some r->(j<out.length/\out[j]?=some r)∨∃ s g,out.length<=j/\l[j-out.length]?=some s/\L[j-out.length]?=some g/\jT s.t.conds g pF (K s.t.conds g)=.inr r
 | [],L,out,O,hl,h=>by
   unfold cnGo at h;injection h with h;subst h;exact⟨by simp,fun j r hj=>.inl ⟨(List.getElem?_eq_some_iff.1 hj).1,hj⟩⟩
 | s::l,[],out,O,hl,h=>by simp at hl
 | s::l,g::L,out,O,hl,h=>by
   unfold cnGo at h;split at h
   .cases h
   next o ho =>
   obtain⟨h1,h2⟩:=cnGo_ok (by simpa using hl) h;refine⟨by rw[h1];simp;omega,fun j r hj=>?_⟩;rcases h2 j r hj with ⟨h3,h4⟩ | ⟨s',g',h3,h4,h5,h6⟩
   .simp only[aS,dE] at h3;rcases bI j out.length with h7 | h7
    .exact .inl ⟨h7,by rwa [bZ h7] at h4⟩
    have:j=out.length:=by omega
    subst this;rw[bH (aA _)] at h4;simp at h4;subst h4;exact .inr ⟨s,g,aA _,by simp,by simp,ho⟩
   simp only[aS,dE] at h3 h4 h5;have e:j-out.length=(j-(out.length+1))+1:=by omega
   exact .inr ⟨s',g',by omega,by rw[e,dV];exact h4,by rw[e,dV];exact h5,h6⟩
theorem qR (ha:∀ g∈args,fR g.v) (hs:∀ s∈sc,s.t.params.length<=1000000/\∀ p∈s.t.params,iM p) (h:nConds K sc nd args=.inr O) :
 lJ sc nd=true/\O.length=sc.length/\∀ (j:Nat) (r:List (ByteArray × Bool)),O[j]?=some r->∃ s g,sc[j]?=some s/\jT s.t.conds g pF (K s.t.conds g)=.inr r:=by
 unfold nConds at h;split at h
 .cases h
 next L hL =>
 have hM:lJ sc nd=true:=by
  unfold fY at hL;split at hL
  .cases hL
  next h0=>simpa using h0
 obtain⟨h1,_⟩:=tU ha hs hL;obtain⟨h2,h3⟩:=cnGo_ok h1 h;refine⟨hM,by simpa using h2,fun j r hj=>?_⟩;rcases h3 j r hj with ⟨h4,_⟩ | ⟨s,g,_,h4,_,h5⟩
 .simp at h4
 exact⟨s,g,by simpa using h4,h5⟩
theorem DX {cs:List Value} (h:Trs.at S w (nY x).tr cs):∃ (GA GB:Option Addr) (gc gd:Nat),cs=#[.string x.1,.bool false,.int .i8 1,.bool x.2,.int .i64 0,.string ⟨#[]⟩,.slice GA 0 gc,.slice GB 0 gd].toList/\x.1.size<=9007199254740992:=by
 obtain⟨GA,GB,gc,gd,rfl,hn,-⟩:=fX h;exact⟨GA,GB,gc,gd,rfl,hn⟩
theorem OZ {xs:List Value} (h:Trs.at S w (O.flatMap rY) xs) {l:List (ByteArray × Bool)} (hl:O[j]?=some l):∃ A c,xs[j]?=some (.slice A l.length c)/\Ls S w 8 104 Gv.tr A c (l.map nY):=by
 have:=Trs.at.elem uR h j l hl;obtain⟨A,c,e,h2⟩:=oI.1 this;refine⟨A,c,?_,h2⟩;have h3:=congrArg (fun z=>z[0]?) e;simpa [cD,dH] using h3
theorem CU:(Tryz.prog.info? 4).map (fun i=>(i.zero,i.size,i.bytes))=some (some (.bool false),1,1):=by kernel_rfl
theorem QF (h:j<=1000000):(Lit.int .i64 (j:Int)).wf=true:=by
 simp[Lit.wf,IntKind.min,IntKind.max,IntKind.bits,IntKind.signed];omega
theorem xL (K:List Cd->List Gv->Nat) (hK:SP K) (S:Nat->Prop) (SA NA:Option Addr) (sC nC:Nat) (sc:List Sc) (nd:List Nd) (AA:Option Addr) (ac:Nat) (args:List Gv) (w:World) (hV:j4 w) (hsc:Ls S w 7 144 Sc.tr SA sC sc) (hnd:Ls S w 11 200 Nd.tr NA nC nd)
 (hsn:sc.length<=1000000) (hnn:nd.length<=1000000) (hgn:∀ n∈nd,n.guards.length<=1000000) (hcn:∀ s∈sc,s.t.conds.length<=1000000) (hco:∀ s∈sc,CsOk s.t.conds)
 (hps:∀ s∈sc,s.t.params.length<=1000000/\(∀ p∈s.t.params,iM p)/\s.args.length<=1000000) (hag:Ls S w 8 104 Gv.tr AA ac args) (han:args.length<=1000000) (has:∀ g∈args,fR g.v) :
 Calls Tryz.prog 47 #[.agg #[.slice SA sc.length sC,.slice NA nd.length nC],.slice AA args.length ac] w (oZ (pV K sc nd args) w):=by
 have hcap2:=hnd.cap;have hmax2:=hnd.max;have hacap:=hag.cap;have HND:=Hd hnd;have HGN:=Hd hgn;have hb1:Below w.heap.size w (w.alloc (.cells #[.slice SA sc.length sC,.slice NA nd.length nC] 36)):=(aB _ w).alloc (aA _) _;have hfb:=aJ w #[.slice SA sc.length sC,.slice NA nd.length nC] 36;have HB1:=Hd hb1;have HFB:=Hd hfb;have HCA:=Hd (nconds_any K hK S SA NA sC nC sc nd AA ac args _ (hV.below hb1) (hsc.below hb1) (hnd.below hb1) hsn hnn hgn hcn hco hps (hag.below hb1) han has);have HOK:=Hd (fun O=>qR (K:=K) (nd:=nd) (O:=O) has (fun s hs=>⟨(hps s hs).1,(hps s hs).2.1⟩));have HCN:=Hd hcn;have HEN:Hid (pV K sc nd args=match nConds K sc nd args with | .inl e=>.inl e | .inr O=>.inr (nd.map (iD O))):=Hd rfl;obtain⟨f0,f1⟩:=gO hfb;have hmm:=@run_makeMap Tryz.prog;clear hV hsc hnd hgn hcn hps hag has hb1 hfb hK hco;go_enter Tryz.func47,Tryz.ntmps47;go_wp2_with fail;refine HCA.o.mono ?_;rintro e w2 ⟨hb,hm⟩;have HB2:=Hd (HB1.o.trans (hb.mono HB1.o.size));have HFB2:=Hd (HFB.o.below hb);clear f0 f1;cases hnp:nConds K sc nd args with
 | inl n =>
   have hne:=wC hnp;rw[hnp] at hm HEN;subst hm;have hn1:((n:Int)!=0)=true:=by simpa using hne
   clear hne hnp hb;go_wp2_with fail;refine bodyPost_ret (v:=.tuple #[.slice none 0 0,.int .i64 n]) (by simp[results,Tryz.results47,go_sem]) rfl ?_;rw[HEN.o];exact⟨HB2.o,rfl⟩
 | inr O =>
   rw[hnp] at hm HEN;obtain⟨-,hOl,hOr⟩:=HOK.o O hnp;obtain⟨CA,cc,xs,rfl,hlow,hltr⟩:=hm;have HCO:=Hd hlow;have HCT:=Hd hltr;have hOn:O.length<=1000000:=by omega
   have hOc:=hlow.cap;have HRL:Hid (∀ (j:Nat) (r:List (ByteArray × Bool)),O[j]?=some r->r.length<=1000000):=Hd (fun j r hj=>by
    obtain⟨s,g,h1,h2⟩:=hOr j r hj;rw[nM (tF h2).2];exact HCN.o s (aD h1))
   have hlo:=HB2.o.size;obtain⟨W3,hW3⟩:∃ W3,(w2.alloc (.map #[] 0)).alloc (.cells #[.map (some w2.heap.size)] 159)=W3:=⟨_,rfl⟩;have hb3:Below w2.heap.size w2 W3:=by rw[<-hW3];exact((aB _ w2).alloc (aA _) _).alloc (by simp) _
   have hmg:MG W3 w2.heap.size 0 (fun _ _=>none):=by rw[<-hW3];exact(MG.new w2).below ((aB _ _).alloc (aA _) _)
   have hbx:Blk W3 (w2.heap.size+1) #[.map (some w2.heap.size)] 159:=by
    rw[<-hW3];have:=aJ (w2.alloc (.map #[] 0)) #[.map (some w2.heap.size)] 159;rwa [show (w2.alloc (.map #[] 0)).heap.size=w2.heap.size+1 by simp] at this
   have HW3:=Hd hW3;have HB3:=Hd hb3;have HMG:=Hd hmg;have HBX:=Hd hbx;have HEF:Hid (SM O=u7 0 (O.drop 0) (fun _ _=>none)):=Hd rfl;clear hnp hb hlow hltr hOl hOr hb3 hmg hbx hW3;go_wp2_with fail;rw[HW3.o];go_loopg [26] O.length (fun g i wr=>∃ (j cnt:Nat) (f:Int->ByteArray->Option Bool),j+g=O.length/\i=.int .i64 (j:Nat)/\Hid (cnt<=j*1000000)/\Hid (SM O=u7 j (O.drop j) f)/\Hid (MG wr w2.heap.size cnt f)/\Hid (Blk wr (w2.heap.size+1) #[.map (some w2.heap.size)] 159)/\Hid (fP (fun k=>k=w2.heap.size) W3 wr))
   case atStart=>exact⟨0,0,_,by omega,rfl,Hd (eH _),HEF,HMG,HBX,Hd (bG _ _)⟩
   obtain⟨j,cnt,f,hj,rfl,hcnt,HF,HMG2,HBX2,HO2⟩:=hrel;rename World=>wo
   cases gk with
   | succ g =>
     have hjj:(j:Int)<(O.length:Int):=by omega
     have hji:(0:Int)<=(j:Int)/\(j:Int)<(O.length:Int):=by omega
     obtain⟨r,hr⟩:=fO (l:=O) (i:=j) (by omega);have HFD:Hid (SM O=u7 (j+1) (O.drop (j+1)) (CY (j:Int) (r.drop 0) f)):=Hd (by rw[HF.o,GN hr];rfl);have hrl:=HRL.o j r hr;obtain⟨RA,rc,hxs,hrls⟩:=OZ HCT.o.bound hr;obtain⟨adC,hCA,hcc0⟩:=HCO.o.rd.at_ j _ hxs;subst hCA;have hcl:(adC.add j).block<w2.heap.size:=aF w2 _ hcc0;have c0:=(cell_only HO2.o (aO hcl HB3.o.size) (fun e=>by omega)).trans ((HB3.o.cell hcl).trans hcc0);have hrls3:=hrls.below HB3.o;have HRS:=Hd hrls3;have hrcap:=hrls.cap;have hml:(r.map nY).length=r.length:=by simp
     rw[hml] at hrcap;clear hr hxs hrls hcc0 hcl hml hrls3;go_wp2_with fail;go_loopg [33] r.length (fun g i wr=>∃ (k cnt2:Nat) (f2:Int->ByteArray->Option Bool),k+g=r.length/\i=.int .i64 (k:Nat)/\Hid (cnt2<=j*1000000+k)/\Hid (SM O=u7 (j+1) (O.drop (j+1)) (CY (j:Int) (r.drop k) f2))/\Hid (MG wr w2.heap.size cnt2 f2)/\Hid (Blk wr (w2.heap.size+1) #[.map (some w2.heap.size)] 159)/\Hid (fP (fun k=>k=w2.heap.size) W3 wr))
     case atStart=>exact⟨0,cnt,f,by omega,rfl,Hd (bB hcnt.out (aU _ _)),HFD,HMG2,HBX2,HO2⟩
     clear c0;obtain⟨k,cnt2,f2,hk,rfl,hcnt2,HF2,HMG3,HBX3,HO3⟩:=hrel;rename World=>wq
     cases gk with
     | zero =>
       have hkk:¬((k:Int)<(r.length:Int)):=by omega
       rw[aP (show r.length<=k by omega)] at HF2;have hkr:k<=1000000:=by omega
       have HF3:Hid (SM O=u7 (j+1) (O.drop (j+1)) f2):=Hd (by rw[HF2.o];rfl);go_wp2_with fail;go_roundg g
       case measure=>omega
       case rel=>exact⟨j+1,cnt2,f2,by omega,by go_num,Hd (by have:=hcnt2.out;omega),HF3,HMG3,HBX3,HO3⟩
     | succ g2 =>
       have hkk:(k:Int)<(r.length:Int):=by omega
       have hki:(0:Int)<=(k:Int)/\(k:Int)<(r.length:Int):=by omega
       obtain⟨x,hx⟩:=fO (l:=r) (i:=k) (by omega);have HFD2:=Hd (GM (i:=(j:Int)) (f:=f2) hx);obtain⟨adR,cs,rfl,hxt,hxc⟩:=(HRS.o.only HO3.o (fun k hk e=>by have:=hk.2;omega)).elem dA (i:=k) (x:=nY x) (by simp[hx]);obtain⟨GA,GB,gc,gd,rfl,hxz⟩:=DX hxt;obtain⟨d0,d1,d2,d3,d4,d5,d6,d7⟩:=l8 hxc;have hbn:Below wq.heap.size wq (wq.alloc (.cells #[.string x.1,.bool false,.int .i8 1,.bool x.2,.int .i64 0,.string ⟨#[]⟩,.slice GA 0 gc,.slice GB 0 gd] 46)):=(aB _ wq).alloc (aA _) _;have HMG4:=Hd (HMG3.o.below hbn);have HBX4:=HBX3.o.below hbn;have b0:=i9 HBX4;obtain⟨e0,e1,e2,e3,e4,e5,e6,e7⟩:=gI (aJ wq #[.string x.1,.bool false,.int .i8 1,.bool x.2,.int .i64 0,.string ⟨#[]⟩,.slice GA 0 gc,.slice GB 0 gd] 46);have HO4:=Hd (HO3.o.trans (aK hbn (fun k=>k=w2.heap.size)) (fun _ _ h=>h));have hxm:x.1.size<=maxLen:=bB hxz (by unfold maxLen;omega);have hcm:cnt2<maxLen:=by have:=hcnt2.out;unfold maxLen;omega
       have hjw:=QF (show j<=1000000 by omega);have HBXX:=Hd HBX4;clear hx hxt hxc hbn hxz HBX4;go_wp2_with (refine wp_put_MG rfl _ _ _ rfl w2.heap.size cnt2 f2 rfl HMG4.o hcm (j:Int) x.1 hjw hxm rfl x.2 rfl ?_;intro w6 hm6 hg6;have HM6:=Hd hm6;have HO6:=Hd (bX hg6);clear hm6 hg6);go_roundg g2
       case measure=>omega
       case rel=>exact⟨k+1,cnt2+1,IW f2 (j:Int) x.1 x.2,by omega,by go_num,Hd (by have:=hcnt2.out;omega),Hd (by rw[HF2.o,HFD2.o]),HM6,Hd (HBXX.o.only HO6.o (fun e=>by injection e with e;omega)),Hd (HO4.o.trans HO6.o (fun k hk e=>by injection e))⟩
   | zero =>
     have hjj:¬((j:Int)<(O.length:Int)):=by omega
     rw[aP (by omega),u7] at HF;have hlw:w.heap.size<w2.heap.size:=HFB2.o.lt;have hfb3:Blk wo w.heap.size #[.slice SA sc.length sC,.slice NA nd.length nC] 36:=(HFB2.o.below HB3.o).only HO2.o (by omega);obtain⟨g0,g1⟩:=gO hfb3;have hbw:Below w.heap.size w wo:=HO2.o.belowB (HB2.o.trans (HB3.o.mono HB2.o.size)) (fun k hk=>by omega);have HBW:=Hd hbw;clear hfb3 hbw;go_wp2_with fail;go_loopg [50,4] nd.length (fun g i o wr=>∃ (j2:Nat) (OA:Option Addr) (oc:Nat),j2+g=nd.length/\i=.int .i64 (j2:Nat)/\o=.slice OA j2 oc/\Hid (Ow wr wo.heap.size 4 1 OA j2 oc ((nd.take j2).map fun n=>.bool (iD O n)))/\Hid (Below wo.heap.size wo wr))
     case atStart=>exact⟨0,none,0,by omega,rfl,rfl,Hd (by simpa using dF _ _ _ _),Hd (aB _ _)⟩
     clear g0 g1;obtain⟨j2,OA,oc,hj2,rfl,rfl,HOW,HB⟩:=hrel;rename World=>wp
     cases gk with
     | zero =>
       have hjj2:¬((j2:Int)<(nd.length:Int)):=by omega
       have he:j2=nd.length:=by omega
       subst he;have HOW2:Hid (Ow wp wo.heap.size 4 1 OA nd.length oc (nd.map fun n=>.bool (iD O n))):=Hd (by have:=HOW.o;rwa [fK] at this);go_wp2_with fail;refine bodyPost_ret (v:=.tuple #[.slice OA nd.length oc,.int .i64 0]) (by simp[results,Tryz.results47,go_sem]) rfl ?_;rw[HEN.o];refine⟨HBW.o.trans (HB.o.mono HBW.o.size),OA,oc,by simp,?_⟩;have:=HOW2.o.le HBW.o.size;simpa [List.map_map,Function.comp_def] using this
     | succ g2 =>
       have hjj2:(j2:Int)<(nd.length:Int):=by omega
       have hji2:(0:Int)<=(j2:Int)/\(j2:Int)<(nd.length:Int):=by omega
       obtain⟨n,hn⟩:=fO (l:=nd) (i:=j2) (by omega);have HN2:=Hd hn;have hgl:=HGN.o n (aD hn);have hwp:=HBW.o.trans (HB.o.mono HBW.o.size);obtain⟨adN,cs,rfl,hxt,hxc⟩:=(HND.o.below hwp).elem Nd.trlen hn;obtain⟨C1,C2,C3,C4,C5,q1,q2,q3,q4,q5,rfl,-,-,-,hgd,-⟩:=mE hxt;obtain⟨e0,e1,e2,e3,e4,e5,e6,e7,e8,e9,e10⟩:=EW hxc;have hbn:Below wp.heap.size wp (wp.alloc (.cells (kN n C1 q1 C2 q2 C3 q3 C4 q4 C5 q5) 53)):=(aB _ wp).alloc (aA _) _;have hbo:Below wo.heap.size wo (wp.alloc (.cells (kN n C1 q1 C2 q2 C3 q3 C4 q4 C5 q5) 53)):=HB.o.trans (hbn.mono HB.o.size);have HIG:=Hd (KF S 86 #[.pointer (some ⟨w2.heap.size+1,0,none⟩)] (fun g=>!((f g.scope g.name).getD false)) C4 q4 n.guards _ (hgd.below hbn) hgl (callFunc_go Tryz.func86 rfl rfl)
        (fun x hx cs w' hb ht=>ON S x cs _ _ cnt f w' ht ((HBX2.o.below hbo).below hb) ((HMG2.o.below hbo).below hb)))
       have hon:iD O n=!(n.guards.any fun g=>!((f g.scope g.name).getD false)):=by
        unfold iD;rw[HF.o,List.all_eq_not_any_not]
       have HON:=Hd hon;obtain⟨q,hq⟩:∃ q,q=n.guards.any fun g=>!((f g.scope g.name).getD false):=⟨_,rfl⟩;rw[<-hq] at HIG HON;obtain⟨m0,m1,m2,m3,m4,m5,m6,m7,m8,m9,m10⟩:=kO (aJ wp (kN n C1 q1 C2 q2 C3 q3 C4 q4 C5 q5) 53);have HBO:=Hd hbo;have HBN:=Hd hbn;clear hn hwp hxt hxc hgd hbn hbo hon hq;go_wp2_with (first
        | ((go_at_call 85);refine HIG.o.mono ?_;rintro e w6 ⟨rfl,hb6⟩;have HB6:=Hd (HBO.o.trans (hb6.mono HBO.o.size));have HOW6:=Hd (HOW.o.below (HBN.o.trans (hb6.mono HBN.o.size)));have HRN:=Hd (cQ w6 1 1 #[.bool (!q)] 4 (0,0) rfl (by simp[maxLen]));have hl6:=HB6.o.size;clear hb6)
        | (at_builtin;refine wpList_row CU Tryz.underlying77 rfl (by omega) rfl (.tmp 54) (.tmp 60) rfl wo.heap.size OA oc j2 ((nd.take j2).map fun n=>.bool (iD O n)) rfl (HOW6.o.alloc _) (some ⟨w6.heap.size,0,none⟩) 1 1 [.bool (!q)] rfl HRN.o (by simp[Value.oneCell']) (by omega) (by omega) (by simp;omega) ?_;intro A' c' w8 ho hg hat;have HO8:=Hd ho;have HG8:=Hd hg;clear ho hg hat))
       go_roundg g2
       case measure=>omega
       case rel =>
        have hb8:Below wo.heap.size wo w8:=(HB6.o.alloc hl6 _).grown HG8.o (by simp;omega) (fun k hk=>(HOW6.o.lt hk).1);refine⟨j2+1,A',c',by omega,by go_num,rfl,Hd ?_,Hd hb8⟩;rw[aT,HN2.o,cA,cV,List.map_singleton,HON.o];exact HO8.o
open Go.Shelf
open Go.Sort
open Go.Maps (Keyed)
def KY {α:Type} (f:Int->α) (k:Int) (y:α):Int->α:=fun j=>if j=k then y else f j
theorem wL (f:Int->α) (k:Int) (y:α):KY f k y k=y:=if_pos rfl
theorem uE (f:Int->α) {k j:Int} (y:α) (h:j≠k):KY f k y j=f j:=if_neg h
def MT (w:World) (b n:Nat) (f:Int->Bool):Prop :=
 ∃ D:DataW Unit,w.ownsMap Tryz.prog 3 (plainElem Tryz.prog 4) b n D/\Go.Maps.IsMap D/\∀ k:Int,D.atKey (.int .i64 k) (.lit (.bool false))=.lit (.bool (f k))/\Go.Maps.has D (.int .i64 k)=f k
theorem oF {P:Program} {k:TypeId} {R:Value->Option (DataW H × List MemPlace)} {D:DataW H} (h:w.ownsMap P k R b n D) (hb:w'.heap[b]?=w.heap[b]?):w'.ownsMap P k R b n D:=by
 obtain⟨es,clock,h1,h2⟩:=h;exact⟨es,clock,hb.trans h1,h2⟩
section
variable {w w':World} {b n:Nat} {f:Int->Bool}
theorem MT.new (w:World):MT (w.alloc (.map #[] 0)) w.heap.size 0 (fun _=>false) :=
 ⟨.map [],World.ownsMap_made _ _ _ _,⟨[],rfl⟩,fun k=>⟨rfl,rfl⟩⟩
theorem MT.only (h:MT w b n f) (ho:fP F w w') (hF:¬F b):MT w' b n f:=by
 obtain⟨D,h1,h2,h3⟩:=h;exact⟨D,oF h1 (ho.block b h1.lt hF),h2,h3⟩
theorem MT.lt (h:MT w b n f):b<w.heap.size:=by obtain⟨D,h1,_⟩:=h;exact h1.lt
theorem MT.below (h:MT w b n f) (hb:Below w.heap.size w w'):MT w' b n f:=h.only (aK hb (fun _=>False)) (fun h=>h)
end
def cZ (l:List Int):List Value:=l.map fun z=>.int .i64 z
def wZ (f:Int->Bool) (l:List Int):Prop:=l.Pairwise (· < ·)/\∀ k,k∈l↔f k=true
variable {i:Nat}
theorem RZ {l:List Int} (h:l[i]?=some z):(cZ l)[i]?=some (.int .i64 z):=by simp[cZ,h]
theorem Rd.zcell {A:Option Addr} {c:Nat} {l:List Int} (h:Rd w 1 A n c (cZ l)) (hz:l[i]?=some z):∃ ad,A=some ad/\w.cell? (ad.add i)=some (.int .i64 z):=h.at_ i _ (RZ hz)
structure LL (w:World) (A:Option Addr) (c:Nat) (ls:List (List Int)):Prop where
 cap:ls.length<=c
 max:c<=maxLen
 row:∀ (i:Nat) (x:List Int),ls[i]?=some x->∃ ad Ai ci,A=some ad/\w.cell? (ad.add i)=some (.slice Ai x.length ci)/\Rd w 1 Ai x.length ci (cZ x)
theorem LL.below {w w':World} {A:Option Addr} {c:Nat} {ls:List (List Int)} (h:LL w A c ls) (hb:Below w.heap.size w w'):LL w' A c ls :=
 ⟨h.cap,h.max,fun i x hx=>by
   obtain⟨ad,Ai,ci,e,hc,hr⟩:=h.row i x hx;exact⟨ad,Ai,ci,e,(hb.cell (aF w _ hc)).trans hc,hr.below hb⟩⟩
theorem LL.drewN {w:World} {A:Option Addr} {c:Nat} {ls:List (List Int)} (h:LL w A c ls) (k:Nat):LL (w.drewN k) A c ls:=h.below ⟨rfl,rfl,rfl,aA _,fun _ _=>rfl⟩
theorem FJ {l:List α} {p:α->Bool} {x:α} (h:l[i]?=some x):(l.take (i+1)).any p=((l.take i).any p||p x):=by rw[aT,h];simp
variable {f:Int->Bool}
theorem JJ:∀ {l m:List Int},wZ f l->wZ f m->l=m:=by
 intro l m h1 h2;have hp:l.Perm m:=(List.perm_ext_iff_of_nodup (h1.1.imp (fun h=>by omega)) (h2.1.imp (fun h=>by omega))).2 (fun k=>(h1.2 k).trans (h2.2 k).symm);exact hp.eq_of_pairwise (fun a b _ _ h k=>by omega) h1.1 h2.1
def cB (l:List Bool):List Value:=l.map Value.bool
def bF (bs:List Bool) (k:Int):Bool:=decide (0<=k)&&bs.getD k.toNat false
theorem MF (bs:List Bool) (j:Nat):bF bs (j:Int)=bs.getD j false:=by unfold bF;simp
section
variable {P:Program}
end
def rowAt (ls:List (List Int)) (k:Int):List Int:=ls.getD k.toNat []
def vld (ls:List (List Int)) (k:Int):Prop:=0<=k/\k<(ls.length:Int)
inductive Rch (ls:List (List Int)) (s:Int):Int->Prop
 | base {k:Int}:k∈rowAt ls s->vld ls k->Rch ls s k
 | step {i k:Int}:Rch ls s i->k∈rowAt ls i->vld ls k->Rch ls s k
variable {s:Int}
theorem Rch.vld {k:Int} (h:Rch ls s k):vld ls k:=by cases h<;>assumption
section
variable {P:Program} (w:World)
end
def tZ (V:List Int):Int->Bool:=fun z=>V.contains z
theorem MT.ne (h:MT w b n f) {p:Addr} {v:Value} (hc:w.cell? p=some v):p.block≠b:=by
 obtain⟨D,⟨es,k,h1,_⟩,_⟩:=h;rintro e;unfold World.cell? at hc;rw[e,h1] at hc;cases hc
theorem FE {V:List Int} (hn:V.Nodup) (hv:∀ k∈V,vld ls k):V.length<=ls.length:=by
 have h:=j8 ls.length (V.map Int.toNat) (by
  rw[List.Nodup,List.pairwise_map];refine List.Pairwise.imp_of_mem ?_ hn;intro a b ha hb hab e;have h1:=(hv a ha).1;have h2:=(hv b hb).1;omega) (fun x hx=>by
  obtain⟨k,hk,rfl⟩:=List.mem_map.1 hx;have h1:=(hv k hk).1;have h2:=(hv k hk).2;omega)
 simpa using h
theorem FR {x:List Int} (h:ls[j]?=some x):rowAt ls (j:Int)=x:=by
 unfold rowAt;rw[show ((j:Int)).toNat=j from rfl,aG,h];rfl
section
variable {w:World} {ops:Array Oper} {rest:List Oper} {o:Oper} {a:Act} {Q:Exit->Act->World->Prop}
end
theorem Blk.setB {g:Nat} (h:Blk w g (cB bs).toArray 4) (i:Nat) (b:Bool):Blk (w.setCell ⟨g,i,none⟩ (.bool b)) g (cB (bs.set i b)).toArray 4:=by
 refine(h.set i (.bool b)).eq ?_;apply Array.ext
 .simp[cB]
 intro j h1 h2;simp[cB,List.getElem_set,Array.getElem_setIfInBounds]
theorem bF_set (hi:i<bs.length) (k:Int):bF (bs.set i true) k=true↔bF bs k=true∨k=(i:Int):=by
 unfold bF;simp only[bJ,decide_eq_true_eq];rw[aG,aG,eY];by_cases hk:i=k.toNat
 .subst hk;rw[if_pos rfl,if_pos hi];constructor
  .rintro⟨h,_⟩;exact .inr (by omega)
  intro h;refine⟨?_,rfl⟩;rcases h with h | h
  .exact h.1
  omega
 rw[if_neg hk];constructor
 .intro h;exact .inl h
 rintro(h | h)
 .exact h
 exact absurd (by omega) hk
structure GB (w0:World) (ls:List (List Int)) (s:Int) (bs:List Bool) (w:World):Prop where
 blk:Blk w w0.heap.size (cB bs).toArray 4
 len:bs.length=ls.length
 bel:Below w0.heap.size w0 w
 rch:∀ k,bF bs k=true->Rch ls s k
theorem GB.put (h:GB w0 ls s bs w) (hq:q<ls.length) (hr:Rch ls s (q:Int)):GB w0 ls s (bs.set q true) (w.setCell ⟨w0.heap.size,q,none⟩ (.bool true)) :=
 ⟨h.blk.setB q true,by rw[dZ];exact h.len,h.bel.setCell (aA _) _,fun k hk=>by
   rcases (bF_set (by rw[h.len];exact hq) k).1 hk with hk | hk
   .exact h.rch k hk
   rw[hk];exact hr⟩
theorem GB.at_ (h:GB w0 ls s bs w) (hq:q<ls.length):∃ b,bs[q]?=some b/\bF bs (q:Int)=b/\w.cell? ⟨w0.heap.size,q,none⟩=some (.bool b)/\w.frozen? ⟨w0.heap.size,q,none⟩=false:=by
 obtain⟨b,hb⟩:=fO (l:=bs) (i:=q) (by rw[h.len];exact hq);exact⟨b,hb,by rw[MF,aG,hb];rfl,h.blk.cell q (by simp[cB,hb]),h.blk.frozen q⟩
def UL (ls:List (List Int)) (s:Int) (bs:List Bool) (i:Nat):Prop:=∀ p:Nat,p<i->((p:Int)=s∨bF bs (p:Int)=true)->∀ k∈rowAt ls (p:Int),vld ls k->bF bs k=true
theorem UL.succ (h:UL ls s bs i) (h2:((i:Int)=s∨bF bs (i:Int)=true)->∀ k∈rowAt ls (i:Int),vld ls k->bF bs k=true):UL ls s bs (i+1):=fun p hp=>by
 rcases bI p i with h3 | h3
 .exact h p h3
 have:p=i:=by omega
 subst this;exact h2
def oE (ls:List (List Int)) (k:Nat):Int->Bool:=fun i=>decide (0<=i)&&(decide (i<(ls.length:Int))&&(rowAt ls i).contains (k:Int))
theorem iZ {i:Int}:oE ls k i=true↔0<=i/\i<(ls.length:Int)/\(k:Int)∈rowAt ls i:=by
 unfold oE;simp
def oK (ls ms:List (List Int)):Prop:=ms.length=ls.length/\∀ (k:Nat) (m:List Int),ms[k]?=some m->wZ (oE ls k) m
theorem IX {ns:List (List Int)} (h1:oK ls ms) (h2:oK ls ns):ms=ns:=by
 apply List.ext_getElem?;intro k;rcases bI k ls.length with h | h
 .obtain⟨m,hm⟩:=fO (l:=ms) (i:=k) (by rw[h1.1];exact h);obtain⟨n,hn⟩:=fO (l:=ns) (i:=k) (by rw[h2.1];exact h);rw[hm,hn,JJ (h1.2 k m hm) (h2.2 k n hn)]
 rw[bN (by rw[h1.1];exact h),bN (by rw[h2.1];exact h)]
def ID (ls:List (List Int)) (j a:Nat) (F:Nat->Int->Bool):Prop:=∀ (k:Nat) (i:Int),k<ls.length->(F k i=true↔(0<=i/\i<(j:Int)/\(k:Int)∈rowAt ls i)∨(i=(j:Int)/\(k:Int)∈(rowAt ls i).take a))
theorem ID.zero:ID ls 0 0 (fun _ _=>false):=fun k i hk=>by
 constructor
 .intro h;cases h
 rintro(h | h)
 .omega
 simp at h
variable {F:Nat->Int->Bool}
theorem ID.row (h:ID ls j a F) (ha:(rowAt ls (j:Int)).length<=a):ID ls (j+1) 0 F:=fun k i hk=>by
 rw[h k i hk];constructor
 .rintro(h1 | ⟨rfl,h1⟩)
  .exact .inl ⟨h1.1,by omega,h1.2.2⟩
  rw[aN ha] at h1;exact .inl ⟨by omega,by omega,h1⟩
 rintro(⟨h1,h2,h3⟩ | ⟨_,h1⟩)
 .rcases (show i<(j:Int)∨i=(j:Int) by omega) with h4 | h4
  .exact .inl ⟨h1,h4,h3⟩
  refine .inr ⟨h4,?_⟩;subst h4;rwa [aN ha]
 simp at h1
theorem ID.skip (h:ID ls j a F) (hz:(rowAt ls (j:Int))[a]?=some z) (hv:¬vld ls z):ID ls j (a+1) F:=fun k i hk=>by
 rw[h k i hk];refine or_congr Iff.rfl (and_congr_right fun e=>?_);subst e;rw[aT,hz];simp only[Option.toList,dB,aR];refine⟨.inl,fun h2=>h2.resolve_right fun e=>hv ?_⟩;rw[<-e];exact⟨by omega,by omega⟩
def OI (F:Nat->Int->Bool) (k:Nat) (i:Int):Nat->Int->Bool:=fun q=>if q=k then KY (F k) i true else F q
theorem GR (F:Nat->Int->Bool) (k:Nat) (i:Int):OI F k i k=KY (F k) i true:=if_pos rfl
theorem C0 (F:Nat->Int->Bool) (i:Int) (h:q≠k):OI F k i q=F q:=if_neg h
theorem ID.put (h:ID ls j a F) (hz:(rowAt ls (j:Int))[a]?=some (q:Int)):ID ls j (a+1) (OI F q (j:Int)):=fun k i hk=>by
 have key:(k:Int)∈(rowAt ls (j:Int)).take (a+1)↔(k:Int)∈(rowAt ls (j:Int)).take a∨k=q:=by
  rw[aT,hz];simp only[Option.toList,dB,aR];exact or_congr Iff.rfl (by omega)
 have step:(F k i=true∨(k=q/\i=(j:Int)))↔OI F q (j:Int) k i=true:=by
  by_cases hkq:k=q
  .subst hkq;rw[GR];by_cases hij:i=(j:Int)
   .subst hij;rw[wL];simp
   rw[uE _ _ hij];simp[hij]
  rw[C0 F (j:Int) hkq];simp[hkq]
 rw[<-step,h k i hk];constructor
 .rintro((h1 | ⟨rfl,h1⟩) | ⟨rfl,rfl⟩)
  .exact .inl h1
  .exact .inr ⟨rfl,key.2 (.inl h1)⟩
  exact .inr ⟨rfl,key.2 (.inr rfl)⟩
 rintro(h1 | ⟨rfl,h1⟩)
 .exact .inl (.inl h1)
 rcases key.1 h1 with h2 | h2
 .exact .inl (.inr ⟨rfl,h2⟩)
 exact .inr ⟨h2,rfl⟩
theorem ID.all (h:ID ls j 0 F) (hj:j=ls.length) (hk:k<ls.length):F k=oE ls k:=by
 subst hj;funext i;have h1:=h k i hk;have h2:=iZ (ls:=ls) (k:=k) (i:=i);have h3:F k i=true↔oE ls k i=true:=by rw[h1,h2];simp
 cases h4:F k i<;>cases h5:oE ls k i<;>simp_all
section
variable {w0 w:World} {N M:Nat} {ms:List (Option Nat)} {F:Nat->Int->Bool}
end
structure DR where
 A:Option Addr
 c:Nat
 l:List Int
def DR.v (r:DR):Value:=.slice r.A r.l.length r.c
def cR (rs:List DR):List Value:=rs.map DR.v
def R9 (w:World) (rs:List DR):Prop:=∀ r∈rs,Rd w 1 r.A r.l.length r.c (cZ r.l)
variable {rs:List DR}
theorem LL.of {c:Nat} (hc:rs.length<=c) (hm:c<=maxLen) (hcell:∀ (i:Nat) (r:DR),rs[i]?=some r->w.cell? (ad.add i)=some r.v) (hr:R9 w rs):LL w (some ad) c (rs.map DR.l) :=
 ⟨by rw[cX];exact hc,hm,fun i x hx=>by
   rw[eG] at hx;cases hi:rs[i]? with
   | none=>rw[hi] at hx;cases hx
   | some r =>
     rw[hi] at hx;injection hx with hx;subst hx;exact⟨ad,r.A,r.c,rfl,hcell i r hi,hr r (aD hi)⟩⟩
structure OR (w0:World) (N:Nat) (F:Nat->Int->Bool) (rs:List DR) (w:World):Prop where
 row:Blk w w0.heap.size (cR rs++List.replicate (N-rs.length) (Value.slice none 0 0)).toArray 116
 len:rs.length<=N
 bel:Below w0.heap.size w0 w
 ok:R9 w rs
 off:∀ r∈rs,blk r.A≠some w0.heap.size
 ris:∀ (k:Nat) (r:DR),rs[k]?=some r->wZ (F k) r.l
theorem OR.at_ (h:OR w0 N F rs w) (hl:rs.length<N) (hb:Below w.heap.size w w1):w1.cell? ⟨w0.heap.size,rs.length,none⟩=some (Value.slice none 0 0)/\w1.frozen? ⟨w0.heap.size,rs.length,none⟩=false:=by
 refine⟨(h.row.below hb).cell _ ?_,(h.row.below hb).frozen _⟩;have e1:(cR rs).length=rs.length:=by simp[cR]
 rw[List.getElem?_toArray,bH (by rw[e1];exact aA _),e1,Nat.sub_self,dU,if_pos (by omega)]
theorem OR.put (h:OR w0 N F rs w) (hl:rs.length<N) (hb:Below w.heap.size w w1) {A:Option Addr} {c:Nat} {l:List Int} (ho:Ow w1 w.heap.size 3 1 A l.length c (cZ l)) (hr:wZ (F rs.length) l) :
 OR w0 N F (rs++[⟨A,c,l⟩]) (w1.setCell ⟨w0.heap.size,rs.length,none⟩ (.slice A l.length c)):=by
 have hlt:=h.row.lt;have on:fP (fun k=>k=w0.heap.size) w1 (w1.setCell ⟨w0.heap.size,rs.length,none⟩ (.slice A l.length c)):=(bG _ _).setCell _ _ (fun _=>rfl);have hA:blk A≠some w0.heap.size:=fun e=>by have:=(ho.lt e).1;omega
 refine⟨((h.row.below hb).set rs.length (.slice A l.length c)).eq ?_,by simp;omega,(h.bel.trans (hb.mono h.bel.size)).setCell (aA _) _,fun r hr2=>?_,fun r hr2=>?_,fun k r hk=>?_⟩
 .apply Array.ext';simp only[eJ];rw[List.set_append_right _ _ (by simp[cR])];have e1:(cR rs).length=rs.length:=by simp[cR]
  rw[e1,Nat.sub_self,show N-rs.length=(N-(rs++[(⟨A,c,l⟩:DR)]).length)+1 by simp;omega,aX,aH];simp[cR,DR.v]
 .rcases List.mem_append.1 hr2 with hr2 | hr2
  .exact((h.ok r hr2).below hb).only on (fun ad e _ e2=>h.off r hr2 (by rw[e];simp[blk,e2]))
  rw[aR] at hr2;subst hr2;exact ho.rd.only on (fun ad e _ e2=>hA (by rw[show A=some ad from e];simp[blk,e2]))
 .rcases List.mem_append.1 hr2 with hr2 | hr2
  .exact h.off r hr2
  rw[aR] at hr2;subst hr2;exact hA
 rcases bI k rs.length with h2 | h2
 .rw[bZ h2] at hk;exact h.ris k r hk
 rw[bH h2] at hk;have h3:k-rs.length<1:=by simpa using (List.getElem?_eq_some_iff.1 hk).1
 have h4:k=rs.length:=by omega
 subst h4;simp at hk;subst hk;exact hr
def TB (ls:List (List Int)) (k i:Nat) (bs:List Bool):Prop:=bs.length=ls.length/\∀ p:Nat,p<ls.length->(bF bs (p:Int)=true↔p<i/\(k:Int)∈rowAt ls (p:Int))
def TC (ls:List (List Int)) (k i a:Nat) (bs:List Bool):Prop:=bs.length=ls.length/\∀ p:Nat,p<ls.length->(bF bs (p:Int)=true↔(p<i/\(k:Int)∈rowAt ls (p:Int))∨(p=i/\(k:Int)∈(rowAt ls (i:Int)).take a))
theorem TB.zero:TB ls k 0 (List.replicate ls.length false):=⟨by simp,fun p hp=>by
 rw[MF,aG,dU];split<;>simp⟩
theorem TB.row (h:TB ls k i bs):TC ls k i 0 bs:=⟨h.1,fun p hp=>by rw[h.2 p hp];simp⟩
theorem TC.row (h:TC ls k i a bs) (ha:(rowAt ls (i:Int)).length<=a):TB ls k (i+1) bs:=⟨h.1,fun p hp=>by
 rw[h.2 p hp,aN ha];constructor
 .rintro(⟨h1,h2⟩ | ⟨rfl,h2⟩)
  .exact⟨by omega,h2⟩
  exact⟨by omega,h2⟩
 rintro⟨h1,h2⟩;rcases (show p<i∨p=i by omega) with h3 | h3
 .exact .inl ⟨h3,h2⟩
 subst h3;exact .inr ⟨rfl,h2⟩⟩
theorem TC.no (h:TC ls k i a bs) (hz:(rowAt ls (i:Int))[a]?=some z) (hne:z≠(k:Int)):TC ls k i (a+1) bs:=⟨h.1,fun p hp=>by
 rw[h.2 p hp,aT,hz];simp only[Option.toList,dB,aR];refine or_congr Iff.rfl (and_congr_right fun _=>⟨.inl,fun h2=>h2.resolve_right (fun e=>hne e.symm)⟩)⟩
theorem TC.yes (h:TC ls k i a bs) (hi:i<ls.length) (hz:(rowAt ls (i:Int))[a]?=some (k:Int)):TC ls k i (a+1) (bs.set i true):=⟨by rw[dZ];exact h.1,fun p hp=>by
 rw[bF_set (by rw[h.1];exact hi),h.2 p hp,aT,hz];simp only[Option.toList,dB,aR];constructor
 .rintro((h1 | ⟨rfl,h1⟩) | h1)
  .exact .inl h1
  .exact .inr ⟨rfl,.inl h1⟩
  exact .inr ⟨by omega,.inr trivial⟩
 rintro(h1 | ⟨rfl,h1⟩)
 .exact .inl (.inl h1)
 exact .inr rfl⟩
structure UB (w0:World) (ls:List (List Int)) (bs:List Bool) (w:World):Prop where
 blk:Blk w w0.heap.size (cB bs).toArray 4
 bel:Below w0.heap.size w0 w
 only:fP (fun k=>k=w0.heap.size) (w0.alloc (.cells (cB (List.replicate ls.length false)).toArray 4)) w
theorem UB.put (h:UB w0 ls bs w) (q:Nat):UB w0 ls (bs.set q true) (w.setCell ⟨w0.heap.size,q,none⟩ (.bool true)) :=
 ⟨h.blk.setB q true,h.bel.setCell (aA _) _,h.only.setCell _ _ (fun _=>rfl)⟩
structure UR (w0:World) (ls:List (List Int)) (A:Option Addr) (c:Nat) (rs:List DR) (w:World):Prop where
 own:Ow w w0.heap.size 116 1 A rs.length c (cR rs)
 bel:Below w0.heap.size w0 w
 ok:R9 w rs
 off:∀ r∈rs,∀ g,blk r.A=some g->blk A≠some g/\g<w.heap.size
 ris:∀ (k:Nat) (r:DR),rs[k]?=some r->wZ (oE ls k) r.l
theorem UR.below {w0 w w':World} {ls:List (List Int)} {A:Option Addr} {c:Nat} {rs:List DR} (h:UR w0 ls A c rs w) (hb:Below w.heap.size w w'):UR w0 ls A c rs w' :=
 ⟨h.own.below hb,h.bel.trans (hb.mono h.bel.size),fun r hr=>(h.ok r hr).below hb,fun r hr g hg=>⟨(h.off r hr g hg).1,aO (h.off r hr g hg).2 hb.size⟩,h.ris⟩
theorem Rd.lt0 {A:Option Addr} {c:Nat} {l:List Int} (h:Rd w 1 A l.length c (cZ l)) (hA:A=some ad) (hl:0<l.length):ad.block<w.heap.size:=by
 obtain⟨ad',e,hc⟩:=h.zcell (i:=0) (z:=l[0]) (by simp[hl]);rw[hA] at e;injection e with e;subst e;exact aF w _ hc
theorem below_drewN (w:World) (k:Nat):Below w.heap.size w (w.drewN k):=⟨rfl,rfl,rfl,aA _,fun _ _=>rfl⟩
def MZ (w:World) (b:Nat) (V:List Int):Prop :=
 ∃ D:DataW Unit,w.ownsMap Tryz.prog 3 (plainElem Tryz.prog 4) b V.length D/\Go.Maps.IsMap D/\(∀ k:Int,D.atKey (.int .i64 k) (.lit (.bool false))=.lit (.bool (tZ V k))/\Go.Maps.has D (.int .i64 k)=tZ V k)/\Go.Maps.size D=V.length
variable {F:Nat->Prop}
section
variable {w w':World} {b:Nat} {V:List Int}
theorem MZ.mt (h:MZ w b V):MT w b V.length (tZ V):=by obtain⟨D,h1,h2,h3,_⟩:=h;exact⟨D,h1,h2,h3⟩
theorem MZ.new (w:World):MZ (w.alloc (.map #[] 0)) w.heap.size []:=⟨.map [],World.ownsMap_made _ _ _ _,⟨[],rfl⟩,fun k=>⟨rfl,rfl⟩,rfl⟩
theorem MZ.only (h:MZ w b V) (ho:fP F w w') (hF:¬F b):MZ w' b V:=by
 obtain⟨D,h1,h2,h3⟩:=h;exact⟨D,oF h1 (ho.block b h1.lt hF),h2,h3⟩
theorem MZ.below (h:MZ w b V) (hb:Below w.heap.size w w'):MZ w' b V:=h.only (aK hb (fun _=>False)) (fun h=>h)
theorem MZ.lt (h:MZ w b V):b<w.heap.size:=h.mt.lt
end
theorem oK.len (h:oK ls ms):∀ m∈ms,m.length<=ls.length:=fun m hm=>by
 obtain⟨k,hk⟩:=List.mem_iff_getElem?.1 hm;have hr:=h.2 k m hk;exact FE (ls:=ls) (hr.1.imp (fun h=>by omega)) (fun z hz=>by
  have:=iZ.1 ((hr.2 z).1 hz);exact⟨this.1,this.2.1⟩)
theorem oK.row (h:oK ls ms) (hk:k<ls.length) (i:Int):i∈rowAt ms (k:Int)↔oE ls k i=true:=by
 obtain⟨m,hm⟩:=fO (l:=ms) (i:=k) (by rw[h.1];exact hk);rw[FR hm];exact(h.2 k m hm).2 i
theorem turn4 {l a b c d:List (List Int)} (h1:oK l a) (h2:oK a b) (h3:oK b c) (h4:oK c d):d=b:=by
 refine IX (ls:=a) ⟨by rw[h4.1,h3.1,h2.1],fun k m hm=>?_⟩ h2;have hr:=h4.2 k m hm;have hkc:k<c.length:=by rw[<-h4.1];exact(List.getElem?_eq_some_iff.1 hm).1
 have hkb:k<b.length:=by rw[<-h3.1];exact hkc
 have hka:k<a.length:=by rw[<-h2.1];exact hkb
 refine⟨hr.1,fun i=>?_⟩;rw[hr.2 i];have e:oE c k i=true↔oE a k i=true:=by
  rw[iZ,iZ];constructor
  .rintro⟨h5,h6,h7⟩;obtain⟨p,rfl⟩:∃ p:Nat,i=(p:Int):=⟨i.toNat,by omega⟩;have hp:p<b.length:=by rw[<-h3.1];omega
   have h8:=iZ.1 ((h3.row hp _).1 h7);have h9:=iZ.1 ((h2.row hka _).1 h8.2.2);exact⟨h5,by rw[<-h2.1];omega,h9.2.2⟩
  rintro⟨h5,h6,h7⟩;obtain⟨p,rfl⟩:∃ p:Nat,i=(p:Int):=⟨i.toNat,by omega⟩;have hp:p<b.length:=by rw[h2.1];omega
  have h8:(p:Int)∈rowAt b (k:Int):=(h2.row hka _).2 (iZ.2 ⟨h5,h6,h7⟩);exact⟨h5,by rw[h3.1];omega,(h3.row hp _).2 (iZ.2 ⟨by omega,by omega,h8⟩)⟩
 exact e
theorem LL.only {A:Option Addr} {c:Nat} (h:LL w0 A c ls) (hb:Below w0.heap.size w0 w) (ho:fP F w w') (hF:∀ k,F k->w0.heap.size<=k):LL w' A c ls :=
 h.below (ho.belowB hb hF)
