/- Part of the proof. -/
import Derived.Test.YtjmklmngikpeaaaGreatDoorEw3
set_option maxRecDepth 100000
set_option maxHeartbeats 8000000
set_option linter.unusedVariables false
set_option linter.unusedSimpArgs false
namespace Go.Proofs.YtjmklmngikpeaaaGreatDoor
open Go.RowKit Go.Maps
variable {a:Act}{ops:Array Oper}{d nm:ByteArray}{Q:Exit->Act->World->Prop}{l:List Gv}{rest:List Oper}{b i1 i2 i3 i4 k m n:Nat}{F:Nat->Prop}{w w' w1:World}
theorem KJ {j:Nat} {k:Gv} (hk:l[j]?=some k) (hq:idG nm k=true) (h:∀ (i:Nat) (x:Gv),i<j->l[i]?=some x->idG nm x=false):jG l nm=some k.v.text:=by
 unfold jG;have:l.find? (idG nm)=some k:=by
  obtain⟨hj,he⟩:=List.getElem?_eq_some_iff.1 hk;rw[dX];exact⟨hq,j,hj,he,fun i hi=>by rw[h i _ hi (aM (by omega))];rfl⟩
 rw[this];rfl
theorem KL (h:∀ (i:Nat) (x:Gv),l[i]?=some x->idG nm x=false):jG l nm=none:=by
 unfold jG;rw[List.find?_eq_none.2 (fun x hx=>by
  obtain⟨i,hi⟩:=List.mem_iff_getElem?.1 hx;rw[h i x hi];decide)]
 rfl
theorem ER (S:Nat->Prop) (A:Option Addr) (c:Nat) (l:List Gv) (nm:ByteArray) (w:World) (hl:Ls S w 8 104 Gv.tr A c l) (hn:l.length<=1000000) :
 Calls Tryz.prog 48 #[.slice A l.length c,.string nm] w fun e w'=>e=.returned (.tuple #[.string ((jG l nm).getD ByteArray.empty),.bool (jG l nm).isSome])/\Below w.heap.size w w':=by
 have HL:=Hd hl;have hcap:=hl.cap;have hbyt:=hl.bytes;obtain⟨o,ho⟩:∃ o,o=jG l nm:=⟨_,rfl⟩;have HO:=Hd ho;rw[<-ho];clear hl ho;go_enter Tryz.func48,Tryz.ntmps48;go_wp2_with fail;go_loopg [10] l.length (fun g i wr=>∃ j:Nat,j+g=l.length/\i=.int .i64 (j:Nat)/\Hid (∀ i x,i<j->l[i]?=some x->idG nm x=false)/\Hid (Below w.heap.size w wr))
 case atStart=>exact⟨0,by omega,rfl,Hd (fun i x hi _=>absurd hi (by omega)),Hd (aB _ _)⟩
 obtain⟨j,hj,rfl,HN,HB⟩:=hrel;rename World=>wo
 cases gk with
 | zero =>
   have hjj:¬((j:Int)<(l.length:Int)):=by omega
   have HE:Hid (o=none):=Hd (HO.o.trans (KL (fun i x hx=>HN.o i x (by have:=(List.getElem?_eq_some_iff.1 hx).1;omega) hx)));go_wp2_with fail;refine bodyPost_ret (v:=.tuple #[.string ByteArray.empty,.bool false]) (by simp[results,Tryz.results48,go_sem];try rfl) rfl ?_;rw[HE.o];exact⟨rfl,HB.o⟩
 | succ g =>
   have hjj:(j:Int)<(l.length:Int):=by omega
   have hji:(0:Int)<=(j:Int)/\(j:Int)<(l.length:Int):=by omega
   obtain⟨k,hk⟩:=fO (l:=l) (i:=j) (by omega);obtain⟨ad,cs,rfl,hxt,hxc⟩:=(HL.o.below HB.o).elem dA hk;obtain⟨GA,GB,gc,gd,rfl,-,-⟩:=fX hxt;obtain⟨e0,e1,e2,e3,e4,e5,e6,e7⟩:=l8 hxc;have HE:Hid (idG nm k=true->o=some k.v.text):=Hd (fun hq=>HO.o.trans (KJ hk hq HN.o));have HN2:Hid (idG nm k=false->∀ i x,i<j+1->l[i]?=some x->idG nm x=false):=Hd (fun hq i x hi hx=>by
    rcases bI i j with h | h
    .exact HN.o i x h hx
    rw[show i=j by omega,hk] at hx;injection hx with hx;rw[<-hx];exact hq)
   have HG:Hid (idG nm k=(fW k.name nm&&(!k.unknown&&decide (k.v.kind=3)))):=Hd rfl;have HT:=Hd (jL k.name nm);clear hk hxt hxc;cases h1:fW k.name nm with
   | false =>
     rw[h1] at HT HG;have ht:=HT.o;have HN3:=Hd (HN2.o HG.o);clear h1 HE;go_wp2_with fail;go_roundg g
     case measure=>omega
     case rel=>exact⟨j+1,by omega,by go_num,HN3,Hd (HB.o.alloc HB.o.size _)⟩
   | true =>
     rw[h1] at HT HG;have ht:=HT.o;clear h1;rcases bD k.unknown with hu | hu
     .have HN3:=Hd (HN2.o (by rw[HG.o,hu];rfl));rw[hu] at e1;clear hu HE;go_wp2_with fail;go_roundg g
      case measure=>omega
      case rel=>exact⟨j+1,by omega,by go_num,HN3,Hd (HB.o.alloc HB.o.size _)⟩
     by_cases h3:k.v.kind=3
     .have HE2:=Hd (HE.o (by rw[HG.o,hu,h3];rfl));rw[hu] at e1;rw[h3] at e2;clear hu h3 HE;go_wp2_with fail;refine bodyPost_ret (v:=.tuple #[.string k.v.text,.bool true]) (by simp[results,Tryz.results48,go_sem];try rfl) rfl ?_;rw[HE2.o];exact⟨rfl,HB.o.alloc HB.o.size _⟩
     have HN3:=Hd (HN2.o (by rw[HG.o,hu,decide_eq_false h3];rfl));have h33:(k.v.kind==3)=false:=by simpa using h3
     rw[hu] at e1;clear hu h3 HE;go_wp2_with fail;go_roundg g
     case measure=>omega
     case rel=>exact⟨j+1,by omega,by go_num,HN3,Hd (HB.o.alloc HB.o.size _)⟩
def dD:ByteArray:=⟨#[68,105,115,107]⟩
def dN:ByteArray:=⟨#[78,101,116]⟩
def dO:ByteArray:=⟨#[78,111,100,101]⟩
def dR:ByteArray:=⟨#[82,117,108,101]⟩
theorem DW (w:World):(zeroValue 217).run Tryz.prog w=.ok (.map none) w:=by kernel_rfl
def MO (w:World) (b n:Nat) (f:ByteArray->Option Value):Prop :=
 ∃ D:DataW Value,w.ownsMap Tryz.prog 9 Rv b n D/\Go.Maps.IsMap D/\∀ s:ByteArray,Go.Maps.has D (.string s.data.toList)=(f s).isSome/\D.atKey (.string s.data.toList) (.held (.map none))=.held ((f s).getD (.map none))
def MI (w:World) (b n:Nat):Prop:=∃ D:DataW Value,w.ownsMap Tryz.prog 9 Rv b n D
section
variable {w w':World} {b n:Nat} {f:ByteArray->Option Value}
theorem MO.new (w:World):MO (w.alloc (.map #[] 0)) w.heap.size 0 (fun _=>none):=⟨.map [],World.ownsMap_made _ _ _ _,⟨[],rfl⟩,fun k=>⟨rfl,rfl⟩⟩
theorem MI.new (w:World):MI (w.alloc (.map #[] 0)) w.heap.size 0:=⟨.map [],World.ownsMap_made _ _ _ _⟩
theorem MO.only (h:MO w b n f) (ho:fP F w w') (hF:¬F b):MO w' b n f:=by
 obtain⟨D,h1,h2,h3⟩:=h;exact⟨D,gS h1 (ho.block b h1.lt hF),h2,h3⟩
theorem MI.only (h:MI w b n) (ho:fP F w w') (hF:¬F b):MI w' b n:=by
 obtain⟨D,h1⟩:=h;exact⟨D,gS h1 (ho.block b h1.lt hF)⟩
theorem MO.lt (h:MO w b n f):b<w.heap.size:=by obtain⟨D,h1,_⟩:=h;exact h1.lt
theorem MI.lt (h:MI w b n):b<w.heap.size:=by obtain⟨D,h1⟩:=h;exact h1.lt
theorem MO.below (h:MO w b n f) (hb:Below w.heap.size w w'):MO w' b n f:=h.only (aK hb (fun _=>False)) (fun h=>h)
theorem MI.below (h:MI w b n) (hb:Below w.heap.size w w'):MI w' b n:=h.only (aK hb (fun _=>False)) (fun h=>h)
theorem MO.grown (h:MO w b n f) (hg:w.grownBy w' (some k)) (hne:b≠k):MO w' b n f:=h.only (bX hg) (fun e=>hne (by injection e))
theorem MI.grown (h:MI w b n) (hg:w.grownBy w' (some k)) (hne:b≠k):MI w' b n:=h.only (bX hg) (fun e=>hne (by injection e))
theorem MO.look (h:MO w b n f) (hd:d.size<=maxLen):(Instr.lookup 219 (.map (some b)) (.string d) true).run Tryz.prog w=.ok (.tuple #[(f d).getD (.map none),.bool (f d).isSome]) w:=by
 obtain⟨D,g1,g2,g3⟩:=h;obtain⟨v,ps,hrun,hv⟩:=g1.look_ok iQ Tryz.underlying219 (DW w) (zd:=.held (.map none)) (zp:=[]) rfl (iP hd);rw[(g3 d).2] at hv;unfold Rv at hv;injection hv with hv;injection hv with hv _;injection hv with hv;rw[hrun,hv,(g3 d).1]
theorem MO.lookF (h:MO w b n f) (hd:d.size<=maxLen):(Instr.lookup 219 (.map (some b)) (.string d) false).run Tryz.prog w=.ok ((f d).getD (.map none)) w:=by
 obtain⟨D,g1,g2,g3⟩:=h;obtain⟨v,ps,hrun,hv⟩:=g1.lookup iQ Tryz.underlying219 (DW w) (zd:=.held (.map none)) (zp:=[]) rfl (iP hd);rw[(g3 d).2] at hv;unfold Rv at hv;injection hv with hv;injection hv with hv _;injection hv with hv;rw[hrun,hv]
end
theorem put_MO {o:Oper} (hg:o.guard=none) (m x v:Operand) (hop:o.op=Op.insert 219 m x v) (b n:Nat) (f:ByteArray->Option Value) (hm:a.eval m=.map (some b)) (h:MO w b n f) (hn:n<maxLen)
 (d:ByteArray) (hd:d.size<=maxLen) (hx:a.eval x=.string d) (y:Value) (hv:a.eval v=y)
 (hK:∀ w',MO w' b (n+1) (fun s=>if s=d then some y else f s)->w.grownBy w' (some b)->wpList Tryz.prog ops Q rest (a.put o.dst undef) w'):wpList Tryz.prog ops Q (o::rest) a w:=by
 obtain⟨D,g1,g2,g3⟩:=h;refine wpList_plain hg fun K' hK'=>?_
 obtain⟨w',hrun,r1,r2⟩:=g1.update iQ Tryz.underlying219 hn (val:=y) (iP hd) (d:=.held y) (ps:=[]) rfl;unfold Oper.wp;simp[execOp,hop,hm,hx,hv,hrun,Result.andThen];refine hK' _ _ (hK w' ⟨_,r1,g2.put _ _,fun s=>?_⟩ r2);by_cases hj:s=d
 .subst hj;rw[Go.Maps.atKey_put_same g2 (i5 _),Go.Maps.has_put_same g2 (i5 _)];simp
 have hne:Lit.string s.data.toList≠Lit.string d.data.toList:=fun e=>qF hj (by injection e)
 rw[Go.Maps.atKey_put_other hne,Go.Maps.has_put_other hne,(g3 s).1,(g3 s).2];simp only[if_neg hj,and_self]
theorem put_MI {o:Oper} (hg:o.guard=none) (m x v:Operand) (hop:o.op=Op.mapUpdate 217 m x v) (b n:Nat) (hm:a.eval m=.map (some b)) (h:MI w b n) (hn:n<maxLen)
 (d:ByteArray) (hd:d.size<=maxLen) (hx:a.eval x=.string d)
 (hK:∀ w',MI w' b (n+1)->w.grownBy w' (some b)->wpList Tryz.prog ops Q rest (a.put o.dst undef) w'):wpList Tryz.prog ops Q (o::rest) a w:=by
 obtain⟨D,g1⟩:=h;exact wpList_mapUpdate_own w hg m x v 217 hop 9 249 iQ Tryz.underlying217 _ b n D hm g1 hn _ _ (.string d.data.toList) hx rfl (iP hd) (.held (a.eval v)) [] rfl (fun w' h1 h2=>hK w' ⟨_,h1⟩ h2)
def iW (i1 i2 i3 i4:Nat) (s:ByteArray):Option Value:=if s=dR then some (.map (some i4)) else if s=dO then some (.map (some i3)) else if s=dN then some (.map (some i2)) else if s=dD then some (.map (some i1)) else none
theorem GH (i1 i2 i3 i4:Nat) (s:ByteArray):(iW i1 i2 i3 i4 s).isSome=mF s:=by
 unfold iW mF;by_cases h1:s=dR
 .subst h1;rfl
 rw[if_neg h1];by_cases h2:s=dO
 .subst h2;rfl
 rw[if_neg h2];by_cases h3:s=dN
 .subst h3;rfl
 rw[if_neg h3];by_cases h4:s=dD
 .subst h4;rfl
 rw[if_neg h4];have e1:fW s ⟨#[68,105,115,107]⟩=false:=bEq_ne h4;have e2:fW s ⟨#[78,101,116]⟩=false:=bEq_ne h3;have e3:fW s ⟨#[78,111,100,101]⟩=false:=bEq_ne h2;have e4:fW s ⟨#[82,117,108,101]⟩=false:=bEq_ne h1;rw[e1,e2,e3,e4];rfl
structure BK (b i1 i2 i3 i4 m:Nat) (w:World):Prop where
 o:MO w b 4 (iW i1 i2 i3 i4)
 m1:∃ n,n<=m/\MI w i1 n
 m2:∃ n,n<=m/\MI w i2 n
 m3:∃ n,n<=m/\MI w i3 n
 m4:∃ n,n<=m/\MI w i4 n
 lt:b<i1/\i1<i2/\i2<i3/\i3<i4
theorem BK.below {b i1 i2 i3 i4 m:Nat} {w w':World} (h:BK b i1 i2 i3 i4 m w) (hb:Below w.heap.size w w'):BK b i1 i2 i3 i4 m w':=by
 obtain⟨n1,h1,h1'⟩:=h.m1;obtain⟨n2,h2,h2'⟩:=h.m2;obtain⟨n3,h3,h3'⟩:=h.m3;obtain⟨n4,h4,h4'⟩:=h.m4;exact⟨h.o.below hb,⟨n1,h1,h1'.below hb⟩,⟨n2,h2,h2'.below hb⟩,⟨n3,h3,h3'.below hb⟩,⟨n4,h4,h4'.below hb⟩,h.lt⟩
def SE (w:World) (e:Ending) (w':World):Prop:=∃ b i1 i2 i3 i4,e=.returned (.map (some b))/\MO w' b 4 (iW i1 i2 i3 i4)/\Below w.heap.size w w'
theorem JG (w:World):(Instr.index 251 (.agg zB) (.int .i64 0)).run Tryz.prog w=.ok (.agg #[.string ⟨#[68,105,115,107]⟩,.string ⟨#[83,105,122,101]⟩,.int .i8 2,.bool false]) w:=by kernel_rfl
theorem JF (w:World):(Instr.index 251 (.agg zB) (.int .i64 1)).run Tryz.prog w=.ok (.agg #[.string ⟨#[68,105,115,107]⟩,.string ⟨#[84,97,103,115]⟩,.int .i8 4,.bool false]) w:=by kernel_rfl
theorem JE (w:World):(Instr.index 251 (.agg zB) (.int .i64 2)).run Tryz.prog w=.ok (.agg #[.string ⟨#[68,105,115,107]⟩,.string ⟨#[75,105,110,100]⟩,.int .i8 3,.bool true]) w:=by kernel_rfl
theorem JD (w:World):(Instr.index 251 (.agg zB) (.int .i64 3)).run Tryz.prog w=.ok (.agg #[.string ⟨#[78,101,116]⟩,.string ⟨#[76,97,98,101,108]⟩,.int .i8 3,.bool false]) w:=by kernel_rfl
theorem JC (w:World):(Instr.index 251 (.agg zB) (.int .i64 4)).run Tryz.prog w=.ok (.agg #[.string ⟨#[78,101,116]⟩,.string ⟨#[82,97,110,103,101]⟩,.int .i8 3,.bool true]) w:=by kernel_rfl
theorem JA (w:World):(Instr.index 251 (.agg zB) (.int .i64 5)).run Tryz.prog w=.ok (.agg #[.string ⟨#[78,111,100,101]⟩,.string ⟨#[67,111,117,110,116]⟩,.int .i8 2,.bool false]) w:=by kernel_rfl
theorem I9 (w:World):(Instr.index 251 (.agg zB) (.int .i64 6)).run Tryz.prog w=.ok (.agg #[.string ⟨#[78,111,100,101]⟩,.string ⟨#[68,105,115,107]⟩,.int .i8 3,.bool false]) w:=by kernel_rfl
theorem I8 (w:World):(Instr.index 251 (.agg zB) (.int .i64 7)).run Tryz.prog w=.ok (.agg #[.string ⟨#[78,111,100,101]⟩,.string ⟨#[73,109,97,103,101]⟩,.int .i8 3,.bool true]) w:=by kernel_rfl
theorem I7 (w:World):(Instr.index 251 (.agg zB) (.int .i64 8)).run Tryz.prog w=.ok (.agg #[.string ⟨#[78,111,100,101]⟩,.string ⟨#[78,101,116]⟩,.int .i8 3,.bool true]) w:=by kernel_rfl
theorem I6 (w:World):(Instr.index 251 (.agg zB) (.int .i64 9)).run Tryz.prog w=.ok (.agg #[.string ⟨#[82,117,108,101]⟩,.string ⟨#[78,111,100,101]⟩,.int .i8 3,.bool false]) w:=by kernel_rfl
theorem FQ (w:World):(Instr.index 251 (.agg zB) (.int .i64 10)).run Tryz.prog w=.ok (.agg #[.string ⟨#[82,117,108,101]⟩,.string ⟨#[80,111,114,116]⟩,.int .i8 2,.bool true]) w:=by kernel_rfl
theorem BK.turn1 (h:BK b i1 i2 i3 i4 m w) (hb:Below w.heap.size w w1) (hg:w1.grownBy w' (some i1)) (hm:MI w' i1 (n+1)) (hn:n<=m):BK b i1 i2 i3 i4 (m+1) w':=by
 obtain⟨n1,h1,h1'⟩:=h.m1;obtain⟨n2,h2,h2'⟩:=h.m2;obtain⟨n3,h3,h3'⟩:=h.m3;obtain⟨n4,h4,h4'⟩:=h.m4;have hl:=h.lt;exact⟨(h.o.below hb).grown hg (by omega),⟨n+1,by omega,hm⟩,⟨n2,by omega,(h2'.below hb).grown hg (by omega)⟩,⟨n3,by omega,(h3'.below hb).grown hg (by omega)⟩,⟨n4,by omega,(h4'.below hb).grown hg (by omega)⟩,hl⟩
theorem BK.turn2 (h:BK b i1 i2 i3 i4 m w) (hb:Below w.heap.size w w1) (hg:w1.grownBy w' (some i2)) (hm:MI w' i2 (n+1)) (hn:n<=m):BK b i1 i2 i3 i4 (m+1) w':=by
 obtain⟨n1,h1,h1'⟩:=h.m1;obtain⟨n2,h2,h2'⟩:=h.m2;obtain⟨n3,h3,h3'⟩:=h.m3;obtain⟨n4,h4,h4'⟩:=h.m4;have hl:=h.lt;exact⟨(h.o.below hb).grown hg (by omega),⟨n1,by omega,(h1'.below hb).grown hg (by omega)⟩,⟨n+1,by omega,hm⟩,⟨n3,by omega,(h3'.below hb).grown hg (by omega)⟩,⟨n4,by omega,(h4'.below hb).grown hg (by omega)⟩,hl⟩
theorem BK.turn3 (h:BK b i1 i2 i3 i4 m w) (hb:Below w.heap.size w w1) (hg:w1.grownBy w' (some i3)) (hm:MI w' i3 (n+1)) (hn:n<=m):BK b i1 i2 i3 i4 (m+1) w':=by
 obtain⟨n1,h1,h1'⟩:=h.m1;obtain⟨n2,h2,h2'⟩:=h.m2;obtain⟨n3,h3,h3'⟩:=h.m3;obtain⟨n4,h4,h4'⟩:=h.m4;have hl:=h.lt;exact⟨(h.o.below hb).grown hg (by omega),⟨n1,by omega,(h1'.below hb).grown hg (by omega)⟩,⟨n2,by omega,(h2'.below hb).grown hg (by omega)⟩,⟨n+1,by omega,hm⟩,⟨n4,by omega,(h4'.below hb).grown hg (by omega)⟩,hl⟩
theorem BK.turn4 (h:BK b i1 i2 i3 i4 m w) (hb:Below w.heap.size w w1) (hg:w1.grownBy w' (some i4)) (hm:MI w' i4 (n+1)) (hn:n<=m):BK b i1 i2 i3 i4 (m+1) w':=by
 obtain⟨n1,h1,h1'⟩:=h.m1;obtain⟨n2,h2,h2'⟩:=h.m2;obtain⟨n3,h3,h3'⟩:=h.m3;obtain⟨n4,h4,h4'⟩:=h.m4;have hl:=h.lt;exact⟨(h.o.below hb).grown hg (by omega),⟨n1,by omega,(h1'.below hb).grown hg (by omega)⟩,⟨n2,by omega,(h2'.below hb).grown hg (by omega)⟩,⟨n3,by omega,(h3'.below hb).grown hg (by omega)⟩,⟨n+1,by omega,hm⟩,hl⟩
theorem kinds_any (w:World) :
 Calls Tryz.prog 141 #[] w (SE w):=by
 have hmm:=@run_makeMap Tryz.prog;have HM0:=Hd ((MO.new w).below ((aB _ (w.alloc (.map #[] 0))).alloc (aA _) (.map #[] 0)));go_enter Tryz.func141,Tryz.ntmps141;go_upto_region 2 with (first
  | (with_reducible refine put_MO rfl (.tmp 4) (.const (.string ⟨#[68,105,115,107]⟩)) (.tmp 5) rfl w.heap.size 0 (fun _=>none) rfl HM0.o (by simp[maxLen]) ⟨#[68,105,115,107]⟩ (by simp[maxLen,ByteArray.size]) rfl (.map (some (w.heap.size+1))) rfl ?_);intro w1 hm1 hg1;have HM1:=Hd hm1;have HG1:=Hd hg1;clear hm1 hg1
  | (with_reducible refine put_MO rfl (.tmp 4) (.const (.string ⟨#[78,101,116]⟩)) (.tmp 6) rfl w.heap.size 1 _ rfl (HM1.o.below ((aB _ w1).alloc (aA _) (.map #[] 0))) (by simp[maxLen]) ⟨#[78,101,116]⟩ (by simp[maxLen,ByteArray.size]) rfl (.map (some w1.heap.size)) rfl ?_);intro w2 hm2 hg2;have HM2:=Hd hm2;have HG2:=Hd hg2;clear hm2 hg2
  | (with_reducible refine put_MO rfl (.tmp 4) (.const (.string ⟨#[78,111,100,101]⟩)) (.tmp 7) rfl w.heap.size 2 _ rfl (HM2.o.below ((aB _ w2).alloc (aA _) (.map #[] 0))) (by simp[maxLen]) ⟨#[78,111,100,101]⟩ (by simp[maxLen,ByteArray.size]) rfl (.map (some w2.heap.size)) rfl ?_);intro w3 hm3 hg3;have HM3:=Hd hm3;have HG3:=Hd hg3;clear hm3 hg3
  | (with_reducible refine put_MO rfl (.tmp 4) (.const (.string ⟨#[82,117,108,101]⟩)) (.tmp 8) rfl w.heap.size 3 _ rfl (HM3.o.below ((aB _ w3).alloc (aA _) (.map #[] 0))) (by simp[maxLen]) ⟨#[82,117,108,101]⟩ (by simp[maxLen,ByteArray.size]) rfl (.map (some w3.heap.size)) rfl ?_);intro w4 hm4 hg4;have HM4:=Hd hm4;have HG4:=Hd hg4;clear hm4 hg4)
 have HKD:Hid (BK w.heap.size (w.heap.size+1) w1.heap.size w2.heap.size w3.heap.size 0 w4):=Hd (by
  have z0:=HG1.o.size;have z1:=HG2.o.size;have z2:=HG3.o.size;rw[show ((w.alloc (.map #[] 0)).alloc (.map #[] 0)).heap.size=w.heap.size+2 by simp] at z0;rw[show (w1.alloc (.map #[] 0)).heap.size=w1.heap.size+1 by simp] at z1;rw[show (w2.alloc (.map #[] 0)).heap.size=w2.heap.size+1 by simp] at z2;have al:∀ (v:World),Below v.heap.size v (v.alloc (.map #[] 0)):=fun v=>(aB _ v).alloc (aA _) _
  have m1:MI ((w.alloc (.map #[] 0)).alloc (.map #[] 0)) (w.heap.size+1) 0:=by
   have:=MI.new (w.alloc (.map #[] 0));rwa [show (w.alloc (.map #[] 0)).heap.size=w.heap.size+1 by simp] at this
  refine⟨HM4.o,⟨0,aA _,?_⟩,⟨0,aA _,?_⟩,⟨0,aA _,?_⟩,⟨0,aA _,?_⟩,by omega⟩
  .exact((((((m1.grown HG1.o (by omega)).below (al _)).grown HG2.o (by omega)).below (al _)).grown HG3.o (by omega)).below (al _)).grown HG4.o (by omega)
  .exact(((((MI.new w1).grown HG2.o (by omega)).below (al _)).grown HG3.o (by omega)).below (al _)).grown HG4.o (by omega)
  .exact(((MI.new w2).grown HG3.o (by omega)).below (al _)).grown HG4.o (by omega)
  exact(MI.new w3).grown HG4.o (by omega))
 have HB4:Hid (Below w.heap.size w w4):=Hd (by
  have al:∀ {v:World},Below w.heap.size w v->Below w.heap.size w (v.alloc (.map #[] 0)):=fun h=>h.alloc h.size _
  have gr:∀ {u v:World},Below w.heap.size w u->u.grownBy v (some w.heap.size)->Below w.heap.size w v:=fun h k=>h.grown k h.size (fun g e=>by injection e with e;omega)
  exact gr (al (gr (al (gr (al (gr (al (al (aB _ w))) HG1.o)) HG2.o)) HG3.o)) HG4.o)
 obtain⟨i1,hi1⟩:∃ i1,i1=w.heap.size+1:=⟨_,rfl⟩;obtain⟨i2,hi2⟩:∃ i2,i2=w1.heap.size:=⟨_,rfl⟩;obtain⟨i3,hi3⟩:∃ i3,i3=w2.heap.size:=⟨_,rfl⟩;obtain⟨i4,hi4⟩:∃ i4,i4=w3.heap.size:=⟨_,rfl⟩;rw[<-hi1,<-hi2,<-hi3,<-hi4] at HKD;rw[<-hi1,<-hi2,<-hi3,<-hi4];clear HM0 HM1 HM2 HM3 HM4 HG1 HG2 HG3 HG4 hi1 hi2 hi3 hi4;go_wp2_with fail;go_loopg [33] 11 (fun g i wr=>∃ j:Nat,j+g=11/\i=.int .i64 (j:Nat)/\Hid (BK w.heap.size i1 i2 i3 i4 j wr)/\Hid (Below w.heap.size w wr))
 case atStart=>exact⟨0,by omega,rfl,HKD,HB4⟩
 obtain⟨j,hj,rfl,HK,HB⟩:=hrel;rename World=>wo
 cases gk with
 | zero =>
   have hjj:j=11:=by omega
   subst hjj;go_wp2;go_ret;exact⟨w.heap.size,i1,i2,i3,i4,rfl,HK.o.o,HB.o⟩
 | succ g =>
   have hjs:j=0∨j=1∨j=2∨j=3∨j=4∨j=5∨j=6∨j=7∨j=8∨j=9∨j=10:=by omega
   rcases hjs with rfl | rfl | rfl | rfl | rfl | rfl | rfl | rfl | rfl | rfl | rfl
   .have hrow:=fun W=>JG W
    have hb1:Below wo.heap.size wo (wo.alloc (.cells #[.string ⟨#[68,105,115,107]⟩,.string ⟨#[83,105,122,101]⟩,.int .i8 2,.bool false] 250)):=(aB _ wo).alloc (aA _) _;have hlk:=(HK.o.o.below hb1).lookF (d:=⟨#[68,105,115,107]⟩) (by simp[maxLen,ByteArray.size]);rw[show (iW i1 i2 i3 i4 ⟨#[68,105,115,107]⟩).getD (.map none)=.map (some i1) from rfl] at hlk;obtain⟨n1,hn1,hm1⟩:=HK.o.m1;have HMM:=Hd (hm1.below hb1);have HB1:=Hd hb1;clear hb1 hm1;go_wp2_with (refine put_MI rfl _ _ _ rfl i1 n1 rfl HMM.o (by simp[maxLen];omega) ⟨#[83,105,122,101]⟩ (by simp[maxLen,ByteArray.size]) rfl ?_;intro w5 hm5 hg5;have HM5:=Hd hm5;have HG5:=Hd hg5;clear hm5 hg5);go_roundg g
    case measure=>omega
    case rel=>exact⟨0+1,by omega,by go_num,Hd (HK.o.turn1 HB1.o HG5.o HM5.o hn1),Hd ((HB.o.trans (HB1.o.mono HB.o.size)).grown HG5.o (HB.o.trans (HB1.o.mono HB.o.size)).size (fun g e=>by injection e with e;have:=HK.o.lt;omega))⟩
   .have hrow:=fun W=>JF W
    have hb1:Below wo.heap.size wo (wo.alloc (.cells #[.string ⟨#[68,105,115,107]⟩,.string ⟨#[84,97,103,115]⟩,.int .i8 4,.bool false] 250)):=(aB _ wo).alloc (aA _) _;have hlk:=(HK.o.o.below hb1).lookF (d:=⟨#[68,105,115,107]⟩) (by simp[maxLen,ByteArray.size]);rw[show (iW i1 i2 i3 i4 ⟨#[68,105,115,107]⟩).getD (.map none)=.map (some i1) from rfl] at hlk;obtain⟨n1,hn1,hm1⟩:=HK.o.m1;have HMM:=Hd (hm1.below hb1);have HB1:=Hd hb1;clear hb1 hm1;go_wp2_with (refine put_MI rfl _ _ _ rfl i1 n1 rfl HMM.o (by simp[maxLen];omega) ⟨#[84,97,103,115]⟩ (by simp[maxLen,ByteArray.size]) rfl ?_;intro w5 hm5 hg5;have HM5:=Hd hm5;have HG5:=Hd hg5;clear hm5 hg5);go_roundg g
    case measure=>omega
    case rel=>exact⟨1+1,by omega,by go_num,Hd (HK.o.turn1 HB1.o HG5.o HM5.o hn1),Hd ((HB.o.trans (HB1.o.mono HB.o.size)).grown HG5.o (HB.o.trans (HB1.o.mono HB.o.size)).size (fun g e=>by injection e with e;have:=HK.o.lt;omega))⟩
   .have hrow:=fun W=>JE W
    have hb1:Below wo.heap.size wo (wo.alloc (.cells #[.string ⟨#[68,105,115,107]⟩,.string ⟨#[75,105,110,100]⟩,.int .i8 3,.bool true] 250)):=(aB _ wo).alloc (aA _) _;have hlk:=(HK.o.o.below hb1).lookF (d:=⟨#[68,105,115,107]⟩) (by simp[maxLen,ByteArray.size]);rw[show (iW i1 i2 i3 i4 ⟨#[68,105,115,107]⟩).getD (.map none)=.map (some i1) from rfl] at hlk;obtain⟨n1,hn1,hm1⟩:=HK.o.m1;have HMM:=Hd (hm1.below hb1);have HB1:=Hd hb1;clear hb1 hm1;go_wp2_with (refine put_MI rfl _ _ _ rfl i1 n1 rfl HMM.o (by simp[maxLen];omega) ⟨#[75,105,110,100]⟩ (by simp[maxLen,ByteArray.size]) rfl ?_;intro w5 hm5 hg5;have HM5:=Hd hm5;have HG5:=Hd hg5;clear hm5 hg5);go_roundg g
    case measure=>omega
    case rel=>exact⟨2+1,by omega,by go_num,Hd (HK.o.turn1 HB1.o HG5.o HM5.o hn1),Hd ((HB.o.trans (HB1.o.mono HB.o.size)).grown HG5.o (HB.o.trans (HB1.o.mono HB.o.size)).size (fun g e=>by injection e with e;have:=HK.o.lt;omega))⟩
   .have hrow:=fun W=>JD W
    have hb1:Below wo.heap.size wo (wo.alloc (.cells #[.string ⟨#[78,101,116]⟩,.string ⟨#[76,97,98,101,108]⟩,.int .i8 3,.bool false] 250)):=(aB _ wo).alloc (aA _) _;have hlk:=(HK.o.o.below hb1).lookF (d:=⟨#[78,101,116]⟩) (by simp[maxLen,ByteArray.size]);rw[show (iW i1 i2 i3 i4 ⟨#[78,101,116]⟩).getD (.map none)=.map (some i2) from rfl] at hlk;obtain⟨n1,hn1,hm1⟩:=HK.o.m2;have HMM:=Hd (hm1.below hb1);have HB1:=Hd hb1;clear hb1 hm1;go_wp2_with (refine put_MI rfl _ _ _ rfl i2 n1 rfl HMM.o (by simp[maxLen];omega) ⟨#[76,97,98,101,108]⟩ (by simp[maxLen,ByteArray.size]) rfl ?_;intro w5 hm5 hg5;have HM5:=Hd hm5;have HG5:=Hd hg5;clear hm5 hg5);go_roundg g
    case measure=>omega
    case rel=>exact⟨3+1,by omega,by go_num,Hd (HK.o.turn2 HB1.o HG5.o HM5.o hn1),Hd ((HB.o.trans (HB1.o.mono HB.o.size)).grown HG5.o (HB.o.trans (HB1.o.mono HB.o.size)).size (fun g e=>by injection e with e;have:=HK.o.lt;omega))⟩
   .have hrow:=fun W=>JC W
    have hb1:Below wo.heap.size wo (wo.alloc (.cells #[.string ⟨#[78,101,116]⟩,.string ⟨#[82,97,110,103,101]⟩,.int .i8 3,.bool true] 250)):=(aB _ wo).alloc (aA _) _;have hlk:=(HK.o.o.below hb1).lookF (d:=⟨#[78,101,116]⟩) (by simp[maxLen,ByteArray.size]);rw[show (iW i1 i2 i3 i4 ⟨#[78,101,116]⟩).getD (.map none)=.map (some i2) from rfl] at hlk;obtain⟨n1,hn1,hm1⟩:=HK.o.m2;have HMM:=Hd (hm1.below hb1);have HB1:=Hd hb1;clear hb1 hm1;go_wp2_with (refine put_MI rfl _ _ _ rfl i2 n1 rfl HMM.o (by simp[maxLen];omega) ⟨#[82,97,110,103,101]⟩ (by simp[maxLen,ByteArray.size]) rfl ?_;intro w5 hm5 hg5;have HM5:=Hd hm5;have HG5:=Hd hg5;clear hm5 hg5);go_roundg g
    case measure=>omega
    case rel=>exact⟨4+1,by omega,by go_num,Hd (HK.o.turn2 HB1.o HG5.o HM5.o hn1),Hd ((HB.o.trans (HB1.o.mono HB.o.size)).grown HG5.o (HB.o.trans (HB1.o.mono HB.o.size)).size (fun g e=>by injection e with e;have:=HK.o.lt;omega))⟩
   .have hrow:=fun W=>JA W
    have hb1:Below wo.heap.size wo (wo.alloc (.cells #[.string ⟨#[78,111,100,101]⟩,.string ⟨#[67,111,117,110,116]⟩,.int .i8 2,.bool false] 250)):=(aB _ wo).alloc (aA _) _;have hlk:=(HK.o.o.below hb1).lookF (d:=⟨#[78,111,100,101]⟩) (by simp[maxLen,ByteArray.size]);rw[show (iW i1 i2 i3 i4 ⟨#[78,111,100,101]⟩).getD (.map none)=.map (some i3) from rfl] at hlk;obtain⟨n1,hn1,hm1⟩:=HK.o.m3;have HMM:=Hd (hm1.below hb1);have HB1:=Hd hb1;clear hb1 hm1;go_wp2_with (refine put_MI rfl _ _ _ rfl i3 n1 rfl HMM.o (by simp[maxLen];omega) ⟨#[67,111,117,110,116]⟩ (by simp[maxLen,ByteArray.size]) rfl ?_;intro w5 hm5 hg5;have HM5:=Hd hm5;have HG5:=Hd hg5;clear hm5 hg5);go_roundg g
    case measure=>omega
    case rel=>exact⟨5+1,by omega,by go_num,Hd (HK.o.turn3 HB1.o HG5.o HM5.o hn1),Hd ((HB.o.trans (HB1.o.mono HB.o.size)).grown HG5.o (HB.o.trans (HB1.o.mono HB.o.size)).size (fun g e=>by injection e with e;have:=HK.o.lt;omega))⟩
   .have hrow:=fun W=>I9 W
    have hb1:Below wo.heap.size wo (wo.alloc (.cells #[.string ⟨#[78,111,100,101]⟩,.string ⟨#[68,105,115,107]⟩,.int .i8 3,.bool false] 250)):=(aB _ wo).alloc (aA _) _;have hlk:=(HK.o.o.below hb1).lookF (d:=⟨#[78,111,100,101]⟩) (by simp[maxLen,ByteArray.size]);rw[show (iW i1 i2 i3 i4 ⟨#[78,111,100,101]⟩).getD (.map none)=.map (some i3) from rfl] at hlk;obtain⟨n1,hn1,hm1⟩:=HK.o.m3;have HMM:=Hd (hm1.below hb1);have HB1:=Hd hb1;clear hb1 hm1;go_wp2_with (refine put_MI rfl _ _ _ rfl i3 n1 rfl HMM.o (by simp[maxLen];omega) ⟨#[68,105,115,107]⟩ (by simp[maxLen,ByteArray.size]) rfl ?_;intro w5 hm5 hg5;have HM5:=Hd hm5;have HG5:=Hd hg5;clear hm5 hg5);go_roundg g
    case measure=>omega
    case rel=>exact⟨6+1,by omega,by go_num,Hd (HK.o.turn3 HB1.o HG5.o HM5.o hn1),Hd ((HB.o.trans (HB1.o.mono HB.o.size)).grown HG5.o (HB.o.trans (HB1.o.mono HB.o.size)).size (fun g e=>by injection e with e;have:=HK.o.lt;omega))⟩
   .have hrow:=fun W=>I8 W
    have hb1:Below wo.heap.size wo (wo.alloc (.cells #[.string ⟨#[78,111,100,101]⟩,.string ⟨#[73,109,97,103,101]⟩,.int .i8 3,.bool true] 250)):=(aB _ wo).alloc (aA _) _;have hlk:=(HK.o.o.below hb1).lookF (d:=⟨#[78,111,100,101]⟩) (by simp[maxLen,ByteArray.size]);rw[show (iW i1 i2 i3 i4 ⟨#[78,111,100,101]⟩).getD (.map none)=.map (some i3) from rfl] at hlk;obtain⟨n1,hn1,hm1⟩:=HK.o.m3;have HMM:=Hd (hm1.below hb1);have HB1:=Hd hb1;clear hb1 hm1;go_wp2_with (refine put_MI rfl _ _ _ rfl i3 n1 rfl HMM.o (by simp[maxLen];omega) ⟨#[73,109,97,103,101]⟩ (by simp[maxLen,ByteArray.size]) rfl ?_;intro w5 hm5 hg5;have HM5:=Hd hm5;have HG5:=Hd hg5;clear hm5 hg5);go_roundg g
    case measure=>omega
    case rel=>exact⟨7+1,by omega,by go_num,Hd (HK.o.turn3 HB1.o HG5.o HM5.o hn1),Hd ((HB.o.trans (HB1.o.mono HB.o.size)).grown HG5.o (HB.o.trans (HB1.o.mono HB.o.size)).size (fun g e=>by injection e with e;have:=HK.o.lt;omega))⟩
   .have hrow:=fun W=>I7 W
    have hb1:Below wo.heap.size wo (wo.alloc (.cells #[.string ⟨#[78,111,100,101]⟩,.string ⟨#[78,101,116]⟩,.int .i8 3,.bool true] 250)):=(aB _ wo).alloc (aA _) _;have hlk:=(HK.o.o.below hb1).lookF (d:=⟨#[78,111,100,101]⟩) (by simp[maxLen,ByteArray.size]);rw[show (iW i1 i2 i3 i4 ⟨#[78,111,100,101]⟩).getD (.map none)=.map (some i3) from rfl] at hlk;obtain⟨n1,hn1,hm1⟩:=HK.o.m3;have HMM:=Hd (hm1.below hb1);have HB1:=Hd hb1;clear hb1 hm1;go_wp2_with (refine put_MI rfl _ _ _ rfl i3 n1 rfl HMM.o (by simp[maxLen];omega) ⟨#[78,101,116]⟩ (by simp[maxLen,ByteArray.size]) rfl ?_;intro w5 hm5 hg5;have HM5:=Hd hm5;have HG5:=Hd hg5;clear hm5 hg5);go_roundg g
    case measure=>omega
    case rel=>exact⟨8+1,by omega,by go_num,Hd (HK.o.turn3 HB1.o HG5.o HM5.o hn1),Hd ((HB.o.trans (HB1.o.mono HB.o.size)).grown HG5.o (HB.o.trans (HB1.o.mono HB.o.size)).size (fun g e=>by injection e with e;have:=HK.o.lt;omega))⟩
   .have hrow:=fun W=>I6 W
    have hb1:Below wo.heap.size wo (wo.alloc (.cells #[.string ⟨#[82,117,108,101]⟩,.string ⟨#[78,111,100,101]⟩,.int .i8 3,.bool false] 250)):=(aB _ wo).alloc (aA _) _;have hlk:=(HK.o.o.below hb1).lookF (d:=⟨#[82,117,108,101]⟩) (by simp[maxLen,ByteArray.size]);rw[show (iW i1 i2 i3 i4 ⟨#[82,117,108,101]⟩).getD (.map none)=.map (some i4) from rfl] at hlk;obtain⟨n1,hn1,hm1⟩:=HK.o.m4;have HMM:=Hd (hm1.below hb1);have HB1:=Hd hb1;clear hb1 hm1;go_wp2_with (refine put_MI rfl _ _ _ rfl i4 n1 rfl HMM.o (by simp[maxLen];omega) ⟨#[78,111,100,101]⟩ (by simp[maxLen,ByteArray.size]) rfl ?_;intro w5 hm5 hg5;have HM5:=Hd hm5;have HG5:=Hd hg5;clear hm5 hg5);go_roundg g
    case measure=>omega
    case rel=>exact⟨9+1,by omega,by go_num,Hd (HK.o.turn4 HB1.o HG5.o HM5.o hn1),Hd ((HB.o.trans (HB1.o.mono HB.o.size)).grown HG5.o (HB.o.trans (HB1.o.mono HB.o.size)).size (fun g e=>by injection e with e;have:=HK.o.lt;omega))⟩
   have hrow:=fun W=>FQ W
   have hb1:Below wo.heap.size wo (wo.alloc (.cells #[.string ⟨#[82,117,108,101]⟩,.string ⟨#[80,111,114,116]⟩,.int .i8 2,.bool true] 250)):=(aB _ wo).alloc (aA _) _;have hlk:=(HK.o.o.below hb1).lookF (d:=⟨#[82,117,108,101]⟩) (by simp[maxLen,ByteArray.size]);rw[show (iW i1 i2 i3 i4 ⟨#[82,117,108,101]⟩).getD (.map none)=.map (some i4) from rfl] at hlk;obtain⟨n1,hn1,hm1⟩:=HK.o.m4;have HMM:=Hd (hm1.below hb1);have HB1:=Hd hb1;clear hb1 hm1;go_wp2_with (refine put_MI rfl _ _ _ rfl i4 n1 rfl HMM.o (by simp[maxLen];omega) ⟨#[80,111,114,116]⟩ (by simp[maxLen,ByteArray.size]) rfl ?_;intro w5 hm5 hg5;have HM5:=Hd hm5;have HG5:=Hd hg5;clear hm5 hg5);go_roundg g
   case measure=>omega
   case rel=>exact⟨10+1,by omega,by go_num,Hd (HK.o.turn4 HB1.o HG5.o HM5.o hn1),Hd ((HB.o.trans (HB1.o.mono HB.o.size)).grown HG5.o (HB.o.trans (HB1.o.mono HB.o.size)).size (fun g e=>by injection e with e;have:=HK.o.lt;omega))⟩
