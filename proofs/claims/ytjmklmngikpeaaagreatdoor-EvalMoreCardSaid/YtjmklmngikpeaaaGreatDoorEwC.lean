/- Part of the proof. -/
import Derived.Lib.AppendStr
import Derived.Test.YtjmklmngikpeaaaGreatDoorEw4
import Derived.Test.YtjmklmngikpeaaaGreatDoorEwA
set_option maxRecDepth 100000
set_option maxHeartbeats 16000000
set_option linter.unusedVariables false
set_option linter.unusedSimpArgs false
namespace Go.Proofs.YtjmklmngikpeaaaGreatDoor
open Go.RowKit Go.Maps Go.Lib
variable {Γ:Eg}{s:Es}{x:Ex}{ds xs:List Value}{base n q xc:Nat}{XA:Option Addr}{e:TypeId}{r:Va}{v:Value}{W:Vh}{w w' w2 w3 w5 wq:World}
theorem LZ {sz:Nat} (h:w.ownsRow base e sz v n xs) (hb:Below w.heap.size w w'):w'.ownsRow base e sz v n xs :=
 h.kept (row:=none) ⟨hb.os,hb.tape,hb.output,hb.size,fun k hk _=>hb.block k hk⟩ (by
  rcases h.2 with ⟨rfl,_⟩ | ⟨g,cap,cur,rfl,_⟩
  .exact .inl rfl
  exact .inr (by simp[Value.ownBlock]))
theorem wpList_bs {ops:Array Oper} {rest:List Oper} {o:Oper} {a:Act} {Q:Exit->Act->World->Prop} (hgd:o.guard=none) (sl x:Operand)
 (ho:o.op=.call {callee:=.builtin .append,args:=#[sl,x],argTypes:=#[178,9]}) (base:Nat) (A:Option Addr) (c:Nat) (t:ByteArray)
 (hs:a.eval sl=.slice A t.size c) (hown:w.ownsRow base 5 1 (.slice A t.size c) t.size (bv t.data.toList)) (s:ByteArray) (hx:a.eval x=.string s)
 (hz:t.size+s.size<=140737488355328) (hbase:base<=w.heap.size)
 (h:∀ A' c' w',w'.ownsRow base 5 1 (.slice A' (t++s).size c') (t++s).size (bv (t++s).data.toList)->w.grownBy w' (Value.slice A t.size c).ownBlock->wpList Tryz.prog ops Q rest (a.put o.dst (.slice A' (t++s).size c')) w'):wpList Tryz.prog ops Q (o::rest) a w:=by
 obtain⟨i0,hi,hz0,hz1,hz2⟩:=info_parts info_u8;refine wpList_append_own_string w hgd sl x 178 9 ho base 5 i0 Tryz.underlying178 Tryz.underlying9 hi hz0 hz1 hz2 _ t.size (bv t.data.toList) hs hown s hx (by unfold maxLen;omega) hz hbase ?_;intro v' w' h1 h2 _;have hcat:(t++s).data.toList=t.data.toList++s.data.toList:=by simp
 rw[show strCells s=bv s.data.toList from rfl,<-q9,<-hcat,<-aY] at h1;obtain⟨A',c',rfl⟩:=JT h1;exact h A' c' w' h1 h2
theorem CR (btw:ByteArray) (fst:Bool) (v:Va) (l:List Va) (a:ByteArray × Nat × Bool):joinG btw fst (v::l) a=(if v.unk=false/\v.v.kind=2/\nFits v.v.num=false then none else
 joinG btw false l ((if fst then a.1 else a.1++btw)++(if v.unk=false/\v.v.kind=2 then nTx v.v.num else v.v.text),(if fst then a.2.1 else a.2.1+btw.size)+v.most,a.2.2&&!v.unk)):=rfl
theorem kH {sz:Nat} {t:TypeId} {cs:Array Value} (h:w.ownsRow base e sz v n xs) (hb:Blk w q cs t) (hne:t≠e):v.ownBlock≠some q:=by
 rcases h.2 with ⟨rfl,_⟩ | ⟨g,cap,cur,rfl,_,hg,_⟩
 .simp[Value.ownBlock]
 intro he;simp[Value.ownBlock] at he;subst he;rw[show w.heap[g]?=_ from hb] at hg;injection hg with hg;injection hg with _ ht;exact hne ht
structure JB (w0:World) (B:Option Addr) (bc:Nat) (t:ByteArray) (w:World):Prop where
 own:w.ownsRow (w0.heap.size+1) 5 1 (.slice B t.size bc) t.size (bv t.data.toList)
 rb:Blk w w0.heap.size zA 74
 bl:Below w0.heap.size w0 w
theorem JB.below {w0 w w':World} {B:Option Addr} {bc:Nat} {t:ByteArray} (h:JB w0 B bc t w) (hb:Below w.heap.size w w'):JB w0 B bc t w':=⟨LZ h.own hb,h.rb.below hb,h.bl.trans (hb.mono h.bl.size)⟩
theorem JB.app {w0:World} {B B':Option Addr} {bc bc':Nat} {t t':ByteArray} (h:JB w0 B bc t w) (ho:w'.ownsRow (w0.heap.size+1) 5 1 (.slice B' t'.size bc') t'.size (bv t'.data.toList)) (hg:w.grownBy w' (Value.slice B t.size bc).ownBlock):JB w0 B' bc' t' w' :=
 ⟨ho,h.rb.grown hg (kH h.own h.rb (by decide)),H6 h.bl (QW h.own (fI _)) hg h.bl.size⟩
theorem S4 (hg:Trs.at (W.priv w.heap.size (w.heap.size+1)).S w3 r.tr ds) (hL:∀ k,W.F k->k<w.heap.size) (hB:Below w.heap.size w wq) (hd:Dv Γ (W.priv w.heap.size (w.heap.size+1)) s w3) (ho:fP W.F wq w3) (h5:fP (fun k=>k=w.heap.size) w3 w5):ValO Γ W (r,s) w (.returned (.agg ds.toArray)) w5 :=
 ⟨_,rfl,(hg.off h5 (fun k hk e=>.inl (by
   subst e;exact .inr ⟨aA _,Nat.lt_succ_self _⟩))).leave,(hd.off h5 (fun k hk e=>by
   subst e;exact⟨.inr ⟨aA _,Nat.lt_succ_self _⟩,fun h=>by have:=hL _ h;omega⟩)).leave,((aK hB W.F).F2 (W:=W) ho).trans h5 (fun k hk e=>by omega)⟩
def jS (v:Va):ByteArray:=if v.unk=false/\v.v.kind=2 then nTx v.v.num else v.v.text
theorem S5 {v:Va} (h:oY v):(jS v).size<=10000000:=by
 unfold jS;split
 .have:=J1 v.v.num;omega
 exact h.t2
theorem rC (Γ:Eg) (W:Vh) (s:Es) (l:List Va) (A:Option Addr) (c:Nat) (btw:ByteArray) (w:World) (hF:Fxv Γ W w) (hD:Dv Γ W s w) (hl:Ls W.S w 9 96 Va.tr A c l) (hp:∀ v∈l,FY v) (hll:l.length<=1000) (hbt:btw.size<=9000) :
 Calls Tryz.prog 96 #[.pointer (some ⟨W.wb,0,none⟩),.slice A l.length c,.string btw] w (ValO Γ W (gA l btw s) w):=by
 obtain⟨W1,hW1⟩:∃ W1,W1=w.alloc (.cells zA 74):=⟨_,rfl⟩;have hb1:Below w.heap.size w W1:=by rw[hW1];exact(aB _ w).alloc (aA _) _
 have hrb:Blk W1 w.heap.size zA 74:=by rw[hW1];exact aJ w _ _
 have hcap:=hl.cap;have e9:W1.cell? ⟨W.wb,9,none⟩=some (.int .i64 (s.e:Int)):=(hD.below hb1).wk.cell 9 rfl;have HF:=Hd hF;have HD:=Hd hD;have HL:=Hd hl;have HP:=Hd hp;have HLP:Hid (∀ k,W.F k->k<w.heap.size):=Hd hD.lts;have HW1:=Hd hW1;have HRB:=Hd hrb;have HB1:=Hd hb1;have HJF:Hid (gA l btw s=if s.e≠0 then (gE,s) else match joinG btw true l (ByteArray.empty,0,true) with | none=>(gE,s.fail 121) | some a=>if 4096<a.2.1 then (gE,s.fail 3) else (qI a.1 a.2.2 a.2.1,s)):=Hd rfl;have H0:Hid (JB w none 0 ByteArray.empty W1):=Hd ⟨World.ownsRow_nil _ _ _ _,hrb,hb1⟩;clear hF hD hl hp hW1 hrb hb1;by_cases he:s.e=0
 .rw[he] at e9;have HJ2:Hid (gA l btw s=match joinG btw true l (ByteArray.empty,0,true) with | none=>(gE,s.fail 121) | some a=>if 4096<a.2.1 then (gE,s.fail 3) else (qI a.1 a.2.2 a.2.1,s)):=Hd (by rw[HJF.o,gT he]);have HE0:=Hd he;clear he HJF;go_enter Tryz.func96,Tryz.ntmps96;go_upto_region 1 with fail;rw[<-HW1.o];go_wp2_with fail;go_loopg [7,8,9,23] l.length (fun g b7 b8 b9 i wr=>∃ (j:Nat) (t:ByteArray) (m:Nat) (k:Bool) (B:Option Addr) (bc:Nat),j+g=l.length/\b7=.slice B t.size bc/\b8=.bool k/\b9=.int .i64 (m:Nat)/\i=.int .i64 (j:Nat)/\m<=19000*j/\t.size<=10009000*j/\Hid (JB w B bc t wr)/\Hid (joinG btw true l (ByteArray.empty,0,true)=joinG btw (decide (j=0)) (l.drop j) (t,m,k)))
  case atStart=>exact⟨0,ByteArray.empty,0,true,none,0,by omega,rfl,rfl,rfl,rfl,by omega,by decide,H0,Hd rfl⟩
  obtain⟨j,t,m,k,B,bc,hj,rfl,rfl,rfl,rfl,hm,hts,HB,HJ⟩:=hrel;rename World=>wr
  cases gk with
  | zero =>
    have hjj:¬((j:Int)<(l.length:Int)):=by omega
    have HJ3:Hid (gA l btw s=if 4096<m then (gE,s.fail 3) else (qI t k m,s)):=Hd (by rw[HJ2.o,HJ.o,aP (by omega)];rfl);by_cases h4:4096<m
    .have h44:(4096:Int)<(m:Int):=by omega
     have HE:Hid (gA l btw s=(gE,s.fail 3)):=Hd (by rw[HJ3.o,if_pos h4]);clear HJ HJ2 HJ3;have HFA:=Hd (fZ Γ (W.priv w.heap.size (w.heap.size+1)) s _ (HF.o.priv HB.o.bl (by have:=HB.o.rb.lt;omega)) (HD.o.priv HB.o.bl _) 3 (by omega));go_wp2_with fail;refine HFA.o.mono ?_;rintro e w3 ⟨gs,rfl,hgt0,hd,ho⟩;have hgt:Trs.at (W.priv w.heap.size (w.heap.size+1)).S w3 gE.tr gs:=hgt0;obtain⟨VA,VB,vc,vd,rfl,-⟩:=fT hgt;have HGT:=Hd hgt;have HR3:=Hd (HB.o.rb.only ho (fun h=>by have:=HLP.o _ h;omega));have HD3:=Hd hd;have HO3:=Hd ho;clear hd ho hgt hgt0;go_wp2_with ((with_reducible refine is_store ?_);refine stV HR3.o ?_;intro w5 hk5 ho5;have HK5:=Hd hk5;have HO5:=Hd ho5;clear hk5 ho5);refine retV Tryz.results96 HK5.o ?_;rw[HE.o];exact S4 HGT.o HLP.o HB.o.bl HD3.o HO3.o HO5.o
    have h44:¬((4096:Int)<(m:Int)):=by omega
    have HE:Hid (gA l btw s=(qI t k m,s)):=Hd (by rw[HJ3.o,if_neg h4]);have hs1:=xG (P:=Tryz.prog) (w:=wr) 178 5 9 Tryz.underlying178 Tryz.underlying5 Tryz.underlying9 (Rd.of_own HB.o.own);rw[show (⟨t.data.toList.toArray⟩:ByteArray)=t by cases t;simp] at hs1;have HOF:=Hd (pE (fun _=>False) t k m wr (by omega) (by omega));have HB':=Hd HB.o.bl;clear HJ HJ2 HJ3;go_wp2_with fail;refine HOF.o.mono ?_;rintro e w3 ⟨ds,rfl,hdt,hdb⟩;obtain⟨v,hv⟩:∃ v,v=qI t k m:=⟨_,rfl⟩;rw[<-hv] at hdt HE;obtain⟨VA,VB,vc,vd,rfl,-⟩:=fT hdt;have HDT:=Hd hdt;have HB3:=Hd (HB.o.below hdb);have HR3:=Hd HB3.o.rb;clear hdt hdb hv hs1;go_wp2_with ((with_reducible refine is_store ?_);refine stV HR3.o ?_;intro w5 hk5 ho5;have HK5:=Hd hk5;have HO5:=Hd ho5;clear hk5 ho5);refine retV Tryz.results96 HK5.o ?_;rw[HE.o];have hbl:Below w.heap.size w w5:=HO5.o.belowB HB3.o.bl (fun k hk=>by omega);exact⟨_,rfl,(HDT.o.only HO5.o (fun _ h=>h.elim)).mono (fun _ h=>h.elim),HD.o.below hbl,aK hbl _⟩
  | succ g =>
    have hjj:(j:Int)<(l.length:Int):=by omega
    have hji:(0:Int)<=(j:Int)/\(j:Int)<(l.length:Int):=by omega
    obtain⟨v,hv⟩:=fO (l:=l) (i:=j) (by omega);obtain⟨ad,ds,hA,hdt,hdc⟩:=(HL.o.below HB.o.bl).elem Va.trlen hv;subst hA;obtain⟨VA,VB,vc,vd,rfl,-,-,hwk,hwn,-⟩:=fT hdt;obtain⟨e0,e1,e2,e3,e4,e5,e6,e7,e8⟩:=RY hdc;have hpo:=HP.o v (aD hv);have HVO:=Hd hpo.1;have HVM:Hid (v.most<=10000):=Hd hpo.1.ms;have HWN:=Hd (sE hwn);obtain⟨W2,hW2⟩:∃ W2,W2=wr.alloc (.cells (kA v VA vc VB vd) 74):=⟨_,rfl⟩;have hb2:Below wr.heap.size wr W2:=by rw[hW2];exact(aB _ wr).alloc (aA _) _
    have HK2:Hid (Blk W2 wr.heap.size (kA v VA vc VB vd) 74):=Hd (by rw[hW2];exact aJ _ _ _);have HB2:=Hd (HB.o.below hb2);have HW2:=Hd hW2;obtain⟨t1,ht1⟩:∃ t1,t1=if j=0 then t else t++btw:=⟨_,rfl⟩;obtain⟨m1,hm1⟩:∃ m1,m1=if j=0 then m else m+btw.size:=⟨_,rfl⟩;obtain⟨s1,hs1⟩:∃ s1,s1=jS v:=⟨_,rfl⟩;have HS1:=Hd hs1;have HSS:Hid (s1.size<=10000000):=Hd (by rw[hs1];exact S5 hpo.1);have hm1b:m1<=19000*j+9000:=by rw[hm1];split<;>omega
    have HTS:Hid (t1.size<=10009000*j+9000):=Hd (by
     rw[ht1];split
     .omega
     rw[aY];omega)
    have HJ4:Hid (joinG btw true l (ByteArray.empty,0,true)=if v.unk=false/\v.v.kind=2/\nFits v.v.num=false then none else joinG btw false (l.drop (j+1)) (t1++s1,m1+v.most,k&&!v.unk)):=Hd (by
     rw[HJ.o,fS hv,CR,ht1,hm1,hs1];by_cases hj0:j=0
     .simp[hj0,jS]
     simp[hj0,jS])
    have HT1:=Hd ht1;have HM1:=Hd hm1;clear hv hdt hdc hwk hwn hpo hb2 hW2 ht1 hm1 hs1 HJ;go_upto_if 29 with (fail);rw[<-HW2.o];go_cut [7,9] from 29 to 36 (fun v7 v9 wx=>∃ (B1:Option Addr) (bc1:Nat),v7=.slice B1 t1.size bc1/\v9=.int .i64 (m1:Nat)/\Hid (JB w B1 bc1 t1 wx)/\Hid (Blk wx wr.heap.size (kA v VA vc VB vd) 74))
    case first =>
     by_cases hj0:j=0
     .have h0:¬((0:Int)<(j:Int)):=by omega
      have HT2:Hid (t1=t):=Hd (by rw[HT1.o,if_pos hj0]);have HM2:Hid (m1=m):=Hd (by rw[HM1.o,if_pos hj0]);clear hj0;go_wp2_with fail;go_meet;exact⟨B,bc,by rw[HT2.o],by rw[HM2.o],by rw[HT2.o];exact HB2,HK2⟩
     have h0:(0:Int)<(j:Int):=by omega
     have HT2:Hid (t1=t++btw):=Hd (by rw[HT1.o,if_neg hj0]);have HM2:Hid (m1=m+btw.size):=Hd (by rw[HM1.o,if_neg hj0]);clear hj0;go_wp2_with (at_builtin;refine wpList_bs rfl (.tmp 30) (.tmp 31) rfl (w.heap.size+1) B bc t rfl HB2.o.own btw rfl (by omega) (by have:=HB2.o.rb.lt;omega) ?_;intro B1 bc1 w6 ho6 hg6;have HB6:=Hd (HB2.o.app ho6 hg6);have HV6:=Hd (HK2.o.grown hg6 (kH HB2.o.own HK2.o (by decide)));clear ho6 hg6);go_meet;exact⟨B1,bc1,by rw[HT2.o,aY],by rw[HM2.o];simp,by rw[HT2.o];exact HB6,HV6⟩
    obtain⟨B1,bc1,rfl,rfl,HB3,HV3⟩:=hcut;rename World=>wx
    obtain⟨f0,f1,f2,f3,f4,f5,f6,f7,f8⟩:=iY HV3.o;clear e0 e1 e2 e3 e4 e5 e6 e7 e8 HK2 HB2 HW2;have HSE:Hid (s1=if v.unk=false/\v.v.kind=2 then nTx v.v.num else v.v.text):=Hd HS1.o;rcases bD v.unk with q2 | q2
    .have HJ5:Hid (joinG btw true l (ByteArray.empty,0,true)=joinG btw false (l.drop (j+1)) (t1++s1,m1+v.most,k&&!v.unk)):=Hd (by rw[HJ4.o,if_neg (by rw[q2];simp)]);have hs2:s1=v.v.text:=by rw[HSE.o,if_neg (by rw[q2];simp)]
     rw[q2] at f0;subst hs2;have HVY:=HV3;clear HJ4 HJ2;have hw:wrap64 ((m1:Int)+(v.most:Int))=((m1+v.most:Nat):Int):=by have:=HVM.o;rw[IntWalk.wrap64_in _ ⟨by omega,by omega⟩];omega
     have hty:t1.size+(v.v.text).size<=140737488355328:=by have:=HTS.o;have:=HSS.o;omega
     go_wp2_with (at_builtin;refine wpList_bs rfl (.tmp 61) (.tmp 62) rfl (w.heap.size+1) B1 bc1 t1 rfl HB3.o.own (v.v.text) rfl hty (by have:=HB3.o.rb.lt;omega) ?_;intro B2 bc2 w6 ho6 hg6;have HB6:=Hd (HB3.o.app ho6 hg6);have HV6:=Hd (HVY.o.grown hg6 (kH HB3.o.own HVY.o (by decide)));obtain⟨z0,z1,z2,z3,z4,z5,z6,z7,z8⟩:=iY HV6.o;rw[q2] at z0;cases k<;>clear ho6 hg6)
     .go_roundg g
      case measure=>omega
      case rel=>exact⟨j+1,t1++v.v.text,m1+v.most,false,B2,bc2,by omega,by rw[aY],by simp,by first | rw[hw] | simp[hw],by go_num,by show _<=19000*(j+1);have:=HVM.o;omega,by show _<=10009000*(j+1);rw[aY];have:=HTS.o;have:=HSS.o;omega,HB6,Hd (by rw[HJ5.o,q2];simp)⟩
     go_roundg g
     case measure=>omega
     case rel=>exact⟨j+1,t1++v.v.text,m1+v.most,false,B2,bc2,by omega,by rw[aY],by simp,by first | rw[hw] | simp[hw],by go_num,by show _<=19000*(j+1);have:=HVM.o;omega,by show _<=10009000*(j+1);rw[aY];have:=HTS.o;have:=HSS.o;omega,HB6,Hd (by rw[HJ5.o,q2];simp)⟩
    rw[q2] at f0;rcases bD (v.v.kind==2) with k2 | k2
    .have hk2:v.v.kind=2:=by simpa using k2
     have htx:=Hd (vX v.v.num wx HWN.o.1 HWN.o.2);rcases bD (nFits v.v.num) with nf | nf
     .have HTX:Hid (Calls Tryz.prog 59 #[.int .i64 v.v.num] wx fun e w'=>e=.returned (.tuple #[.string (nTx v.v.num),.int .i64 0])/\Below wx.heap.size wx w'):=Hd (by have h:=htx.out;rw[nf] at h;exact h);have HJ5:Hid (joinG btw true l (ByteArray.empty,0,true)=joinG btw false (l.drop (j+1)) (t1++s1,m1+v.most,k&&!v.unk)):=Hd (by rw[HJ4.o,if_neg (by simp[nf])]);have hs2:s1=nTx v.v.num:=by rw[HSE.o,if_pos ⟨q2,hk2⟩]
      subst hs2;clear htx HJ4 HJ2;go_wp2_with fail;refine HTX.o.mono ?_;rintro e w3 ⟨rfl,hb3⟩;have HBY:=Hd (HB3.o.below hb3);have HVY:=Hd (HV3.o.below hb3);have hv3:=HVY.o;obtain⟨g0,g1,g2,g3,g4,g5,g6,g7,g8⟩:=iY hv3;clear hb3 hv3;have hw:wrap64 ((m1:Int)+(v.most:Int))=((m1+v.most:Nat):Int):=by have:=HVM.o;rw[IntWalk.wrap64_in _ ⟨by omega,by omega⟩];omega
      have hty:t1.size+(nTx v.v.num).size<=140737488355328:=by have:=HTS.o;have:=HSS.o;omega
      go_wp2_with (at_builtin;refine wpList_bs rfl (.tmp 61) (.tmp 62) rfl (w.heap.size+1) B1 bc1 t1 rfl HBY.o.own (nTx v.v.num) rfl hty (by have:=HBY.o.rb.lt;omega) ?_;intro B2 bc2 w6 ho6 hg6;have HB6:=Hd (HBY.o.app ho6 hg6);have HV6:=Hd (HVY.o.grown hg6 (kH HBY.o.own HVY.o (by decide)));obtain⟨z0,z1,z2,z3,z4,z5,z6,z7,z8⟩:=iY HV6.o;rw[q2] at z0;cases k<;>clear ho6 hg6)
      .go_roundg g
       case measure=>omega
       case rel=>exact⟨j+1,t1++nTx v.v.num,m1+v.most,false,B2,bc2,by omega,by rw[aY],by simp,by first | rw[hw] | simp[hw],by go_num,by show _<=19000*(j+1);have:=HVM.o;omega,by show _<=10009000*(j+1);rw[aY];have:=HTS.o;have:=HSS.o;omega,HB6,Hd (by rw[HJ5.o,q2];simp)⟩
      go_roundg g
      case measure=>omega
      case rel=>exact⟨j+1,t1++nTx v.v.num,m1+v.most,true,B2,bc2,by omega,by rw[aY],by simp,by first | rw[hw] | simp[hw],by go_num,by show _<=19000*(j+1);have:=HVM.o;omega,by show _<=10009000*(j+1);rw[aY];have:=HTS.o;have:=HSS.o;omega,HB6,Hd (by rw[HJ5.o,q2];simp)⟩
     have HTX:Hid (Calls Tryz.prog 59 #[.int .i64 v.v.num] wx fun e w'=>e=.returned (.tuple #[.string (nTx v.v.num),.int .i64 20])/\Below wx.heap.size wx w'):=Hd (by have h:=htx.out;rw[nf] at h;exact h);have HE:Hid (gA l btw s=(gE,s.fail 121)):=Hd (by rw[HJ2.o,HJ4.o,if_pos ⟨q2,hk2,nf⟩]);clear htx HJ4 HJ2 HSE HS1;go_wp2_with fail;refine HTX.o.mono ?_;rintro e w3 ⟨rfl,hb3⟩;have HBY:=Hd (HB3.o.below hb3);clear hb3;have HFA:=Hd (fZ Γ (W.priv w.heap.size (w.heap.size+1)) s _ (HF.o.priv HBY.o.bl (by have:=HBY.o.rb.lt;omega)) (HD.o.priv HBY.o.bl _) 121 (by omega));go_wp2_with fail;refine HFA.o.mono ?_;rintro e w4 ⟨gs,rfl,hgt0,hd,ho⟩;have hgt:Trs.at (W.priv w.heap.size (w.heap.size+1)).S w4 gE.tr gs:=hgt0;obtain⟨VA,VB,vc,vd,rfl,-⟩:=fT hgt;have HGT:=Hd hgt;have HR3:=Hd (HBY.o.rb.only ho (fun h=>by have:=HLP.o _ h;omega));have HD3:=Hd hd;have HO3:=Hd ho;clear hd ho hgt hgt0;go_wp2_with ((with_reducible refine is_store ?_);refine stV HR3.o ?_;intro w5 hk5 ho5;have HK5:=Hd hk5;have HO5:=Hd ho5;clear hk5 ho5);refine retV Tryz.results96 HK5.o ?_;rw[HE.o];exact S4 HGT.o HLP.o HBY.o.bl HD3.o HO3.o HO5.o
    have hk2:¬v.v.kind=2:=by simpa using k2
    have HJ5:Hid (joinG btw true l (ByteArray.empty,0,true)=joinG btw false (l.drop (j+1)) (t1++s1,m1+v.most,k&&!v.unk)):=Hd (by rw[HJ4.o,if_neg (by simp[hk2])]);have hs2:s1=v.v.text:=by rw[HSE.o,if_neg (by simp[hk2])]
    subst hs2;have HVY:=HV3;clear HJ4 HJ2;have hw:wrap64 ((m1:Int)+(v.most:Int))=((m1+v.most:Nat):Int):=by have:=HVM.o;rw[IntWalk.wrap64_in _ ⟨by omega,by omega⟩];omega
    have hty:t1.size+(v.v.text).size<=140737488355328:=by have:=HTS.o;have:=HSS.o;omega
    go_wp2_with (at_builtin;refine wpList_bs rfl (.tmp 61) (.tmp 62) rfl (w.heap.size+1) B1 bc1 t1 rfl HB3.o.own (v.v.text) rfl hty (by have:=HB3.o.rb.lt;omega) ?_;intro B2 bc2 w6 ho6 hg6;have HB6:=Hd (HB3.o.app ho6 hg6);have HV6:=Hd (HVY.o.grown hg6 (kH HB3.o.own HVY.o (by decide)));obtain⟨z0,z1,z2,z3,z4,z5,z6,z7,z8⟩:=iY HV6.o;rw[q2] at z0;cases k<;>clear ho6 hg6)
    .go_roundg g
     case measure=>omega
     case rel=>exact⟨j+1,t1++v.v.text,m1+v.most,false,B2,bc2,by omega,by rw[aY],by simp,by first | rw[hw] | simp[hw],by go_num,by show _<=19000*(j+1);have:=HVM.o;omega,by show _<=10009000*(j+1);rw[aY];have:=HTS.o;have:=HSS.o;omega,HB6,Hd (by rw[HJ5.o,q2];simp)⟩
    go_roundg g
    case measure=>omega
    case rel=>exact⟨j+1,t1++v.v.text,m1+v.most,true,B2,bc2,by omega,by rw[aY],by simp,by first | rw[hw] | simp[hw],by go_num,by show _<=19000*(j+1);have:=HVM.o;omega,by show _<=10009000*(j+1);rw[aY];have:=HTS.o;have:=HSS.o;omega,HB6,Hd (by rw[HJ5.o,q2];simp)⟩
 have hne:((s.e:Int)!=0)=true:=by simpa using he
 have HE:Hid (gA l btw s=(gE,s)):=Hd (by rw[HJF.o,if_er he]);clear he HJF;go_enter Tryz.func96,Tryz.ntmps96;go_upto_region 1 with fail;rw[<-HW1.o];go_wp2_with ((with_reducible refine is_store ?_);refine stV HRB.o ?_;intro w5 hk5 ho5;have HK5:=Hd hk5;have HO5:=Hd ho5;clear hk5 ho5);refine retV Tryz.results96 HK5.o ?_;rw[HE.o];have hbl:Below w.heap.size w w5:=HO5.o.belowB HB1.o (fun k hk=>by omega);exact⟨_,rfl,rU,HD.o.below hbl,aK hbl _⟩
theorem jend2 {b:Nat} (hg:Trs.at (W.priv w.heap.size b).S w3 r.tr ds) (hL:∀ k,W.F k->k<w.heap.size) (hB:Below w.heap.size w wq) (hd:Dv Γ (W.priv w.heap.size b) s w3) (ho:fP W.F wq w3) (hq:w.heap.size<=q/\q<b) (h5:fP (fun k=>k=q) w3 w5):ValO Γ W (r,s) w (.returned (.agg ds.toArray)) w5 :=
 ⟨_,rfl,(hg.off h5 (fun k hk e=>.inl (by
   subst e;exact .inr hq))).leave,(hd.off h5 (fun k hk e=>by
   subst e;exact⟨.inr hq,fun h=>by have:=hL _ h;omega⟩)).leave,((aK hB W.F).F2 (W:=W) ho).trans h5 (fun k hk e=>by omega)⟩
structure TL (Γ:Eg) (W:Vh) (s:Es) (w:World) (x:Ex) (XA:Option Addr) (xc:Nat) (w2:World):Prop where
 bx:Blk w2 w.heap.size (kX x XA xc) 32
 rb:Blk w2 (w.heap.size+1) zA 74
 bl:Below w.heap.size w w2
 sz:w2.heap.size=w.heap.size+2
 fx:Fxv Γ (W.priv w.heap.size (w.heap.size+2)) w2
 dv:Dv Γ (W.priv w.heap.size (w.heap.size+2)) s w2
 tr:Trs.at (W.priv w.heap.size (w.heap.size+2)).S w2 x.tr (kX x XA xc).toList
 ls:Ls (W.priv w.heap.size (w.heap.size+2)).S w2 6 88 Ex.tr XA xc x.l
 lt:∀ k,W.F k->k<w.heap.size
theorem ent {Γ:Eg} {W:Vh} {s:Es} {w:World} {x:Ex} {XA:Option Addr} {xc:Nat} (hF:Fxv Γ W w) (hD:Dv Γ W s w) (hT:Trs.at W.S w x.tr (kX x XA xc).toList):TL Γ W s w x XA xc ((w.alloc (.cells (kX x XA xc) 32)).alloc (.cells zA 74)):=by
 have hb2:Below w.heap.size w ((w.alloc (.cells (kX x XA xc) 32)).alloc (.cells zA 74)):=((aB _ w).alloc (aA _) _).alloc (by simp) _;obtain⟨XB,xd,he,-,-,-,-,-,hxl⟩:=Ex.at_iff.1 hT;have he2:some (Value.slice XA x.l.length xc)=some (Value.slice XB x.l.length xd):=congrArg (fun l:List Value=>l[5]?) he;injection he2 with he2;injection he2 with h1 _ h2;subst h1 h2;refine⟨(aJ w _ _).alloc _,?_,hb2,by simp,hF.priv hb2 (by simp),hD.priv hb2 _,hT.priv hb2 _,hxl.priv hb2 _,hD.lts⟩;have:=aJ (w.alloc (.cells (kX x XA xc) 32)) zA 74;rwa [show (w.alloc (.cells (kX x XA xc) 32)).heap.size=w.heap.size+1 by simp] at this
theorem TL.res (h:TL Γ W s w x XA xc w2) (ho:fP W.F w2 w3):Blk w3 (w.heap.size+1) zA 74:=h.rb.only ho (fun hf=>by have:=h.lt _ hf;omega)
theorem TL.box (h:TL Γ W s w x XA xc w2) (ho:fP W.F w2 w3):Blk w3 w.heap.size (kX x XA xc) 32:=h.bx.only ho (fun hf=>by have:=h.lt _ hf;omega)
theorem IK (Γ:Eg) (hΓ:vC Γ) (n:Nat) (IH:BL Γ n) (W:Vh) (s:Es) (sc:Nat) (hsc:sc<Γ.G.sc.length) (x:Ex) (cs:List Value) (w:World) (hm:oT Γ s x<=n+1) (hx:exOk x/\exTx x) (hF:Fxv Γ W w) (hD:Dv Γ W s w) (hT:Trs.at W.S w x.tr cs) :
 Calls Tryz.prog 54 #[.pointer (some ⟨W.wb,0,none⟩),.int .i64 (sc:Int),.agg cs.toArray] w (ValO Γ W (QL (evF n Γ) sc x s) w):=by
 obtain⟨XA,xc,rfl,-⟩:=Ex.at_iff.1 hT;obtain⟨W2,hW2⟩:∃ W2,W2=((w.alloc (.cells (kX x XA xc) 32)).alloc (.cells zA 74)):=⟨_,rfl⟩;have hE:=ent hF hD hT;rw[<-hW2] at hE;have HE:=Hd hE;have HW2:=Hd hW2;obtain⟨b0,b1,b2,b3,b4,b5⟩:=gH hE.bx;have HPA:=Hd (sR Γ hΓ n IH (W.priv w.heap.size (w.heap.size+2)) s sc hsc x.l XA xc W2 (fun q hq=>pW hm hq rfl) (fun q hq=>⟨hx.1.sub hq,hx.2.sub hq⟩) hx.2.sz.2 hE.fx hE.dv hE.ls);have HPO:=Hd (nQ (kL hΓ.s n) sc x.l s (fun q hq=>hx.2.sub hq) hD.ok);have HXX:=Hd hx;obtain⟨r,hr⟩:∃ r,r=partsF (evF n Γ) sc x.l s:=⟨_,rfl⟩;have HJF:Hid (QL (evF n Γ) sc x s=gA r.1 ByteArray.empty r.2):=Hd (by rw[hr];rfl);rw[<-hr] at HPA HPO;clear hE hW2 hF hD hT hm hx IH hΓ hr;go_enter Tryz.func54,Tryz.ntmps54;go_upto_region 1 with fail;rw[<-HW2.o];go_wp2_with fail;refine HPA.o.mono ?_;rintro e w3 ⟨RA,rc,rfl,hrl,hrd,hro⟩;have HJO:Hid (Calls Tryz.prog 96 #[.pointer (some ⟨W.wb,0,none⟩),.slice RA r.1.length rc,.string ⟨#[]⟩] w3 (ValO Γ (W.priv w.heap.size (w.heap.size+2)) (gA r.1 ByteArray.empty r.2) w3)):=Hd (rC Γ (W.priv w.heap.size (w.heap.size+2)) r.2 r.1 RA rc ByteArray.empty w3 (HE.o.fx.step hro) hrd hrl HPO.o.2.2.1 (bB HPO.o.2.2.2 HXX.o.2.sz.2) (by decide));have HRO:=Hd hro;clear hrl hrd hro b0 b1 b2 b3 b4 b5;go_wp2_with fail;refine HJO.o.mono ?_;rintro e w4 ⟨ds,rfl,hdt,hdd,hdo⟩;obtain⟨v,hv⟩:∃ v,v=(gA r.1 ByteArray.empty r.2).1:=⟨_,rfl⟩;rw[<-hv] at hdt;obtain⟨VA,VB,vc,vd,rfl,-⟩:=fT hdt;have hoo:fP W.F W2 w4:=HRO.o.F2 (W:=W) hdo;have HOO:=Hd hoo;have HR4:=Hd (HE.o.res hoo);have HDT:=Hd hdt;have HDD:=Hd hdd;have HVV:=Hd hv;clear hdt hdd hdo hoo hv;go_wp2_with ((with_reducible refine is_store ?_);refine stV HR4.o ?_;intro w5 hk5 ho5;have HK5:=Hd hk5;have HO5:=Hd ho5;clear hk5 ho5);refine retV Tryz.results54 HK5.o ?_;rw[HJF.o,show gA r.1 ByteArray.empty r.2=(v,(gA r.1 ByteArray.empty r.2).2) by rw[HVV.o]];exact jend2 HDT.o HE.o.lt HE.o.bl HDD.o HOO.o ⟨aU _ _,by omega⟩ HO5.o
theorem DE (h:s.e≠0):s.fail n=s:=by cases s;unfold Es.fail;simp at h ⊢;simp[h]
theorem evF_er {sc:Nat} (h:s.e≠0):evF n Γ sc x s=(gE,s):=by
 cases n with
 | zero=>show (gE,s.fail 1)=_;rw[DE h]
 | succ n=>show exprF _ _ _ _ _=_;unfold exprF;rw[if_er h]
theorem wexpr_er (Γ:Eg) (W:Vh) (s:Es) (sc:Nat) (x:Ex) (cs:List Value) (w:World) (he:s.e≠0) (hF:Fxv Γ W w) (hD:Dv Γ W s w) (hT:Trs.at W.S w x.tr cs) :
 Calls Tryz.prog 24 #[.pointer (some ⟨W.wb,0,none⟩),.int .i64 (sc:Int),.agg cs.toArray] w (ValO Γ W (gE,s) w):=by
 obtain⟨XA,xc,rfl,-⟩:=Ex.at_iff.1 hT;obtain⟨W2,hW2⟩:∃ W2,W2=((w.alloc (.cells (kX x XA xc) 32)).alloc (.cells zA 74)):=⟨_,rfl⟩;have hE:=ent hF hD hT;rw[<-hW2] at hE;have HE:=Hd hE;have HW2:=Hd hW2;have e9:W2.cell? ⟨W.wb,9,none⟩=some (.int .i64 (s.e:Int)):=hE.dv.wk.cell 9 rfl;have hne:((s.e:Int)!=0)=true:=by simpa using he
 have HR:=Hd hE.rb;clear hE hW2 hF hD hT he;go_enter Tryz.func24,Tryz.ntmps24;go_upto_region 1 with fail;rw[<-HW2.o];go_wp2_with ((with_reducible refine is_store ?_);refine stV HR.o ?_;intro w5 hk5 ho5;have HK5:=Hd hk5;have HO5:=Hd ho5;clear hk5 ho5);refine retV Tryz.results24 HK5.o ?_;exact jend2 rU HE.o.lt HE.o.bl HE.o.dv (bG _ _) ⟨aU _ _,by omega⟩ HO5.o
theorem yM (Γ:Eg) (hΓ:vC Γ) (n:Nat) (IH:BL Γ n) (W:Vh) (s:Es) (sc:Nat) (hsc:sc<Γ.G.sc.length) (x:Ex) (cs:List Value) (w:World) (hm:oT Γ s x<=n+1) (hx:exOk x/\exTx x) (hF:Fxv Γ W w) (hD:Dv Γ W s w) (hT:Trs.at W.S w x.tr cs) :
 Calls Tryz.prog 55 #[.pointer (some ⟨W.wb,0,none⟩),.int .i64 (sc:Int),.agg cs.toArray] w (ValO Γ W (sO (evF n Γ) Γ sc x s) w):=by
 obtain⟨XA,xc,rfl,-⟩:=Ex.at_iff.1 hT;obtain⟨W2,hW2⟩:∃ W2,W2=((w.alloc (.cells (kX x XA xc) 32)).alloc (.cells zA 74)):=⟨_,rfl⟩;have hE:=ent hF hD hT;rw[<-hW2] at hE;have HE:=Hd hE;have HW2:=Hd hW2;obtain⟨b0,b1,b2,b3,b4,b5⟩:=gH hE.bx;have HCH:=Hd (rD Γ (W.priv w.heap.size (w.heap.size+2)) s W2 hΓ hE.fx hE.dv sc hsc x _ hx.1 hE.tr);have HSB:Hid ((fV Γ sc x s).1∈x.l∨(fV Γ sc x s).2.e≠0):=Hd rQ;have HCO:=Hd (mH (Γ:=Γ) sc hx.2 hD.ok);have HCX:Hid (exOk (fV Γ sc x s).1):=Hd (uQ hx.1);have HME:Hid (∀ y t,fV Γ sc x s=(y,t)->y∈x.l∨t.e≠0->t.und=s.und->exOk y/\exTx y->∀ (W:Vh) (cs:List Value) (w:World),Fxv Γ W w->Dv Γ W t w->Trs.at W.S w y.tr cs ->
  Calls Tryz.prog 24 #[.pointer (some ⟨W.wb,0,none⟩),.int .i64 (sc:Int),.agg cs.toArray] w (ValO Γ W (evF n Γ sc y t) w)):=Hd (fun y t _ hy hu hk W cs w h1 h2 h3=>by
  by_cases h0:t.e=0
  .exact IH W y t sc cs w (pW hm (hy.elim (fun h=>h) (fun h=>absurd h0 h)) hu) hsc hk.1 hk.2 h1 h2 h3
  rw[evF_er h0];exact wexpr_er Γ W t sc y cs w h0 h1 h2 h3)
 obtain⟨zt,hzt0⟩:∃ zt,zt=fV Γ sc x s:=⟨_,rfl⟩;obtain⟨y,t⟩:=zt;have HCF:Hid (sO (evF n Γ) Γ sc x s=evF n Γ sc y t):=Hd (by show evF n Γ sc (fV Γ sc x s).1 (fV Γ sc x s).2=_;rw[<-hzt0]);have HME2:=Hd (HME.o y t hzt0.symm);rw[<-hzt0] at HCH HSB HCO HCX;clear hE hW2 hF hD hT hm hx IH hΓ hzt0 HME;go_enter Tryz.func55,Tryz.ntmps55;go_upto_region 1 with fail;rw[<-HW2.o];go_wp2_with fail;refine HCH.o.mono ?_;rintro e w3 ⟨ds,rfl,hzt,hzd,hzo⟩;have hzt2:Trs.at (W.priv w.heap.size (w.heap.size+2)).S w3 y.tr ds:=hzt;obtain⟨YA,yc,rfl,-⟩:=Ex.at_iff.1 hzt2;have hzd2:Dv Γ (W.priv w.heap.size (w.heap.size+2)) t w3:=hzd;have hb4:Below w3.heap.size w3 (w3.alloc (.cells (kX y YA yc) 32)):=(aB _ w3).alloc (aA _) _;have hfx3:=HE.o.fx.step hzo;have HX4:=Hd (HME2.o HSB.o HCO.o.2.2 ⟨HCX.o,HCO.o.1⟩ ((W.priv w.heap.size (w.heap.size+2)).priv w3.heap.size (w3.heap.size+1)) (kX y YA yc).toList (w3.alloc (.cells (kX y YA yc) 32)) (hfx3.priv hb4 (by simp)) (hzd2.priv hb4 _) (hzt2.priv hb4 _));have HKY:Hid (Blk (w3.alloc (.cells (kX y YA yc) 32)) w3.heap.size (kX y YA yc) 32):=Hd (aJ w3 _ _);have hoo:fP W.F W2 (w3.alloc (.cells (kX y YA yc) 32)):=fP.F2 (W:=W) hzo (aK hb4 _);have HOO:=Hd hoo;have HLT3:Hid (W2.heap.size<=w3.heap.size):=Hd hzo.size;clear hzt hzd hzo hzt2 hzd2 hb4 hfx3 hoo b0 b1 b2 b3 b4 b5;obtain⟨y0,y1,y2,y3,y4,y5⟩:=gH HKY.o;go_wp2_with fail;refine HX4.o.mono ?_;rintro e w4 ⟨ds,rfl,hdt,hdd,hdo⟩;obtain⟨v,hv⟩:∃ v,v=(evF n Γ sc y t).1:=⟨_,rfl⟩;rw[<-hv] at hdt;obtain⟨VA,VB,vc,vd,rfl,-⟩:=fT hdt;have hoo:fP W.F W2 w4:=HOO.o.F2 (W:=W) hdo;have HO4:=Hd hoo;have HR4:=Hd (HE.o.res hoo);have HDT:=Hd hdt.leave;have HDD:=Hd hdd.leave;have HVV:=Hd hv;clear hdt hdd hdo hoo hv;go_wp2_with ((with_reducible refine is_store ?_);refine stV HR4.o ?_;intro w5 hk5 ho5;have HK5:=Hd hk5;have HO5:=Hd ho5;clear hk5 ho5);refine retV Tryz.results55 HK5.o ?_;rw[HCF.o,show evF n Γ sc y t=(v,(evF n Γ sc y t).2) by rw[HVV.o]];exact jend2 HDT.o HE.o.lt HE.o.bl HDD.o HO4.o ⟨aU _ _,by omega⟩ HO5.o
