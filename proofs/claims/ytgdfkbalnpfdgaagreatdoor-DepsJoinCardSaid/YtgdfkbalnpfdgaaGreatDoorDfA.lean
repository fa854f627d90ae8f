/- Part of the proof. -/
import Derived.Test.YtgdfkbalnpfdgaaGreatDoorDiZ
import Derived.Test.YtgdfkbalnpfdgaaGreatDoorPna
set_option maxRecDepth 100000
set_option maxHeartbeats 8000000
set_option linter.unusedVariables false
set_option linter.unusedSimpArgs false
namespace Go.Proofs.YtgdfkbalnpfdgaaGreatDoor
open Go.RowKit
theorem stack_eq {x:ByteArray} (h:x=stackT):(x.toList==[83,116,97,99,107])=true:=by rw[beq_iff_eq,Lib.toList_data,h];rfl
theorem stack_ne {x:ByteArray} (h:x≠stackT):(x.toList==[83,116,97,99,107])=false:=by
 rw[beq_eq_false_iff_ne]
 exact fun e=>h (ba_ext (by rw[←Lib.toList_data,e];rfl))
def dpOne (f:Tm→Bool) (left:Nat) (r:Rs):Bool:=if bEq r.type stackT then (match r.inner with | [τ]=>decide (left≠0)&&f τ | _=>false) else r.inner.isEmpty
def dpT:Nat→Tm→Bool
 | 0,t=>t.res.all (dpOne (fun _=>false) 0)
 | k+1,t=>t.res.all (dpOne (dpT k) (k+1))
def dpF:Nat→Tm→Bool
 | 0=>fun _=>false
 | k+1=>dpT k
theorem dpT_eq (k:Nat) (t:Tm):dpT k t=t.res.all (dpOne (dpF k) k):=by cases k<;>rfl
theorem take_allR {α:Type} {l:List α} {p:α→Bool} {i:Nat} {x:α} (h:l[i]?=some x):(l.take (i+1)).all p=((l.take i).all p&&p x):=by rw[List.take_add_one,h];simp
def DeepC (k:Nat):Prop:=∀ (S:Nat→Prop) (t:Tm) (cs:List Value) (w:World),Trs.at S w t.tr cs→Calls Tryz.prog 25 #[.agg cs.toArray,.int .i64 (k:Int)] w (BoolB (dpT k t) w)
theorem deep_step (k:Nat) (hk9:k≤1000) (hI:∀ k',k=k'+1→DeepC k'):DeepC k:=by
 intro S t cs w h
 obtain⟨A,a,B,b,C,c,D,d,rfl,h1,h2,h3,h4⟩:=Tm.at_iff.1 h
 have hcap:=h3.cap
 have hmax:=h3.max
 unfold maxLen at hmax
 obtain⟨W1,hW1⟩:∃ W1,W1=w.alloc (.cells #[.slice A t.params.length a,.slice B t.conds.length b,.slice C t.res.length c,.slice D t.outs.length d] 27):=⟨_,rfl⟩
 have hb1:Below w.heap.size w W1:=by rw[hW1];exact(Below.refl _ w).alloc (Nat.le_refl _) _
 have hbk:Blk W1 w.heap.size #[.slice A t.params.length a,.slice B t.conds.length b,.slice C t.res.length c,.slice D t.outs.length d] 27:=by rw[hW1];exact Blk.new w _ _
 have HB1:=Hd hb1
 have HBK:=Hd hbk
 have HW1:=Hd hW1
 have H3:=Hd (h3.below hb1)
 have HI:=Hd hI
 have HE:=Hd (dpT_eq k t)
 clear h h1 h2 h3 h4 hb1 hbk hW1 hI
 go_enter Tryz.func25,Tryz.ntmps25
 go_upto_region 1 with fail
 rw[←HW1.out]
 go_wp2_with fail
 go_loopg [5] t.res.length (fun g i wr=>∃ j:Nat,j+g=t.res.length∧i=.int .i64 (j:Nat)∧Hid ((t.res.take j).all (dpOne (dpF k) k)=true)∧Hid (Below W1.heap.size W1 wr))
 case atStart=>exact⟨0,by omega,rfl,Hd (by simp),Hd (Below.refl _ _)⟩
 obtain⟨j,hj,rfl,HA,HB⟩:=hrel
 rename World=>wo
 obtain⟨x0,x1,x2,x3⟩:=blk4 (HBK.out.below HB.out)
 have HBW:=Hd (HB1.out.trans (HB.out.mono HB1.out.size))
 cases gk with
 | zero =>
   have hjj:¬((j:Int)<(t.res.length:Int)):=by omega
   have HT:Hid (dpT k t=true):=Hd (by rw[HE.out];have:=HA.out;rwa [List.take_of_length_le (by omega)] at this)
   go_wp2_with fail
   go_ret
   exact⟨by rw[HT.out];rfl,HBW.out⟩
 | succ g =>
   have hjj:(j:Int)<(t.res.length:Int):=by omega
   have hji:(0:Int)≤(j:Int)∧(j:Int)<(t.res.length:Int):=by omega
   obtain⟨r,hr⟩:=get_lt (l:=t.res) (i:=j) (by omega)
   have HTA:=Hd (take_allR (p:=dpOne (dpF k) k) hr)
   have HNO:Hid (dpOne (dpF k) k r=false→dpT k t=false):=Hd (fun h=>by
    rw[HE.out,←Bool.not_eq_true,List.all_eq_true]
    intro h2
    have:=h2 r (List.mem_of_getElem? hr)
    rw[h] at this;cases this)
   obtain⟨ad,cs,rfl,hrt,hrc⟩:=(H3.out.below HB.out).elem Rs.trlen hr
   obtain⟨P1,p1,D1,d1,I1,i1,rfl,-,-,-,-,-,hin⟩:=Rs.at_iff.1 hrt
   obtain⟨e0,e1,e2,e3,e4,e5,e6⟩:=cel7 hrc
   obtain⟨W2,hW2⟩:∃ W2,W2=wo.alloc (.cells #[.string r.id,.string r.type,.string r.cond,.slice P1 r.props.length p1,.slice D1 r.depends.length d1,.bool r.retain,.slice I1 r.inner.length i1] 66):=⟨_,rfl⟩
   have hb2:Below wo.heap.size wo W2:=by rw[hW2];exact(Below.refl _ wo).alloc (Nat.le_refl _) _
   have hbr:Blk W2 wo.heap.size #[.string r.id,.string r.type,.string r.cond,.slice P1 r.props.length p1,.slice D1 r.depends.length d1,.bool r.retain,.slice I1 r.inner.length i1] 66:=by rw[hW2];exact Blk.new wo _ _
   obtain⟨y0,y1,y2,y3,y4,y5,y6⟩:=blk7 hbr
   have HW2:=Hd hW2
   have HB2:=Hd (HB.out.trans (hb2.mono HB.out.size))
   have HIN:=Hd (hin.below hb2)
   have hicap:=hin.cap
   clear hr hrt hrc hin hW2 hb2 hbr
   go_upto_region 5 with fail
   rw[←HW2.out]
   clear e0 e1 e2 e3 e4 e5 e6 x0 x1 x2 x3
   by_cases hT:r.type=stackT
   ·have hT2:(!r.type.toList==[83,116,97,99,107])=false:=by rw[stack_eq hT];rfl
    have HD1:Hid (dpOne (dpF k) k r=match r.inner with | [τ]=>decide (k≠0)&&dpF k τ | _=>false):=Hd (by unfold dpOne;rw[bEq_iff.2 hT];rfl)
    clear hT
    by_cases hi1:r.inner.length=1
    ·obtain⟨τ,hτ⟩:∃ τ,r.inner=[τ]:=by
      match hm:r.inner,hi1 with
      | [τ],_=>exact⟨τ,rfl⟩
     have HD2:Hid (dpOne (dpF k) k r=(decide (k≠0)&&dpF k τ)):=Hd (by rw[HD1.out,hτ])
     have hl1:((r.inner.length:Int)!=1)=false:=by rw[hi1];rfl
     have hi0:(0:Int)≤(0:Int)∧(0:Int)<(r.inner.length:Int):=by omega
     obtain⟨adI,tcs,hI1,htt,htc⟩:=HIN.out.elem Tm.trlen (i:=0) (x:=τ) (by rw[hτ];rfl)
     subst hI1
     rw[show adI.add (0*4)=adI by simp[Addr.add]] at htc
     clear HD1 hi1 hτ
     by_cases hk0:k=0
     ·have HF:Hid (dpT k t=false):=Hd (HNO.out (by rw[HD2.out,hk0];rfl))
      have hkk:((k:Int)==0)=true:=by rw[hk0];rfl
      clear hk0 htt htc
      go_wp2_with fail
      go_ret
      exact⟨by rw[HF.out];rfl,HB1.out.trans (HB2.out.mono HB1.out.size)⟩
     ·obtain⟨k',hkk'⟩:∃ k',k=k'+1:=⟨k-1,by omega⟩
      have hkk:((k:Int)==0)=false:=by simpa using hk0
      have hsub:IntKind.i64.wrap ((k:Int)-1)=(k':Int):=by rw[hkk',show (((k'+1:Nat):Int)-1)=(k':Int) by omega];rw[IntKind.wrap_i64];omega
      have HD3:Hid (dpOne (dpF k) k r=dpT k' τ):=Hd (by rw[HD2.out,hkk'];simp[dpF])
      have HCL:=Hd (HI.out k' hkk' S τ tcs W2 htt)
      obtain⟨M1,m1,M2,m2,M3,m3,M4,m4,rfl,-⟩:=Tm.at_iff.1 htt
      obtain⟨z0,z1,z2,z3⟩:=cel4 htc
      clear HD2 hk0 hkk' htt htc
      cases hq:dpT k' τ with
      | true =>
        rw[hq] at HCL HD3
        have HA2:Hid ((t.res.take (j+1)).all (dpOne (dpF k) k)=true):=Hd (by rw[HTA.out,HA.out,HD3.out];rfl)
        clear hq
        go_wp2_with fail
        refine HCL.out.mono ?_
        rintro e w3 ⟨rfl,hb3⟩
        have HB3:=Hd (HB2.out.trans (hb3.mono HB2.out.size))
        clear hb3
        go_wp2_with fail
        go_roundg g
        case measure=>omega
        case rel=>exact⟨j+1,by omega,by go_num,HA2,HB3⟩
      | false =>
        rw[hq] at HCL HD3
        have HF:Hid (dpT k t=false):=Hd (HNO.out HD3.out)
        clear hq
        go_wp2_with fail
        refine HCL.out.mono ?_
        rintro e w3 ⟨rfl,hb3⟩
        have HB3:=Hd (HB2.out.trans (hb3.mono HB2.out.size))
        clear hb3
        go_wp2_with fail
        go_ret
        exact⟨by rw[HF.out];rfl,HB1.out.trans (HB3.out.mono HB1.out.size)⟩
    ·have HF:Hid (dpT k t=false):=Hd (HNO.out (by
      rw[HD1.out]
      split
      ·next e=>rw[e] at hi1;simp at hi1
      ·rfl))
     have hl1:((r.inner.length:Int)!=1)=true:=by simpa using fun h=>hi1 (by omega)
     clear hi1 HD1
     go_wp2_with fail
     go_ret
     exact⟨by rw[HF.out];rfl,HB1.out.trans (HB2.out.mono HB1.out.size)⟩
   ·have hT2:(!r.type.toList==[83,116,97,99,107])=true:=by rw[stack_ne hT];rfl
    have HD1:Hid (dpOne (dpF k) k r=r.inner.isEmpty):=Hd (by unfold dpOne;rw[bEq_ne hT];rfl)
    clear hT
    by_cases hi0:0<r.inner.length
    ·have hii:(0:Int)<(r.inner.length:Int):=by omega
     have HF:Hid (dpT k t=false):=Hd (HNO.out (by rw[HD1.out];cases hr:r.inner with | nil=>rw[hr] at hi0;simp at hi0 | cons _ _=>rfl))
     clear hi0
     go_wp2_with fail
     go_ret
     exact⟨by rw[HF.out];rfl,HB1.out.trans (HB2.out.mono HB1.out.size)⟩
    ·have hii:¬((0:Int)<(r.inner.length:Int)):=by omega
     have HA2:Hid ((t.res.take (j+1)).all (dpOne (dpF k) k)=true):=Hd (by rw[HTA.out,HA.out,HD1.out];cases hr:r.inner with | nil=>rfl | cons _ _=>rw[hr] at hi0;simp at hi0)
     clear hi0
     go_wp2_with fail
     go_roundg g
     case measure=>omega
     case rel=>exact⟨j+1,by omega,by go_num,HA2,HB2⟩
theorem deep_any:∀ k,k≤1000→DeepC k
 | 0,h=>deep_step 0 h (fun k' e=>by omega)
 | k+1,h=>deep_step (k+1) h (fun k' e=>by
   have:k'=k:=by omega
   subst this;exact deep_any k' (by omega))
end Go.Proofs.YtgdfkbalnpfdgaaGreatDoor
namespace Go.Proofs.YtgdfkbalnpfdgaaGreatDoor
open Go.RowKit
theorem rbare_any (A B C D:Option Addr) (n1 c1 n2 c2 n3 c3 n4 c4:Nat) (w:World):Calls Tryz.prog 27 #[.agg #[.slice A n1 c1,.slice B n2 c2,.slice C n3 c3,.slice D n4 c4]] w fun e w'=>e=.returned (.agg #[.slice A n1 c1,.slice B n2 c2,.slice none 0 0,.slice D n4 c4])∧Below w.heap.size w w':=by
 obtain⟨W3,hW3⟩:∃ W3,W3=(w.alloc (.cells #[.slice A n1 c1,.slice B n2 c2,.slice none 0 0,.slice D n4 c4] 27)).alloc (.cells #[.slice A n1 c1,.slice B n2 c2,.slice none 0 0,.slice D n4 c4] 27):=⟨_,rfl⟩
 have hb:Below w.heap.size w W3:=by rw[hW3];exact((Below.refl _ w).alloc (Nat.le_refl _) _).alloc (by simp) _
 have hr:Blk W3 (w.heap.size+1) #[.slice A n1 c1,.slice B n2 c2,.slice none 0 0,.slice D n4 c4] 27:=by
  rw[hW3]
  have:=Blk.new (w.alloc (.cells #[.slice A n1 c1,.slice B n2 c2,.slice none 0 0,.slice D n4 c4] 27)) #[.slice A n1 c1,.slice B n2 c2,.slice none 0 0,.slice D n4 c4] 27
  rwa [show (w.alloc (.cells #[.slice A n1 c1,.slice B n2 c2,.slice none 0 0,.slice D n4 c4] 27)).heap.size=w.heap.size+1 by simp] at this
 obtain⟨z0,z1,z2,z3⟩:=blk4 hr
 have HW3:=Hd hW3
 have HB:=Hd hb
 clear hW3 hb hr
 go_enter Tryz.func27,Tryz.ntmps27
 go_wp2_with fail
 rw[←HW3.out]
 refine bodyPost_ret (v:=.agg #[.slice A n1 c1,.slice B n2 c2,.slice none 0 0,.slice D n4 c4]) (by simp[results,Tryz.results27,go_sem,z0,z1,z2,z3]) rfl ?_
 exact⟨rfl,HB.out⟩
theorem rhas_any (S:Nat→Prop) (A:Option Addr) (c:Nat) (l:List ByteArray) (x:ByteArray) (w:World) (h:Ss S w A c l) :
 Calls Tryz.prog 31 #[.slice A l.length c,.string x] w (SameBool (l.any fun y=>bEq y x) w):=by
 have hcap:=h.cap
 have hmax:=h.max
 unfold maxLen at hmax
 have H:=Hd h
 clear h
 go_enter Tryz.func31,Tryz.ntmps31
 go_wp2_with fail
 go_loopg [5] l.length (fun g i wr=>∃ j:Nat,j+g=l.length∧i=.int .i64 (j:Nat)∧wr=w∧Hid ((l.take j).any (fun y=>bEq y x)=false))
 case atStart=>exact⟨0,by omega,rfl,rfl,Hd (by simp)⟩
 obtain⟨j,hj,rfl,hw,HA⟩:=hrel
 obtain rfl:=hw.symm
 cases gk with
 | zero =>
   have hjj:¬((j:Int)<(l.length:Int)):=by omega
   have HE:Hid ((l.any fun y=>bEq y x)=false):=Hd (by have:=HA.out;rwa [List.take_of_length_le (by omega)] at this)
   go_wp2_with fail
   go_ret
   exact⟨by rw[HE.out];rfl,rfl⟩
 | succ g =>
   have hjj:(j:Int)<(l.length:Int):=by omega
   have hji:(0:Int)≤(j:Int)∧(j:Int)<(l.length:Int):=by omega
   obtain⟨y,hy⟩:=get_lt (l:=l) (i:=j) (by omega)
   have HTA:=Hd (take_anyZ (p:=fun y=>bEq y x) hy)
   have HM:=Hd (List.mem_of_getElem? hy)
   obtain⟨ad,rfl,hc,-⟩:=H.out.str hy
   clear hy
   by_cases hq:y=x
   ·have hqt:=tl_eq hq
    have HE:Hid ((l.any fun y=>bEq y x)=true):=Hd (List.any_eq_true.2 ⟨y,HM.out,bEq_iff.2 hq⟩)
    clear hq
    go_wp2_with fail
    go_ret
    exact⟨by rw[HE.out];rfl,rfl⟩
   ·have hqt:=tl_ne hq
    have HA2:Hid ((l.take (j+1)).any (fun y=>bEq y x)=false):=Hd (by rw[HTA.out,HA.out,bEq_ne hq];rfl)
    clear hq
    go_wp2_with fail
    go_roundg g
    case measure=>omega
    case rel=>exact⟨j+1,by omega,by go_num,rfl,HA2⟩
end Go.Proofs.YtgdfkbalnpfdgaaGreatDoor
namespace Go.Proofs.YtgdfkbalnpfdgaaGreatDoor
open Go.RowKit
def SomeB (e:Ending):Prop:=∃ b:Bool,e=.returned (.bool b)
theorem begins_any (s id:ByteArray) (w:World) (hs:s.size≤1000000) (hi:id.size≤1000000) :
 Calls Tryz.prog 49 #[.string s,.string id] w fun e w'=>SomeB e∧w'=w:=by
 by_cases h1:id.size+1<s.size
 ·have d1:decide (id.size+1<s.size)=true:=decide_eq_true h1
  have d2:decide ((id.size:Int)+1<(s.size:Int))=true:=decide_eq_true (by omega)
  have hsl:=run_slice_upto_str (P:=Tryz.prog) w 9 s Tryz.underlying9 .i64 id.size (id.size:Int) rfl (by omega)
  have hix:(0:Int)≤(id.size:Int)∧(id.size:Int)<(s.size:Int):=by omega
  by_cases h2:s.extract 0 id.size=id
  ·have hb:=tl_eq h2
   clear h2 h1
   go_enter Tryz.func49,Tryz.ntmps49
   go_wp2_with fail
   go_ret
   exact⟨⟨_,rfl⟩,rfl⟩
  ·have hb:=tl_ne h2
   clear h2 h1
   go_enter Tryz.func49,Tryz.ntmps49
   go_wp2_with fail
   go_ret
   exact⟨⟨_,rfl⟩,rfl⟩
 ·have d1:decide (id.size+1<s.size)=false:=decide_eq_false h1
  have d2:decide ((id.size:Int)+1<(s.size:Int))=false:=decide_eq_false (by omega)
  clear h1
  go_enter Tryz.func49,Tryz.ntmps49
  go_wp2_with fail
  go_ret
  exact⟨⟨_,rfl⟩,rfl⟩
theorem isNode_any (S:Nat→Prop) (SA NA:Option Addr) (sn sC nC:Nat) (xs:List Nc) (x:ByteArray) (w:World) (h:Rd w 11 NA xs.length nC (xs.flatMap Nc.cs)) :
 Calls Tryz.prog 30 #[.agg #[.slice SA sn sC,.slice NA xs.length nC],.string x] w fun e w'=>SomeB e∧Below w.heap.size w w':=by
 have hcap:=h.cap
 have hmax:=h.max
 unfold maxLen at hmax
 obtain⟨W1,hW1⟩:∃ W1,W1=w.alloc (.cells #[.slice SA sn sC,.slice NA xs.length nC] 34):=⟨_,rfl⟩
 have hb1:Below w.heap.size w W1:=by rw[hW1];exact(Below.refl _ w).alloc (Nat.le_refl _) _
 have hbk:Blk W1 w.heap.size #[.slice SA sn sC,.slice NA xs.length nC] 34:=by rw[hW1];exact Blk.new w _ _
 obtain⟨f0,f1⟩:=blk2 hbk
 have HB1:=Hd hb1
 have HW1:=Hd hW1
 have H:=Hd (h.below hb1)
 clear h hb1 hbk hW1
 go_enter Tryz.func30,Tryz.ntmps30
 go_upto_region 1 with fail
 rw[←HW1.out]
 go_wp2_with fail
 go_loopg [5] xs.length (fun g i wr=>∃ j:Nat,j+g=xs.length∧i=.int .i64 (j:Nat)∧wr=W1)
 case atStart=>exact⟨0,by omega,rfl,rfl⟩
 obtain⟨j,hj,rfl,hw⟩:=hrel
 obtain rfl:=hw.symm
 cases gk with
 | zero =>
   have hjj:¬((j:Int)<(xs.length:Int)):=by omega
   go_wp2_with fail
   go_ret
   exact⟨⟨_,rfl⟩,HB1.out⟩
 | succ g =>
   have hjj:(j:Int)<(xs.length:Int):=by omega
   have hji:(0:Int)≤(j:Int)∧(j:Int)<(xs.length:Int):=by omega
   obtain⟨y,hy⟩:=get_lt (l:=xs) (i:=j) (by omega)
   obtain⟨ad,rfl,hc⟩:=H.out.ncell hy
   have e0:=hc 0 _ (show y.cs[0]?=some (.string y.id) from rfl)
   rw[if_pos rfl] at e0
   clear hy hc
   by_cases hq:y.id=x
   ·have hqt:=tl_eq hq
    clear hq
    go_wp2_with fail
    go_ret
    exact⟨⟨_,rfl⟩,HB1.out⟩
   ·have hqt:=tl_ne hq
    clear hq
    go_wp2_with fail
    go_roundg g
    case measure=>omega
    case rel=>exact⟨j+1,by omega,by go_num,rfl⟩
theorem runder_any (SA NA:Option Addr) (sn sC nC:Nat) (xs:List Nc) (x:ByteArray) (w:World) (h:Rd w 11 NA xs.length nC (xs.flatMap Nc.cs)) (hx:x.size≤1000000) (hi:∀ y∈xs,y.id.size≤1000000) (hn:xs.length≤1000000) :
 Calls Tryz.prog 29 #[.agg #[.slice SA sn sC,.slice NA xs.length nC],.string x] w fun e w'=>∃ (A:Option Addr) (c:Nat) (l:List Nat),e=.returned (.slice A l.length c)∧Ow w' w.heap.size 3 1 A l.length c (cN l)∧Below w.heap.size w w'∧l.length≤xs.length∧∀ k∈l,k<xs.length:=by
 have hcap:=h.cap
 have hmax:=h.max
 unfold maxLen at hmax
 obtain⟨W1,hW1⟩:∃ W1,W1=w.alloc (.cells #[.slice SA sn sC,.slice NA xs.length nC] 34):=⟨_,rfl⟩
 have hb1:Below w.heap.size w W1:=by rw[hW1];exact(Below.refl _ w).alloc (Nat.le_refl _) _
 have hbk:Blk W1 w.heap.size #[.slice SA sn sC,.slice NA xs.length nC] 34:=by rw[hW1];exact Blk.new w _ _
 have HB1:=Hd hb1
 have HW1:=Hd hW1
 have HBK:=Hd hbk
 have H:=Hd (h.below hb1)
 have HI:=Hd hi
 have HLO:Hid (w.heap.size≤W1.heap.size):=Hd hb1.size
 clear h hb1 hbk hW1 hi
 go_enter Tryz.func29,Tryz.ntmps29
 go_upto_region 1 with fail
 rw[←HW1.out]
 go_wp2_with fail
 go_loopg [5,6] xs.length (fun g v i wr=>∃ (j:Nat) (A:Option Addr) (c:Nat) (l:List Nat),j+g=xs.length∧i=.int .i64 (j:Nat)∧v=.slice A l.length c∧Hid (l.length≤j)∧Hid (∀ k∈l,k<xs.length)∧Hid (Ow wr W1.heap.size 3 1 A l.length c (cN l))∧Hid (Below W1.heap.size W1 wr))
 case atStart=>exact⟨0,none,0,[],by omega,rfl,rfl,Hd (by simp),Hd (fun k hk=>by cases hk),Hd (Ow.nil _ _ _ _),Hd (Below.refl _ _)⟩
 obtain⟨j,A,c,l,hj,rfl,rfl,HLJ,HLL,HO,HB⟩:=hrel
 rename World=>wo
 obtain⟨f0,f1⟩:=blk2 (HBK.out.below HB.out)
 cases gk with
 | zero =>
   have hjj:¬((j:Int)<(xs.length:Int)):=by omega
   go_wp2_with fail
   go_ret
   exact⟨A,c,l,rfl,HO.out.le HLO.out,HB1.out.trans (HB.out.mono HB1.out.size),by have:=HLJ.out;omega,HLL.out⟩
 | succ g =>
   have hjj:(j:Int)<(xs.length:Int):=by omega
   have hji:(0:Int)≤(j:Int)∧(j:Int)<(xs.length:Int):=by omega
   obtain⟨y,hy⟩:=get_lt (l:=xs) (i:=j) (by omega)
   obtain⟨ad,rfl,hc⟩:=(H.out.below HB.out).ncell hy
   have e0:=hc 0 _ (show y.cs[0]?=some (.string y.id) from rfl)
   rw[if_pos rfl] at e0
   have HBG:=Hd (begins_any y.id x wo (HI.out y (List.mem_of_getElem? hy)) hx)
   clear hy hc
   go_wp2_with fail
   refine HBG.out.mono ?_
   rintro e w2 ⟨⟨b,rfl⟩,hw⟩
   obtain rfl:=hw.symm
   cases b with
   | false =>
     go_wp2_with fail
     go_roundg g
     case measure=>omega
     case rel=>exact⟨j+1,A,c,l,by omega,by go_num,rfl,Hd (by have:=HLJ.out;omega),HLL,HO,HB⟩
   | true =>
     have hll:l.length≤1000000:=by have:=HLJ.out;omega
     have HRN:=Hd (Rd.lit wo 1 1 #[.int .i64 (j:Int)] 3 (0,0) rfl (by simp[maxLen]))
     have hlo:W1.heap.size≤wo.heap.size:=HB.out.size
     go_wp2_with (at_builtin;refine wpList_row info_int Tryz.underlying44 rfl (by omega) rfl (.tmp 22) (.tmp 24) rfl W1.heap.size A c l.length (cN l) rfl (HO.out.alloc _) (some ⟨wo.heap.size,0,none⟩) 1 1 [.int .i64 (j:Int)] rfl HRN.out (by simp[Value.oneCell']) (by omega) (by omega) (by simp;omega) ?_;intro A' c' w8 ho hg hat;have HO8:=Hd ho;have HG8:=Hd hg;clear ho hg hat)
     go_roundg g
     case measure=>omega
     case rel =>
      refine⟨j+1,A',c',l++[j],by omega,by go_num,by simp,Hd (by simp;exact HLJ.out),Hd (fun k hk=>?_),Hd (by have:=HO8.out;simpa [cN] using this),Hd ((HB.out.alloc hlo _).grown HG8.out (by simp;omega) (fun k hk=>(HO.out.lt hk).1))⟩
      rcases List.mem_append.1 hk with hk | hk
      ·exact HLL.out k hk
      ·rw[List.mem_singleton] at hk;subst hk;omega
end Go.Proofs.YtgdfkbalnpfdgaaGreatDoor
namespace Go.Proofs.YtgdfkbalnpfdgaaGreatDoor
open Go.RowKit
def cnOne (f:Tm→Nat × Nat) (a:Nat × Nat) (r:Rs):Nat × Nat:=if bEq r.type stackT then (match r.inner with | [τ]=>(a.1+(f τ).1,a.2+(f τ).2) | _=>a) else (a.1+1,a.2)
def cnT:Nat→Tm→Nat × Nat
 | 0,t=>t.res.foldl (cnOne (fun _=>(0,0))) (0,1)
 | k+1,t=>t.res.foldl (cnOne (cnT k)) (0,1)
def cnF:Nat→Tm→Nat × Nat
 | 0=>fun _=>(0,0)
 | k+1=>cnT k
theorem cnT_eq (k:Nat) (t:Tm):cnT k t=t.res.foldl (cnOne (cnF k)) (0,1):=by cases k<;>rfl
theorem cnOne_ge (f:Tm→Nat × Nat) (a:Nat × Nat) (r:Rs):a.1≤(cnOne f a r).1∧a.2≤(cnOne f a r).2:=by
 unfold cnOne
 split
 ·split
  ·exact⟨Nat.le_add_right _ _,Nat.le_add_right _ _⟩
  ·exact⟨Nat.le_refl _,Nat.le_refl _⟩
 ·exact⟨Nat.le_succ _,Nat.le_refl _⟩
theorem cnFold_ge (f:Tm→Nat × Nat):∀ (l:List Rs) (a:Nat × Nat),a.1≤(l.foldl (cnOne f) a).1∧a.2≤(l.foldl (cnOne f) a).2
 | [],a=>⟨Nat.le_refl _,Nat.le_refl _⟩
 | r::l,a=>by
   have h1:=cnOne_ge f a r
   have h2:=cnFold_ge f l (cnOne f a r)
   exact⟨Nat.le_trans h1.1 h2.1,Nat.le_trans h1.2 h2.2⟩
theorem cnTake {f:Tm→Nat × Nat} {l:List Rs} {j:Nat} {r:Rs} (h:l[j]?=some r):(l.take (j+1)).foldl (cnOne f) (0,1)=cnOne f ((l.take j).foldl (cnOne f) (0,1)) r:=by
 rw[List.take_add_one,h,Option.toList_some,List.foldl_append];rfl
theorem cnTake_le {f:Tm→Nat × Nat} {l:List Rs} {j:Nat}:((l.take j).foldl (cnOne f) (0,1)).1≤(l.foldl (cnOne f) (0,1)).1∧((l.take j).foldl (cnOne f) (0,1)).2≤(l.foldl (cnOne f) (0,1)).2:=by
 have h:=cnFold_ge f (l.drop j) ((l.take j).foldl (cnOne f) (0,1))
 rw[←List.foldl_append,List.take_append_drop] at h
 exact h
def CountC (k:Nat):Prop:=∀ (S:Nat→Prop) (t:Tm) (cs:List Value) (w:World),dpT k t=true→(cnT k t).1≤1000000000→(cnT k t).2≤1000000000→Trs.at S w t.tr cs →
 Calls Tryz.prog 26 #[.agg cs.toArray] w fun e w'=>e=.returned (.tuple #[.int .i64 ((cnT k t).1:Nat),.int .i64 ((cnT k t).2:Nat)])∧Below w.heap.size w w'
theorem count_step (k:Nat) (hI:∀ k',k=k'+1→CountC k'):CountC k:=by
 intro S t cs w hdp hn1 hn2 h
 obtain⟨A,a,B,b,C,c,D,d,rfl,h1,h2,h3,h4⟩:=Tm.at_iff.1 h
 have hcap:=h3.cap
 have hmax:=h3.max
 unfold maxLen at hmax
 obtain⟨W1,hW1⟩:∃ W1,W1=w.alloc (.cells #[.slice A t.params.length a,.slice B t.conds.length b,.slice C t.res.length c,.slice D t.outs.length d] 27):=⟨_,rfl⟩
 have hb1:Below w.heap.size w W1:=by rw[hW1];exact(Below.refl _ w).alloc (Nat.le_refl _) _
 have hbk:Blk W1 w.heap.size #[.slice A t.params.length a,.slice B t.conds.length b,.slice C t.res.length c,.slice D t.outs.length d] 27:=by rw[hW1];exact Blk.new w _ _
 have HB1:=Hd hb1
 have HBK:=Hd hbk
 have HW1:=Hd hW1
 have H3:=Hd (h3.below hb1)
 have HI:=Hd hI
 have HE:=Hd (cnT_eq k t)
 have HDP:Hid (∀ r∈t.res,dpOne (dpF k) k r=true):=Hd (by rw[dpT_eq,List.all_eq_true] at hdp;exact hdp)
 have HN:Hid (((t.res.foldl (cnOne (cnF k)) (0,1)).1≤1000000000)∧(t.res.foldl (cnOne (cnF k)) (0,1)).2≤1000000000):=Hd (by rw[←HE.out];exact⟨hn1,hn2⟩)
 clear h h1 h2 h3 h4 hb1 hbk hW1 hI hdp hn1 hn2
 go_enter Tryz.func26,Tryz.ntmps26
 go_upto_region 1 with fail
 rw[←HW1.out]
 go_wp2_with fail
 go_loopg [4,5,6] t.res.length (fun g x y i wr=>∃ (j p q:Nat),j+g=t.res.length∧x=.int .i64 (p:Nat)∧y=.int .i64 (q:Nat)∧i=.int .i64 (j:Nat)∧Hid ((t.res.take j).foldl (cnOne (cnF k)) (0,1)=(p,q))∧Hid (Below W1.heap.size W1 wr))
 case atStart=>exact⟨0,0,1,by omega,rfl,rfl,rfl,Hd (by simp),Hd (Below.refl _ _)⟩
 obtain⟨j,p,q,hj,rfl,rfl,rfl,HA,HB⟩:=hrel
 rename World=>wo
 obtain⟨x0,x1,x2,x3⟩:=blk4 (HBK.out.below HB.out)
 have HBW:=Hd (HB1.out.trans (HB.out.mono HB1.out.size))
 have hpq:p≤1000000000∧q≤1000000000:=by
  have h1:=cnTake_le (f:=cnF k) (l:=t.res) (j:=j)
  rw[HA.out] at h1
  have h2:=HN.out
  exact⟨Nat.le_trans h1.1 h2.1,Nat.le_trans h1.2 h2.2⟩
 cases gk with
 | zero =>
   have hjj:¬((j:Int)<(t.res.length:Int)):=by omega
   have HT:Hid (cnT k t=(p,q)):=Hd (by rw[HE.out];have:=HA.out;rwa [List.take_of_length_le (by omega)] at this)
   go_wp2_with fail
   refine bodyPost_ret (v:=.tuple #[.int .i64 (p:Int),.int .i64 (q:Int)]) (by simp[results,Tryz.results26,go_sem]) rfl ?_
   rw[HT.out]
   exact⟨rfl,HBW.out⟩
 | succ g =>
   have hjj:(j:Int)<(t.res.length:Int):=by omega
   have hji:(0:Int)≤(j:Int)∧(j:Int)<(t.res.length:Int):=by omega
   obtain⟨r,hr⟩:=get_lt (l:=t.res) (i:=j) (by omega)
   have HTA:=Hd (cnTake (f:=cnF k) hr)
   have hdr:=HDP.out r (List.mem_of_getElem? hr)
   have hle:=cnTake_le (f:=cnF k) (l:=t.res) (j:=j+1)
   rw[cnTake hr,HA.out] at hle
   obtain⟨ad,cs,rfl,hrt,hrc⟩:=(H3.out.below HB.out).elem Rs.trlen hr
   obtain⟨P1,p1,D1,d1,I1,i1,rfl,-,-,-,-,-,hin⟩:=Rs.at_iff.1 hrt
   obtain⟨e0,e1,e2,e3,e4,e5,e6⟩:=cel7 hrc
   have HIN:=Hd hin
   clear hr hrt hrc hin
   by_cases hT:r.type=stackT
   ·have hT1:=stack_eq hT
    unfold dpOne at hdr
    rw[bEq_iff.2 hT,if_pos rfl] at hdr
    have hcn:cnOne (cnF k) (p,q) r=match r.inner with | [τ]=>(p+(cnF k τ).1,q+(cnF k τ).2) | _=>(p,q):=by unfold cnOne;rw[bEq_iff.2 hT];rfl
    obtain⟨τ,hτ⟩:∃ τ,r.inner=[τ]:=by
     split at hdr
     ·next τ e=>exact⟨τ,e⟩
     ·cases hdr
    rw[hτ] at hdr hcn
    simp only[Bool.and_eq_true,decide_eq_true_eq] at hdr
    obtain⟨k',hk'⟩:∃ k',k=k'+1:=⟨k-1,by have:=hdr.1;omega⟩
    have hd2:dpT k' τ=true:=by have:=hdr.2;rw[hk'] at this;exact this
    have hcf:cnF k τ=cnT k' τ:=by rw[hk'];rfl
    simp only at hcn
    rw[hcf] at hcn
    rw[hcn] at hle
    obtain⟨adI,tcs,hI1,htt,htc⟩:=HIN.out.elem Tm.trlen (i:=0) (x:=τ) (by rw[hτ];rfl)
    subst hI1
    rw[show adI.add (0*4)=adI by simp[Addr.add]] at htc
    have hi0:(0:Int)≤(0:Int)∧(0:Int)<(r.inner.length:Int):=by rw[hτ];simp
    have hb1:(cnT k' τ).1≤1000000000:=by have:=HN.out.1;have:=hle.1;simp only at this;omega
    have hb2:(cnT k' τ).2≤1000000000:=by have:=HN.out.2;have:=hle.2;simp only at this;omega
    have HCL:=Hd (HI.out k' hk' S τ tcs wo hd2 hb1 hb2 htt)
    obtain⟨M1,m1,M2,m2,M3,m3,M4,m4,rfl,-⟩:=Tm.at_iff.1 htt
    obtain⟨z0,z1,z2,z3⟩:=cel4 htc
    have HA2:Hid ((t.res.take (j+1)).foldl (cnOne (cnF k)) (0,1)=(p+(cnT k' τ).1,q+(cnT k' τ).2)):=Hd (by rw[HTA.out,HA.out];exact hcn)
    obtain⟨u,hu⟩:∃ u,u=(cnT k' τ).1:=⟨_,rfl⟩
    obtain⟨v,hv⟩:∃ v,v=(cnT k' τ).2:=⟨_,rfl⟩
    rw[←hu,←hv] at HCL HA2
    rw[←hu] at hb1
    rw[←hv] at hb2
    have hsum:p+u≤1000000000∧q+v≤1000000000:=by
     have h1:=HN.out;have h2:=hle;simp only at h2
     rw[←hu,←hv] at h2
     omega
    clear hT hdr hcn hτ hk' hd2 hcf hle htt htc hu hv
    go_wp2_with fail
    refine HCL.out.mono ?_
    rintro e w3 ⟨rfl,hb3⟩
    have HB3:=Hd (HB.out.trans (hb3.mono HB.out.size))
    clear hb3 x0 x1 x2 x3 e0 e1 e2 e3 e4 e5 e6 z0 z1 z2 z3
    go_wp2_with fail
    go_roundg g
    case measure=>omega
    case rel=>exact⟨j+1,p+u,q+v,by omega,by go_num,by go_num,by go_num,HA2,HB3⟩
   ·have hT1:=stack_ne hT
    have HA2:Hid ((t.res.take (j+1)).foldl (cnOne (cnF k)) (0,1)=(p+1,q)):=Hd (by rw[HTA.out,HA.out];unfold cnOne;rw[bEq_ne hT];rfl)
    clear hT hdr hle
    go_wp2_with fail
    go_roundg g
    case measure=>omega
    case rel=>exact⟨j+1,p+1,q,by omega,by go_num,rfl,by go_num,HA2,HB⟩
theorem count_any:∀ k,CountC k
 | 0=>count_step 0 (fun k' e=>by omega)
 | k+1=>count_step (k+1) (fun k' e=>by
   have:k'=k:=by omega
   subst this;exact count_any k')
end Go.Proofs.YtgdfkbalnpfdgaaGreatDoor
namespace Go.Proofs.YtgdfkbalnpfdgaaGreatDoor
open Go.RowKit
structure Rz where
 A1:Option Addr
 c1:Nat
 x1:List Value
 A2:Option Addr
 c2:Nat
 x2:List Value
def Rz.mu (R:Rz) (q k:Nat):Prop:=k=q∨blk R.A1=some k∨blk R.A2=some k
structure Bz (B:Nat) (w:World) (q:Nat) (R:Rz) (sc:List Sc) (nd:List Nd):Prop where
 box:Blk w q #[.slice R.A1 sc.length R.c1,.slice R.A2 nd.length R.c2] 73
 hq:B≤q
 r1:Ow w B 76 7 R.A1 sc.length R.c1 R.x1
 r2:Ow w B 80 11 R.A2 nd.length R.c2 R.x2
 t1:Trs.at (Sf B (R.mu q) w) w (sc.flatMap Sc.tr) R.x1
 t2:Trs.at (Sf B (R.mu q) w) w (nd.flatMap Nd.tr) R.x2
section
variable {B q:Nat} {R:Rz} {sc:List Sc} {nd:List Nd} {w w':World}
theorem Bz.mu_lt (h:Bz B w q R sc nd) {k:Nat} (hk:R.mu q k):B≤k∧k<w.heap.size:=by
 rcases hk with rfl | hk | hk
 ·exact⟨h.hq,h.box.lt⟩
 ·exact h.r1.lt hk
 ·exact h.r2.lt hk
theorem Bz.below (h:Bz B w q R sc nd) (hb:Below w.heap.size w w'):Bz B w' q R sc nd:=by
 have hg:Go1 (R.mu q) (R.mu q) w w':=Go1.of_below hb
 exact⟨h.box.below hb,h.hq,h.r1.below hb,h.r2.below hb,h.t1.go hg,h.t2.go hg⟩
theorem Bz.add1 (h:Bz B w q R sc nd) {w1 w2:World} (hb:Below w.heap.size w w1) {n:Sc} {cs:List Value} {A':Option Addr} {c':Nat}
 (hn:Trs.at (Sf B (R.mu q) w1) w1 n.tr cs) (ho:Ow w2 B 76 7 A' (sc.length+1) c' (R.x1++cs)) (hg:w1.grownBy w2 (blk R.A1)) (hat:A'=R.A1∨A'=some ⟨w1.heap.size,0,none⟩) :
 ∃ R':Rz,Bz B (w2.setCell ⟨q,0,none⟩ (.slice A' (sc.length+1) c')) q R' (sc++[n]) nd∧Go1 (R.mu q) (R'.mu q) w (w2.setCell ⟨q,0,none⟩ (.slice A' (sc.length+1) c')):=by
 have h':=h.below hb
 refine⟨{R with A1:=A',c1:=c',x1:=R.x1++cs},?_⟩
 have hgo:Go1 (R.mu q) (Rz.mu {R with A1:=A',c1:=c',x1:=R.x1++cs} q) w1 (w2.setCell ⟨q,0,none⟩ (.slice A' (sc.length+1) c')) :=
  ⟨mu_step hg 0 _ (.inl rfl) (fun k hk=>.inr (.inl hk)),fun k hk hf=>by
    rcases hf with hf | hf | hf
    ·exact .inl hf
    ·exact .inr (.inl (mu_new hat hk hf))
    ·exact .inr (.inr hf)⟩
 have hbq:blk R.A1≠some q:=h'.r1.ne_blk h'.box (by decide)
 have hblk2:=h'.box.grown hg hbq
 have hb2:blk R.A2=none∨blk R.A2≠blk R.A1:=h'.r2.ne h'.r1 (by decide)
 have k2:=(h'.r2.grown hg hb2).setOther ⟨q,0,none⟩ (.slice A' (sc.length+1) c') (h'.r2.ne_blk h'.box (by decide))
 have k1:=ho.setOther ⟨q,0,none⟩ (.slice A' (sc.length+1) c') (ho.ne_blk hblk2 (by decide))
 have s1:Trs.at (Sf B (Rz.mu {R with A1:=A',c1:=c',x1:=R.x1++cs} q) (w2.setCell ⟨q,0,none⟩ (.slice A' (sc.length+1) c'))) (w2.setCell ⟨q,0,none⟩ (.slice A' (sc.length+1) c')) ((sc++[n]).flatMap Sc.tr) (R.x1++cs):=by
  rw[List.flatMap_append]
  exact Trs.at.app.2 ⟨_,_,rfl,h'.t1.go hgo,by simpa using hn.go hgo⟩
 have s2:=h'.t2.go hgo
 exact⟨⟨(hblk2.set 0 _).eq (by simp),h.hq,by rw[List.length_append];exact k1,k2,s1,s2⟩,(Go1.of_below hb).trans hgo⟩
theorem Bz.add2 (h:Bz B w q R sc nd) {w1 w2:World} (hb:Below w.heap.size w w1) {n:Nd} {cs:List Value} {A':Option Addr} {c':Nat}
 (hn:Trs.at (Sf B (R.mu q) w1) w1 n.tr cs) (ho:Ow w2 B 80 11 A' (nd.length+1) c' (R.x2++cs)) (hg:w1.grownBy w2 (blk R.A2)) (hat:A'=R.A2∨A'=some ⟨w1.heap.size,0,none⟩) :
 ∃ R':Rz,Bz B (w2.setCell ⟨q,1,none⟩ (.slice A' (nd.length+1) c')) q R' sc (nd++[n])∧Go1 (R.mu q) (R'.mu q) w (w2.setCell ⟨q,1,none⟩ (.slice A' (nd.length+1) c')):=by
 have h':=h.below hb
 refine⟨{R with A2:=A',c2:=c',x2:=R.x2++cs},?_⟩
 have hgo:Go1 (R.mu q) (Rz.mu {R with A2:=A',c2:=c',x2:=R.x2++cs} q) w1 (w2.setCell ⟨q,1,none⟩ (.slice A' (nd.length+1) c')) :=
  ⟨mu_step hg 1 _ (.inl rfl) (fun k hk=>.inr (.inr hk)),fun k hk hf=>by
    rcases hf with hf | hf | hf
    ·exact .inl hf
    ·exact .inr (.inl hf)
    ·exact .inr (.inr (mu_new hat hk hf))⟩
 have hbq:blk R.A2≠some q:=h'.r2.ne_blk h'.box (by decide)
 have hblk2:=h'.box.grown hg hbq
 have hb1:blk R.A1=none∨blk R.A1≠blk R.A2:=h'.r1.ne h'.r2 (by decide)
 have k1:=(h'.r1.grown hg hb1).setOther ⟨q,1,none⟩ (.slice A' (nd.length+1) c') (h'.r1.ne_blk h'.box (by decide))
 have k2:=ho.setOther ⟨q,1,none⟩ (.slice A' (nd.length+1) c') (ho.ne_blk hblk2 (by decide))
 have s2:Trs.at (Sf B (Rz.mu {R with A2:=A',c2:=c',x2:=R.x2++cs} q) (w2.setCell ⟨q,1,none⟩ (.slice A' (nd.length+1) c'))) (w2.setCell ⟨q,1,none⟩ (.slice A' (nd.length+1) c')) ((nd++[n]).flatMap Nd.tr) (R.x2++cs):=by
  rw[List.flatMap_append]
  exact Trs.at.app.2 ⟨_,_,rfl,h'.t2.go hgo,by simpa using hn.go hgo⟩
 have s1:=h'.t1.go hgo
 exact⟨⟨(hblk2.set 1 _).eq (by simp),h.hq,k1,by rw[List.length_append];exact k2,s1,s2⟩,(Go1.of_below hb).trans hgo⟩
theorem Bz.pre (h:Bz B w q R sc nd) {i:Nat} {c:Sc} (hc:sc[i]?=some c):∃ ad,R.A1=some ad∧w.cell? ⟨(ad.add (i*7)).block,(ad.add (i*7)).off+1,none⟩=some (.string c.pre)∧i<sc.length:=by
 obtain⟨ad,cs,hA,hcs,hlen,hcel⟩:=Rd.elem Sc.trlen (by omega) h.r1.rd h.t1 hc
 obtain⟨ts,A,cc,rfl,-⟩:=Sc.at_iff.1 hcs
 refine⟨ad,hA,?_,(List.getElem?_eq_some_iff.1 hc).1⟩
 have:=hcel 1 _ rfl
 rwa [add_pos _ (by omega)] at this
end
end Go.Proofs.YtgdfkbalnpfdgaaGreatDoor
namespace Go.Proofs.YtgdfkbalnpfdgaaGreatDoor
open Go.RowKit
def rZ (r:Rs):Prop:=r.id.size+r.type.size+r.cond.size≤3000∧r.depends.length≤60∧∀ d∈r.depends,d.size≤3000
def rK (KN:Nd→Prop) (d:Nat) (r:Rs):Prop:=∀ id z gs af,id.size≤20000→gs.length≤d+1→af.length≤60*(d+1)→(∀ a∈af,a.size≤60000)→KN ⟨id,z,r,gs,af⟩
def TmZ (KS:Sc→Prop) (KN:Nd→Prop):Nat→Nat→Tm→Prop
 | 0,d,t=>t.res.length≤60∧∀ r∈t.res,rZ r∧rK KN d r
 | k+1,d,t=>t.res.length≤60∧∀ r∈t.res,(rZ r∧rK KN d r) ∧
     ∀ τ∈r.inner,(∀ z pre,pre.size≤40000→KS ⟨z,pre,bareT τ,r.props⟩)∧TmZ KS KN k (d+1) τ
theorem TmZ.res {KS:Sc→Prop} {KN:Nd→Prop} {k d:Nat} {t:Tm} (h:TmZ KS KN k d t):t.res.length≤60∧∀ r∈t.res,rZ r∧rK KN d r:=by
 cases k with
 | zero=>exact h
 | succ k=>exact⟨h.1,fun r hr=>(h.2 r hr).1⟩
theorem TmZ.inner {KS:Sc→Prop} {KN:Nd→Prop} {k d:Nat} {t:Tm} (h:TmZ KS KN (k+1) d t) {r:Rs} (hr:r∈t.res) {τ:Tm} (hτ:τ∈r.inner):(∀ z pre,pre.size≤40000→KS ⟨z,pre,bareT τ,r.props⟩)∧TmZ KS KN k (d+1) τ:=(h.2 r hr).2 τ hτ
def gFit (n:Nat) (g:Gd):Prop:=g.name.size≤20000∧0≤g.scope∧g.scope<(n:Int)
structure PutR (KS:Sc→Prop) (KN:Nd→Prop) (sc sc':List Sc) (nd nd':List Nd) (n m:Nat):Prop where
 sc:∃ ls,sc'=sc++ls∧ls.length+1=m∧∀ c∈ls,KS c∧c.pre.size≤40000
 nd:∃ ln,nd'=nd++ln∧ln.length=n∧∀ x∈ln,KN x
theorem PutR.nil (KS:Sc→Prop) (KN:Nd→Prop) (sc:List Sc) (nd:List Nd):PutR KS KN sc sc nd nd 0 1:=⟨⟨[],by simp,rfl,fun _ h=>by cases h⟩,⟨[],by simp,rfl,fun _ h=>by cases h⟩⟩
theorem PutR.node {KS:Sc→Prop} {KN:Nd→Prop} {sc sc':List Sc} {nd nd':List Nd} {n m:Nat} (h:PutR KS KN sc sc' nd nd' n m) {x:Nd} (hx:KN x):PutR KS KN sc sc' nd (nd'++[x]) (n+1) m:=by
 obtain⟨h1,ln,rfl,h2,h3⟩:=h
 refine⟨h1,ln++[x],by simp,by simp[h2],fun y hy=>?_⟩
 rcases List.mem_append.1 hy with hy | hy
 ·exact h3 y hy
 ·rw[List.mem_singleton] at hy;subst hy;exact hx
theorem PutR.scope {KS:Sc→Prop} {KN:Nd→Prop} {sc sc':List Sc} {nd nd':List Nd} {n m:Nat} (h:PutR KS KN sc sc' nd nd' n m) {x:Sc} (hx:KS x∧x.pre.size≤40000):PutR KS KN sc (sc'++[x]) nd nd' n (m+1):=by
 obtain⟨⟨ls,rfl,h2,h3⟩,h1⟩:=h
 refine⟨⟨ls++[x],by simp,by simp[←h2],fun y hy=>?_⟩,h1⟩
 rcases List.mem_append.1 hy with hy | hy
 ·exact h3 y hy
 ·rw[List.mem_singleton] at hy;subst hy;exact hx
theorem PutR.then {KS:Sc→Prop} {KN:Nd→Prop} {sc sc' sc'':List Sc} {nd nd' nd'':List Nd} {n m n' m':Nat} (h:PutR KS KN sc sc' nd nd' n m) (h':PutR KS KN sc' sc'' nd' nd'' n' m'):PutR KS KN sc sc'' nd nd'' (n+n') (m+m'-1):=by
 obtain⟨⟨ls,rfl,h2,h3⟩,ln,rfl,h4,h5⟩:=h
 obtain⟨⟨ls',rfl,k2,k3⟩,ln',rfl,k4,k5⟩:=h'
 refine⟨⟨ls++ls',by simp,by simp;omega,fun y hy=>?_⟩,ln++ln',by simp,by simp;omega,fun y hy=>?_⟩
 ·rcases List.mem_append.1 hy with hy | hy
  ·exact h3 y hy
  ·exact k3 y hy
 ·rcases List.mem_append.1 hy with hy | hy
  ·exact h5 y hy
  ·exact k5 y hy
theorem PutR.pre {KS:Sc→Prop} {KN:Nd→Prop} {sc sc':List Sc} {nd nd':List Nd} {n m:Nat} (h:PutR KS KN sc sc' nd nd' n m) (hp:∀ c∈sc,c.pre.size≤40000):∀ c∈sc',c.pre.size≤40000:=by
 obtain⟨⟨ls,rfl,h2,h3⟩,-⟩:=h
 intro c hc
 rcases List.mem_append.1 hc with hc | hc
 ·exact hp c hc
 ·exact(h3 c hc).2
theorem PutR.at {KS:Sc→Prop} {KN:Nd→Prop} {sc sc':List Sc} {nd nd':List Nd} {n m:Nat} (h:PutR KS KN sc sc' nd nd' n m) {z:Nat} {c:Sc} (hc:sc[z]?=some c):sc'[z]?=some c:=by
 obtain⟨⟨ls,rfl,h2,h3⟩,-⟩:=h
 rw[List.getElem?_append_left (List.getElem?_eq_some_iff.1 hc).1];exact hc
def PutZ (KS:Sc→Prop) (KN:Nd→Prop) (B q k:Nat):Prop:=∀ (d:Nat) (t:Tm) (cs:List Value) (z:Nat) (c0:Sc) (G:Option Addr) (gc:Nat) (gs:List Gd) (E:Option Addr) (ec:Nat) (es:List Gd) (R:Rz) (sc:List Sc) (nd:List Nd) (w:World),
 k+d≤4→TmZ KS KN k d t→dpT k t=true→(cnT k t).2+sc.length≤1000000→(cnT k t).1+nd.length≤1000000→Bz B w q R sc nd→Trs.at (Sf B (R.mu q) w) w t.tr cs →
 sc[z]?=some c0→c0.pre.size≤3002*d→(∀ c∈sc,c.pre.size≤40000)→gs.length≤d→(∀ g∈gs,gFit sc.length g)→es.length≤60*d→(∀ g∈es,gFit sc.length g) →
 Ls (Sf B (R.mu q) w) w 2 24 Gd.tr G gc gs→Ls (Sf B (R.mu q) w) w 2 24 Gd.tr E ec es →
 Calls Tryz.prog 28 #[.pointer (some ⟨q,0,none⟩),.agg cs.toArray,.int .i64 (z:Int),.slice G gs.length gc,.slice E es.length ec] w
  fun e w'=>e=.returned (.tuple #[])∧∃ (R':Rz) (sc':List Sc) (nd':List Nd),Bz B w' q R' sc' nd'∧Go1 (R.mu q) (R'.mu q) w w'∧PutR KS KN sc sc' nd nd' (cnT k t).1 (cnT k t).2
end Go.Proofs.YtgdfkbalnpfdgaaGreatDoor
