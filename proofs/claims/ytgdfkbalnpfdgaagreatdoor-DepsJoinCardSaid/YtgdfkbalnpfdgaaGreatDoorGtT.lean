/- Part of the proof. -/
import Derived.Deep.RegionHeld3
import Derived.Test.YtgdfkbalnpfdgaaGreatDoorTi
import Derived.Deep.DeepCutAuto
set_option maxRecDepth 100000
set_option maxHeartbeats 8000000
set_option linter.unusedVariables false
set_option linter.unusedSimpArgs false
namespace Go.Proofs.YtgdfkbalnpfdgaaGreatDoor
open Go.RowKit
def CondOut (k n:Nat) (w:World) (e:Ending) (w':World):Prop:=e=.returned (.int .i64 (n:Nat))∧n≤2000000000000010001+10000*k∧Below w.heap.size w w'
theorem cweight_any (S:Nat→Prop):∀ (k:Nat) (v:Cd) (cs:List Value) (w:World),k≤40→Trs.at S w v.tr cs →
 Calls Tryz.prog 56 #[.agg cs.toArray,.int .i64 (k:Nat)] w (CondOut k (cW k v) w)
 | 0,v,cs,w,hk,hv=>by
   obtain⟨xs,ys,A,c,rfl,-,-,hx,hy,-⟩:=Cd.at_iff.1 hv
   obtain⟨A1,c1,rfl,-⟩:=Ex.at_iff.1 hx
   obtain⟨A2,c2,rfl,-⟩:=Ex.at_iff.1 hy
   clear hv hx hy
   go_enter Tryz.func56,Tryz.ntmps56
   go_wp2_with fail
   go_ret
   exact⟨rfl,by simp[cW],(Below.refl _ w).alloc (Nat.le_refl _) _⟩
 | k+1,v,cs,w,hk,hv=>by
   obtain⟨xs,ys,A,c,rfl,hn,-,hx,hy,hl⟩:=Cd.at_iff.1 hv
   have HXA:=Hd hx
   have HXB:=Hd hy
   obtain⟨A1,c1,rfl,-⟩:=Ex.at_iff.1 hx
   obtain⟨A2,c2,rfl,-⟩:=Ex.at_iff.1 hy
   clear hv hx hy
   have hlb:=hl.bytes
   have hlc:=hl.cap
   have HL:=Hd hl
   clear hl
   have hk0:((k:Int)+1==0)=false:=by simp;omega
   have hk9:IntKind.i64.wrap ((k:Int)+1-1)=(k:Int):=by rw[IntWalk.i64_in _ (by omega)];omega
   obtain⟨C,hC⟩:∃ C:Array Value,C=#[.string v.name,.int .i8 v.kind,.int .i8 v.a.kind,.string v.a.text,.int .i64 v.a.num,.string v.a.name,.string v.a.attr,.slice A1 v.a.l.length c1,.int .i8 v.b.kind,.string v.b.text,.int .i64 v.b.num,.string v.b.name,.string v.b.attr,.slice A2 v.b.l.length c2,.slice A v.l.length c]:=⟨_,rfl⟩
   have HC:=Hd hC
   have HW0:Hid (Below w.heap.size w (w.alloc (.cells C 141))):=Hd ((Below.refl _ w).alloc (Nat.le_refl _) _)
   have HB0:Hid (Blk (w.alloc (.cells C 141)) w.heap.size C 141):=Hd (Blk.new w _ _)
   rw[hC] at HW0 HB0
   clear hC
   by_cases h1:200<v.l.length
   ·have HV:Hid (cW (k+1) v=10000):=Hd (by simp only[cW];rw[if_pos h1])
    go_enter Tryz.func56,Tryz.ntmps56
    go_wp2_with fail
    all_goals
     go_ret
     exact⟨by rw[HV.out];rfl,by rw[HV.out];omega,HW0.out⟩
   have HV:Hid (cW (k+1) v=efold (cW k) (1+min v.name.size 10000+eW v.a+eW v.b) v.l):=Hd (by simp only[cW];rw[if_neg h1])
   obtain⟨t0,ht0⟩:∃ t0,t0=min v.name.size 10000:=⟨_,rfl⟩
   rw[←ht0] at HV
   have hmin:min (v.name.size:Int) 10000=(t0:Int):=by omega
   have ht4:t0≤10000:=by omega
   go_enter Tryz.func56,Tryz.ntmps56
   have hmn:∀ w',(Builtin.min_ #[3,3] 3 #[.int .i64 (v.name.size:Nat),.int .i64 10000]).run Tryz.prog w'=.ok (.int .i64 (t0:Nat)) w':=fun w'=>run_min hmin
   clear ht0
   go_wp2_with fail
   go_region_held3 (fun w'=>w'.cell? ⟨w.heap.size,0,none⟩=some (.string v.name)∧w'.cell? ⟨w.heap.size,2,none⟩=some (.int .i8 v.a.kind)∧w'.cell? ⟨w.heap.size,3,none⟩=some (.string v.a.text)∧w'.cell? ⟨w.heap.size,4,none⟩=some (.int .i64 v.a.num)∧w'.cell? ⟨w.heap.size,5,none⟩=some (.string v.a.name)∧w'.cell? ⟨w.heap.size,6,none⟩=some (.string v.a.attr)∧w'.cell? ⟨w.heap.size,7,none⟩=some (.slice A1 v.a.l.length c1)∧w'.cell? ⟨w.heap.size,8,none⟩=some (.int .i8 v.b.kind)∧w'.cell? ⟨w.heap.size,9,none⟩=some (.string v.b.text)∧w'.cell? ⟨w.heap.size,10,none⟩=some (.int .i64 v.b.num)∧w'.cell? ⟨w.heap.size,11,none⟩=some (.string v.b.name)∧w'.cell? ⟨w.heap.size,12,none⟩=some (.string v.b.attr)∧w'.cell? ⟨w.heap.size,13,none⟩=some (.slice A2 v.b.l.length c2)) (go_keep)
    ((first
      | (go_at_call 74;(with_reducible refine(exprs_any S v.a _ _ (HXA.out.below HW0.out.drew)).mono ?_);rintro e w1 ⟨rfl,hba,hb1⟩;have hk1:=HB0.out.drew.below hb1;obtain⟨k0,-,k2,k3,k4,k5,k6,k7,k8,k9,k10,k11,k12,k13,-⟩:=blk15 hk1;have HB1:=Hd hk1;have HW1:=Hd (HW0.out.drew.trans (hb1.mono (by simp)));clear hb1 hk1)
      | (go_at_call 74;(with_reducible refine(exprs_any S v.b _ _ (HXB.out.below HW1.out)).mono ?_);rintro e w2 ⟨rfl,hbb,hb2⟩;have hk2:=HB1.out.below hb2;obtain⟨m0,-,m2,m3,m4,m5,m6,m7,m8,m9,m10,m11,m12,m13,-⟩:=blk15 hk2;have HB2:=Hd hk2;have HW2:=Hd (HW1.out.trans (hb2.mono HW1.out.size));clear hb2 hk2)))
   all_goals
    clear hmin hmn HB0 HW0 HB1 HW1
    go_wp2_with fail
    go_loopg [5,6] v.l.length (fun g n i wr=>∃ j m:Nat,j+g=v.l.length∧i=.int .i64 (j:Nat)∧n=.int .i64 (m:Nat)∧m≤2000000000000010001+10000*(k+1)∧Hid (cW (k+1) v=efold (cW k) m (v.l.drop j))∧Hid (Blk wr w.heap.size #[.string v.name,.int .i8 v.kind,.int .i8 v.a.kind,.string v.a.text,.int .i64 v.a.num,.string v.a.name,.string v.a.attr,.slice A1 v.a.l.length c1,.int .i8 v.b.kind,.string v.b.text,.int .i64 v.b.num,.string v.b.name,.string v.b.attr,.slice A2 v.b.l.length c2,.slice A v.l.length c] 141)∧Hid (Below w.heap.size w wr))
    case atStart=>exact⟨0,1+t0+eW v.a+eW v.b,by omega,rfl,by rw[IntWalk.i64_in (1+(t0:Int)) (by omega),IntWalk.i64_in (1+(t0:Int)+(eW v.a:Int)) (by omega),IntWalk.i64_in (1+(t0:Int)+(eW v.a:Int)+(eW v.b:Int)) (by omega)];go_num,by omega,HV,HB2,HW2⟩
    obtain⟨j,m,hj,rfl,rfl,hm,HV3,HB3,HW3⟩:=hrel
    have b4:wr.cell? ⟨w.heap.size,14,none⟩=some (.slice A v.l.length c):=HB3.out.cell 14 rfl
    by_cases hm1:10000<m
    ·have hm2:¬((m:Int)≤10000):=by omega
     have HR:Hid (cW (k+1) v=m):=Hd (by rw[HV3.out,efold_stop hm1])
     go_wp2_with fail
     all_goals
      go_ret
      exact⟨by rw[HR.out];rfl,by rw[HR.out];exact hm,HW3.out⟩
    have hm2:(m:Int)≤10000:=by omega
    cases gk with
    | zero =>
      have hjj:¬((j:Int)<(v.l.length:Int)):=by omega
      have HR:Hid (cW (k+1) v=m):=Hd (by rw[HV3.out,List.drop_of_length_le (by omega)];rfl)
      go_wp2_with fail
      all_goals
       go_ret
       exact⟨by rw[HR.out];rfl,by rw[HR.out];exact hm,HW3.out⟩
    | succ g =>
      have hjj:(j:Int)<(v.l.length:Int):=by omega
      obtain⟨x,hx⟩:=get_lt (l:=v.l) (i:=j) (by omega)
      have hd:=drop_cons hx
      obtain⟨ad,cs,rfl,hxt,hxc⟩:=(HL.out.below HW3.out).elem Cd.trlen hx
      have HX:=Hd hxt
      obtain⟨xs,ys,A5,c5,rfl,-,-,hxa,hxb,-⟩:=Cd.at_iff.1 hxt
      obtain⟨A3,c3,rfl,-⟩:=Ex.at_iff.1 hxa
      obtain⟨A4,c4,rfl,-⟩:=Ex.at_iff.1 hxb
      obtain⟨e0,e1,e2,e3,e4,e5,e6,e7,e8,e9,e10,e11,e12,e13,e14⟩:=cel15 hxc
      have HV4:Hid (cW (k+1) v=efold (cW k) (m+cW k x) (v.l.drop (j+1))):=Hd (by rw[HV3.out,hd,efold_go (by omega)])
      clear hx hd hxt hxc hxa hxb
      go_wp2_with fail
      refine(cweight_any S k x _ wr (by omega) HX.out).mono ?_
      rintro e w4 ⟨rfl,hxw,hb⟩
      have HB5:=Hd (HB3.out.below hb)
      have HW5:=Hd (HW3.out.trans (hb.mono HW3.out.size))
      clear hb
      go_wp2_with fail
      go_roundg g
      case measure=>omega
      case rel=>exact⟨j+1,m+cW k x,by omega,by go_num,by go_num,by omega,HV4,HB5,HW5⟩
theorem csgreat_any (S:Nat→Prop) (A:Option Addr) (c:Nat) (l:List Cd) (w:World) (hv:Ls S w 15 224 Cd.tr A c l) :
 Calls Tryz.prog 42 #[.slice A l.length c] w (BoolOut (csGreat l) w):=by
 have hlb:=hv.bytes
 have hlc:=hv.cap
 have HL:=Hd hv
 clear hv
 by_cases h1:40<l.length
 ·have HV:Hid (csGreat l=true):=Hd (by unfold csGreat;simp[h1])
  go_enter Tryz.func42,Tryz.ntmps42
  go_wp2_with fail
  go_ret
  exact⟨by rw[HV.out];rfl,Below.refl _ w⟩
 have HV:Hid (csGreat l=csGo 0 l):=Hd (by unfold csGreat;rw[decide_eq_false h1,Bool.false_or])
 go_enter Tryz.func42,Tryz.ntmps42
 go_wp2_with fail
 go_loopg [3,4] l.length (fun g n i wr=>∃ j m:Nat,j+g=l.length∧i=.int .i64 (j:Nat)∧n=.int .i64 (m:Nat)∧m≤5000∧Hid (csGreat l=csGo m (l.drop j))∧Hid (Below w.heap.size w wr))
 case atStart=>exact⟨0,0,by omega,rfl,rfl,by omega,HV,Hd (Below.refl _ w)⟩
 obtain⟨j,m,hj,rfl,rfl,hm,HV3,HW3⟩:=hrel
 cases gk with
 | zero =>
   have hjj:¬((j:Int)<(l.length:Int)):=by omega
   have HR:Hid (csGreat l=false):=Hd (by rw[HV3.out,List.drop_of_length_le (by omega)];rfl)
   go_wp2_with fail
   go_ret
   exact⟨by rw[HR.out];rfl,HW3.out⟩
 | succ g =>
   have hjj:(j:Int)<(l.length:Int):=by omega
   obtain⟨x,hx⟩:=get_lt (l:=l) (i:=j) (by omega)
   have hd:=drop_cons hx
   obtain⟨ad,cs,rfl,hxt,hxc⟩:=(HL.out.below HW3.out).elem Cd.trlen hx
   have HX:=Hd hxt
   obtain⟨xs,ys,A5,c5,rfl,-,-,hxa,hxb,-⟩:=Cd.at_iff.1 hxt
   obtain⟨A3,c3,rfl,-⟩:=Ex.at_iff.1 hxa
   obtain⟨A4,c4,rfl,-⟩:=Ex.at_iff.1 hxb
   obtain⟨e0,e1,e2,e3,e4,e5,e6,e7,e8,e9,e10,e11,e12,e13,e14⟩:=cel15 hxc
   have HV4:Hid (csGreat l=if 5000<m+cW 20 x then true else csGo (m+cW 20 x) (l.drop (j+1))):=Hd (by rw[HV3.out,hd];rfl)
   clear hx hd hxt hxc hxa hxb
   go_wp2_with fail
   refine(cweight_any S 20 x _ wr (by omega) HX.out).mono ?_
   rintro e w4 ⟨rfl,hxw,hb⟩
   have HW5:=Hd (HW3.out.trans (hb.mono HW3.out.size))
   clear hb
   by_cases h5:5000<m+cW 20 x
   ·have HV5:Hid (csGreat l=true):=Hd (by rw[HV4.out,if_pos h5])
    have hi:(5000:Int)<(m:Int)+(cW 20 x:Nat):=by omega
    go_wp2_with fail
    go_ret
    exact⟨by rw[HV5.out];rfl,HW5.out⟩
   ·have HV5:Hid (csGreat l=csGo (m+cW 20 x) (l.drop (j+1))):=Hd (by rw[HV4.out,if_neg h5])
    have hi:¬((5000:Int)<(m:Int)+(cW 20 x:Nat)):=by omega
    go_wp2_with fail
    go_roundg g
    case measure=>omega
    case rel=>exact⟨j+1,m+cW 20 x,by omega,by go_num,by go_num,by omega,HV5,HW5⟩
end Go.Proofs.YtgdfkbalnpfdgaaGreatDoor
namespace Go.Proofs.YtgdfkbalnpfdgaaGreatDoor
open Go.RowKit
theorem any_drop {α:Type} {l:List α} {p:α→Bool} {i:Nat} {x:α} (h:l[i]?=some x):(l.drop i).any p=(p x||(l.drop (i+1)).any p):=by rw[drop_cons h];rfl
def gOne (g:Gv):Bool:=decide (200<g.name.size)||vGreat g.v
theorem gsgreat_any (S:Nat→Prop) (A:Option Addr) (c:Nat) (l:List Gv) (w:World) (hv:Ls S w 8 104 Gv.tr A c l) :
 Calls Tryz.prog 22 #[.slice A l.length c] w (BoolOut (gsGreat l) w):=by
 have hlb:=hv.bytes
 have hlc:=hv.cap
 have HL:=Hd hv
 clear hv
 by_cases h1:60<l.length
 ·have HV:Hid (gsGreat l=true):=Hd (by unfold gsGreat;simp[h1])
  go_enter Tryz.func22,Tryz.ntmps22
  go_wp2_with fail
  go_ret
  exact⟨by rw[HV.out];rfl,Below.refl _ w⟩
 have HV:Hid (gsGreat l=(l.drop 0).any gOne):=Hd (by unfold gsGreat;rw[decide_eq_false h1,Bool.false_or];rfl)
 go_enter Tryz.func22,Tryz.ntmps22
 go_wp2_with fail
 go_loopg [3] l.length (fun g i wr=>∃ j:Nat,j+g=l.length∧i=.int .i64 (j:Nat)∧Hid (gsGreat l=(l.drop j).any gOne)∧Hid (Below w.heap.size w wr))
 case atStart=>exact⟨0,by omega,rfl,HV,Hd (Below.refl _ w)⟩
 obtain⟨j,hj,rfl,HV3,HW3⟩:=hrel
 cases gk with
 | zero =>
   have hjj:¬((j:Int)<(l.length:Int)):=by omega
   have HR:Hid (gsGreat l=false):=Hd (by rw[HV3.out,List.drop_of_length_le (by omega)];rfl)
   go_wp2_with fail
   go_ret
   exact⟨by rw[HR.out];rfl,HW3.out⟩
 | succ g =>
   have hjj:(j:Int)<(l.length:Int):=by omega
   obtain⟨x,hx⟩:=get_lt (l:=l) (i:=j) (by omega)
   have hd:=any_drop (p:=gOne) hx
   obtain⟨ad,cs,rfl,hxt,hxc⟩:=(HL.out.below HW3.out).elem Gv.trlen hx
   obtain⟨vs,rfl,hns,hxv⟩:=Gv.at_iff.1 hxt
   have HX:=Hd hxv
   obtain⟨A2,c2,B2,d2,rfl,-⟩:=Vl.at_iff.1 hxv
   obtain⟨e0,e1,e2,e3,e4,e5,e6,e7⟩:=cel8 hxc
   rw[←HV3.out] at hd
   clear hx hxt hxc hxv
   by_cases h2:200<x.name.size
   ·have HV5:Hid (gsGreat l=true):=Hd (by rw[hd];unfold gOne;rw[decide_eq_true h2];rfl)
    clear hd
    go_wp2_with fail
    go_ret
    exact⟨by rw[HV5.out];rfl,HW3.out⟩
   have h2':decide ((200:Int)<(x.name.size:Int))=false:=decide_eq_false (by omega)
   have HV4:Hid (gsGreat l=(vGreat x.v||(l.drop (j+1)).any gOne)):=Hd (by rw[hd];unfold gOne;rw[decide_eq_false h2,Bool.false_or])
   have HG:=Hd (vgreat_any S x.v _ wr HX.out)
   clear hd
   cases hg:vGreat x.v with
   | true =>
     rw[hg] at HG HV4
     have HV5:Hid (gsGreat l=true):=Hd (by rw[HV4.out];rfl)
     clear hg
     go_wp2_with fail
     refine HG.out.mono ?_
     rintro e w4 ⟨rfl,hb⟩
     have HW5:=Hd (HW3.out.trans (hb.mono HW3.out.size))
     clear hb
     go_wp2_with fail
     go_ret
     exact⟨by rw[HV5.out];rfl,HW5.out⟩
   | false =>
     rw[hg] at HG HV4
     have HV5:Hid (gsGreat l=(l.drop (j+1)).any gOne):=Hd (by rw[HV4.out];rfl)
     clear hg
     go_wp2_with fail
     refine HG.out.mono ?_
     rintro e w4 ⟨rfl,hb⟩
     have HW5:=Hd (HW3.out.trans (hb.mono HW3.out.size))
     clear hb
     go_wp2_with fail
     go_roundg g
     case measure=>omega
     case rel=>exact⟨j+1,by omega,by go_num,HV5,HW5⟩
theorem pmsgreat_any (S:Nat→Prop) (A:Option Addr) (c:Nat) (l:List Pm) (w:World) (hv:Ls S w 10 128 Pm.tr A c l) :
 Calls Tryz.prog 41 #[.slice A l.length c] w (BoolOut (pmsGreat l) w):=by
 have hlb:=hv.bytes
 have hlc:=hv.cap
 have HL:=Hd hv
 clear hv
 have HV:Hid (l.length≤40→pmsGreat l=(l.drop 0).any pmGreat):=Hd (fun h=>by unfold pmsGreat;rw[decide_eq_false (by omega),Bool.false_or];rfl)
 have HL4:Hid (40<l.length→pmsGreat l=true):=Hd (fun h=>by unfold pmsGreat;rw[decide_eq_true h];rfl)
 go_enter Tryz.func41,Tryz.ntmps41
 go_wp2_with fail
 go_loopg [3] l.length (fun g i wr=>∃ j:Nat,j+g=l.length∧j≤41∧i=.int .i64 (j:Nat)∧Hid (l.length≤40→pmsGreat l=(l.drop j).any pmGreat)∧Hid (Below w.heap.size w wr))
 case atStart=>exact⟨0,by omega,by omega,rfl,HV,Hd (Below.refl _ w)⟩
 obtain⟨j,hj,hj1,rfl,HV3,HW3⟩:=hrel
 by_cases h4:40<j
 ·have h4':¬((j:Int)≤40):=by omega
  have h5:(40:Int)<(l.length:Int):=by omega
  have HR:=Hd (HL4.out (by omega))
  go_wp2_with fail
  all_goals
   go_ret
   exact⟨by rw[HR.out];rfl,HW3.out⟩
 have h4':(j:Int)≤40:=by omega
 cases gk with
 | zero =>
   have hjj:¬((j:Int)<(l.length:Int)):=by omega
   have h5:¬((40:Int)<(l.length:Int)):=by omega
   have HR:Hid (pmsGreat l=false):=Hd (by rw[HV3.out (by omega),List.drop_of_length_le (by omega)];rfl)
   go_wp2_with fail
   all_goals
    go_ret
    exact⟨by rw[HR.out];rfl,HW3.out⟩
 | succ g =>
   have hjj:(j:Int)<(l.length:Int):=by omega
   obtain⟨x,hx⟩:=get_lt (l:=l) (i:=j) (by omega)
   have hd:=any_drop (p:=pmGreat) hx
   obtain⟨ad,cs,rfl,hxt,hxc⟩:=(HL.out.below HW3.out).elem Pm.trlen hx
   obtain⟨vs,A5,c5,rfl,hns,hxv,hxl⟩:=Pm.at_iff.1 hxt
   have HX:=Hd hxv
   have HXL:=Hd hxl
   have hxb:=hxl.bytes
   obtain⟨A2,c2,B2,d2,rfl,-⟩:=Vl.at_iff.1 hxv
   have HXC:=Hd hxc
   obtain⟨e0,e1,e2,e3,e4,e5,e6,e7,e8,e9⟩:=cel10 hxc
   have HT:Hid (pmGreat x=true→pmsGreat l=true):=Hd (fun h=>by
    by_cases h6:l.length≤40
    ·rw[HV3.out h6,hd,h];rfl
    ·exact HL4.out (by omega))
   have HF:Hid (pmGreat x=false→l.length≤40→pmsGreat l=(l.drop (j+1)).any pmGreat):=Hd (fun h h6=>by rw[HV3.out h6,hd,h,Bool.false_or])
   have HG:=Hd (vgreat_any S x.dflt _ wr HX.out)
   clear hx hd hxt hxc hxv hxl
   cases hg:vGreat x.dflt with
   | true =>
     rw[hg] at HG
     have HV5:=Hd (HT.out (by unfold pmGreat;rw[hg];rfl))
     clear hg
     go_wp2_with fail
     refine HG.out.mono ?_
     rintro e w4 ⟨rfl,hb⟩
     have HW5:=Hd (HW3.out.trans (hb.mono HW3.out.size))
     clear hb
     go_wp2_with fail
     go_ret
     exact⟨by rw[HV5.out];rfl,HW5.out⟩
   | false =>
     rw[hg] at HG
     have HPM:Hid (pmGreat x=(decide (40<x.allowed.length)||decide (400<x.name.size)||x.allowed.any vGreat)):=Hd (by unfold pmGreat;rw[hg,Bool.false_or])
     clear hg
     go_wp2_with fail
     refine HG.out.mono ?_
     rintro e w4 ⟨rfl,hb⟩
     obtain⟨f0,f1,f2,f3,f4,f5,f6,f7,f8,f9⟩:=cel10 (HXC.out.below hb)
     have HXL2:=Hd (HXL.out.below hb)
     have HXC2:=Hd (HXC.out.below hb)
     have HW5:=Hd (HW3.out.trans (hb.mono HW3.out.size))
     clear hb
     by_cases h6:40<x.allowed.length
     ·have HV5:=Hd (HT.out (by rw[HPM.out,decide_eq_true h6];rfl))
      have h6':(40:Int)<(x.allowed.length:Int):=by omega
      go_wp2_with fail
      go_ret
      exact⟨by rw[HV5.out];rfl,HW5.out⟩
     have h6':decide ((40:Int)<(x.allowed.length:Int))=false:=decide_eq_false (by omega)
     by_cases h7:400<x.name.size
     ·have HV5:=Hd (HT.out (by rw[HPM.out,decide_eq_true h7];simp))
      have h7':(400:Int)<(x.name.size:Int):=by omega
      go_wp2_with fail
      go_ret
      exact⟨by rw[HV5.out];rfl,HW5.out⟩
     have h7':decide ((400:Int)<(x.name.size:Int))=false:=decide_eq_false (by omega)
     have HPA:Hid (pmGreat x=(x.allowed.drop 0).any vGreat):=Hd (by rw[HPM.out,decide_eq_false h6,decide_eq_false h7];rfl)
     go_wp2_with fail
     go_loopg [4] x.allowed.length (fun g2 i wr=>∃ k:Nat,k+g2=x.allowed.length∧i=.int .i64 (k:Nat)∧Hid (pmGreat x=(x.allowed.drop k).any vGreat)∧Hid (Below w4.heap.size w4 wr))
     case atStart=>exact⟨0,by omega,rfl,HPA,Hd (Below.refl _ _)⟩
     obtain⟨k,hk,rfl,HP2,HW6⟩:=hrel
     obtain⟨g0,g1,g2,g3,g4,g5,g6,g7,g8,g9⟩:=cel10 (HXC2.out.below HW6.out)
     have HW7:=Hd (HW5.out.trans (HW6.out.mono HW5.out.size))
     clear f0 f1 f2 f3 f4 f5 f6 f7 f8 f9
     cases gk with
     | zero =>
       have hkk:¬((k:Int)<(x.allowed.length:Int)):=by omega
       have HPF:Hid (pmGreat x=false):=Hd (by rw[HP2.out,List.drop_of_length_le (by omega)];rfl)
       have HF2:=Hd (HF.out HPF.out)
       go_wp2_with fail
       go_roundg g
       case measure=>omega
       case rel=>exact⟨j+1,by omega,by omega,by go_num,HF2,HW7⟩
     | succ g3' =>
       have hkk:(k:Int)<(x.allowed.length:Int):=by omega
       obtain⟨y,hy⟩:=get_lt (l:=x.allowed) (i:=k) (by omega)
       have hd:=any_drop (p:=vGreat) hy
       obtain⟨ad2,cs2,rfl,hyt,hyc⟩:=(HXL2.out.below HW6.out).elem Vl.trlen hy
       have HY:=Hd hyt
       obtain⟨A7,c7,B7,d7,rfl,-⟩:=Vl.at_iff.1 hyt
       obtain⟨l0,l1,l2,l3,l4,l5⟩:=cel6 hyc
       have HG2:=Hd (vgreat_any S y _ wr HY.out)
       rw[←HP2.out] at hd
       clear hy hyt hyc
       cases hg:vGreat y with
       | true =>
         rw[hg] at HG2 hd
         have HV5:=Hd (HT.out (by rw[hd];rfl))
         clear hg hd
         go_wp2_with fail
         refine HG2.out.mono ?_
         rintro e w8 ⟨rfl,hb⟩
         have HW8:=Hd (HW7.out.trans (hb.mono HW7.out.size))
         clear hb
         go_wp2_with fail
         go_ret
         exact⟨by rw[HV5.out];rfl,HW8.out⟩
       | false =>
         rw[hg] at HG2 hd
         have HP3:Hid (pmGreat x=(x.allowed.drop (k+1)).any vGreat):=Hd (by rw[hd];rfl)
         clear hg hd
         go_wp2_with fail
         refine HG2.out.mono ?_
         rintro e w8 ⟨rfl,hb⟩
         have HW8:=Hd (HW6.out.trans (hb.mono HW6.out.size))
         clear hb
         go_wp2_with fail
         go_roundg g3'
         case measure=>omega
         case rel=>exact⟨k+1,by omega,by go_num,HP3,HW8⟩
end Go.Proofs.YtgdfkbalnpfdgaaGreatDoor
namespace Go.Proofs.YtgdfkbalnpfdgaaGreatDoor
open Go.RowKit
def inK (f:Tm→Nat) (os:List Ou) (rs:List Rs) (l:List Tm) (m:Nat):Nat:=if 10000<efold f m l then efold f m l else rsGo f os (efold f m l) rs
def prK (f:Tm→Nat) (os:List Ou) (rs:List Rs) (r:Rs):Option Nat→Nat
 | none=>10000
 | some m=>inK f os rs r.inner (m+mins r.depends)
theorem rsGo_cons (f:Tm→Nat) (os:List Ou) (n:Nat) (r:Rs) (rs:List Rs) (h:¬(60<r.props.length∨60<r.depends.length∨3<r.inner.length)) :
 rsGo f os n (r::rs)=prK f os rs r (prGo (n+(1+min (r.id.size+r.type.size+r.cond.size) 10000)) r.props):=by
 simp only[rsGo]
 rw[if_neg h]
 cases prGo (n+(1+min (r.id.size+r.type.size+r.cond.size) 10000)) r.props<;>rfl
theorem prGo_drop {l:List Pr} {i:Nat} {x:Pr} (h:l[i]?=some x) (m:Nat):prGo m (l.drop i)=if xGreat x.e then none else prGo (m+(min x.name.size 10000+x.e.parts)) (l.drop (i+1)):=by rw[drop_cons h];rfl
theorem ouGo_drop {l:List Ou} {i:Nat} {x:Ou} (h:l[i]?=some x) (m:Nat):ouGo m (l.drop i)=if xGreat x.e then 10000 else ouGo (m+(min (x.name.size+x.cond.size) 10000+x.e.parts)) (l.drop (i+1)):=by rw[drop_cons h];rfl
theorem inK_go {f:Tm→Nat} {os:List Ou} {rs:List Rs} {x:Tm} {l:List Tm} {m:Nat} (h:m≤10000):inK f os rs (x::l) m=inK f os rs l (m+f x):=by unfold inK;rw[efold_go h]
theorem inK_stop {f:Tm→Nat} {os:List Ou} {rs:List Rs} {l:List Tm} {m:Nat} (h:10000<m):inK f os rs l m=m:=by unfold inK;rw[efold_stop h,if_pos h]
theorem inK_nil {f:Tm→Nat} {os:List Ou} {rs:List Rs} {m:Nat} (h:m≤10000):inK f os rs [] m=rsGo f os m rs:=by unfold inK;rw[efold_nil,if_neg (by omega)]
theorem xG_parts {x:Ex} (h:xGreat x=false):xW 30 x≤9999∧x.parts≤3000:=by
 have h1:xW 30 x≤3000:=by simpa [xGreat] using h
 have:=parts_le 30 x (by omega)
 omega
def TmOut (k n:Nat) (w:World) (e:Ending) (w':World):Prop:=e=.returned (.int .i64 (n:Nat))∧n≤10000000+1000000*k∧Below w.heap.size w w'
def TmC (S:Nat→Prop) (k:Nat):Prop:=∀ (v:Tm) (cs:List Value) (w:World),k≤40→Trs.at S w v.tr cs→Calls Tryz.prog 21 #[.agg cs.toArray,.int .i64 (k:Nat)] w (TmOut k (tW k v) w)
theorem tweight_step (S:Nat→Prop) (k:Nat) (IH:TmC S k) (v:Tm) (cs:List Value) (w:World) (hk:k+1≤40) (hv:Trs.at S w v.tr cs) :
 Calls Tryz.prog 21 #[.agg cs.toArray,.int .i64 ((k+1:Nat):Int)] w (TmOut (k+1) (tW (k+1) v) w):=by
 obtain⟨A,a,B,b,C,c,D,d,rfl,hp,hc,hr,ho⟩:=Tm.at_iff.1 hv
 clear hv
 have hpb:=hp.bytes
 have hcb:=hc.bytes
 have hrb:=hr.bytes
 have hob:=ho.bytes
 have hrc:=hr.cap
 have hoc:=ho.cap
 have HP:=Hd hp
 have HC:=Hd hc
 have HRS:=Hd hr
 have HO:=Hd ho
 clear hp hc hr ho
 have hk0:((k:Int)+1==0)=false:=by simp;omega
 have hk9:IntKind.i64.wrap ((k:Int)+1-1)=(k:Int):=by rw[IntWalk.i64_in _ (by omega)];omega
 have HK4:Hid (k≤40):=Hd (by omega)
 have HW0:Hid (Below w.heap.size w (w.alloc (.cells #[.slice A v.params.length a,.slice B v.conds.length b,.slice C v.res.length c,.slice D v.outs.length d] 27))):=Hd ((Below.refl _ w).alloc (Nat.le_refl _) _)
 have HB0:Hid (Blk (w.alloc (.cells #[.slice A v.params.length a,.slice B v.conds.length b,.slice C v.res.length c,.slice D v.outs.length d] 27)) w.heap.size #[.slice A v.params.length a,.slice B v.conds.length b,.slice C v.res.length c,.slice D v.outs.length d] 27):=Hd (Blk.new w _ _)
 by_cases h1:60<v.params.length∨40<v.conds.length∨60<v.res.length∨60<v.outs.length
 ·have HV:Hid (tW (k+1) v=10000):=Hd (by simp only[tW];rw[if_pos (by omega)])
  rcases Nat.lt_or_ge 60 v.params.length with h2 | h2
  ·clear h1
   go_enter Tryz.func21,Tryz.ntmps21
   go_wp2_with fail
   all_goals
    go_ret
    exact⟨by rw[HV.out];rfl,by rw[HV.out];omega,HW0.out⟩
  rcases Nat.lt_or_ge 40 v.conds.length with h3 | h3
  ·clear h1
   go_enter Tryz.func21,Tryz.ntmps21
   go_wp2_with fail
   all_goals
    go_ret
    exact⟨by rw[HV.out];rfl,by rw[HV.out];omega,HW0.out⟩
  rcases Nat.lt_or_ge 60 v.res.length with h4 | h4
  ·clear h1
   go_enter Tryz.func21,Tryz.ntmps21
   go_wp2_with fail
   all_goals
    go_ret
    exact⟨by rw[HV.out];rfl,by rw[HV.out];omega,HW0.out⟩
  have h5:60<v.outs.length:=by omega
  clear h1
  go_enter Tryz.func21,Tryz.ntmps21
  go_wp2_with fail
  all_goals
   go_ret
   exact⟨by rw[HV.out];rfl,by rw[HV.out];omega,HW0.out⟩
 have h2:decide ((60:Int)<(v.params.length:Int))=false:=decide_eq_false (by omega)
 have h3:decide ((40:Int)<(v.conds.length:Int))=false:=decide_eq_false (by omega)
 have h4:decide ((60:Int)<(v.res.length:Int))=false:=decide_eq_false (by omega)
 have h5:decide ((60:Int)<(v.outs.length:Int))=false:=decide_eq_false (by omega)
 have hpl:v.params.length≤60:=by omega
 have hcl:v.conds.length≤40:=by omega
 have hrl:v.res.length≤60:=by omega
 have hol:v.outs.length≤60:=by omega
 have HG1:=Hd (pmsgreat_any S A a v.params _ (HP.out.below HW0.out))
 have HV0:Hid (tW (k+1) v=if pmsGreat v.params=true∨csGreat v.conds=true then 10000 else rsGo (tW k) v.outs (1+v.params.length) v.res):=Hd (by
  simp only[tW]
  by_cases hg:pmsGreat v.params=true∨csGreat v.conds=true
  ·rw[if_pos (by rcases hg with h | h<;>simp[h]),if_pos hg]
  ·rw[if_neg (by rintro(h | h | h | h | h | h)<;>first | omega | exact hg (.inl h) | exact hg (.inr h)),if_neg hg])
 clear h1
 cases hg1:pmsGreat v.params with
 | true =>
   rw[hg1] at HG1 HV0
   have HV:Hid (tW (k+1) v=10000):=Hd (by rw[HV0.out,if_pos (.inl rfl)])
   clear hg1
   go_enter Tryz.func21,Tryz.ntmps21
   go_wp2_with fail
   refine HG1.out.mono ?_
   rintro e w1 ⟨rfl,hb⟩
   have HW1:=Hd (HW0.out.trans (hb.mono HW0.out.size))
   clear hb
   go_wp2_with fail
   go_ret
   exact⟨by rw[HV.out];rfl,by rw[HV.out];omega,HW1.out⟩
 | false =>
   rw[hg1] at HG1 HV0
   clear hg1
   go_enter Tryz.func21,Tryz.ntmps21
   go_wp2_with fail
   refine HG1.out.mono ?_
   rintro e w1 ⟨rfl,hb⟩
   have HB1:=Hd (HB0.out.below hb)
   have HW1:=Hd (HW0.out.trans (hb.mono HW0.out.size))
   clear hb
   obtain⟨b0,b1,b2,b3⟩:=blk4 HB1.out
   have HG2:=Hd (csgreat_any S B b v.conds _ (HC.out.below HW1.out))
   cases hg2:csGreat v.conds with
   | true =>
     rw[hg2] at HG2 HV0
     have HV:Hid (tW (k+1) v=10000):=Hd (by rw[HV0.out,if_pos (.inr rfl)])
     clear hg2
     go_wp2_with fail
     refine HG2.out.mono ?_
     rintro e w2 ⟨rfl,hb⟩
     have HW2:=Hd (HW1.out.trans (hb.mono HW1.out.size))
     clear hb
     go_wp2_with fail
     go_ret
     exact⟨by rw[HV.out];rfl,by rw[HV.out];omega,HW2.out⟩
   | false =>
     rw[hg2] at HG2 HV0
     have HV:Hid (tW (k+1) v=rsGo (tW k) v.outs (1+v.params.length) (v.res.drop 0)):=Hd (by rw[HV0.out,if_neg (by simp)];rfl)
     clear hg2
     go_wp2_with fail
     refine HG2.out.mono ?_
     rintro e w2 ⟨rfl,hb⟩
     have HB2:=Hd (HB1.out.below hb)
     have HW2:=Hd (HW1.out.trans (hb.mono HW1.out.size))
     obtain⟨d0,d1,d2,d3⟩:=blk4 HB2.out
     clear hb b0 b1 b2 b3 h2 h3 h4 h5
     go_wp2_with fail
     clear d0 d1 d2 d3
     go_loopg [5,6] v.res.length (fun g n i wr=>∃ j m:Nat,j+g=v.res.length∧i=.int .i64 (j:Nat)∧n=.int .i64 (m:Nat)∧m≤10000∧Hid (tW (k+1) v=rsGo (tW k) v.outs m (v.res.drop j))∧Hid (Blk wr w.heap.size #[.slice A v.params.length a,.slice B v.conds.length b,.slice C v.res.length c,.slice D v.outs.length d] 27)∧Hid (Below w.heap.size w wr))
     case atStart=>exact⟨0,1+v.params.length,by omega,rfl,by go_num,by omega,HV,HB2,HW2⟩
     obtain⟨j,m,hj,rfl,rfl,hm,HV3,HB3,HW3⟩:=hrel
     obtain⟨b0,b1,b2,b3⟩:=blk4 HB3.out
     cases gk with
     | zero =>
       have hjj:¬((j:Int)<(v.res.length:Int)):=by omega
       have HVO:Hid (tW (k+1) v=ouGo m (v.outs.drop 0)):=Hd (by rw[HV3.out,List.drop_of_length_le (by omega)];rfl)
       clear hj
       go_wp2_with fail
       clear b0 b1 b2 b3 hjj
       go_loopg [5,11] v.outs.length (fun g n i wr=>∃ j m:Nat,j+g=v.outs.length∧i=.int .i64 (j:Nat)∧n=.int .i64 (m:Nat)∧m≤10000+13000*j∧Hid (tW (k+1) v=ouGo m (v.outs.drop j))∧Hid (Blk wr w.heap.size #[.slice A v.params.length a,.slice B v.conds.length b,.slice C v.res.length c,.slice D v.outs.length d] 27)∧Hid (Below w.heap.size w wr))
       case atStart=>exact⟨0,m,by omega,rfl,rfl,by omega,HVO,HB3,HW3⟩
       obtain⟨j,m,hj,rfl,rfl,hm,HV3,HB3,HW3⟩:=hrel
       obtain⟨b0,b1,b2,b3⟩:=blk4 HB3.out
       cases gk with
       | zero =>
         have hjj:¬((j:Int)<(v.outs.length:Int)):=by omega
         have HR:Hid (tW (k+1) v=m):=Hd (by rw[HV3.out,List.drop_of_length_le (by omega)];rfl)
         go_wp2_with fail
         go_ret
         exact⟨by rw[HR.out];rfl,by rw[HR.out];omega,HW3.out⟩
       | succ g =>
         have hjj:(j:Int)<(v.outs.length:Int):=by omega
         obtain⟨x,hx⟩:=get_lt (l:=v.outs) (i:=j) (by omega)
         have hd:=ouGo_drop hx m
         obtain⟨ad,cs,rfl,hxt,hxc⟩:=(HO.out.below HW3.out).elem Ou.trlen hx
         obtain⟨vs,rfl,hn1,hn2,hxe⟩:=Ou.at_iff.1 hxt
         have HXE:=Hd hxe
         have HXC:=Hd hxc
         obtain⟨A7,c7,rfl,-⟩:=Ex.at_iff.1 hxe
         obtain⟨e0,e1,e2,e3,e4,e5,e6,e7⟩:=cel8 hxc
         have HG:=Hd (xgreat_any S x.e _ wr HXE.out)
         clear hx hxt hxc hxe
         cases hg:xGreat x.e with
         | true =>
           rw[hg] at HG hd
           have HR:Hid (tW (k+1) v=10000):=Hd (by rw[HV3.out,hd];rfl)
           clear hg hd
           go_wp2_with fail
           refine HG.out.mono ?_
           rintro e w4 ⟨rfl,hb⟩
           have HW4:=Hd (HW3.out.trans (hb.mono HW3.out.size))
           clear hb
           go_wp2_with fail
           go_ret
           exact⟨by rw[HR.out];rfl,by rw[HR.out];omega,HW4.out⟩
         | false =>
           rw[hg] at HG hd
           obtain⟨hp1,hp2⟩:=xG_parts hg
           obtain⟨t0,ht0⟩:∃ t0,t0=min (x.name.size+x.cond.size) 10000:=⟨_,rfl⟩
           rw[←ht0] at hd
           have hmin:min ((x.name.size:Int)+(x.cond.size:Int)) 10000=(t0:Int):=by omega
           have ht4:t0≤10000:=by omega
           have HR:Hid (tW (k+1) v=ouGo (m+(t0+x.e.parts)) (v.outs.drop (j+1))):=Hd (by rw[HV3.out,hd];rfl)
           clear hg hd ht0
           have hmn:∀ w',(Builtin.min_ #[3,3] 3 #[.int .i64 ((x.name.size:Int)+(x.cond.size:Int)),.int .i64 10000]).run Tryz.prog w'=.ok (.int .i64 (t0:Nat)) w':=fun w'=>run_min hmin
           have z0:IntKind.i64.wrap ((x.name.size:Int)+(x.cond.size:Int))=(x.name.size:Int)+(x.cond.size:Int):=IntWalk.i64_in _ (by omega)
           have z1:IntKind.i64.wrap ((t0:Int)+(x.e.parts:Int))=(t0:Int)+(x.e.parts:Int):=IntWalk.i64_in _ (by omega)
           have z2:IntKind.i64.wrap ((m:Int)+((t0:Int)+(x.e.parts:Int)))=(m:Int)+((t0:Int)+(x.e.parts:Int)):=IntWalk.i64_in _ (by omega)
           go_wp2_with fail
           refine HG.out.mono ?_
           rintro e w4 ⟨rfl,hb⟩
           have HB4:=Hd (HB3.out.below hb)
           have HW4:=Hd (HW3.out.trans (hb.mono HW3.out.size))
           have HXC4:=Hd (HXC.out.below hb)
           have HXE4:=Hd (HXE.out.below hb)
           obtain⟨k0,k1,k2,k3,k4,k5,k6,k7⟩:=cel8 HXC4.out
           obtain⟨q0,q1,q2,q3⟩:=blk4 HB4.out
           clear hb e0 e1 e2 e3 e4 e5 e6 e7 b0 b1 b2 b3 q0 q1 q2
           go_wp2_with fail
           go_region_held3 (fun w'=>w'.cell? ⟨w.heap.size,3,none⟩=some (.slice (some ad) v.outs.length d)∧w'.cell? (ad.add (j*8))=some (.string x.name)∧w'.cell? ⟨(ad.add (j*8)).block,(ad.add (j*8)).off+1,none⟩=some (.string x.cond)∧w'.cell? ⟨(ad.add (j*8)).block,(ad.add (j*8)).off+2,none⟩=some (.int .i8 x.e.kind)∧w'.cell? ⟨(ad.add (j*8)).block,(ad.add (j*8)).off+3,none⟩=some (.string x.e.text)∧w'.cell? ⟨(ad.add (j*8)).block,(ad.add (j*8)).off+4,none⟩=some (.int .i64 x.e.num)∧w'.cell? ⟨(ad.add (j*8)).block,(ad.add (j*8)).off+5,none⟩=some (.string x.e.name)∧w'.cell? ⟨(ad.add (j*8)).block,(ad.add (j*8)).off+6,none⟩=some (.string x.e.attr)∧w'.cell? ⟨(ad.add (j*8)).block,(ad.add (j*8)).off+7,none⟩=some (.slice A7 x.e.l.length c7)) (go_keep)
            ((go_at_call 43;(with_reducible refine(parts_any S 30 x.e _ _ hp1 (HXE4.out.below (Below.refl _ w4).drew)).mono ?_);rintro e w5 ⟨rfl,hb5⟩;have hk5:=HXC4.out.below ((Below.refl _ w4).drew.trans hb5);have hq5:=HB4.out.below ((Below.refl _ w4).drew.trans hb5);obtain⟨n0,n1,n2,n3,n4,n5,n6,n7⟩:=cel8 hk5;obtain⟨-,-,-,m3⟩:=blk4 hq5;have HB5:=Hd hq5;have HW5:=Hd (HW4.out.trans (((Below.refl _ w4).drew.trans hb5).mono HW4.out.size));clear hb5 hk5 hq5))
           all_goals
            clear hmn hmin
            go_wp2_with fail
            go_roundg g
            case measure=>omega
            case rel=>exact⟨j+1,m+(t0+x.e.parts),by omega,by go_num,by first | go_num | (rw[z1,z2];go_num),by omega,HR,HB5,HW5⟩
     | succ g =>
       rename World=>wo
       have hjj:(j:Int)<(v.res.length:Int):=by omega
       obtain⟨x,hx⟩:=get_lt (l:=v.res) (i:=j) (by omega)
       have hd0:=drop_cons hx
       have hd:rsGo (tW k) v.outs m (v.res.drop j)=rsGo (tW k) v.outs m (x::v.res.drop (j+1)):=by rw[hd0]
       clear hd0
       obtain⟨ad,cs,rfl,hxt,hxc⟩:=(HRS.out.below HW3.out).elem Rs.trlen hx
       obtain⟨A1,a1,B1,bb1,C1,cc1,rfl,hid',hty,hcd,hpr,hdp,hin⟩:=Rs.at_iff.1 hxt
       obtain⟨e0,e1,e2,e3,e4,e5,e6⟩:=cel7 hxc
       have HXP:=Hd hpr
       have HXD:=Hd hdp
       have HXI:=Hd hin
       clear hx hxt hxc hpr hdp hin
       by_cases hbig:60<x.props.length∨60<x.depends.length∨3<x.inner.length
       ·have HV:Hid (tW (k+1) v=10000):=Hd (by rw[HV3.out,hd];simp only[rsGo];rw[if_pos hbig])
        clear hd
        rcases Nat.lt_or_ge 60 x.props.length with h2 | h2
        ·clear hbig
         go_wp2_with fail
         all_goals
          go_ret
          exact⟨by rw[HV.out];rfl,by rw[HV.out];omega,(HW3.out.alloc HW3.out.size _)⟩
        rcases Nat.lt_or_ge 60 x.depends.length with h3 | h3
        ·clear hbig
         go_wp2_with fail
         all_goals
          go_ret
          exact⟨by rw[HV.out];rfl,by rw[HV.out];omega,(HW3.out.alloc HW3.out.size _)⟩
        have h4:3<x.inner.length:=by omega
        clear hbig
        go_wp2_with fail
        all_goals
         go_ret
         exact⟨by rw[HV.out];rfl,by rw[HV.out];omega,(HW3.out.alloc HW3.out.size _)⟩
       have h2:decide ((60:Int)<(x.props.length:Int))=false:=decide_eq_false (by omega)
       have h3:decide ((60:Int)<(x.depends.length:Int))=false:=decide_eq_false (by omega)
       have h4:decide ((3:Int)<(x.inner.length:Int))=false:=decide_eq_false (by omega)
       have hpl':x.props.length≤60:=by omega
       have hdl':x.depends.length≤60:=by omega
       have hil':x.inner.length≤3:=by omega
       rw[rsGo_cons _ _ _ _ _ hbig] at hd
       obtain⟨t0,ht0⟩:∃ t0,t0=min (x.id.size+x.type.size+x.cond.size) 10000:=⟨_,rfl⟩
       rw[←ht0] at hd
       have hmin:min ((x.id.size:Int)+(x.type.size:Int)+(x.cond.size:Int)) 10000=(t0:Int):=by omega
       have ht4:t0≤10000:=by omega
       have hmn:∀ w',(Builtin.min_ #[3,3] 3 #[.int .i64 ((x.id.size:Int)+(x.type.size:Int)+(x.cond.size:Int)),.int .i64 10000]).run Tryz.prog w'=.ok (.int .i64 (t0:Nat)) w':=fun w'=>run_min hmin
       have HVP:Hid (tW (k+1) v=prK (tW k) v.outs (v.res.drop (j+1)) x (prGo (m+(1+t0)) (x.props.drop 0))):=Hd (by rw[HV3.out,hd];rfl)
       have HBR:Hid (Blk (wo.alloc (.cells #[.string x.id,.string x.type,.string x.cond,.slice A1 x.props.length a1,.slice B1 x.depends.length bb1,.bool x.retain,.slice C1 x.inner.length cc1] 66)) wo.heap.size #[.string x.id,.string x.type,.string x.cond,.slice A1 x.props.length a1,.slice B1 x.depends.length bb1,.bool x.retain,.slice C1 x.inner.length cc1] 66):=Hd (Blk.new wo _ _)
       have HBT:Hid (Blk (wo.alloc (.cells #[.string x.id,.string x.type,.string x.cond,.slice A1 x.props.length a1,.slice B1 x.depends.length bb1,.bool x.retain,.slice C1 x.inner.length cc1] 66)) w.heap.size #[.slice A v.params.length a,.slice B v.conds.length b,.slice (some ad) v.res.length c,.slice D v.outs.length d] 27):=Hd (HB3.out.alloc _)
       have HWR:Hid (Below wo.heap.size wo (wo.alloc (.cells #[.string x.id,.string x.type,.string x.cond,.slice A1 x.props.length a1,.slice B1 x.depends.length bb1,.bool x.retain,.slice C1 x.inner.length cc1] 66))):=Hd ((Below.refl _ wo).alloc (Nat.le_refl _) _)
       clear hd ht0 hbig
       go_wp2_with fail
       clear hmn hmin h2 h3 h4 b0 b1 b2 b3 e0 e1 e2 e3 e4 e5 e6
       go_loopg [5,8] x.props.length (fun g n i wo'=>∃ i' m':Nat,i'+g=x.props.length∧i=.int .i64 (i':Nat)∧n=.int .i64 (m':Nat)∧m'≤20001+13000*i'∧Hid (tW (k+1) v=prK (tW k) v.outs (v.res.drop (j+1)) x (prGo m' (x.props.drop i')))∧Hid (Blk wo' wo.heap.size #[.string x.id,.string x.type,.string x.cond,.slice A1 x.props.length a1,.slice B1 x.depends.length bb1,.bool x.retain,.slice C1 x.inner.length cc1] 66)∧Hid (Blk wo' w.heap.size #[.slice A v.params.length a,.slice B v.conds.length b,.slice (some ad) v.res.length c,.slice D v.outs.length d] 27)∧Hid (Below wo.heap.size wo wo'))
       case atStart=>exact⟨0,m+(1+t0),by omega,rfl,by go_num,by omega,HVP,HBR,HBT,HWR⟩
       obtain⟨i',m',hi,rfl,rfl,hm',HVP2,HBR2,HBT2,HWR2⟩:=hrel
       have HW4:=Hd (HW3.out.trans (HWR2.out.mono HW3.out.size))
       obtain⟨r0,r1,r2,r3,r4,r5,r6⟩:=blk7 HBR2.out
       clear HBR HBT HWR HVP
       cases gk with
       | zero =>
         have hii:¬((i':Int)<(x.props.length:Int)):=by omega
         have HVD:Hid (tW (k+1) v=inK (tW k) v.outs (v.res.drop (j+1)) x.inner (m'+mins (x.depends.drop 0))):=Hd (by rw[HVP2.out,show x.props.drop i'=[] from List.drop_of_length_le (by omega)];rfl)
         have hmd:m'≤810001:=by omega
         clear HVP2 hi hm'
         go_wp2_with fail
         clear r0 r1 r2 r3 r4 r5 r6 hii
         go_loopg [5,9] x.depends.length (fun g n i wr=>∃ i' m':Nat,i'+g=x.depends.length∧i=.int .i64 (i':Nat)∧n=.int .i64 (m':Nat)∧m'≤810001+10000*i'∧Hid (tW (k+1) v=inK (tW k) v.outs (v.res.drop (j+1)) x.inner (m'+mins (x.depends.drop i')))∧Hid (Blk wr wo.heap.size #[.string x.id,.string x.type,.string x.cond,.slice A1 x.props.length a1,.slice B1 x.depends.length bb1,.bool x.retain,.slice C1 x.inner.length cc1] 66)∧Hid (Blk wr w.heap.size #[.slice A v.params.length a,.slice B v.conds.length b,.slice (some ad) v.res.length c,.slice D v.outs.length d] 27)∧Hid (Below wo.heap.size wo wr))
         case atStart=>exact⟨0,m',by omega,rfl,rfl,by omega,HVD,HBR2,HBT2,HWR2⟩
         obtain⟨i',m',hi,rfl,rfl,hm',HVD2,HBR3,HBT3,HWR3⟩:=hrel
         clear HBR2 HBT2 HWR2 HVD
         obtain⟨r0,r1,r2,r3,r4,r5,r6⟩:=blk7 HBR3.out
         cases gk with
         | zero =>
           have hii:¬((i':Int)<(x.depends.length:Int)):=by omega
           have HVI:Hid (tW (k+1) v=inK (tW k) v.outs (v.res.drop (j+1)) (x.inner.drop 0) m'):=Hd (by rw[HVD2.out,show x.depends.drop i'=[] from List.drop_of_length_le (by omega)];rfl)
           obtain⟨Bd,hB0,hB1,hB2,hB3⟩:∃ Bd,1410001≤Bd∧Hid (10010000+1000000*k≤Bd)∧Hid (Bd≤10000000+1000000*(k+1))∧Bd≤100000000:=⟨10010000+1000000*k,by omega,Hd (Nat.le_refl _),Hd (by omega),by omega⟩
           have hmi:m'≤Bd:=by omega
           clear HVD2 hi hm'
           go_wp2_with fail
           clear r0 r1 r2 r3 r4 r5 r6 hii
           go_loopg [5,10] x.inner.length (fun g n i wr=>∃ i' m':Nat,i'+g=x.inner.length∧i=.int .i64 (i':Nat)∧n=.int .i64 (m':Nat)∧m'≤Bd∧Hid (tW (k+1) v=inK (tW k) v.outs (v.res.drop (j+1)) (x.inner.drop i') m')∧Hid (Blk wr wo.heap.size #[.string x.id,.string x.type,.string x.cond,.slice A1 x.props.length a1,.slice B1 x.depends.length bb1,.bool x.retain,.slice C1 x.inner.length cc1] 66)∧Hid (Blk wr w.heap.size #[.slice A v.params.length a,.slice B v.conds.length b,.slice (some ad) v.res.length c,.slice D v.outs.length d] 27)∧Hid (Below wo.heap.size wo wr))
           case atStart=>exact⟨0,m',by omega,rfl,rfl,hmi,HVI,HBR3,HBT3,HWR3⟩
           obtain⟨i',m',hi,rfl,rfl,hm',HVI2,HBR4,HBT4,HWR4⟩:=hrel
           clear HBR3 HBT3 HWR3 HVI
           obtain⟨r0,r1,r2,r3,r4,r5,r6⟩:=blk7 HBR4.out
           have HW5:=Hd (HW3.out.trans (HWR4.out.mono HW3.out.size))
           by_cases hm1:10000<m'
           ·have hm2:¬((m':Int)≤10000):=by omega
            have hm3:(10000:Int)<(m':Int):=by omega
            have HR:Hid (tW (k+1) v=m'):=Hd (by rw[HVI2.out,inK_stop hm1])
            go_wp2_with fail
            all_goals
             go_ret
             exact⟨by rw[HR.out];rfl,by rw[HR.out];exact Nat.le_trans hm' hB2.out,HW5.out⟩
           have hm2:(m':Int)≤10000:=by omega
           have hm3:¬((10000:Int)<(m':Int)):=by omega
           cases gk with
           | zero =>
             have hii:¬((i':Int)<(x.inner.length:Int)):=by omega
             have HVR:Hid (tW (k+1) v=rsGo (tW k) v.outs m' (v.res.drop (j+1))):=Hd (by rw[HVI2.out,show x.inner.drop i'=[] from List.drop_of_length_le (by omega),inK_nil (by omega)])
             go_wp2_with fail
             go_roundg g
             case measure=>omega
             case rel=>exact⟨j+1,m',by omega,by go_num,rfl,by omega,HVR,HBT4,HW5⟩
           | succ g4 =>
             have hii:(i':Int)<(x.inner.length:Int):=by omega
             obtain⟨y,hy⟩:=get_lt (l:=x.inner) (i:=i') (by omega)
             have hd:=drop_cons hy
             obtain⟨ad2,cs2,rfl,hyt,hyc⟩:=(HXI.out.below HWR4.out).elem Tm.trlen hy
             have HY:=Hd hyt
             obtain⟨A7,a7,B7,b7,C7,c7,D7,d7,rfl,-⟩:=Tm.at_iff.1 hyt
             obtain⟨e0,e1,e2,e3⟩:=cel4 hyc
             have HVI3:Hid (tW (k+1) v=inK (tW k) v.outs (v.res.drop (j+1)) (x.inner.drop (i'+1)) (m'+tW k y)):=Hd (by rw[HVI2.out,hd,inK_go (by omega)])
             have HT:=Hd (IH y _ _ HK4.out HY.out)
             clear hd hy hyt hyc
             go_wp2_with fail
             refine HT.out.mono ?_
             rintro e w6 ⟨rfl,hyw,hb⟩
             have hm7:m'+tW k y≤Bd:=Nat.le_trans (Nat.add_le_add (Nat.le_of_not_lt hm1) hyw) (by have:=hB1.out;omega)
             clear hyw
             have HBR5:=Hd (HBR4.out.below hb)
             have HBT5:=Hd (HBT4.out.below hb)
             have HWR5:=Hd (HWR4.out.trans (hb.mono HWR4.out.size))
             clear hb
             go_wp2_with fail
             go_roundg g4
             case measure=>omega
             case rel=>exact⟨i'+1,m'+tW k y,by omega,by go_num,by go_num,hm7,HVI3,HBR5,HBT5,HWR5⟩
         | succ g3 =>
           have hii:(i':Int)<(x.depends.length:Int):=by omega
           obtain⟨y,hy⟩:=get_lt (l:=x.depends) (i:=i') (by omega)
           have hd:=mins_drop hy
           obtain⟨ad2,rfl,hyc,hys⟩:=(HXD.out.below HWR3.out).str hy
           obtain⟨s0,hs0⟩:∃ s0,s0=min y.size 10000:=⟨_,rfl⟩
           rw[←hs0] at hd
           have HVD3:Hid (tW (k+1) v=inK (tW k) v.outs (v.res.drop (j+1)) x.inner (m'+s0+mins (x.depends.drop (i'+1)))):=Hd (by rw[HVD2.out,hd,Nat.add_assoc])
           have hmn:∀ w',(Builtin.min_ #[3,3] 3 #[.int .i64 (y.size:Nat),.int .i64 10000]).run Tryz.prog w'=.ok (.int .i64 (s0:Nat)) w':=fun w'=>run_min (by omega)
           have hs1:s0≤10000:=by omega
           clear hd hy hs0
           go_wp2_with fail
           go_roundg g3
           case measure=>omega
           case rel=>exact⟨i'+1,m'+s0,by omega,by go_num,by go_num,by omega,HVD3,HBR3,HBT3,HWR3⟩
       | succ g2 =>
         have hii:(i':Int)<(x.props.length:Int):=by omega
         obtain⟨y,hy⟩:=get_lt (l:=x.props) (i:=i') (by omega)
         have hd:=prGo_drop hy m'
         obtain⟨ad2,cs2,rfl,hyt,hyc⟩:=(HXP.out.below HWR2.out).elem Pr.trlen hy
         obtain⟨vs2,rfl,hn1,hye⟩:=Pr.at_iff.1 hyt
         have HYE:=Hd hye
         have HYC:=Hd hyc
         obtain⟨A7,c7,rfl,-⟩:=Ex.at_iff.1 hye
         obtain⟨e0,e1,e2,e3,e4,e5,e6⟩:=cel7 hyc
         have HG:=Hd (xgreat_any S y.e _ _ HYE.out)
         clear hy hyt hyc hye
         cases hg:xGreat y.e with
         | true =>
           rw[hg] at HG hd
           have HR:Hid (tW (k+1) v=10000):=Hd (by rw[HVP2.out,hd];rfl)
           clear hg hd
           go_wp2_with fail
           refine HG.out.mono ?_
           rintro e w5 ⟨rfl,hb⟩
           have HW5:=Hd (HW4.out.trans (hb.mono HW4.out.size))
           clear hb
           go_wp2_with fail
           go_ret
           exact⟨by rw[HR.out];rfl,by rw[HR.out];omega,HW5.out⟩
         | false =>
           rw[hg] at HG hd
           obtain⟨hp1,hp2⟩:=xG_parts hg
           obtain⟨s0,hs0⟩:∃ s0,s0=min y.name.size 10000:=⟨_,rfl⟩
           rw[←hs0] at hd
           have hs1:s0≤10000:=by omega
           have HR:Hid (tW (k+1) v=prK (tW k) v.outs (v.res.drop (j+1)) x (prGo (m'+(s0+y.e.parts)) (x.props.drop (i'+1)))):=Hd (by rw[HVP2.out,hd];rfl)
           have hmn:∀ w',(Builtin.min_ #[3,3] 3 #[.int .i64 (y.name.size:Nat),.int .i64 10000]).run Tryz.prog w'=.ok (.int .i64 (s0:Nat)) w':=fun w'=>run_min (by omega)
           clear hg hd hs0
           have z1:IntKind.i64.wrap ((s0:Int)+(y.e.parts:Int))=(s0:Int)+(y.e.parts:Int):=IntWalk.i64_in _ (by omega)
           have z2:IntKind.i64.wrap ((m':Int)+((s0:Int)+(y.e.parts:Int)))=(m':Int)+((s0:Int)+(y.e.parts:Int)):=IntWalk.i64_in _ (by omega)
           go_wp2_with fail
           refine HG.out.mono ?_
           rintro e w5 ⟨rfl,hb⟩
           have HBR5:=Hd (HBR2.out.below hb)
           have HBT5:=Hd (HBT2.out.below hb)
           have HWR5:=Hd (HWR2.out.trans (hb.mono HWR2.out.size))
           have HYC5:=Hd (HYC.out.below hb)
           have HYE5:=Hd (HYE.out.below hb)
           obtain⟨k0,k1,k2,k3,k4,k5,k6⟩:=cel7 HYC5.out
           obtain⟨q0,q1,q2,q3,q4,q5,q6⟩:=blk7 HBR5.out
           clear hb e0 e1 e2 e3 e4 e5 e6 r0 r1 r2 r3 r4 r5 r6 q0 q1 q2 q4 q5 q6
           go_wp2_with fail
           go_region_held3 (fun w'=>w'.cell? ⟨wo.heap.size,3,none⟩=some (.slice (some ad2) x.props.length a1)∧w'.cell? (ad2.add (i' * 7))=some (.string y.name)∧w'.cell? ⟨(ad2.add (i' * 7)).block,(ad2.add (i' * 7)).off+1,none⟩=some (.int .i8 y.e.kind)∧w'.cell? ⟨(ad2.add (i' * 7)).block,(ad2.add (i' * 7)).off+2,none⟩=some (.string y.e.text)∧w'.cell? ⟨(ad2.add (i' * 7)).block,(ad2.add (i' * 7)).off+3,none⟩=some (.int .i64 y.e.num)∧w'.cell? ⟨(ad2.add (i' * 7)).block,(ad2.add (i' * 7)).off+4,none⟩=some (.string y.e.name)∧w'.cell? ⟨(ad2.add (i' * 7)).block,(ad2.add (i' * 7)).off+5,none⟩=some (.string y.e.attr)∧w'.cell? ⟨(ad2.add (i' * 7)).block,(ad2.add (i' * 7)).off+6,none⟩=some (.slice A7 y.e.l.length c7)) (go_keep)
            ((go_at_call 43;(with_reducible refine(parts_any S 30 y.e _ _ hp1 (HYE5.out.below (Below.refl _ w5).drew)).mono ?_);rintro e w6 ⟨rfl,hb6⟩;have hk6:=HYC5.out.below ((Below.refl _ w5).drew.trans hb6);have hr6:=HBR5.out.below ((Below.refl _ w5).drew.trans hb6);have ht6:=HBT5.out.below ((Below.refl _ w5).drew.trans hb6);obtain⟨n0,n1,n2,n3,n4,n5,n6⟩:=cel7 hk6;obtain⟨-,-,-,m3,-,-,-⟩:=blk7 hr6;have HBR6:=Hd hr6;have HBT6:=Hd ht6;have HWR6:=Hd (HWR5.out.trans (((Below.refl _ w5).drew.trans hb6).mono HWR5.out.size));clear hb6 hk6 hr6 ht6))
           all_goals
            clear hmn
            go_wp2_with fail
            go_roundg g2
            case measure=>omega
            case rel=>exact⟨i'+1,m'+(s0+y.e.parts),by omega,by go_num,by first | go_num | (rw[z1,z2];go_num),by omega,HR,HBR6,HBT6,HWR6⟩
theorem tweight_any (S:Nat→Prop):∀ (k:Nat),TmC S k:=by
 intro k
 induction k with
 | zero =>
   intro v cs w hk hv
   obtain⟨A,a,B,b,C,c,D,d,rfl,-⟩:=Tm.at_iff.1 hv
   clear hv
   go_enter Tryz.func21,Tryz.ntmps21
   go_wp2_with fail
   go_ret
   exact⟨rfl,by simp[tW],(Below.refl _ w).alloc (Nat.le_refl _) _⟩
 | succ k ih=>exact fun v cs w hk hv=>tweight_step S k ih v cs w hk hv
theorem tgreat_any (S:Nat→Prop) (v:Tm) (cs:List Value) (A2:Option Addr) (c2:Nat) (l:List Gv) (w:World) (hv:Trs.at S w v.tr cs) (hl:Ls S w 8 104 Gv.tr A2 c2 l) :
 Calls Tryz.prog 7 #[.agg cs.toArray,.slice A2 l.length c2] w (BoolOut (tGreat v l) w):=by
 have HV:=Hd hv
 have HL:=Hd hl
 obtain⟨A,a,B,b,C,c,D,d,rfl,-⟩:=Tm.at_iff.1 hv
 clear hv hl
 by_cases h3:3000<tW 8 v
 ·have HR:Hid (tGreat v l=true):=Hd (by unfold tGreat;rw[decide_eq_true h3];rfl)
  have hi:(3000:Int)<(tW 8 v:Nat):=by omega
  clear h3
  go_enter Tryz.func7,Tryz.ntmps7
  go_wp2_with fail
  refine(tweight_any S 8 v _ _ (by omega) (HV.out.alloc _)).mono ?_
  rintro e w2 ⟨rfl,hn,hb⟩
  have HB:=Hd (((Below.refl _ w).alloc (Nat.le_refl _) _).trans (hb.mono (by simp)))
  clear hb hn
  go_wp2_with fail
  go_ret
  exact⟨by rw[HR.out];rfl,HB.out⟩
 ·have HR:Hid (tGreat v l=gsGreat l):=Hd (by unfold tGreat;rw[decide_eq_false h3,Bool.false_or])
  have hi:decide ((3000:Int)<(tW 8 v:Nat))=false:=decide_eq_false (by omega)
  clear h3
  go_enter Tryz.func7,Tryz.ntmps7
  go_wp2_with fail
  refine(tweight_any S 8 v _ _ (by omega) (HV.out.alloc _)).mono ?_
  rintro e w2 ⟨rfl,hn,hb⟩
  have HL2:=Hd ((HL.out.alloc (.cells #[.slice A v.params.length a,.slice B v.conds.length b,.slice C v.res.length c,.slice D v.outs.length d] 27)).below hb)
  have HB:=Hd (((Below.refl _ w).alloc (Nat.le_refl _) (.cells #[.slice A v.params.length a,.slice B v.conds.length b,.slice C v.res.length c,.slice D v.outs.length d] 27)).trans (hb.mono (by simp)))
  clear hb hn
  go_wp2_with fail
  refine(gsgreat_any S A2 c2 l _ HL2.out).mono ?_
  rintro e w3 ⟨rfl,hb⟩
  have HB2:=Hd (HB.out.trans (hb.mono HB.out.size))
  clear hb
  go_wp2_with fail
  go_ret
  exact⟨by rw[HR.out];rfl,HB2.out⟩
end Go.Proofs.YtgdfkbalnpfdgaaGreatDoor
