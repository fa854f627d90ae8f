/- Part of the proof. -/
import Derived.Test.YtgdfkbalnpfdgaaGreatDoorGtT
import Derived.Test.YtgdfkbalnpfdgaaGreatDoorDf7
import Derived.Test.YtgdfkbalnpfdgaaGreatDoorDf9
set_option maxRecDepth 100000
set_option maxHeartbeats 16000000
set_option linter.unusedVariables false
set_option linter.unusedSimpArgs false
namespace Go.Proofs.YtgdfkbalnpfdgaaGreatDoor
open Go.RowKit
theorem drun_err (K:List Cd→List Gv→Nat) (hK:DpK K) (SA NA:Option Addr) (sC nC:Nat) (sc:List Sc) (nd:List Nd) (AA:Option Addr) (ac:Nat) (args:List Gv) (w:World) (hV:VOk w) (hsc:Ls (fun k=>k<w.heap.size) w 7 144 Sc.tr SA sC sc) (hnd:Ls (fun k=>k<w.heap.size) w 11 200 Nd.tr NA nC nd)
 (hf:FlatOk sc nd) (hag:Ls (fun k=>k<w.heap.size) w 8 104 Gv.tr AA ac args) (han:args.length≤1000000) (has:∀ g∈args,vSmall g.v) (m:Nat) (hnp:nConds K sc nd args=.inl m) :
 Calls Tryz.prog 10 #[.agg #[.slice SA sc.length sC,.slice NA nd.length nC],.slice AA args.length ac] w fun e w'=>Below w.heap.size w w'∧m≠0∧e=.returned (.tuple #[.slice none 0 0,.int .i64 0,.int .i64 (m:Nat)]):=by
 obtain⟨w1,hw1⟩:∃ w1,w1=w.alloc (.cells #[.slice SA sc.length sC,.slice NA nd.length nC] 34):=⟨_,rfl⟩
 have hb1:Below w.heap.size w w1:=by rw[hw1];exact(Below.refl _ w).alloc (Nat.le_refl _) _
 have hs1:w1.heap.size=w.heap.size+1:=by rw[hw1];simp
 have hfb:Blk w1 w.heap.size #[.slice SA sc.length sC,.slice NA nd.length nC] 34:=by rw[hw1];exact Blk.new w _ _
 have hBG:=begin_any K hK w.heap.size SA NA sC nC sc nd AA ac args w1 (hV.below hb1) hfb ((hsc.below hb1).mono (fun k hk=>by omega)) ((hnd.below hb1).mono (fun k hk=>by omega)) hf ((hag.below hb1).mono (fun k hk=>by omega)) han has
 unfold BeginO at hBG
 rw[hnp] at hBG
 have HBG:=Hd hBG
 have HB1:=Hd hb1
 have HW1:=Hd hw1
 clear hK hV hsc hnd hag has hnp hBG hb1 hfb hw1 hs1 hf
 go_enter Tryz.func10,Tryz.ntmps10
 go_upto_region 1 with fail
 rw[←HW1.out]
 go_wp2_with fail
 refine HBG.out.mono ?_
 rintro e w2 ⟨hb2,hm,rfl⟩
 have HB2:=Hd (HB1.out.trans (hb2.mono HB1.out.size))
 have hmi:((m:Int)!=0)=true:=by simpa using hm
 have HM:=Hd hm
 clear hm hb2
 go_wp2_with fail
 refine bodyPost_ret (v:=.tuple #[.slice none 0 0,.int .i64 0,.int .i64 (m:Nat)]) (by simp[results,Tryz.results10,go_sem]) rfl ?_
 exact⟨HB2.out,HM.out,rfl⟩
theorem row_ok {Γ:Env} {on:Bool} {n:Nd} {row:List Int} (h:RowP Γ on n row):(on=false→row=[])∧row.Pairwise (· < ·)∧∀ k∈row,okKey Γ k:=by
 unfold RowP at h
 split at h
 ·subst h
  exact⟨fun _=>rfl,List.Pairwise.nil,fun k hk=>by cases hk⟩
 ·next hon =>
  obtain⟨s',h1,-,h2,h3⟩:=h
  refine⟨fun h=>absurd h hon,h2,fun k hk=>?_⟩
  have h4:=(h3 k).1 hk
  simp only[Bool.or_eq_true] at h4
  rcases h4 with h4 | h4
  ·exact h1.good (fun k hk=>by cases hk) k h4
  ·unfold aft at h4
   simp only[Bool.and_eq_true,decide_eq_true_eq] at h4
   obtain⟨h5,h6,h7⟩:=h4
   refine⟨k.toNat,by omega,?_,h6⟩
   split at h7
   ·next m hm=>exact(List.getElem?_eq_some_iff.1 hm).1
   ·cases h7
theorem depsOff_walk (w:World) (hV:VOk w) (cs:Array Value) (t:Tm) (h:Trs.at (fun k=>k<w.heap.size) w t.tr cs.toList) (AA:Option Addr) (len ac:Nat) (args:List Gv) (hlen:len=args.length) (hl:Ls (fun k=>k<w.heap.size) w 8 104 Gv.tr AA ac args) :
 Calls Tryz.prog 3 #[.agg cs,.slice AA len ac] w fun e w'=>e=.returned (.bool true)∧Below w.heap.size w w':=by
 subst hlen
 obtain⟨A,a,B,b,C,c,D,d,hcs,h1,h2,h3,h4⟩:=Tm.at_iff.1 h
 obtain rfl:cs=#[.slice A t.params.length a,.slice B t.conds.length b,.slice C t.res.length c,.slice D t.outs.length d]:=by
  have:=congrArg List.toArray hcs
  simpa using this
 have hb0:Below w.heap.size w (w.alloc (.cells #[.slice A t.params.length a,.slice B t.conds.length b,.slice C t.res.length c,.slice D t.outs.length d] 27)):=(Below.refl _ w).alloc (Nat.le_refl _) _
 have HB0:=Hd hb0
 have HX0:=Hd (Blk.new w #[.slice A t.params.length a,.slice B t.conds.length b,.slice C t.res.length c,.slice D t.outs.length d] 27)
 have HG:=Hd (tgreat_any (fun k=>k<w.heap.size) t _ AA ac args _ (h.below hb0) (hl.below hb0))
 have HT:=Hd h
 have HAG:=Hd hl
 have HWK:Hid (∀ w',Below w.heap.size w w'→Calls Tryz.prog 8 #[] w' fun e w''=>e=.returned (.bool true)∧Below w'.heap.size w' w''):=Hd (wkOk hV)
 have HV:=Hd hV
 obtain⟨K,hK⟩:=dpK_ex
 have HK:=Hd hK
 have hacap:=hl.cap
 obtain⟨t0,t1,t2,t3⟩:=blk4 HX0.out
 clear h h1 h2 h3 h4 hcs hl hV hb0 hK
 cases hg:tGreat t args with
 | true =>
   rw[hg] at HG
   clear hg
   go_enter Tryz.func3,Tryz.ntmps3
   go_wp2_with fail
   refine HG.out.mono ?_
   rintro e w2 ⟨rfl,hb2⟩
   have HB2:=Hd (HB0.out.trans (hb2.mono HB0.out.size))
   clear hb2 t0 t1 t2 t3
   go_wp2_with fail
   refine(HWK.out _ HB2.out).mono ?_
   rintro e w3 ⟨rfl,hb3⟩
   have HB3:=Hd (HB2.out.trans (hb3.mono HB2.out.size))
   clear hb3
   go_wp2_with fail
   go_ret
   exact⟨rfl,HB3.out⟩
 | false =>
   rw[hg] at HG
   have htw:tW 8 t≤3000:=by
    unfold tGreat at hg
    simp at hg
    omega
   have hgs:gsGreat args=false:=by
    unfold tGreat at hg
    simp at hg
    exact hg.2
   have hgd:=tW_gd 8 t htw
   have HZ:Hid (TmZ scD ndD 2 0 t):=Hd (TmZ_of 2 0 5 t (by omega) hgd)
   have HRO:Hid (scD ⟨-1,ByteArray.empty,bareT t,[]⟩):=Hd (scD_of hgd (by simp) (fun a ha=>by cases ha))
   obtain⟨han,has⟩:=gs_small hgs
   have HAS:=Hd has
   clear hg htw hgs has hgd
   go_enter Tryz.func3,Tryz.ntmps3
   go_wp2_with fail
   refine HG.out.mono ?_
   rintro e w2 ⟨rfl,hb2⟩
   have hbb:=HB0.out.trans (hb2.mono HB0.out.size)
   have HB2:=Hd hbb
   clear t0 t1 t2 t3
   obtain⟨x0,x1,x2,x3⟩:=blk4 (HX0.out.below hb2)
   have HF:=Hd (rflat_any scD ndD ndE (fun n h=>h.1) ndD_E (fun k=>k<w.heap.size) t _ w2 HZ.out HRO.out (HT.out.below hbb) (fun k hk=>Nat.lt_of_lt_of_le hk hbb.size))
   clear hb2 hbb HG
   go_wp2_with fail
   refine HF.out.mono ?_
   rintro e w5 ⟨hb5,ez,SA,NA,sC,nC,sc,nd,rfl,hf1,hf2,hgood⟩
   have hw6:Below w5.heap.size w5 (w5.alloc (.cells #[.slice SA sc.length sC,.slice NA nd.length nC] 34)):=(Below.refl _ w5).alloc (Nat.le_refl _) _
   have hb56:=hb5.trans (hw6.mono hb5.size)
   have HB6:=Hd (HB2.out.trans (hb56.mono HB2.out.size))
   have HFB:=Hd (Blk.new w5 #[.slice SA sc.length sC,.slice NA nd.length nC] 34)
   have HF1:Hid (Ls (fun k=>k<(w5.alloc (.cells #[.slice SA sc.length sC,.slice NA nd.length nC] 34)).heap.size) (w5.alloc (.cells #[.slice SA sc.length sC,.slice NA nd.length nC] 34)) 7 144 Sc.tr SA sC sc):=Hd ((hf1.below hw6).mono (fun k hk=>Nat.lt_of_lt_of_le hk hw6.size))
   have HF2:Hid (Ls (fun k=>k<(w5.alloc (.cells #[.slice SA sc.length sC,.slice NA nd.length nC] 34)).heap.size) (w5.alloc (.cells #[.slice SA sc.length sC,.slice NA nd.length nC] 34)) 11 200 Nd.tr NA nC nd):=Hd ((hf2.below hw6).mono (fun k hk=>Nat.lt_of_lt_of_le hk hw6.size))
   have hccap:=hf1.cap
   have hncap:=hf2.cap
   obtain⟨f0,f1⟩:=blk2 HFB.out
   clear hb5 hf1 hf2 hw6 hb56 x0 x1 x2 x3 HF
   by_cases hz0:ez=0
   ·have hzt:((ez:Int)!=0)=false:=by rw[hz0];rfl
    obtain⟨hs16,hn16,hsd,hnd⟩:=hgood hz0
    have hfo:=flatOk_of (sc:=sc) (nd:=nd) (by omega) (by omega) hsd hnd
    have HFO:=Hd hfo
    have HAG6:Hid (Ls (fun k=>k<(w5.alloc (.cells #[.slice SA sc.length sC,.slice NA nd.length nC] 34)).heap.size) (w5.alloc (.cells #[.slice SA sc.length sC,.slice NA nd.length nC] 34)) 8 104 Gv.tr AA ac args):=Hd ((HAG.out.below HB6.out).mono (fun k hk=>Nat.lt_of_lt_of_le hk HB6.out.size))
    have HEN:=Hd (fun (w7:World) (hb7:Below (w5.alloc (.cells #[.slice SA sc.length sC,.slice NA nd.length nC] 34)).heap.size (w5.alloc (.cells #[.slice SA sc.length sC,.slice NA nd.length nC] 34)) w7)=>nenabled_any K HK.out _ SA NA sC nC sc nd AA ac args w7 ((HV.out.below HB6.out).below hb7) (HF1.out.below hb7) (HF2.out.below hb7) (by omega) (by omega) HFO.out.gd HFO.out.cn HFO.out.co HFO.out.ps (HAG6.out.below hb7) (by omega) HAS.out)
    have HEQ:Hid (nEnabled K sc nd args=match nConds K sc nd args with | .inl e=>.inl e | .inr O=>.inr (nd.map (enOn O))):=Hd rfl
    clear hz0 hgood hsd hnd hfo
    cases hnp:nConds K sc nd args with
    | inl m =>
      have HRUN:=Hd (drun_err K HK.out SA NA sC nC sc nd AA ac args _ (HV.out.below HB6.out) HF1.out HF2.out HFO.out HAG6.out (by omega) HAS.out m hnp)
      rw[hnp] at HEQ
      rw[HEQ.out] at HEN
      clear hnp
      go_wp2_with fail
      refine HRUN.out.mono ?_
      rintro e w7 ⟨hb7,hm,rfl⟩
      have HB7:=Hd (HB6.out.trans (hb7.mono HB6.out.size))
      have HEN7:=Hd (HEN.out w7 hb7)
      have hmi:((m:Int)!=0)=true:=by simpa using hm
      obtain⟨g0,g1⟩:=blk2 (HFB.out.below hb7)
      clear hb7 hm f0 f1
      go_wp2_with fail
      refine HEN7.out.mono ?_
      rintro e w9 ⟨hb9,rfl⟩
      have HB9:=Hd (HB7.out.trans (hb9.mono HB7.out.size))
      clear hb9 g0 g1
      go_wp2_with fail
      refine(HWK.out _ HB9.out).mono ?_
      rintro e w10 ⟨rfl,hb10⟩
      have HB10:=Hd (HB9.out.trans (hb10.mono HB9.out.size))
      clear hb10
      go_wp2_with fail
      go_ret
      exact⟨rfl,HB10.out⟩
    | inr O =>
      have HRUN:=Hd (drun_any K HK.out SA NA sC nC sc nd AA ac args _ (HV.out.below HB6.out) HF1.out HF2.out HFO.out HAG6.out (by omega) HAS.out O hnp)
      rw[hnp] at HEQ
      rw[HEQ.out] at HEN
      clear hnp
      go_wp2_with fail
      refine HRUN.out.mono ?_
      rintro e w7 ⟨hb7,hrun⟩
      have HB7:=Hd (HB6.out.trans (hb7.mono HB6.out.size))
      have HEN7:=Hd (HEN.out w7 hb7)
      obtain⟨g0,g1⟩:=blk2 (HFB.out.below hb7)
      have HFB7:=Hd (HFB.out.below hb7)
      clear hb7 f0 f1
      rcases hrun with ⟨i,n,s',hi,hwk,hse,rfl⟩ | ⟨RA,rc,rows,rfl,hLL,hrl,hrow⟩
      ·have hmi:((s'.e:Int)!=0)=true:=by simpa using hse
       clear hi hwk hse
       go_wp2_with fail
       refine HEN7.out.mono ?_
       rintro e w9 ⟨hb9,EA,ec,rfl,how9⟩
       have HB9:=Hd (HB7.out.trans (hb9.mono HB7.out.size))
       clear hb9 g0 g1 how9
       go_wp2_with fail
       refine(HWK.out _ HB9.out).mono ?_
       rintro e w10 ⟨rfl,hb10⟩
       have HB10:=Hd (HB9.out.trans (hb10.mono HB9.out.size))
       clear hb10
       go_wp2_with fail
       go_ret
       exact⟨rfl,HB10.out⟩
      ·obtain⟨Bs,hBs⟩:∃ Bs,Bs=nd.map (enOn O):=⟨_,rfl⟩
       have hrl':rows.length=nd.length:=hrl
       have hbl:Bs.length=nd.length:=by rw[hBs];simp
       have HROW:Hid (∀ (i:Nat) (n:Nd) (row:List Int),nd[i]?=some n→rows[i]?=some row→RowP ⟨sc,nd,O,Bs⟩ (Bs.getD i false) n row):=Hd (by rw[hBs];exact hrow)
       rw[←hBs] at HEN7
       have HLL:=Hd hLL
       have hrcap:=hLL.cap
       have hne1:((rows.length:Int)!=(Bs.length:Int))=false:=by rw[hrl',hbl];simp
       have hne2:((rows.length:Int)!=(nd.length:Int))=false:=by rw[hrl'];simp
       have HRL:=Hd hrl'
       have hrn:rows.length≤16:=by rw[hrl'];exact hn16
       have HBL:=Hd hbl
       clear hBs hrl hrl' hbl hLL hrow
       go_wp2_with fail
       refine HEN7.out.mono ?_
       rintro e w9 ⟨hb9,EA,ec,rfl,how9⟩
       have HB9:=Hd (HB7.out.trans (hb9.mono HB7.out.size))
       have HOW9:=Hd how9
       have HLL9:=Hd (HLL.out.below hb9)
       have hecap:=how9.cap
       clear g0 g1
       obtain⟨g0,g1⟩:=blk2 (HFB7.out.below hb9)
       clear hb9 how9
       go_wp2_with fail
       clear g0 g1
       go_loopg [62] rows.length (fun g i wr=>∃ j:Nat,j+g=rows.length∧i=.int .i64 (j:Nat)∧wr=w9)
       case atStart=>exact⟨0,by omega,rfl,rfl⟩
       obtain⟨j,hj,rfl,hw⟩:=hrel
       obtain rfl:=hw.symm
       cases gk with
       | zero =>
         have hjj:¬((j:Int)<(rows.length:Int)):=by omega
         go_wp2_with fail
         refine(HWK.out _ HB9.out).mono ?_
         rintro e w10 ⟨rfl,hb10⟩
         have HB10:=Hd (HB9.out.trans (hb10.mono HB9.out.size))
         clear hb10
         go_wp2_with fail
         go_ret
         exact⟨rfl,HB10.out⟩
       | succ g =>
         have hjj:(j:Int)<(rows.length:Int):=by omega
         have hji:(0:Int)≤(j:Int)∧(j:Int)<(rows.length:Int):=by omega
         have hje:(0:Int)≤(j:Int)∧(j:Int)<(Bs.length:Int):=by have:=HBL.out;have:=HRL.out;omega
         obtain⟨n,hn⟩:=get_lt (l:=nd) (i:=j) (by have:=HRL.out;omega)
         obtain⟨row,hrw⟩:=get_lt (l:=rows) (i:=j) (by omega)
         obtain⟨hoff,hris,hgood⟩:=row_ok (HROW.out j n row hn hrw)
         obtain⟨adR,Ai,ci,hRA,hrc0,hrrd⟩:=HLL9.out.row j row hrw
         subst hRA
         obtain⟨bj,hbj⟩:=get_lt (l:=Bs) (i:=j) (by have:=HBL.out;have:=HRL.out;omega)
         obtain⟨adE,hEA,hec⟩:=HOW9.out.rd.at_ j (.bool bj) (by rw[List.getElem?_map,hbj];rfl)
         have hbd:Bs.getD j false=bj:=by rw[List.getD_eq_getElem?_getD,hbj];rfl
         rw[hbd] at hoff
         have hrcp:=hrrd.cap
         have hrcm:=hrrd.max
         unfold maxLen at hrcm
         have HRR:=Hd hrrd
         have HRI:=Hd hris
         have HGO:=Hd hgood
         have HEA:=Hd hEA
         subst hEA
         have HOF:=Hd hoff
         clear hn hrw hoff hris hgood hbj hbd hrrd
         go_upto_region 15 with fail
         go_cut [77] from 65 to 77 (fun cv wx=>cv=.bool false∧wx=w9)
         case first =>
          cases bj with
          | false =>
            have hr0:row=[]:=HOF.out rfl
            have hr1:row.length=0:=by rw[hr0];rfl
            clear hr0
            go_wp2_with fail
            go_meet
            exact⟨rfl,rfl⟩
          | true =>
            go_wp2_with fail
            go_meet
            exact⟨rfl,rfl⟩
         obtain⟨rfl,hw⟩:=hcut
         obtain rfl:=hw.symm
         go_wp2_with fail
         go_loopg [83] row.length (fun g i wr=>∃ m:Nat,m+g=row.length∧i=.int .i64 (m:Nat)∧wr=w9)
         case atStart=>exact⟨0,by omega,rfl,rfl⟩
         obtain⟨m,hm,rfl,hw⟩:=hrel
         obtain rfl:=hw.symm
         cases gk with
         | zero =>
           have hmm:¬((m:Int)<(row.length:Int)):=by omega
           go_wp2_with fail
           go_roundg g
           case measure=>omega
           case rel=>exact⟨j+1,by omega,by go_num,rfl⟩
         | succ g2 =>
           have hmm:(m:Int)<(row.length:Int):=by omega
           have hmi:(0:Int)≤(m:Int)∧(m:Int)<(row.length:Int):=by omega
           obtain⟨z,hz⟩:=get_lt (l:=row) (i:=m) (by omega)
           obtain⟨zd,hAz,hzc⟩:=HRR.out.zcell hz
           subst hAz
           obtain⟨y,hzy,hyn,hyon⟩:=HGO.out z (List.mem_of_getElem? hz)
           subst hzy
           have hyB:y<Bs.length:=by have:=HBL.out;have h1:y<nd.length:=hyn;omega
           have hyR:y<rows.length:=by have:=HRL.out;have h1:y<nd.length:=hyn;omega
           have hyb:(0:Int)≤(y:Int)∧(y:Int)<(Bs.length:Int):=by omega
           have hyl:(0:Int)≤(y:Int)∧(y:Int)<(rows.length:Int):=by omega
           have hy0:decide ((y:Int)<0)=false:=decide_eq_false (by omega)
           have hy1:decide (rows.length≤y)=false:=decide_eq_false (by omega)
           have hy2:decide ((rows.length:Int)≤(y:Int))=false:=decide_eq_false (by omega)
           obtain⟨by',hby⟩:=get_lt (l:=Bs) (i:=y) hyB
           have hbt:by'=true:=by
            have h1:Bs.getD y false=true:=hyon
            rw[List.getD_eq_getElem?_getD,hby] at h1
            exact h1
           subst hbt
           obtain⟨adE',hE',hec'⟩:=HOW9.out.rd.at_ y (.bool true) (by rw[List.getElem?_map,hby];rfl)
           injection hE' with hE'
           subst hE'
           by_cases hm0:m=0
           ·have hd3:decide (0<m)=false:=decide_eq_false (by omega)
            have hd4:decide ((0:Int)<(m:Int))=false:=decide_eq_false (by omega)
            clear hz hyn hyon hby hm0 hyB hyR
            go_wp2_with fail
            go_roundg g2
            case measure=>omega
            case rel=>exact⟨m+1,by omega,by go_num,rfl⟩
           ·obtain⟨p,hpm⟩:∃ p,m=p+1:=⟨m-1,by omega⟩
            have hd3:decide (0<m)=true:=decide_eq_true (by omega)
            have hd4:decide ((0:Int)<(m:Int))=true:=decide_eq_true (by omega)
            obtain⟨x,hx⟩:=get_lt (l:=row) (i:=p) (by omega)
            obtain⟨xd,hA7,hxc⟩:=HRR.out.zcell hx
            injection hA7 with hA7
            subst hA7
            have hlt:x<(y:Int):=by
             have h1:=HRI.out
             rw[List.pairwise_iff_getElem] at h1
             obtain⟨hx1,hx2⟩:=List.getElem?_eq_some_iff.1 hx
             obtain⟨hz1,hz2⟩:=List.getElem?_eq_some_iff.1 hz
             have:=h1 p m hx1 hz1 (by omega)
             rw[hx2,hz2] at this
             exact this
            have hxy:decide ((y:Int)≤x)=false:=decide_eq_false (by omega)
            have hpi:(0:Int)≤(p:Int)∧(p:Int)<(row.length:Int):=by omega
            have hpw:IntKind.i64.wrap ((m:Int)-1)=(p:Int):=by rw[hpm,show (((p+1:Nat):Int)-1)=(p:Int) by omega];rw[IntKind.wrap_i64];omega
            clear hz hx hlt hyn hyon hby hm0 hpm hyB hyR
            go_wp2_with fail
            go_roundg g2
            case measure=>omega
            case rel=>exact⟨m+1,by omega,by go_num,rfl⟩
   ·have hzt:((ez:Int)!=0)=true:=by simpa using hz0
    clear hz0 hgood
    go_wp2_with fail
    refine(HWK.out _ HB6.out).mono ?_
    rintro e w7 ⟨rfl,hb7⟩
    have HB7:=Hd (HB6.out.trans (hb7.mono HB6.out.size))
    clear hb7
    go_wp2_with fail
    go_ret
    exact⟨rfl,HB7.out⟩
open Go.Shelf Go.RowKit Go.Lib
theorem u8_of_laidO {w:World} (h:laidMet Tryz.prog Rows.depsOffRow.laid w):U8 w:=by
 exact utf8Tabs_of_readsT (U8Types.of196 lay196) ⟨by kernel_rfl,by kernel_rfl,by kernel_rfl,by kernel_rfl,by kernel_rfl,by kernel_rfl,by kernel_rfl⟩
  (Pinned.utf8First_eq ▸ Lib.laidMet.reads h (.tail _ (.head _))) (accept_eq ▸ Lib.laidMet.reads h (.head _))
end Go.Proofs.YtgdfkbalnpfdgaaGreatDoor
