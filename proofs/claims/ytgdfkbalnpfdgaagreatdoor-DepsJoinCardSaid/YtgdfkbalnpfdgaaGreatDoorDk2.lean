/- Part of the proof. -/
import Derived.Test.YtgdfkbalnpfdgaaGreatDoorGtT
import Derived.Test.YtgdfkbalnpfdgaaGreatDoorDf7
import Derived.Test.YtgdfkbalnpfdgaaGreatDoorDf9
set_option maxRecDepth 100000
set_option maxHeartbeats 16000000
set_option linter.unusedVariables false
set_option linter.unusedSimpArgs false
namespace Go.Proofs.YtgdfkbalnpfdgaaGreatDoor
open Go.RowKit Go.Maps
theorem lt_b {n:Nat} {w w':World} (h:Below n w w'):∀ k,k<w.heap.size→k<w'.heap.size:=fun k hk=>Nat.lt_of_lt_of_le hk h.size
def OfS (K:List Cd→List Gv→Nat) (sc:List Sc) (nd:List Nd) (args:List Gv) (scope:Int) (x:Ex) (code:Nat) (l:List Int):Prop:=match nConds K sc nd args with
 | .inl m=>code=m∧m≠0∧l=[]
 | .inr O=>if 0≤scope∧scope<(sc.length:Int) then ∃ s',Wk ⟨sc,nd,O,nd.map (enOn O)⟩ st0 (.exs scope.toNat [x]) s'∧code=s'.e∧if s'.e=0 then Rises s'.got l else l=[] else code=2∧l=[]
def OfO (K:List Cd→List Gv→Nat) (sc:List Sc) (nd:List Nd) (args:List Gv) (scope:Int) (x:Ex) (w:World) (e:Ending) (w':World):Prop:=Below w.heap.size w w' ∧
 ∃ (code:Nat) (A:Option Addr) (c:Nat) (l:List Int),e=.returned (.tuple #[.slice A l.length c,.int .i64 (code:Nat)])∧Rd w' 1 A l.length c (cZ l)∧OfS K sc nd args scope x code l
theorem dof_any (K:List Cd→List Gv→Nat) (hK:DpK K) (SA NA:Option Addr) (sC nC:Nat) (sc:List Sc) (nd:List Nd) (AA:Option Addr) (ac:Nat) (args:List Gv) (w:World) (hV:VOk w) (hsc:Ls (fun k=>k<w.heap.size) w 7 144 Sc.tr SA sC sc) (hnd:Ls (fun k=>k<w.heap.size) w 11 200 Nd.tr NA nC nd)
 (hf:FlatOk sc nd) (hag:Ls (fun k=>k<w.heap.size) w 8 104 Gv.tr AA ac args) (han:args.length≤1000000) (has:∀ g∈args,vSmall g.v) (scope:Int) (x:Ex) (ecs:List Value) (hx:exOk x) (htx:Trs.at (fun k=>k<w.heap.size) w x.tr ecs) :
 Calls Tryz.prog 13 #[.agg #[.slice SA sc.length sC,.slice NA nd.length nC],.slice AA args.length ac,.int .i64 scope,.agg ecs.toArray] w (OfO K sc nd args scope x w):=by
 obtain⟨XA,xc,rfl,-⟩:=Ex.at_iff.1 htx
 obtain⟨w1,hw1⟩:∃ w1,w1=(w.alloc (.cells #[.slice SA sc.length sC,.slice NA nd.length nC] 34)).alloc (.cells #[.int .i8 x.kind,.string x.text,.int .i64 x.num,.string x.name,.string x.attr,.slice XA x.l.length xc] 48):=⟨_,rfl⟩
 have hb1:Below w.heap.size w w1:=by rw[hw1];exact((Below.refl _ w).alloc (Nat.le_refl _) _).alloc (by simp) _
 have hs1:w1.heap.size=w.heap.size+2:=by rw[hw1];simp
 have hfb:Blk w1 w.heap.size #[.slice SA sc.length sC,.slice NA nd.length nC] 34:=by rw[hw1];exact(Blk.new w _ _).alloc _
 have hxb:Blk w1 (w.heap.size+1) #[.int .i8 x.kind,.string x.text,.int .i64 x.num,.string x.name,.string x.attr,.slice XA x.l.length xc] 48:=by
  rw[hw1]
  have:=Blk.new (w.alloc (.cells #[.slice SA sc.length sC,.slice NA nd.length nC] 34)) #[.int .i8 x.kind,.string x.text,.int .i64 x.num,.string x.name,.string x.attr,.slice XA x.l.length xc] 48
  rwa [show (w.alloc (.cells #[.slice SA sc.length sC,.slice NA nd.length nC] 34)).heap.size=w.heap.size+1 by simp] at this
 have hBG:=begin_any K hK w.heap.size SA NA sC nC sc nd AA ac args w1 (hV.below hb1) hfb ((hsc.below hb1).mono (fun k hk=>by omega)) ((hnd.below hb1).mono (fun k hk=>by omega)) hf ((hag.below hb1).mono (fun k hk=>by omega)) han has
 unfold BeginO at hBG
 have HB1:=Hd hb1
 have HW1:=Hd hw1
 have HXB:=Hd hxb
 have HTX:=Hd (htx.below hb1)
 have HX:=Hd hx
 have HS1:=Hd hs1
 have hccap:=hsc.cap
 have hcmax:=hsc.max
 unfold maxLen at hcmax
 have HEV:=Hd (fun (O:List (List (ByteArray × Bool))) (hnp:nConds K sc nd args=.inr O)=>env_ok hf has hnp)
 clear hK hV hsc hnd hag has hb1 hfb hxb hw1 hf htx hx hs1
 cases hnp:nConds K sc nd args with
 | inl m =>
   rw[hnp] at hBG
   have HBG:=Hd hBG
   have HS:Hid (∀ code l,code=m∧m≠0∧l=[]→OfS K sc nd args scope x code l):=Hd (fun code l h=>by unfold OfS;rw[hnp];exact h)
   clear hBG hnp
   go_enter Tryz.func13,Tryz.ntmps13
   go_upto_region 1 with fail
   rw[←HW1.out]
   go_wp2_with fail
   refine HBG.out.mono ?_
   rintro e w2 ⟨hb2,hm,rfl⟩
   have HB2:=Hd (HB1.out.trans (hb2.mono HB1.out.size))
   have hmi:((m:Int)!=0)=true:=by simpa using hm
   have HM:=Hd hm
   clear hm hb2
   go_wp2_with fail
   refine bodyPost_ret (v:=.tuple #[.slice none 0 0,.int .i64 (m:Nat)]) (by simp[results,Tryz.results13,go_sem]) rfl ?_
   exact⟨HB2.out,m,none,0,[],rfl,Rd.nil _ _,HS.out _ _ ⟨rfl,HM.out,rfl⟩⟩
 | inr O =>
   rw[hnp] at hBG
   have HBG:=Hd hBG
   have HΓ:=Hd (HEV.out O hnp)
   have HS:Hid (OfS K sc nd args scope x=fun code l=>if 0≤scope∧scope<(sc.length:Int) then ∃ s',Wk ⟨sc,nd,O,nd.map (enOn O)⟩ st0 (.exs scope.toNat [x]) s'∧code=s'.e∧if s'.e=0 then Rises s'.got l else l=[] else code=2∧l=[]):=Hd (by funext code l;unfold OfS;rw[hnp])
   clear hBG hnp HEV
   by_cases hr:0≤scope∧scope<(sc.length:Int)
   ·obtain⟨q,rfl⟩:∃ q:Nat,scope=(q:Int):=⟨scope.toNat,by omega⟩
    have hqs:q<sc.length:=by omega
    have hd0:decide ((q:Int)<0)=false:=decide_eq_false (by omega)
    have hn0:¬((q:Int)<0):=by omega
    have hd1:decide ((sc.length:Int)≤(q:Int))=false:=decide_eq_false (by omega)
    have hd2:decide (sc.length≤q)=false:=decide_eq_false (by omega)
    have hn1:¬(sc.length≤q):=by omega
    have HS2:Hid (∀ code l s',Wk ⟨sc,nd,O,nd.map (enOn O)⟩ st0 (.exs q [x]) s'→code=s'.e→(if s'.e=0 then Rises s'.got l else l=[])→OfS K sc nd args (q:Int) x code l):=Hd (fun code l s' h1 h2 h3=>by rw[HS.out];simp only[];rw[if_pos hr];exact⟨s',h1,h2,h3⟩)
    clear HS hr
    go_enter Tryz.func13,Tryz.ntmps13
    go_upto_region 1 with fail
    rw[←HW1.out]
    go_wp2_with fail
    refine HBG.out.mono ?_
    rintro e w2 ⟨hb2,wb,CA,EA,cC,eC,rfl,hwb,hfx,hbk⟩
    have hwp:Below w2.heap.size w2 (w2.alloc (.cells #[.pointer (some ⟨w.heap.size+1,0,none⟩)] 94)):=(Below.refl _ w2).alloc (Nat.le_refl _) _
    have hwp1:(w2.alloc (.cells #[.pointer (some ⟨w.heap.size+1,0,none⟩)] 94)).heap.size=w2.heap.size+1:=by simp
    have hxw:w.heap.size+1<wb:=by have:=HS1.out;omega
    have f0:w2.cell? ⟨w.heap.size,0,none⟩=some (.slice SA sc.length sC):=(blk2 (hfx 0 0).fl).1
    have HOV:=Hd (over_any ⟨sc,nd,O,nd.map (enOn O)⟩ ⟨w.heap.size,wb,w2.heap.size+1,w2.heap.size+2,SA,sC,NA,nC,CA,cC,EA,eC⟩ HΓ.out (w2.alloc (.cells #[.pointer (some ⟨w.heap.size+1,0,none⟩)] 94)) (by show w2.heap.size+1=_;rw[hwp1]) (by show w2.heap.size+2=_;rw[hwp1]) ((hfx (w2.heap.size+1) (w2.heap.size+2)).only (Only.of_below hwp (fun k=>wb≤k)) (fun k hk=>hk)) (.map none) (.map none) (.int .i64 0) (by simpa using hbk.alloc (.cells #[.pointer (some ⟨w.heap.size+1,0,none⟩)] 94)) q hqs [x] [⟨w.heap.size+1,0,none⟩] (some ⟨w2.heap.size,0,none⟩) 1
     (Rd.lit w2 1 1 #[.pointer (some ⟨w.heap.size+1,0,none⟩)] _ (0,0) rfl (by simp[maxLen])) (fun ad e _=>by injection e with e;subst e;show w2.heap.size≠wb;have:=hbk.lt;omega)
     ⟨rfl,fun i p y hp hy=>by
       cases i with
       | zero =>
         simp at hp hy
         subst hp;subst hy
         refine⟨hxw,_,celBlk (HXB.out.below (hb2.trans (hwp.mono hb2.size))),((HTX.out.below (hb2.trans (hwp.mono hb2.size))).mono (fun k hk=>?_))⟩
         show k<wb
         omega
       | succ i=>simp at hp⟩ (fun y hy=>by rw[List.mem_singleton.1 hy];exact HX.out))
    have HB2:=Hd (HB1.out.trans (hb2.mono HB1.out.size))
    have HBP:=Hd (HB2.out.trans (hwp.mono HB2.out.size))
    have HWB:Hid (w.heap.size≤wb):=Hd (by omega)
    clear hb2 hwb hfx hbk hwp hwp1 hxw
    go_wp2_with fail
    refine HOV.out.mono ?_
    rintro e w3 ⟨s',hwk,hd3,ho3,hz3,hcond⟩
    have HB3:Hid (Below w.heap.size w w3):=Hd (ho3.belowB HBP.out (fun k hk=>by rw[hk];exact HWB.out))
    have HWK:=Hd hwk
    clear hwk hd3 ho3 hz3 f0
    by_cases he:s'.e=0
    ·rw[if_pos he] at hcond
     obtain⟨A3,c3,l3,rfl,hr3,hri3⟩:=hcond
     have HE:=Hd he
     have HR3:=Hd hr3
     have HRI3:=Hd hri3
     clear he hr3 hri3
     go_wp2_with fail
     refine bodyPost_ret (v:=.tuple #[.slice A3 l3.length c3,.int .i64 0]) (by simp[results,Tryz.results13,go_sem]) rfl ?_
     exact⟨HB3.out,0,A3,c3,l3,rfl,HR3.out,HS2.out 0 l3 s' HWK.out HE.out.symm (by rw[if_pos HE.out];exact HRI3.out)⟩
    ·rw[if_neg he] at hcond
     subst hcond
     have HE:=Hd he
     clear he
     go_wp2_with fail
     refine bodyPost_ret (v:=.tuple #[.slice none 0 0,.int .i64 (s'.e:Nat)]) (by simp[results,Tryz.results13,go_sem]) rfl ?_
     exact⟨HB3.out,s'.e,none,0,[],rfl,Rd.nil _ _,HS2.out s'.e [] s' HWK.out rfl (by rw[if_neg HE.out])⟩
   ·have HS2:Hid (OfS K sc nd args scope x 2 []):=Hd (by rw[HS.out];exact(if_neg hr).mpr ⟨rfl,rfl⟩)
    have hor:scope<0∨¬scope<0∧(sc.length:Int)≤scope:=by omega
    clear HS hr
    rcases hor with hs0 | ⟨hs0,hs1⟩
    ·go_enter Tryz.func13,Tryz.ntmps13
     go_upto_region 1 with fail
     rw[←HW1.out]
     go_wp2_with fail
     refine HBG.out.mono ?_
     rintro e w2 ⟨hb2,wb,CA,EA,cC,eC,rfl,hwb,hfx,hbk⟩
     have HB2:=Hd (HB1.out.trans (hb2.mono HB1.out.size))
     clear hb2 hwb hfx hbk
     go_wp2_with fail
     refine bodyPost_ret (v:=.tuple #[.slice none 0 0,.int .i64 2]) (by simp[results,Tryz.results13,go_sem]) rfl ?_
     exact⟨HB2.out,2,none,0,[],rfl,Rd.nil _ _,HS2.out⟩
    ·go_enter Tryz.func13,Tryz.ntmps13
     go_upto_region 1 with fail
     rw[←HW1.out]
     go_wp2_with fail
     refine HBG.out.mono ?_
     rintro e w2 ⟨hb2,wb,CA,EA,cC,eC,rfl,hwb,hfx,hbk⟩
     have HB2:=Hd (HB1.out.trans (hb2.mono HB1.out.size))
     have f0:w2.cell? ⟨w.heap.size,0,none⟩=some (.slice SA sc.length sC):=(blk2 (hfx 0 0).fl).1
     clear hb2 hwb hfx hbk
     go_wp2_with fail
     refine bodyPost_ret (v:=.tuple #[.slice none 0 0,.int .i64 2]) (by simp[results,Tryz.results13,go_sem]) rfl ?_
     exact⟨HB2.out,2,none,0,[],rfl,Rd.nil _ _,HS2.out⟩
theorem wk_one {Γ:Env} {s s':Wst} {q:Nat} {x:Ex} (h:Wk Γ s (.exs q [x]) s'):Wk Γ s (.ex q x) s':=by
 cases h with
 | cons h1 h2=>cases h2;exact h1
theorem wk_task {Γ:Env} {s':Wst} {q:Nat} {x:Ex} (h:Wk Γ st0 (.ex q x) s') (h3:x.kind≠3) (h4:x.kind≠4) (h6:x.kind≠6):Wk Γ st0 (.exs q x.l) s':=by
 have ha:=act_else (Γ:=Γ) (sc:=q) h3 h4 h6
 cases h with
 | err he=>exact absurd rfl he
 | stay _ h=>rw[ha] at h;cases h
 | bad _ h=>rw[ha] at h;cases h
 | hit _ h=>rw[ha] at h;cases h
 | go _ h hw=>rw[ha] at h;injection h with h;subst h;exact hw
def xJ (x y:Ex):Ex:=⟨2,ByteArray.empty,0,ByteArray.empty,ByteArray.empty,[x,y]⟩
def xN:Ex:=⟨0,⟨#[120]⟩,0,ByteArray.empty,ByteArray.empty,[]⟩
theorem ofs_none {K:List Cd→List Gv→Nat} {sc:List Sc} {nd:List Nd} {args:List Gv} {scope:Int} {cn:Nat} {ln:List Int} (hn:OfS K sc nd args scope xN cn ln):ln=[]:=by
 unfold OfS at hn
 split at hn
 ·exact hn.2.2
 ·split at hn
  ·obtain⟨s',h1,-,h2⟩:=hn
   have h3:=wk_task (wk_one h1) (by decide) (by decide) (by decide)
   have h4:s'=st0:=by
    cases h3
    rfl
   subst h4
   have he:st0.e=0:=rfl
   rw[if_pos he] at h2
   cases ln with
   | nil=>rfl
   | cons z l=>exact absurd ((h2.2 z).1 (.head _)) (by simp[st0])
  ·exact hn.2
theorem ofs_join {K:List Cd→List Gv→Nat} {sc:List Sc} {nd:List Nd} {args:List Gv} {scope:Int} {x y:Ex} {ca cb cc cn:Nat} {la lb lc ln:List Int} (ha:OfS K sc nd args scope x ca la) (hb:OfS K sc nd args scope y cb lb) (hc:OfS K sc nd args scope (xJ x y) cc lc) (hn:OfS K sc nd args scope xN cn ln) :
 (ca≠0→cc=ca)∧(ca=0→cc=cb∧cn=0∧(cb=0→lc.Pairwise (· < ·)∧la.Pairwise (· < ·)∧lb.Pairwise (· < ·)∧(∀ k,k∈lc↔k∈la∨k∈lb)∧∀ k,k∈la∨k∈lb→∃ j:Nat,k=(j:Int)∧j<nd.length)):=by
 unfold OfS at ha hb hc hn
 split at ha
 ·rw[‹nConds K sc nd args=_›] at hb hc hn
  obtain⟨h1,h2,h3⟩:=ha
  exact⟨fun _=>by rw[hc.1,h1],fun h=>absurd (h1.symm.trans h) h2⟩
 ·next O hO =>
  rw[hO] at hb hc hn
  simp only at hb hc hn
  split at ha
  ·next hr =>
   rw[if_pos hr] at hb hc hn
   obtain⟨s1,a1,a2,a3⟩:=ha
   obtain⟨s2,b1,b2,b3⟩:=hb
   obtain⟨s3,c1,c2,c3⟩:=hc
   obtain⟨s4,n1,n2,-⟩:=hn
   have h3:=wk_task (wk_one n1) (by decide) (by decide) (by decide)
   have h4:s4=st0:=by
    cases h3
    rfl
   have hj:=join_law (wk_one a1) (wk_one b1) (wk_task (wk_one c1) (by show (2:Int)≠3;decide) (by show (2:Int)≠4;decide) (by show (2:Int)≠6;decide))
   refine⟨fun h=>by rw[c2,a2];exact hj.1 (by rw[←a2];exact h),fun h=>?_⟩
   have h5:=hj.2 (by rw[←a2];exact h)
   refine⟨by rw[c2,b2];exact h5.1,by rw[n2,h4];rfl,fun h6=>?_⟩
   have h7:=h5.2 (by rw[←b2];exact h6)
   rw[if_pos (by rw[←a2];exact h)] at a3
   rw[if_pos (by rw[←b2];exact h6)] at b3
   rw[if_pos (by rw[h5.1,←b2];exact h6)] at c3
   refine⟨c3.1,a3.1,b3.1,fun k=>by rw[c3.2,a3.2,b3.2];exact h7 k,fun k hk=>?_⟩
   have h8:∀ (s:Wst),Wk ⟨sc,nd,O,nd.map (enOn O)⟩ st0 (.exs scope.toNat [x]) s∨Wk ⟨sc,nd,O,nd.map (enOn O)⟩ st0 (.exs scope.toNat [y]) s→s.got k=true→∃ j:Nat,k=(j:Int)∧j<nd.length:=fun s hs hg=>by
    have h9:okKey ⟨sc,nd,O,nd.map (enOn O)⟩ k:=by
     rcases hs with hs | hs
     ·exact hs.good (fun k hk=>by cases hk) k hg
     ·exact hs.good (fun k hk=>by cases hk) k hg
    obtain⟨j,e1,e2,-⟩:=h9
    exact⟨j,e1,e2⟩
   rcases hk with hk | hk
   ·exact h8 s1 (.inl a1) ((a3.2 k).1 hk)
   ·exact h8 s2 (.inr b1) ((b3.2 k).1 hk)
  ·next hr =>
   rw[if_neg hr] at hb hc hn
   exact⟨fun _=>by rw[hc.1,ha.1],fun h=>by rw[ha.1] at h;cases h⟩
def addZ (V:List Int) (k:Int):List Int:=if tZ V k then V else V++[k]
theorem addZ_mem {V:List Int} {k z:Int}:z∈addZ V k↔z∈V∨z=k:=by
 unfold addZ
 split
 ·next h =>
  constructor
  ·exact .inl
  ·rintro(h1 | rfl)
   ·exact h1
   ·exact tZ_iff.1 h
 ·simp
theorem addZ_nodup {V:List Int} {k:Int} (h:V.Nodup):(addZ V k).Nodup:=by
 unfold addZ
 split
 ·exact h
 ·next h1 =>
  rw[List.nodup_append]
  refine⟨h,by simp,fun a ha b hb e=>h1 ?_⟩
  rw[List.mem_singleton] at hb
  rw[←hb,←e]
  exact tZ_iff.2 ha
theorem addAll_mem:∀ (l V:List Int) (z:Int),z∈l.foldl addZ V↔z∈V∨z∈l
 | [],V,z=>by simp
 | k::l,V,z=>by rw[List.foldl_cons,addAll_mem l,addZ_mem,List.mem_cons];exact or_assoc
theorem addAll_nodup:∀ (l V:List Int),V.Nodup→(l.foldl addZ V).Nodup
 | [],V,h=>h
 | k::l,V,h=>addAll_nodup l _ (addZ_nodup h)
theorem take_fold {l:List Int} {j:Nat} {z:Int} (h:l[j]?=some z):(l.take (j+1)).foldl addZ []=addZ ((l.take j).foldl addZ []) z:=by
 rw[List.take_add_one,h,Option.toList_some,List.foldl_append];rfl
theorem nodup_len_eq {l m:List Int} (hl:l.Nodup) (hm:m.Nodup) (h:∀ k,k∈l↔k∈m):l.length=m.length:=((List.perm_ext_iff_of_nodup hl hm).2 h).length_eq
def MQ (w:World) (b n:Nat) (V:List Int):Prop :=
 ∃ D:DataW Unit,w.ownsMap Tryz.prog 3 (plainElem Tryz.prog 4) b n D∧Go.Maps.IsMap D∧(∀ k:Int,D.atKey (.int .i64 k) (.lit (.bool false))=.lit (.bool (tZ V k))∧Go.Maps.has D (.int .i64 k)=tZ V k)∧Go.Maps.size D=V.length
section
variable {w w':World} {b n:Nat} {V:List Int}
theorem MQ.mt (h:MQ w b n V):MT w b n (tZ V):=by obtain⟨D,h1,h2,h3,_⟩:=h;exact⟨D,h1,h2,h3⟩
theorem MQ.new (w:World):MQ (w.alloc (.map #[] 0)) w.heap.size 0 []:=⟨.map [],World.ownsMap_made _ _ _ _,⟨[],rfl⟩,fun k=>⟨rfl,rfl⟩,rfl⟩
theorem MQ.lt (h:MQ w b n V):b<w.heap.size:=by obtain⟨D,h1,_⟩:=h;exact h1.lt
theorem MQ.only {F:Nat→Prop} (h:MQ w b n V) (ho:Only F w w') (hF:¬F b):MQ w' b n V:=by
 obtain⟨D,h1,h2,h3⟩:=h
 exact⟨D,ownsMapT_same h1 (ho.block b h1.lt hF),h2,h3⟩
theorem MQ.below (h:MQ w b n V) (hb:Below w.heap.size w w'):MQ w' b n V:=h.only (Only.of_below hb (fun _=>False)) (fun h=>h)
theorem MQ.len (h:MQ w b n V) (ty:TypeId):(Builtin.len_ #[52] ty #[.map (some b)]).run Tryz.prog w=.ok (.int .i64 V.length) w:=by
 obtain⟨D,h1,h2,h3,h4⟩:=h
 rw[h1.len Tryz.underlying52 ty,h4]
end
theorem wp_put_MQ {w:World} {ops:Array Oper} {rest:List Oper} {o:Oper} {a:Act} {Q:Exit→Act→World→Prop} (hg:o.guard=none) (m x v:Operand) (hop:o.op=Op.mapUpdate 52 m x v) (b n:Nat) (V:List Int) (hm:a.eval m=.map (some b)) (h:MQ w b n V) (hn:n<maxLen)
 (k:Int) (hk1:-9223372036854775808≤k) (hk2:k≤9223372036854775807) (hx:a.eval x=.int .i64 k) (hv:a.eval v=.bool true)
 (hK:∀ w',MQ w' b (n+1) (addZ V k)→w.grownBy w' (some b)→wpList Tryz.prog ops Q rest (a.put o.dst undef) w'):wpList Tryz.prog ops Q (o::rest) a w:=by
 obtain⟨D,g1,g2,g3,g4⟩:=h
 have ht:=g1.tidy key_int
 have htz:∀ j,tZ (addZ V k) j=fput (tZ V) k true j:=fun j=>by
  unfold addZ
  split
  ·next h1 =>
   by_cases hj:j=k
   ·subst hj;rw[fput_same];exact h1
   ·rw[fput_other _ _ hj]
  ·rw[tZ_put]
 refine wpList_mapUpdate_own w hg m x v 52 hop 3 4 key_int Tryz.underlying52 _ b n D hm g1 hn _ _ (.int .i64 k) hx hv (key_of hk1 hk2) (.lit (.bool true)) [] (plainElem_bool Tryz.underlying4 true) (fun w' h1 h2=>hK w' ⟨_,h1,g2.put _ _,fun j=>?_,?_⟩ h2)
 ·rw[htz]
  by_cases hj:j=k
  ·subst hj
   exact⟨by rw[Go.Maps.atKey_put_same g2 (isKey_int j),fput_same],by rw[Go.Maps.has_put_same g2 (isKey_int j),fput_same]⟩
  ·have hne:(Lit.int .i64 j)≠(Lit.int .i64 k):=fun e=>hj (by injection e)
   exact⟨by rw[Go.Maps.atKey_put_other hne,(g3 j).1,fput_other _ true hj],by rw[Go.Maps.has_put_other hne,(g3 j).2,fput_other _ true hj]⟩
 ·rw[Go.Maps.size_put ht,(g3 k).2,g4]
  unfold addZ
  cases hq:tZ V k<;>simp
theorem ls_new {α:Type} {tr:α→List Tr} {w:World} {sz b n:Nat} {l:List α} {cs:Array Value} {t:TypeId} (hsz:0<sz) (hn:n=l.length) (hb:l.length*b≤1000000) (hl:l.length≤1000) (hcs:cs.size=n*sz) (ht:Trs.at (fun k=>k<w.heap.size) w (l.flatMap tr) cs.toList) :
 Ls (fun k=>k<(w.alloc (.cells cs t)).heap.size) (w.alloc (.cells cs t)) sz b tr (some ⟨w.heap.size,0,none⟩) n l:=by
 subst hn
 have hr:=Rd.lit w sz l.length cs t (0,0) hcs (by unfold maxLen;omega)
 exact⟨hsz,by omega,hr.cap,hr.max,fun ad e _=>by injection e with e;subst e;simp,cs.toList,hr,(Trs.at.below ht ((Below.refl _ w).alloc (Nat.le_refl _) _)).mono (fun k hk=>by simp;omega)⟩
theorem depsJoin_walk (w:World) (hV:VOk w) (cs:Array Value) (t:Tm) (h:Trs.at (fun k=>k<w.heap.size) w t.tr cs.toList) (AA:Option Addr) (len ac:Nat) (args:List Gv) (hlen:len=args.length) (hl:Ls (fun k=>k<w.heap.size) w 8 104 Gv.tr AA ac args)
 (scope:Int) (hs1:-9223372036854775808≤scope) (hs2:scope≤9223372036854775807) (xcs:Array Value) (x:Ex) (hx:Trs.at (fun k=>k<w.heap.size) w x.tr xcs.toList) (ycs:Array Value) (y:Ex) (hy:Trs.at (fun k=>k<w.heap.size) w y.tr ycs.toList) :
 Calls Tryz.prog 4 #[.agg cs,.slice AA len ac,.int .i64 scope,.agg xcs,.agg ycs] w fun e w'=>e=.returned (.bool true)∧Below w.heap.size w w':=by
 subst hlen
 obtain⟨A,a,B,b,C,c,D,d,hcs,h1,h2,h3,h4⟩:=Tm.at_iff.1 h
 obtain rfl:cs=#[.slice A t.params.length a,.slice B t.conds.length b,.slice C t.res.length c,.slice D t.outs.length d]:=by
  have:=congrArg List.toArray hcs
  simpa using this
 obtain⟨XA,xc,hxc,-⟩:=Ex.at_iff.1 hx
 obtain rfl:xcs=#[.int .i8 x.kind,.string x.text,.int .i64 x.num,.string x.name,.string x.attr,.slice XA x.l.length xc]:=by
  have:=congrArg List.toArray hxc
  simpa using this
 obtain⟨YA,yc,hyc,-⟩:=Ex.at_iff.1 hy
 obtain rfl:ycs=#[.int .i8 y.kind,.string y.text,.int .i64 y.num,.string y.name,.string y.attr,.slice YA y.l.length yc]:=by
  have:=congrArg List.toArray hyc
  simpa using this
 obtain⟨W0,hW0⟩:∃ W0,W0=((w.alloc (.cells #[.slice A t.params.length a,.slice B t.conds.length b,.slice C t.res.length c,.slice D t.outs.length d] 27)).alloc (.cells #[.int .i8 x.kind,.string x.text,.int .i64 x.num,.string x.name,.string x.attr,.slice XA x.l.length xc] 48)).alloc (.cells #[.int .i8 y.kind,.string y.text,.int .i64 y.num,.string y.name,.string y.attr,.slice YA y.l.length yc] 48):=⟨_,rfl⟩
 have hb0:Below w.heap.size w W0:=by rw[hW0];exact(((Below.refl _ w).alloc (Nat.le_refl _) _).alloc (by simp) _).alloc (by simp;omega) _
 have HX0:Hid (Blk W0 w.heap.size #[.slice A t.params.length a,.slice B t.conds.length b,.slice C t.res.length c,.slice D t.outs.length d] 27):=Hd (by rw[hW0];exact((Blk.new w _ _).alloc _).alloc _)
 have HXX:Hid (Blk W0 (w.heap.size+1) #[.int .i8 x.kind,.string x.text,.int .i64 x.num,.string x.name,.string x.attr,.slice XA x.l.length xc] 48):=Hd (by
  rw[hW0]
  have:=(Blk.new (w.alloc (.cells #[.slice A t.params.length a,.slice B t.conds.length b,.slice C t.res.length c,.slice D t.outs.length d] 27)) #[.int .i8 x.kind,.string x.text,.int .i64 x.num,.string x.name,.string x.attr,.slice XA x.l.length xc] 48).alloc (.cells #[.int .i8 y.kind,.string y.text,.int .i64 y.num,.string y.name,.string y.attr,.slice YA y.l.length yc] 48)
  rwa [show (w.alloc (.cells #[.slice A t.params.length a,.slice B t.conds.length b,.slice C t.res.length c,.slice D t.outs.length d] 27)).heap.size=w.heap.size+1 by simp] at this)
 have HXY:Hid (Blk W0 (w.heap.size+2) #[.int .i8 y.kind,.string y.text,.int .i64 y.num,.string y.name,.string y.attr,.slice YA y.l.length yc] 48):=Hd (by
  rw[hW0]
  have:=Blk.new ((w.alloc (.cells #[.slice A t.params.length a,.slice B t.conds.length b,.slice C t.res.length c,.slice D t.outs.length d] 27)).alloc (.cells #[.int .i8 x.kind,.string x.text,.int .i64 x.num,.string x.name,.string x.attr,.slice XA x.l.length xc] 48)) #[.int .i8 y.kind,.string y.text,.int .i64 y.num,.string y.name,.string y.attr,.slice YA y.l.length yc] 48
  rwa [show ((w.alloc (.cells #[.slice A t.params.length a,.slice B t.conds.length b,.slice C t.res.length c,.slice D t.outs.length d] 27)).alloc (.cells #[.int .i8 x.kind,.string x.text,.int .i64 x.num,.string x.name,.string x.attr,.slice XA x.l.length xc] 48)).heap.size=w.heap.size+2 by simp] at this)
 have HB0:=Hd hb0
 have HW0:=Hd hW0
 have HG:=Hd (tgreat_any (fun k=>k<w.heap.size) t _ AA ac args _ (h.below hb0) (hl.below hb0))
 have HGX:=Hd (fun (w':World) (hb:Below w.heap.size w w')=>xgreat_any (fun k=>k<w.heap.size) x _ w' (hx.below hb))
 have HGY:=Hd (fun (w':World) (hb:Below w.heap.size w w')=>xgreat_any (fun k=>k<w.heap.size) y _ w' (hy.below hb))
 have HT:=Hd h
 have HTX:=Hd hx
 have HTY:=Hd hy
 have HAG:=Hd hl
 have HWK:Hid (∀ w',Below w.heap.size w w'→Calls Tryz.prog 8 #[] w' fun e w''=>e=.returned (.bool true)∧Below w'.heap.size w' w''):=Hd (wkOk hV)
 have HV:=Hd hV
 obtain⟨K,hK⟩:=dpK_ex
 have HK:=Hd hK
 have hacap:=hl.cap
 obtain⟨t0,t1,t2,t3⟩:=blk4 HX0.out
 clear h h1 h2 h3 h4 hcs hl hV hb0 hK hx hy hxc hyc hW0
 cases hg:tGreat t args with
 | true =>
   rw[hg] at HG
   clear hg
   go_enter Tryz.func4,Tryz.ntmps4
   go_upto_region 1 with fail
   rw[←HW0.out]
   go_wp2_with fail
   refine HG.out.mono ?_
   rintro e w2 ⟨rfl,hb2⟩
   have HB2:=Hd (HB0.out.trans (hb2.mono HB0.out.size))
   clear hb2 t0 t1 t2 t3
   go_wp2_with fail
   refine(HWK.out _ HB2.out).mono ?_
   rintro e w3 ⟨rfl,hb3⟩
   have HB3:=Hd (HB2.out.trans (hb3.mono HB2.out.size))
   clear hb3
   go_wp2_with fail
   go_ret
   exact⟨rfl,HB3.out⟩
 | false =>
   rw[hg] at HG
   have htw:tW 8 t≤3000:=by
    unfold tGreat at hg
    simp at hg
    omega
   have hgs:gsGreat args=false:=by
    unfold tGreat at hg
    simp at hg
    exact hg.2
   have hgd:=tW_gd 8 t htw
   have HZ:Hid (TmZ scD ndD 2 0 t):=Hd (TmZ_of 2 0 5 t (by omega) hgd)
   have HRO:Hid (scD ⟨-1,ByteArray.empty,bareT t,[]⟩):=Hd (scD_of hgd (by simp) (fun a ha=>by cases ha))
   obtain⟨han,has⟩:=gs_small hgs
   have HAS:=Hd has
   clear hg htw hgs has hgd
   cases hgx:xGreat x with
   | true =>
     have HGX2:Hid (∀ w',Below w.heap.size w w'→Calls Tryz.prog 12 #[.agg #[.int .i8 x.kind,.string x.text,.int .i64 x.num,.string x.name,.string x.attr,.slice XA x.l.length xc]] w' (BoolOut true w')):=Hd (fun w' hb=>by have:=HGX.out w' hb;rw[hgx] at this;exact this)
     clear hgx
     go_enter Tryz.func4,Tryz.ntmps4
     go_upto_region 1 with fail
     rw[←HW0.out]
     go_wp2_with fail
     refine HG.out.mono ?_
     rintro e w2 ⟨rfl,hb2⟩
     have HB2:=Hd (HB0.out.trans (hb2.mono HB0.out.size))
     clear t0 t1 t2 t3
     obtain⟨e0,e1,e2,e3,e4,e5⟩:=blk6 (HXX.out.below hb2)
     clear hb2
     go_wp2_with fail
     refine(HGX2.out _ HB2.out).mono ?_
     rintro e w3 ⟨rfl,hb3⟩
     have HB3:=Hd (HB2.out.trans (hb3.mono HB2.out.size))
     clear hb3 e0 e1 e2 e3 e4 e5
     go_wp2_with fail
     refine(HWK.out _ HB3.out).mono ?_
     rintro e w4 ⟨rfl,hb4⟩
     have HB4:=Hd (HB3.out.trans (hb4.mono HB3.out.size))
     clear hb4
     go_wp2_with fail
     go_ret
     exact⟨rfl,HB4.out⟩
   | false =>
     have HXO:=Hd (xGreat_exOk hgx)
     have HGX2:Hid (∀ w',Below w.heap.size w w'→Calls Tryz.prog 12 #[.agg #[.int .i8 x.kind,.string x.text,.int .i64 x.num,.string x.name,.string x.attr,.slice XA x.l.length xc]] w' (BoolOut false w')):=Hd (fun w' hb=>by have:=HGX.out w' hb;rw[hgx] at this;exact this)
     clear hgx
     obtain⟨gy,hgy⟩:∃ gy,gy=xGreat y:=⟨_,rfl⟩
     have HGY2:Hid (∀ w',Below w.heap.size w w'→Calls Tryz.prog 12 #[.agg #[.int .i8 y.kind,.string y.text,.int .i64 y.num,.string y.name,.string y.attr,.slice YA y.l.length yc]] w' (BoolOut gy w')):=Hd (fun w' hb=>by have:=HGY.out w' hb;rw[←hgy] at this;exact this)
     have HGYE:=Hd hgy
     clear hgy
     go_enter Tryz.func4,Tryz.ntmps4
     go_upto_region 1 with fail
     rw[←HW0.out]
     go_wp2_with fail
     refine HG.out.mono ?_
     rintro e w2 ⟨rfl,hb2⟩
     have HB2:=Hd (HB0.out.trans (hb2.mono HB0.out.size))
     have HC2:=Hd hb2
     clear t0 t1 t2 t3
     obtain⟨e0,e1,e2,e3,e4,e5⟩:=blk6 (HXX.out.below hb2)
     clear hb2
     go_wp2_with fail
     refine(HGX2.out _ HB2.out).mono ?_
     rintro e w3 ⟨rfl,hb3⟩
     have HB3:=Hd (HB2.out.trans (hb3.mono HB2.out.size))
     have HC3:=Hd (HC2.out.trans (hb3.mono HC2.out.size))
     clear hb3 e0 e1 e2 e3 e4 e5
     obtain⟨e0,e1,e2,e3,e4,e5⟩:=blk6 (HXY.out.below HC3.out)
     go_wp2_with fail
     refine(HGY2.out _ HB3.out).mono ?_
     rintro e w4 ⟨rfl,hb4⟩
     have HB4:=Hd (HB3.out.trans (hb4.mono HB3.out.size))
     have HC4:=Hd (HC3.out.trans (hb4.mono HC3.out.size))
     clear hb4 e0 e1 e2 e3 e4 e5 HC2 HC3
     cases gy with
     | true =>
       go_wp2_with fail
       refine(HWK.out _ HB4.out).mono ?_
       rintro e w5 ⟨rfl,hb5⟩
       have HB5:=Hd (HB4.out.trans (hb5.mono HB4.out.size))
       clear hb5
       go_wp2_with fail
       go_ret
       exact⟨rfl,HB5.out⟩
     | false =>
       have HYO:=Hd (xGreat_exOk HGYE.out.symm)
       have HF:=Hd (rflat_any scD ndD ndE (fun n h=>h.1) ndD_E (fun k=>k<w.heap.size) t _ w4 HZ.out HRO.out (HT.out.below HB4.out) (lt_b HB4.out))
       obtain⟨t0,t1,t2,t3⟩:=blk4 (HX0.out.below HC4.out)
       clear HG HGX HGY HGX2 HGY2 HGYE
       go_wp2_with fail
       refine HF.out.mono ?_
       rintro e w5 ⟨hb5,ez,SA,NA,sC,nC,sc,nd,rfl,hf1,hf2,hgood⟩
       obtain⟨w6,hw6e⟩:∃ w6,w6=w5.alloc (.cells #[.slice SA sc.length sC,.slice NA nd.length nC] 34):=⟨_,rfl⟩
       have hw6:Below w5.heap.size w5 w6:=by rw[hw6e];exact(Below.refl _ w5).alloc (Nat.le_refl _) _
       have hb56:=hb5.trans (hw6.mono hb5.size)
       have HB6:=Hd (HB4.out.trans (hb56.mono HB4.out.size))
       have HC6:=Hd (HC4.out.trans (hb56.mono HC4.out.size))
       have HFB:Hid (Blk w6 w5.heap.size #[.slice SA sc.length sC,.slice NA nd.length nC] 34):=Hd (by rw[hw6e];exact Blk.new w5 #[.slice SA sc.length sC,.slice NA nd.length nC] 34)
       have HF1:Hid (Ls (fun k=>k<w6.heap.size) w6 7 144 Sc.tr SA sC sc):=Hd ((hf1.below hw6).mono (lt_b hw6))
       have HF2:Hid (Ls (fun k=>k<w6.heap.size) w6 11 200 Nd.tr NA nC nd):=Hd ((hf2.below hw6).mono (lt_b hw6))
       have hccap:=hf1.cap
       have hncap:=hf2.cap
       have HW6:=Hd hw6e
       clear hb5 hf1 hf2 hw6 hb56 t0 t1 t2 t3 HF hw6e
       by_cases hz0:ez=0
       ·have hzt:((ez:Int)!=0)=false:=by rw[hz0];rfl
        obtain⟨hs16,hn16,hsd,hnd⟩:=hgood hz0
        have HFO:=Hd (flatOk_of (sc:=sc) (nd:=nd) (by omega) (by omega) hsd hnd)
        have HAG6:Hid (Ls (fun k=>k<w6.heap.size) w6 8 104 Gv.tr AA ac args):=Hd ((HAG.out.below HB6.out).mono (lt_b HB6.out))
        have HOF:Hid (∀ (w7:World) (z:Ex) (zcs:List Value),Below w6.heap.size w6 w7→exOk z→Trs.at (fun k=>k<w7.heap.size) w7 z.tr zcs→Calls Tryz.prog 13 #[.agg #[.slice SA sc.length sC,.slice NA nd.length nC],.slice AA args.length ac,.int .i64 scope,.agg zcs.toArray] w7 (OfO K sc nd args scope z w7)):=Hd (fun w7 z zcs hb7 hz htz =>
         dof_any K HK.out SA NA sC nC sc nd AA ac args w7 ((HV.out.below HB6.out).below hb7) ((HF1.out.below hb7).mono (lt_b hb7)) ((HF2.out.below hb7).mono (lt_b hb7)) HFO.out ((HAG6.out.below hb7).mono (lt_b hb7)) (by omega) HAS.out scope z zcs hz htz)
        clear hz0 hgood hsd hnd
        obtain⟨f0,f1⟩:=blk2 HFB.out
        obtain⟨e0,e1,e2,e3,e4,e5⟩:=blk6 (HXX.out.below HC6.out)
        go_upto_region 4 with fail
        rw[←HW6.out]
        go_wp2_with fail
        refine(HOF.out w6 x _ (Below.refl _ _) HXO.out ((HTX.out.below HB6.out).mono (lt_b HB6.out))).mono ?_
        rintro e w7 ⟨hb7,ca,RA,rac,la,rfl,hra,hsa⟩
        have HD7:=Hd hb7
        have HB7:=Hd (HB6.out.trans (hb7.mono HB6.out.size))
        have HC7:=Hd (HC6.out.trans (hb7.mono HC6.out.size))
        have HRA7:=Hd hra
        have HSA:=Hd hsa
        clear hb7 hra hsa f0 f1 e0 e1 e2 e3 e4 e5
        obtain⟨f0,f1⟩:=blk2 (HFB.out.below HD7.out)
        obtain⟨e0,e1,e2,e3,e4,e5⟩:=blk6 (HXY.out.below HC7.out)
        go_wp2_with fail
        refine(HOF.out w7 y _ HD7.out HYO.out ((HTY.out.below HB7.out).mono (lt_b HB7.out))).mono ?_
        rintro e w8 ⟨hb8,cb,RB,rbc,lb,rfl,hrb,hsb⟩
        have HD8:=Hd (HD7.out.trans (hb8.mono HD7.out.size))
        have HB8:=Hd (HB7.out.trans (hb8.mono HB7.out.size))
        have HC8:=Hd (HC7.out.trans (hb8.mono HC7.out.size))
        have HRA8:=Hd (HRA7.out.below hb8)
        have HRB8:=Hd hrb
        have HSB:=Hd hsb
        clear hb8 hrb hsb f0 f1 e0 e1 e2 e3 e4 e5 HRA7
        obtain⟨f0,f1⟩:=blk2 (HFB.out.below HD8.out)
        obtain⟨e0,e1,e2,e3,e4,e5⟩:=blk6 (HXX.out.below HC8.out)
        obtain⟨y0,y1,y2,y3,y4,y5⟩:=blk6 (HXY.out.below HC8.out)
        have hbl:Below w8.heap.size w8 (w8.alloc (.cells #[.int .i8 x.kind,.string x.text,.int .i64 x.num,.string x.name,.string x.attr,.slice XA x.l.length xc,.int .i8 y.kind,.string y.text,.int .i64 y.num,.string y.name,.string y.attr,.slice YA y.l.length yc] 48)):=(Below.refl _ w8).alloc (Nat.le_refl _) _
        have HJ:=Hd (HOF.out (w8.alloc (.cells #[.int .i8 x.kind,.string x.text,.int .i64 x.num,.string x.name,.string x.attr,.slice XA x.l.length xc,.int .i8 y.kind,.string y.text,.int .i64 y.num,.string y.name,.string y.attr,.slice YA y.l.length yc] 48)) (xJ x y) [.int .i8 2,.string ⟨#[]⟩,.int .i64 0,.string ⟨#[]⟩,.string ⟨#[]⟩,.slice (some ⟨w8.heap.size,0,none⟩) 2 2] (HD8.out.trans (hbl.mono HD8.out.size))
         (exOk.mk (by show (0:Nat)≤_;omega) (by show (0:Nat)≤_;omega) (by show (2:Nat)≤_;omega) (fun z hz=>by
           have hz2:z∈[x,y]:=hz
           rcases List.mem_cons.1 hz2 with rfl | hz2
           ·exact HXO.out
           ·rw[List.mem_singleton.1 hz2];exact HYO.out))
         (Ex.at_iff.2 ⟨some ⟨w8.heap.size,0,none⟩,2,rfl,(by decide:(Lit.int .i8 2).wf=true),(by decide:(Lit.int .i64 0).wf=true),by show (0:Nat)≤_;omega,by show (0:Nat)≤_;omega,by show (0:Nat)≤_;omega,ls_new (l:=[x,y]) (by omega) rfl (by show 2*88≤_;omega) (by show 2≤1000;omega) rfl (by
           have h1:=(HTX.out.below HB8.out).mono (S':=fun k=>k<w8.heap.size) (lt_b HB8.out)
           have h2:=(HTY.out.below HB8.out).mono (S':=fun k=>k<w8.heap.size) (lt_b HB8.out)
           have h3:=Trs.at.app.2 ⟨_,_,rfl,h1,h2⟩
           simpa using h3)⟩))
        have HDL:=Hd (HD8.out.trans (hbl.mono HD8.out.size))
        have HBL:=Hd (HB8.out.trans (hbl.mono HB8.out.size))
        have HRAL:=Hd (HRA8.out.below hbl)
        have HRBL:=Hd (HRB8.out.below hbl)
        clear hbl HRA8 HRB8
        go_wp2_with fail
        refine HJ.out.mono ?_
        rintro e w9 ⟨hb9,cc,RC,rcc,lc,rfl,hrc,hsc⟩
        have HD9:=Hd (HDL.out.trans (hb9.mono HDL.out.size))
        have HB9:=Hd (HBL.out.trans (hb9.mono HBL.out.size))
        have HRA9:=Hd (HRAL.out.below hb9)
        have HRB9:=Hd (HRBL.out.below hb9)
        have HRC9:=Hd hrc
        have HSC:=Hd hsc
        clear hb9 hrc hsc f0 f1 e0 e1 e2 e3 e4 e5 y0 y1 y2 y3 y4 y5 HRAL HRBL HJ
        obtain⟨f0,f1⟩:=blk2 (HFB.out.below HD9.out)
        have HN:=Hd (HOF.out w9 xN [.int .i8 0,.string ⟨#[120]⟩,.int .i64 0,.string ⟨#[]⟩,.string ⟨#[]⟩,.slice none 0 0] HD9.out
         (exOk.mk (by show (0:Nat)≤_;omega) (by show (0:Nat)≤_;omega) (by show (0:Nat)≤_;omega) (fun z hz=>by cases hz))
         (Ex.at_iff.2 ⟨none,0,rfl,(by decide:(Lit.int .i8 0).wf=true),(by decide:(Lit.int .i64 0).wf=true),by show (1:Nat)≤_;omega,by show (0:Nat)≤_;omega,by show (0:Nat)≤_;omega,Ls.nil _ _ _ _ (by omega) _⟩))
        go_wp2_with fail
        refine HN.out.mono ?_
        rintro e w10 ⟨hb10,cn,RN,rnc,ln,rfl,hrn,hsn⟩
        have hln:=ofs_none hsn
        subst hln
        have hj:=ofs_join HSA.out HSB.out HSC.out hsn
        have HB10:=Hd (HB9.out.trans (hb10.mono HB9.out.size))
        have HRA:=Hd (HRA9.out.below hb10)
        have HRB:=Hd (HRB9.out.below hb10)
        have HRC:=Hd (HRC9.out.below hb10)
        clear hb10 hrn hsn f0 f1 HN HSA HSB HSC HRA9 HRB9 HRC9 HOF
        by_cases hca:ca=0
        ·obtain⟨hcc,hcn,hmain⟩:=hj.2 hca
         have ga1:((ca:Int)!=0)=false:=by rw[hca];rfl
         have ga2:((ca:Int)==0)=true:=by rw[hca];rfl
         by_cases hcb:cb=0
         ·obtain⟨pc,pa,pb,hmem,hok⟩:=hmain hcb
          have gb1:((cb:Int)!=0)=false:=by rw[hcb];rfl
          have gc1:((cc:Int)==0)=true:=by rw[hcc,hcb];rfl
          have gn1:((cn:Int)==0)=true:=by rw[hcn];rfl
          have hle:∀ l:List Int,l.Pairwise (· < ·)→(∀ k∈l,∃ j:Nat,k=(j:Int)∧j<nd.length)→l.length≤16:=fun l h1 h2=>by
           have h3:=valid_len (ls:=List.replicate nd.length []) (V:=l) (h1.imp (fun h=>by omega)) (fun k hk=>by
            obtain⟨j,rfl,hj⟩:=h2 k hk
            exact⟨by omega,by simp;omega⟩)
           simp at h3
           omega
          have hla:=hle la pa (fun k hk=>hok k (.inl hk))
          have hlb:=hle lb pb (fun k hk=>hok k (.inr hk))
          have hlc:=hle lc pc (fun k hk=>hok k ((hmem k).1 hk))
          obtain⟨T,hT⟩:∃ T,T=la++lb:=⟨_,rfl⟩
          have hTl:la.length+lb.length=T.length:=by rw[hT];simp
          have hT32:T.length≤32:=by omega
          have HTE:=Hd hT
          have HTL:=Hd hTl
          have HOKT:Hid (∀ k∈T,∃ j:Nat,k=(j:Int)∧j<nd.length):=Hd (fun k hk=>by rw[hT] at hk;exact hok k (List.mem_append.1 hk))
          have HMEM:Hid (∀ k,k∈lc↔k∈T.foldl addZ []):=Hd (fun k=>by rw[addAll_mem,hT,List.mem_append,hmem k];simp)
          have HVL:Hid (lc.length=(T.foldl addZ []).length):=Hd (nodup_len_eq (pc.imp (fun h=>by omega)) (addAll_nodup T [] List.nodup_nil) HMEM.out)
          have hmm:=@run_makeMap Tryz.prog
          have hb1:Below w10.heap.size w10 (w10.alloc (.map #[] 0)):=(Below.refl _ w10).alloc (Nat.le_refl _) _
          have hb2:Below w10.heap.size w10 ((w10.alloc (.map #[] 0)).alloc (.cells #[] 3)):=hb1.alloc hb1.size _
          have hmz:MQ ((w10.alloc (.map #[] 0)).alloc (.cells #[] 3)) w10.heap.size 0 []:=(MQ.new w10).below ((Below.refl _ _).alloc (Nat.le_refl _) _)
          have hsz:((w10.alloc (.map #[] 0)).alloc (.cells #[] 3)).heap.size=w10.heap.size+1+1:=by simp
          have hbk:Blk ((w10.alloc (.map #[] 0)).alloc (.cells #[] 3)) (w10.heap.size+1) #[] 3:=by
           have:=Blk.new (w10.alloc (.map #[] 0)) #[] 3
           rwa [show (w10.alloc (.map #[] 0)).heap.size=w10.heap.size+1 by simp] at this
          have HOW:Hid (Ow ((w10.alloc (.map #[] 0)).alloc (.cells #[] 3)) (w10.heap.size+1) 3 1 (some ⟨w10.heap.size+1,0,none⟩) 0 0 (cZ [])):=Hd (ow_none hbk (Nat.le_refl _))
          have HMZ:=Hd hmz
          have HSZ:=Hd hsz
          have HB12:=Hd hb2
          have HRA12:=Hd (HRA.out.below hb2)
          have HRCP:=Hd HRC.out.cap
          clear hb1 hb2 hmz hsz hbk hj hcc hcn hmain hca hcb hmem hok hle pa pb pc hT hTl
          go_upto_region 13 with fail
          clear hmm
          go_wp2_with (first
           | (refine wpList_row info_int Tryz.underlying44 rfl (by omega) rfl (.tmp 112) (.tmp 113) rfl (w10.heap.size+1) (some ⟨w10.heap.size+1,0,none⟩) 0 0 (cZ []) rfl HOW.out RA la.length rac (cZ la) rfl HRA12.out (cZ_one _) (by omega) (by omega) (by rw[HSZ.out];omega) ?_;intro A8 c8 w11 ho8 hg8 hat8;rw[Nat.zero_add] at ho8 ⊢;have HO8:Hid (Ow w11 (w10.heap.size+1) 3 1 A8 la.length c8 (cZ la)):=Hd (by simpa [cZ] using ho8);have HB11:Hid (Below w10.heap.size w10 w11):=Hd (HB12.out.grown hg8 HB12.out.size (fun k e=>by simp at e;omega));have HM11:Hid (MQ w11 w10.heap.size 0 []):=Hd (HMZ.out.only (Only.of_grown hg8) (fun e=>by simp at e));have HRB11:=Hd (HRB.out.below HB11.out);clear ho8 hg8 hat8)
           | (refine wpList_row info_int Tryz.underlying44 rfl (by omega) rfl (.tmp 114) (.tmp 115) rfl (w10.heap.size+1) A8 c8 la.length (cZ la) rfl HO8.out RB lb.length rbc (cZ lb) rfl HRB11.out (cZ_one _) (by omega) (by omega) (by have:=HB11.out.size;have:=HM11.out.lt;omega) ?_;intro A9 c9 w12 ho9 hg9 hat9;rw[HTL.out] at ho9 ⊢;have HO9:Hid (Ow w12 (w10.heap.size+1) 3 1 A9 T.length c9 (cZ T)):=Hd (by rw[←cZ_app,←HTE.out] at ho9;exact ho9);have HB12w:Hid (Below w10.heap.size w10 w12):=Hd (HB11.out.grown hg9 HB11.out.size (fun k e=>by have:=(HO8.out.lt e).1;omega));have HM12:Hid (MQ w12 w10.heap.size 0 []):=Hd (HM11.out.only (Only.of_grown hg9) (fun e=>by have:=(HO8.out.lt e.symm).1;omega));clear ho9 hg9 hat9))
          have htcap:=HO9.out.cap
          go_loopg [118] T.length (fun g i wr=>∃ j:Nat,j+g=T.length∧i=.int .i64 (j:Nat)∧Hid (MQ wr w10.heap.size j ((T.take j).foldl addZ []))∧Hid (Only (fun k=>k=w10.heap.size) w12 wr))
          case atStart=>exact⟨0,by omega,rfl,Hd (by simpa using HM12.out),Hd (Only.refl _ _)⟩
          obtain⟨j,hj,rfl,HM,HO⟩:=hrel
          rename World=>wo
          have HBWo:Hid (Below w10.heap.size w10 wo):=Hd (HO.out.belowB HB12w.out (fun k hk=>by rw[hk];exact Nat.le_refl _))
          cases gk with
          | succ g =>
            have hjj:(j:Int)<(T.length:Int):=by omega
            have hji:(0:Int)≤(j:Int)∧(j:Int)<(T.length:Int):=by omega
            obtain⟨z,hz⟩:=get_lt (l:=T) (i:=j) (by omega)
            have hro:Rd wo 1 A9 T.length c9 (cZ T):=HO9.out.rd.only HO.out (fun ad e hl e2=>by have:=(HO9.out.lt (g:=ad.block) (by rw[e];rfl)).1;omega)
            obtain⟨zd,hA9,hzc⟩:=hro.zcell hz
            subst hA9
            obtain⟨yy,hzy,hyn⟩:=HOKT.out z (List.mem_of_getElem? hz)
            subst hzy
            have HPUT:=Hd (take_fold hz)
            have hjm:j<maxLen:=by unfold maxLen;omega
            clear hz hro
            go_wp2_with (refine wp_put_MQ rfl _ _ _ rfl w10.heap.size j _ rfl HM.out hjm (yy:Int) (by omega) (by omega) rfl rfl ?_;intro w13 hm13 hg13;have HM13:=Hd hm13;have HG13:=Hd hg13;clear hm13 hg13)
            go_roundg g
            case measure=>omega
            case rel=>exact⟨j+1,by omega,by go_num,Hd (by rw[HPUT.out];exact HM13.out),Hd (HO.out.trans (Only.of_grown HG13.out) (fun k _ e=>by injection e))⟩
          | zero =>
            have hjj:¬((j:Int)<(T.length:Int)):=by omega
            obtain⟨V,hV⟩:∃ V,V=T.foldl addZ []:=⟨_,rfl⟩
            have HMV:Hid (MQ wo w10.heap.size j V):=Hd (by have:=HM.out;rw[List.take_of_length_le (by omega),←hV] at this;exact this)
            have HIN:Hid (∀ k∈lc,tZ V k=true∧∃ j:Nat,k=(j:Int)∧j<nd.length):=Hd (fun k hk=>by
             have h1:=(HMEM.out k).1 hk
             refine⟨tZ_iff.2 (by rw[hV];exact h1),?_⟩
             rw[addAll_mem] at h1
             rcases h1 with h1 | h1
             ·cases h1
             ·exact HOKT.out k h1)
            have hvl:lc.length=V.length:=by rw[hV];exact HVL.out
            have hq1:((lc.length:Int)==(V.length:Int))=true:=by rw[hvl];simp
            have hq2:(lc.length==V.length)=true:=by rw[hvl];simp
            have hmlen:=fun ty=>HMV.out.len ty
            have HRCo:=Hd (HRC.out.below HBWo.out)
            have HBo:=Hd (HB10.out.trans (HBWo.out.mono HB10.out.size))
            have hccp:=HRCP.out
            clear hV hvl HM
            go_wp2_with fail
            go_loopg [127] lc.length (fun g i wr=>∃ p:Nat,p+g=lc.length∧i=.int .i64 (p:Nat)∧wr=wo)
            case atStart=>exact⟨0,by omega,rfl,rfl⟩
            obtain⟨p,hp,rfl,hwr⟩:=hrel
            obtain rfl:=hwr.symm
            cases gk with
            | succ g =>
              have hpp:(p:Int)<(lc.length:Int):=by omega
              have hpi:(0:Int)≤(p:Int)∧(p:Int)<(lc.length:Int):=by omega
              obtain⟨z,hz⟩:=get_lt (l:=lc) (i:=p) (by omega)
              obtain⟨zd,hRC,hzc⟩:=HRCo.out.zcell hz
              subst hRC
              obtain⟨htz,yy,hzy,hyn⟩:=HIN.out z (List.mem_of_getElem? hz)
              subst hzy
              have hlk:=HMV.out.mt.look (k:=(yy:Int)) (by omega) (by omega)
              rw[htz] at hlk
              clear hz htz
              go_wp2_with fail
              go_roundg g
              case measure=>omega
              case rel=>exact⟨p+1,by omega,by go_num,rfl⟩
            | zero =>
              have hpp:¬((p:Int)<(lc.length:Int)):=by omega
              go_wp2_with fail
              refine(HWK.out _ HBo.out).mono ?_
              rintro e wz ⟨rfl,hbz⟩
              have HBZ:=Hd (HBo.out.trans (hbz.mono HBo.out.size))
              clear hbz
              go_wp2_with fail
              go_ret
              exact⟨rfl,HBZ.out⟩
         ·have gb1:((cb:Int)!=0)=true:=by simpa using hcb
          have gk1:((cc:Int)==(cb:Int))=true:=by rw[hcc];simp
          have gk2:(cc==cb)=true:=by rw[hcc];simp
          clear hj hcc hcn hmain hca hcb
          go_wp2_with fail
          refine(HWK.out _ HB10.out).mono ?_
          rintro e wz ⟨rfl,hbz⟩
          have HBZ:=Hd (HB10.out.trans (hbz.mono HB10.out.size))
          clear hbz
          go_wp2_with fail
          go_ret
          exact⟨rfl,HBZ.out⟩
        ·have hcc:=hj.1 hca
         have ga1:((ca:Int)!=0)=true:=by simpa using hca
         have ga2:((ca:Int)==0)=false:=by simpa using hca
         have gk1:((cc:Int)==(ca:Int))=true:=by rw[hcc];simp
         have gk2:(cc==ca)=true:=by rw[hcc];simp
         clear hj hcc hca
         go_wp2_with fail
         refine(HWK.out _ HB10.out).mono ?_
         rintro e wz ⟨rfl,hbz⟩
         have HBZ:=Hd (HB10.out.trans (hbz.mono HB10.out.size))
         clear hbz
         go_wp2_with fail
         go_ret
         exact⟨rfl,HBZ.out⟩
       ·have hzt:((ez:Int)!=0)=true:=by simpa using hz0
        clear hz0 hgood
        go_upto_region 4 with fail
        rw[←HW6.out]
        go_wp2_with fail
        refine(HWK.out _ HB6.out).mono ?_
        rintro e w7 ⟨rfl,hb7⟩
        have HB7:=Hd (HB6.out.trans (hb7.mono HB6.out.size))
        clear hb7
        go_wp2_with fail
        go_ret
        exact⟨rfl,HB7.out⟩
open Go.Shelf Go.RowKit Go.Lib
theorem u8_of_laidJ {w:World} (h:laidMet Tryz.prog Rows.depsJoinRow.laid w):U8 w:=by
 exact utf8Tabs_of_readsT (U8Types.of196 lay196) ⟨by kernel_rfl,by kernel_rfl,by kernel_rfl,by kernel_rfl,by kernel_rfl,by kernel_rfl,by kernel_rfl⟩
  (Pinned.utf8First_eq ▸ Lib.laidMet.reads h (.tail _ (.head _))) (accept_eq ▸ Lib.laidMet.reads h (.head _))
end Go.Proofs.YtgdfkbalnpfdgaaGreatDoor
