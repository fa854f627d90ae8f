/- Part of the proof. -/
import Derived.Test.YtgdfkbalnpfdgaaGreatDoorDfA
set_option maxRecDepth 100000
set_option maxHeartbeats 8000000
set_option linter.unusedVariables false
set_option linter.unusedSimpArgs false
namespace Go.Proofs.YtgdfkbalnpfdgaaGreatDoor
open Go.RowKit
theorem bz2 {w:World} {q:Nat} {c0 c1:Value} {t:TypeId} (h:Blk w q #[c0,c1] t):w.cell? ⟨q,0,none⟩=some c0∧w.cell? ⟨q,1,none⟩=some c1:=⟨h.cell 0 rfl,h.cell 1 rfl⟩
theorem gd_one {S:Nat→Prop} {w:World}:∀ {l:List Gd} {vs:List Value},Trs.at S w (l.flatMap Gd.tr) vs→∀ u∈vs,u.oneCell'=true
 | [],vs,h=>by obtain rfl:=at_nil.1 h;intro u hu;cases hu
 | g::l,vs,h=>by
   rw[List.flatMap_cons] at h
   obtain⟨a,b,rfl,h1,h2⟩:=Trs.at.app.1 h
   obtain⟨_,rfl,h3,h1⟩:=at_leaf.1 h1
   obtain⟨_,rfl,h4,h1⟩:=at_leaf.1 h1
   obtain rfl:=at_nil.1 h1
   intro u hu
   rcases List.mem_append.1 hu with hu | hu
   ·simp at hu
    rcases hu with rfl | rfl<;>rfl
   ·exact gd_one h2 u hu
def cG (l:List Gd):List Value:=l.flatMap fun g=>[.int .i64 g.scope,.string g.name]
theorem gd_cells {S:Nat→Prop} {w:World}:∀ {l:List Gd} {vs:List Value},Trs.at S w (l.flatMap Gd.tr) vs→vs=cG l
 | [],vs,h=>by obtain rfl:=at_nil.1 h;rfl
 | g::l,vs,h=>by
   rw[List.flatMap_cons] at h
   obtain⟨a,b,rfl,h1,h2⟩:=Trs.at.app.1 h
   obtain⟨_,rfl,h3,h1⟩:=at_leaf.1 h1
   obtain⟨_,rfl,h4,h1⟩:=at_leaf.1 h1
   obtain rfl:=at_nil.1 h1
   rw[gd_cells h2];rfl
theorem gd_trs {S:Nat→Prop} {w:World} {n:Nat} (hn:n≤1000000):∀ {l:List Gd},(∀ g∈l,gFit n g)→Trs.at S w (l.flatMap Gd.tr) (cG l)
 | [],h=>at_nil.2 rfl
 | g::l,h=>by
   have h1:=h g (.head _)
   unfold gFit at h1
   rw[List.flatMap_cons,cG,List.flatMap_cons]
   exact Trs.at.app.2 ⟨_,_,rfl,at_leaf.2 ⟨_,rfl,by simp[okLeaf,Lit.wf,IntKind.min,IntKind.max,IntKind.bits,IntKind.signed];omega,at_leaf.2 ⟨_,rfl,by show g.name.size≤140737488351232;omega,at_nil.2 rfl⟩⟩,gd_trs hn fun g hg=>h g (.tail _ hg)⟩
def gZ (z:Nat) (gs:List Gd) (r:Rs):List Gd:=if bEq r.cond ByteArray.empty then gs else gs++[⟨z,r.cond⟩]
def eT (z:Nat) (es:List Gd) (r:Rs) (j:Nat):List Gd:=es++(r.depends.take j).map fun d=>⟨z,d⟩
theorem eT_len {z:Nat} {es:List Gd} {r:Rs} {j:Nat} (h:j≤r.depends.length):(eT z es r j).length=es.length+j:=by unfold eT;simp;omega
theorem eT_succ {z:Nat} {es:List Gd} {r:Rs} {j:Nat} {d:ByteArray} (h:r.depends[j]?=some d):eT z es r (j+1)=eT z es r j++[⟨z,d⟩]:=by
 unfold eT
 rw[List.take_add_one,h];simp
theorem gZ_len (z:Nat) (gs:List Gd) (r:Rs):(gZ z gs r).length≤gs.length+1:=by unfold gZ;split<;>simp
theorem grown_nil {w w':World} (h:w.grownBy w' (blk none)):Below w.heap.size w w':=(Below.refl _ w).grown h (Nat.le_refl _) (fun k hk=>by cases hk)
theorem gFit.le {n m:Nat} {g:Gd} (h:gFit n g) (hnm:n≤m):gFit m g:=⟨h.1,h.2.1,by have:=h.2.2;omega⟩
theorem gZ_fit {n z:Nat} {gs:List Gd} {r:Rs} (h:∀ g∈gs,gFit n g) (hz:z<n) (hr:rZ r):∀ g∈gZ z gs r,gFit n g:=by
 intro g hg
 unfold gZ at hg
 split at hg
 ·exact h g hg
 ·rcases List.mem_append.1 hg with hg | hg
  ·exact h g hg
  ·rw[List.mem_singleton] at hg;subst hg
   have:=hr.1
   exact⟨by show r.cond.size≤20000;omega,by show (0:Int)≤(z:Int);omega,by show (z:Int)<_;omega⟩
theorem eT_fit {n z:Nat} {es:List Gd} {r:Rs} {j:Nat} (h:∀ g∈es,gFit n g) (hz:z<n) (hr:rZ r):∀ g∈eT z es r j,gFit n g:=by
 intro g hg
 unfold eT at hg
 rcases List.mem_append.1 hg with hg | hg
 ·exact h g hg
 ·obtain⟨d,hd,rfl⟩:=List.mem_map.1 hg
  have:=hr.2.2 d (List.mem_of_mem_take hd)
  exact⟨by show d.size≤20000;omega,by show (0:Int)≤(z:Int);omega,by show (z:Int)<_;omega⟩
theorem gd_ls {B b n:Nat} {F:Nat→Prop} {w:World} {e:TypeId} {A:Option Addr} {c:Nat} {l:List Gd} (ho:Ow w b e 2 A l.length c (cG l)) (hBb:B≤b) (hF:∀ k,b≤k→¬F k) (hf:∀ g∈l,gFit n g) (hn:n≤1000000) (hl:l.length≤1000):Ls (Sf B F w) w 2 24 Gd.tr A c l:=by
 have hr:=ho.rd
 exact⟨by omega,by omega,hr.cap,hr.max,fun ad e _=>⟨hF _ (ho.blk_lt ad e).1,(ho.blk_lt ad e).2,by have:=(ho.blk_lt ad e).1;omega⟩,cG l,hr,gd_trs hn hf⟩
theorem put_stack {KS:Sc→Prop} {KN:Nd→Prop} {B q k dp:Nat} {t:Tm} {r:Rs} (hI:∀ k',k=k'+1→PutZ KS KN B q k') (hZ:TmZ KS KN k dp t) (hd:dpT k t=true) (hr:r∈t.res) (hs:r.type=stackT) (hkd:k+dp≤4) :
 ∃ (τ:Tm) (k':Nat),r.inner=[τ]∧PutZ KS KN B q k'∧TmZ KS KN k' (dp+1) τ∧dpT k' τ=true∧k'+(dp+1)≤4∧(∀ z pre,pre.size≤40000→KS ⟨z,pre,bareT τ,r.props⟩)∧∀ a,cnOne (cnF k) a r=(a.1+(cnT k' τ).1,a.2+(cnT k' τ).2):=by
 rw[dpT_eq,List.all_eq_true] at hd
 have h1:=hd r hr
 unfold dpOne at h1
 rw[if_pos (bEq_iff.2 hs)] at h1
 cases hin:r.inner with
 | nil=>rw[hin] at h1;cases h1
 | cons τ l =>
   cases l with
   | cons _ _=>rw[hin] at h1;cases h1
   | nil =>
     rw[hin] at h1
     simp only[Bool.and_eq_true,decide_eq_true_eq] at h1
     cases k with
     | zero=>exact absurd rfl h1.1
     | succ k' =>
       have h2:=hZ.inner hr (τ:=τ) (by rw[hin];simp)
       exact⟨τ,k',rfl,hI k' rfl,h2.2,h1.2,by omega,h2.1,fun a=>by unfold cnOne;rw[if_pos (bEq_iff.2 hs),hin];rfl⟩
theorem put_plain {f:Tm→Nat × Nat} {r:Rs} (hs:r.type≠stackT) (a:Nat × Nat):cnOne f a r=(a.1+1,a.2):=by unfold cnOne;rw[if_neg (by rw[bEq_ne hs];simp)]
theorem nd_trA {S:Nat→Prop} {w:World} {id:ByteArray} {z:Int} {r:Rs} {rcs:List Value} {gs:List Gd} {G:Option Addr} {gc:Nat} {af:List ByteArray} {A:Option Addr} {ac:Nat} (hid:id.size≤20000) (hz:0≤z∧z≤1000000) (hr:Trs.at S w r.tr rcs) (hg:Ls S w 2 24 Gd.tr G gc gs) (ha:Ss S w A ac af) :
 Trs.at S w (Nd.tr ⟨id,z,r,gs,af⟩) (.string id::.int .i64 z::(rcs++[.slice G gs.length gc,.slice A af.length ac])):=by
 unfold Nd.tr
 refine at_leaf.2 ⟨_,rfl,by show id.size≤_;omega,at_leaf.2 ⟨_,rfl,by simp[okLeaf,Lit.wf,IntKind.min,IntKind.max,IntKind.bits,IntKind.signed];omega,Trs.at.app.2 ⟨_,_,rfl,hr,at_row.2 ⟨_,_,_,rfl,hg,at_str.2 ⟨A,ac,[],rfl,ha,at_nil.2 rfl⟩⟩⟩⟩⟩
theorem str_ls {B b:Nat} {F:Nat→Prop} {w:World} {e:TypeId} {A:Option Addr} {c:Nat} {l:List ByteArray} (ho:Ow w b e 1 A l.length c (l.map .string)) (hBb:B≤b) (hF:∀ k,b≤k→¬F k) (hs:∀ d∈l,d.size≤60000) (hl:l.length≤100000):Ss (Sf B F w) w A c l :=
 Ls.mk_strs ho.rd (by omega) (fun d hd=>by have:=hs d hd;omega) (fun ad e _=>⟨hF _ (ho.blk_lt ad e).1,(ho.blk_lt ad e).2,by have:=(ho.blk_lt ad e).1;omega⟩)
theorem cel2z {w:World} {a:Addr} {c0 c1:Value} (h:Cel w a [c0,c1]):w.cell? a=some c0∧w.cell? ⟨a.block,a.off+1,none⟩=some c1:=⟨h 0 _ rfl,h 1 _ rfl⟩
theorem gd_at {S:Nat→Prop} {w:World} {A:Option Addr} {c:Nat} {l:List Gd} (h:Ls S w 2 24 Gd.tr A c l) {i:Nat} {g:Gd} (hg:l[i]?=some g):∃ ad,A=some ad∧w.cell? (ad.add (i*2))=some (.int .i64 g.scope)∧w.cell? ⟨(ad.add (i*2)).block,(ad.add (i*2)).off+1,none⟩=some (.string g.name):=by
 obtain⟨ad,cs,hA,htr,hc⟩:=h.elem Gd.trlen hg
 unfold Gd.tr at htr
 obtain⟨_,rfl,h3,h1⟩:=at_leaf.1 htr
 obtain⟨_,rfl,h4,h1⟩:=at_leaf.1 h1
 obtain rfl:=at_nil.1 h1
 exact⟨ad,hA,cel2z hc⟩
theorem gd_cel {S:Nat→Prop} {w:World} {ad:Addr} {c:Nat} {l:List Gd} (h:Ls S w 2 24 Gd.tr (some ad) c l) {i:Nat} {g:Gd} (hg:l[i]?=some g):w.cell? (ad.add (i*2))=some (.int .i64 g.scope)∧w.cell? ⟨(ad.add (i*2)).block,(ad.add (i*2)).off+1,none⟩=some (.string g.name):=by
 obtain⟨ad',h1,h2,h3⟩:=gd_at h hg
 injection h1 with h1
 subst h1
 exact⟨h2,h3⟩
theorem Bz.preAt {B q:Nat} {R:Rz} {sc:List Sc} {nd:List Nd} {w:World} (h:Bz B w q R sc nd) {ad:Addr} (hA:R.A1=some ad) {i:Nat} {c:Sc} (hc:sc[i]?=some c):w.cell? ⟨(ad.add (i*7)).block,(ad.add (i*7)).off+1,none⟩=some (.string c.pre):=by
 obtain⟨ad',h1,h2,h3⟩:=h.pre hc
 rw[hA] at h1
 injection h1 with h1
 subst h1
 exact h2
theorem put_step2 (KS:Sc→Prop) (KN:Nd→Prop) (B q k:Nat) (hI:∀ k',k=k'+1→PutZ KS KN B q k'):PutZ KS KN B q k:=by
 intro dp t cs z zc G gc gs E ec es R sc nd w hkd hZ hdp hb2 hb1 hB htr hc0 hpre hpres hgl hgf hel hef hG hE
 obtain⟨A,a,Bq,b,C,c,D,d,rfl,h1,h2,h3,h4⟩:=Tm.at_iff.1 htr
 have hcap:=h3.cap
 have hmax:=h3.max
 unfold maxLen at hmax
 have hrl:=hZ.res.1
 obtain⟨W1,hW1⟩:∃ W1,W1=w.alloc (.cells #[.slice A t.params.length a,.slice Bq t.conds.length b,.slice C t.res.length c,.slice D t.outs.length d] 27):=⟨_,rfl⟩
 have hbw:Below w.heap.size w W1:=by rw[hW1];exact(Below.refl _ w).alloc (Nat.le_refl _) _
 have hbk:Blk W1 w.heap.size #[.slice A t.params.length a,.slice Bq t.conds.length b,.slice C t.res.length c,.slice D t.outs.length d] 27:=by rw[hW1];exact Blk.new w _ _
 have hsz1:W1.heap.size=w.heap.size+1:=by rw[hW1];simp
 have HZ:=Hd hZ
 have HI:=Hd hI
 have HE0:=Hd (cnT_eq k t)
 have HDP:=Hd hdp
 have HB:=Hd (hB.below hbw)
 have HBW:=Hd hbw
 have HBK:=Hd hbk
 have HW1:=Hd hW1
 have H3:=Hd (h3.go (Go1.of_below (F:=R.mu q) hbw))
 have HG:=Hd (hG.go (Go1.of_below (F:=R.mu q) hbw))
 have HE:=Hd (hE.go (Go1.of_below (F:=R.mu q) hbw))
 have HC0:=Hd hc0
 have HPS:=Hd hpres
 have HGF:=Hd hgf
 have HEF:=Hd hef
 have HNB:Hid (¬R.mu q w.heap.size):=Hd (fun h=>by have:=(hB.mu_lt h).2;omega)
 clear hZ hI hdp hB hbw hbk hW1 h1 h2 h3 h4 hG hE hc0 hpres hgf hef htr
 go_enter Tryz.func28,Tryz.ntmps28
 go_upto_region 1 with fail
 rw[←HW1.out]
 go_wp2_with fail
 go_loopg [10] t.res.length (fun g i wr=>∃ (j:Nat) (R':Rz) (sc':List Sc) (nd':List Nd) (p m:Nat),j+g=t.res.length∧i=.int .i64 (j:Nat)∧Hid ((t.res.take j).foldl (cnOne (cnF k)) (0,1)=(p,m))∧Hid (Bz B wr q R' sc' nd')∧Hid (Go1 (R.mu q) (R'.mu q) W1 wr)∧Hid (PutR KS KN sc sc' nd nd' p m))
 case atStart=>exact⟨0,R,sc,nd,0,1,by omega,rfl,Hd (by simp),HB,Hd (Go1.refl _ _),Hd (PutR.nil _ _ _ _)⟩
 obtain⟨j,R',sc',nd',p,m,hj,rfl,HA,HBj,HGo,HPR⟩:=hrel
 rename World=>wo
 obtain⟨x0,x1,x2,x3⟩:=blk4 (HBK.out.only HGo.out.only HNB.out)
 cases gk with
 | zero =>
   have hjj:¬((j:Int)<(t.res.length:Int)):=by omega
   have HT:Hid (cnT k t=(p,m)):=Hd (by rw[HE0.out];have:=HA.out;rwa [List.take_of_length_le (by omega)] at this)
   go_wp2_with fail
   go_end0
   rw[HT.out]
   exact⟨rfl,R',sc',nd',HBj.out,(Go1.of_below HBW.out).trans HGo.out,HPR.out⟩
 | succ g =>
   have hjj:(j:Int)<(t.res.length:Int):=by omega
   have hji:(0:Int)≤(j:Int)∧(j:Int)<(t.res.length:Int):=by omega
   obtain⟨r,hr⟩:=get_lt (l:=t.res) (i:=j) (by omega)
   have HRJ:=Hd (HZ.out.res.2 r (List.mem_of_getElem? hr))
   obtain⟨adr,rcs,hAr,hrt,hrc'⟩:=(H3.out.go HGo.out).elem Rs.trlen hr
   obtain⟨P1,p1,D1,d1,I1,i1,rfl,-⟩:=Rs.at_iff.1 hrt
   obtain⟨e0,e1,e2,e3,e4,e5,e6⟩:=cel7 hrc'
   subst hAr
   have HRT:=Hd hrt
   have HRM:=Hd (List.mem_of_getElem? hr)
   have HRI:=Hd hr
   clear hr hrt hrc'
   go_upto_region 6 with fail
   have BW2:Below wo.heap.size wo (wo.alloc (.cells #[.string r.id,.string r.type,.string r.cond,.slice P1 r.props.length p1,.slice D1 r.depends.length d1,.bool r.retain,.slice I1 r.inner.length i1] 66)):=(Below.refl _ wo).alloc (Nat.le_refl _) _
   have BR2:Blk (wo.alloc (.cells #[.string r.id,.string r.type,.string r.cond,.slice P1 r.props.length p1,.slice D1 r.depends.length d1,.bool r.retain,.slice I1 r.inner.length i1] 66)) wo.heap.size #[.string r.id,.string r.type,.string r.cond,.slice P1 r.props.length p1,.slice D1 r.depends.length d1,.bool r.retain,.slice I1 r.inner.length i1] 66:=Blk.new wo _ _
   have SZ2:(wo.alloc (.cells #[.string r.id,.string r.type,.string r.cond,.slice P1 r.props.length p1,.slice D1 r.depends.length d1,.bool r.retain,.slice I1 r.inner.length i1] 66)).heap.size=wo.heap.size+1:=by simp
   obtain⟨w2,hw2⟩:∃ w2,w2=(wo.alloc (.cells #[.string r.id,.string r.type,.string r.cond,.slice P1 r.props.length p1,.slice D1 r.depends.length d1,.bool r.retain,.slice I1 r.inner.length i1] 66)):=⟨_,rfl⟩
   rw[←hw2] at BW2 BR2 SZ2
   rw[←hw2]
   have HBW2:=Hd BW2
   have HBR2:=Hd BR2
   have HSZ2:=Hd SZ2
   clear hw2 e0 e1 e2 e3 e4 e5 e6 x0 x1 x2 x3 BW2 BR2 SZ2
   have HG2:=Hd ((HG.out.go HGo.out).go (Go1.of_below (F:=R'.mu q) HBW2.out))
   obtain⟨gv,hgr,hgt⟩:=HG2.out.cells
   have HGR:=Hd hgr
   have HGT:=Hd hgt
   clear hgr hgt
   go_upto_region 7 with (at_builtin;refine wpList_row info_gd Tryz.underlying78 rfl (by omega) rfl (.tmp 30) (.tmp 31) rfl w2.heap.size none 0 0 [] rfl (Ow.nil w2 w2.heap.size 108 2) G gs.length gc gv rfl HGR.out (gd_one HGT.out) (by omega) (by omega) (Nat.le_refl _) ?_;intro G1 gc1 w3 ho hgw hat;have HO:=Hd ho;have HGW:=Hd hgw;have HAT:=Hd hat;clear ho hgw hat)
   have HB3:Hid (Below w2.heap.size w2 w3):=Hd (grown_nil HGW.out)
   have HE3:=Hd (((HE.out.go HGo.out).go (Go1.of_below (F:=R'.mu q) HBW2.out)).go (Go1.of_below (F:=R'.mu q) HB3.out))
   obtain⟨ev,her,het⟩:=HE3.out.cells
   have HER:=Hd her
   have HET:=Hd het
   clear her het
   go_upto_region 8 with (at_builtin;refine wpList_row info_gd Tryz.underlying78 rfl (by omega) rfl (.tmp 33) (.tmp 34) rfl w3.heap.size none 0 0 [] rfl (Ow.nil w3 w3.heap.size 108 2) E es.length ec ev rfl HER.out (gd_one HET.out) (by omega) (by omega) (Nat.le_refl _) ?_;intro E1 ec1 w4 ho hgw hat;have HO2:=Hd ho;have HGW2:=Hd hgw;have HAT2:=Hd hat;clear ho hgw hat)
   have HB4:Hid (Below w3.heap.size w3 w4):=Hd (grown_nil HGW2.out)
   have HOG:Hid (Ow w4 w2.heap.size 108 2 G1 gs.length gc1 (cG gs)):=Hd (by have:=HO.out.below HB4.out;rw[gd_cells HGT.out] at this;simpa using this)
   have HOE:Hid (Ow w4 w3.heap.size 108 2 E1 es.length ec1 (cG es)):=Hd (by have:=HO2.out;rw[gd_cells HET.out] at this;simpa using this)
   have HNE:Hid (blk G1=none∨blk G1≠blk E1):=Hd (by
    rcases HAT.out with rfl | rfl
    ·exact .inl rfl
    ·right
     intro e
     have h1:=HO.out.lt (g:=w2.heap.size) rfl
     have h2:=(HO2.out.lt (g:=w2.heap.size) e.symm).1
     omega)
   have HB24:Hid (Below wo.heap.size wo w4):=Hd ((HBW2.out.trans (HB3.out.mono HBW2.out.size)).trans (HB4.out.mono (Nat.le_trans HBW2.out.size HB3.out.size)))
   have HBR4:=Hd ((HBR2.out.below HB3.out).below HB4.out)
   obtain⟨b0,b1,b2,b3,b4,b5,b6⟩:=blk7 HBR4.out
   have hsz4:wo.heap.size+1≤w3.heap.size∧wo.heap.size+1≤w2.heap.size∧w3.heap.size≤w4.heap.size∧w2.heap.size≤w3.heap.size:=⟨by have:=HB3.out.size;have:=HSZ2.out;omega,by have:=HSZ2.out;omega,HB4.out.size,HB3.out.size⟩
   clear HO HO2 HGW HGW2 HAT HAT2 HET HER HE3 HGT HGR HG2 HBR2 HB3 HB4
   go_upto_if 38 with (fail)
   go_cut [12] from 38 to 45 (fun gsl wx=>∃ (G':Option Addr) (gc':Nat),gsl=.slice G' (gZ z gs r).length gc'∧Hid (Below wo.heap.size wo wx)∧Hid (Blk wx wo.heap.size #[.string r.id,.string r.type,.string r.cond,.slice P1 r.props.length p1,.slice D1 r.depends.length d1,.bool r.retain,.slice I1 r.inner.length i1] 66)∧Hid (Ow wx (wo.heap.size+1) 108 2 G' (gZ z gs r).length gc' (cG (gZ z gs r)))∧Hid (Ow wx (wo.heap.size+1) 108 2 E1 es.length ec1 (cG es))∧Hid (blk G'=none∨blk G'≠blk E1))
   case first =>
    by_cases hcn:r.cond=ByteArray.empty
    ·have hE:r.cond.toList=[]:=by rw[hcn,Lib.toList_data];rfl
     have hE2:(!r.cond.toList.isEmpty)=false:=by simp[hE]
     rw[hE2]
     clear hE hE2
     have HGG:Hid (gZ z gs r=gs):=Hd (by unfold gZ;rw[bEq_iff.2 hcn];rfl)
     clear hcn
     go_wp2_with fail
     go_meet
     exact⟨G1,gc1,by rw[HGG.out],HB24,HBR4,by rw[HGG.out];exact Hd (HOG.out.le (by omega)),Hd (HOE.out.le (by omega)),HNE⟩
    ·have hE:¬(r.cond.toList=[]):=fun e=>hcn (ba_ext (by rw[←Lib.toList_data,e];rfl))
     have hE2:(!r.cond.toList.isEmpty)=true:=by simpa using hE
     rw[hE2]
     clear hE hE2
     have HGG:Hid (gZ z gs r=gs++[⟨z,r.cond⟩]):=Hd (by unfold gZ;rw[bEq_ne hcn];rfl)
     clear hcn
     have hgl2:gs.length≤1000:=by omega
     go_wp2_with (at_builtin;refine wpList_row info_gd Tryz.underlying78 rfl (by omega) rfl (.tmp 39) (.tmp 44) rfl w2.heap.size G1 gc1 gs.length (cG gs) rfl (HOG.out.alloc _) (some ⟨w4.heap.size,0,none⟩) 1 1 [.int .i64 (z:Int),.string r.cond] rfl (Rd.lit w4 2 1 #[.int .i64 (z:Int),.string r.cond] _ _ rfl (by simp[maxLen])) (by simp[Value.oneCell']) (by omega) (by omega) (by simp;omega) ?_;intro G' gc' w5 ho hgw hat;have HO:=Hd ho;have HGW:=Hd hgw;have HAT:=Hd hat;clear ho hgw hat)
     go_meet
     have ha:Below w4.heap.size w4 (w4.alloc (.cells #[.int .i64 (z:Int),.string r.cond] 108)):=(Below.refl _ w4).alloc (Nat.le_refl _) _
     have hne:blk E1=none∨blk E1≠blk G1:=by
      rcases HNE.out with h | h
      ·cases hE1:blk E1 with
       | none=>exact .inl rfl
       | some k=>right;rw[h];exact fun e=>by cases e
      ·exact .inr fun e=>h e.symm
     have hoe:=(HOE.out.below ha).grown HGW.out hne
     have hbr:=(HBR4.out.below ha).grown HGW.out (fun e=>by have:=(HOG.out.lt e).1;omega)
     have hbw:Below wo.heap.size wo w5:=(HB24.out.trans (ha.mono HB24.out.size)).grown HGW.out (by have:=HB24.out.size;simp;omega) (fun k hk=>by have:=(HOG.out.lt hk).1;omega)
     refine⟨G',gc',by rw[HGG.out];simp,Hd hbw,Hd hbr,?_,Hd (hoe.le (by omega)),?_⟩
     ·rw[HGG.out]
      have:=HO.out.le (base':=wo.heap.size+1) (by omega)
      exact Hd (by simpa [cG] using this)
     ·refine Hd ?_
      rcases HAT.out with rfl | rfl
      ·exact HNE.out
      ·right
       intro e
       have:=(HOE.out.lt (g:=(w4.alloc (.cells #[.int .i64 (z:Int),.string r.cond] 108)).heap.size) e.symm).2
       have hs:(w4.alloc (.cells #[.int .i64 (z:Int),.string r.cond] 108)).heap.size=w4.heap.size+1:=by simp
       omega
   obtain⟨G',gc',rfl,HBWc,HBRc,HOGc,HOEc,HNEc⟩:=hcut
   rename World=>wc
   clear HBR4 HB24 HOG HOE HNE hsz4 b0 b1 b2 b3 b4 b5 b6
   have HDS:=Hd (Rs.at_iff.1 HRT.out)
   obtain⟨P2,p2,D2,d2,I2,i2,he,-,-,-,hpr,hdp,hin⟩:=HDS.out
   simp only[List.cons.injEq,Value.slice.injEq,Value.string.injEq,true_and,and_true] at he
   obtain⟨⟨rfl,rfl⟩,⟨rfl,rfl⟩,rfl,rfl⟩:=he
   have HPRr:=Hd hpr
   have HDPr:=Hd hdp
   have HIN:=Hd hin
   have hdc:=hdp.cap
   have hdl:r.depends.length≤60:=HRJ.out.1.2.1
   have hes:es.length≤600:=by omega
   obtain⟨b0,b1,b2,b3,b4,b5,b6⟩:=blk7 HBRc.out
   clear HDS hpr hdp hin
   go_wp2_with fail
   clear b0 b1 b2 b3 b4 b5 b6
   go_loopg [13,14] r.depends.length (fun g dv iv wr=>∃ (j2:Nat) (E2:Option Addr) (ec2:Nat),j2+g=r.depends.length∧dv=.slice E2 (es.length+j2) ec2∧iv=.int .i64 (j2:Nat)∧Hid (Below wo.heap.size wo wr)∧Hid (Blk wr wo.heap.size #[.string r.id,.string r.type,.string r.cond,.slice P1 r.props.length p1,.slice D1 r.depends.length d1,.bool r.retain,.slice I1 r.inner.length i1] 66)∧Hid (Ow wr (wo.heap.size+1) 108 2 G' (gZ z gs r).length gc' (cG (gZ z gs r)))∧Hid (Ow wr (wo.heap.size+1) 108 2 E2 (es.length+j2) ec2 (cG (eT z es r j2)))∧Hid (blk G'=none∨blk G'≠blk E2))
   case atStart=>exact⟨0,E1,ec1,by omega,rfl,rfl,HBWc,HBRc,HOGc,by simpa [eT] using HOEc,HNEc⟩
   obtain⟨j2,E2,ec2,hj2,rfl,rfl,HBWd,HBRd,HOGd,HOEd,HNEd⟩:=hrel
   clear HBWc HBRc HOGc HOEc HNEc
   rename World=>wd
   obtain⟨b0,b1,b2,b3,b4,b5,b6⟩:=blk7 HBRd.out
   cases gk with
   | zero =>
     obtain rfl:j2=r.depends.length:=by omega
     have hjj:¬((r.depends.length:Int)<(r.depends.length:Int)):=by omega
     obtain⟨ne,hne⟩:∃ ne,ne=es.length+r.depends.length:=⟨_,rfl⟩
     have hnel:ne≤660:=by omega
     rw[←hne] at HOEd ⊢
     have HNEL:=Hd hne
     clear hne
     obtain⟨pre,hpre'⟩:∃ pre,pre=zc.pre:=⟨_,rfl⟩
     have HBD:=Hd (HBj.out.below HBWd.out)
     obtain⟨q0,q1⟩:=bz2 HBD.out.box
     obtain⟨ad1,hA1,hpc,hzl⟩:=HBD.out.pre (HPR.out.at HC0.out)
     rw[hA1] at q0
     rw[←hpre'] at hpc
     have hps:pre.size≤3002*dp:=by rw[hpre'];exact hpre
     have hrz:=HRJ.out.1.1
     clear hpre'
     have hzi:(0:Int)≤(z:Int)∧(z:Int)<(sc'.length:Int):=by omega
     have hql:=HBD.out.box.lt
     have hcat:∀ w',(Op.stringOp .add pre r.id).run Tryz.prog w'=.ok (.string (pre++r.id)) w':=fun w'=>run_string_add_sum _ _ _ (by omega)
     have HRZ:=Hd HRJ.out.1
     clear hrz
     go_wp2_with fail
     go_cut [15] from 63 to 74 (fun idv wx=>idv=.string (pre++r.id)∧Hid (Below wo.heap.size wo wx)∧Hid (Blk wx wo.heap.size #[.string r.id,.string r.type,.string r.cond,.slice P1 r.props.length p1,.slice D1 r.depends.length d1,.bool r.retain,.slice I1 r.inner.length i1] 66)∧Hid (Ow wx (wo.heap.size+1) 108 2 G' (gZ z gs r).length gc' (cG (gZ z gs r)))∧Hid (Ow wx (wo.heap.size+1) 108 2 E2 ne ec2 (cG (eT z es r r.depends.length))))
     case first =>
      go_region
      all_goals
       go_wp2_with fail
       go_meet
       exact⟨rfl,Hd HBWd.out.drew,Hd HBRd.out.drew,Hd HOGd.out.drew,Hd HOEd.out.drew⟩
     obtain⟨rfl,HBWe,HBRe,HOGe,HOEe⟩:=hcut
     rename World=>we
     clear HBD q0 q1 hA1 hpc b0 b1 b2 b3 b4 b5 b6 HBWd HBRd HOGd HOEd HNEd hql hcat ad1
     have HBE:=Hd (HBj.out.below HBWe.out)
     obtain⟨q0,q1⟩:=bz2 HBE.out.box
     have hql:=HBE.out.box.lt
     have hwl:wo.heap.size<we.heap.size:=HBRe.out.lt
     have HSL:Hid (sc'.length+1=sc.length+m∧nd'.length=nd.length+p∧sc.length≤sc'.length):=Hd (by
      obtain⟨⟨ls,h1,h2,-⟩,ln,h3,h4,-⟩:=HPR.out
      rw[h1,h3,List.length_append,List.length_append];omega)
     have HZS:Hid (z<sc.length):=Hd (List.getElem?_eq_some_iff.1 HC0.out).1
     have HMF:Hid (∀ k,wo.heap.size+1≤k→¬R'.mu q k):=Hd (fun k hk h=>by have:=(HBj.out.mu_lt h).2;omega)
     have HGFZ:Hid (∀ g∈gZ z gs r,gFit sc'.length g):=Hd (fun g hg=>(gZ_fit HGF.out HZS.out HRZ.out g hg).le HSL.out.2.2)
     have HEFZ:Hid (∀ g∈eT z es r r.depends.length,gFit sc'.length g):=Hd (fun g hg=>(eT_fit HEF.out HZS.out HRZ.out g hg).le HSL.out.2.2)
     have HEL:Hid ((eT z es r r.depends.length).length=ne):=Hd (by rw[HNEL.out];exact eT_len (Nat.le_refl _))
     have HLM:Hid (sc'.length≤1000000∧nd'.length+1≤1000001):=Hd (by
      have h1:=(cnTake_le (f:=cnF k) (l:=t.res) (j:=j))
      rw[HA.out,←HE0.out] at h1
      have:=HSL.out
      simp only at h1
      omega)
     have HNR:Hid (¬R'.mu q wo.heap.size):=Hd (fun h=>by have:=(HBj.out.mu_lt h).2;omega)
     have HLG:Hid (Ls (Sf B (R'.mu q) we) we 2 24 Gd.tr G' gc' (gZ z gs r)):=Hd (gd_ls HOGe.out (by have:=HBj.out.hq;have:=HBj.out.box.lt;omega) HMF.out HGFZ.out HLM.out.1 (by have:=gZ_len z gs r;omega))
     have HLE:Hid (Ls (Sf B (R'.mu q) we) we 2 24 Gd.tr E2 ec2 (eT z es r r.depends.length)):=Hd (gd_ls (by rw[HEL.out];exact HOEe.out) (by have:=HBj.out.hq;have:=HBj.out.box.lt;omega) HMF.out HEFZ.out HLM.out.1 (by rw[HEL.out];omega))
     obtain⟨b0,b1,b2,b3,b4,b5,b6⟩:=blk7 HBRe.out
     go_upto_if 77 with (fail)
     by_cases hT:r.type=stackT
     ·rw[stack_eq hT]
      obtain⟨τ,k',hin1,hIk,hZk,hDk,hkk,hKSk,hCn⟩:=put_stack HI.out HZ.out HDP.out HRM.out hT hkd
      have hil:0<r.inner.length:=by rw[hin1];simp
      have hic:r.inner.length≤i1:=HIN.out.cap
      have HT1:=Hd hin1
      have HIK:=Hd hIk
      have HZK:=Hd hZk
      have HDK:=Hd hDk
      have HKS:=Hd hKSk
      have HCN:Hid ((t.res.take (j+1)).foldl (cnOne (cnF k)) (0,1)=(p+(cnT k' τ).1,m+(cnT k' τ).2)):=Hd (by rw[cnTake HRI.out,HA.out,hCn])
      have HCL:Hid (p+(cnT k' τ).1≤(cnT k t).1∧m+(cnT k' τ).2≤(cnT k t).2):=Hd (by
       have h1:=(cnTake_le (f:=cnF k) (l:=t.res) (j:=j+1))
       rw[HCN.out,←HE0.out] at h1
       exact h1)
      clear hin1 hIk hZk hDk hKSk hCn hT
      have HRT5:=Hd (HRT.out.go (Go1.of_below (F:=R'.mu q) HBWe.out))
      have HIN5:=Hd (HIN.out.go (Go1.of_below (F:=R'.mu q) HBWe.out))
      obtain⟨adi,ics,hIa,hit,hic'⟩:=HIN5.out.elem (i:=0) (x:=τ) Tm.trlen (by rw[HT1.out];rfl)
      obtain⟨Q1,e1,Q2,e2,Q3,e3,Q4,e4,rfl,hQ1,hQ2,hQ3,hQ4⟩:=Tm.at_iff.1 hit
      subst hIa
      have hadi:adi.add (0*4)=adi:=by simp[Addr.add]
      rw[hadi] at hic'
      obtain⟨u0,u1,u2,u3⟩:=cel4 hic'
      have HIT:=Hd hit
      have HIC:=Hd hic'
      have hcat2:∀ w',(Op.stringOp .add (pre++r.id) ⟨#[46]⟩).run Tryz.prog w'=.ok (.string (pre++r.id++dot)) w':=fun w'=>run_string_add_sum _ _ _ (by rw[size_app];show _+1≤_;have:=HRZ.out.1;omega)
      have hB9:B≤we.heap.size:=Nat.le_trans HBE.out.hq (Nat.le_of_lt HBE.out.box.lt)
      have hsl:sc'.length+1≤1000001:=by have:=HLM.out.1;omega
      have HNI:Hid (¬R'.mu q adi.block):=Hd (HIN5.out.blk adi rfl (by omega)).1
      have fq:=HBE.out.box.frozen 0
      have HSP:Hid ((pre++r.id++dot).size≤3002*(dp+1)):=Hd (by rw[size_app,size_app];have:dot.size=1:=rfl;have:=HRZ.out.1;omega)
      clear hit hic' hQ1 hQ2 hQ3 hQ4 hadi
      go_wp2_with fail
      go_cut [] from 78 to 99 (fun wx=>∃ R2:Rz,Hid (Bz B wx q R2 (sc'++[⟨(z:Int),pre++r.id++dot,bareT τ,r.props⟩]) nd')∧Hid (Go1 (R'.mu q) (R2.mu q) we wx))
      case first =>
       refine Rg.start 22 (fun w'=>w'.cell? ⟨q,0,none⟩=some (.slice R'.A1 sc'.length R'.c1)∧w'.cell? ⟨wo.heap.size,3,none⟩=some (.slice P1 r.props.length p1)∧w'.cell? ⟨wo.heap.size,6,none⟩=some (.slice (some adi) r.inner.length i1)∧w'.cell? adi=some (.slice Q1 τ.params.length e1)∧w'.cell? ⟨adi.block,adi.off+1,none⟩=some (.slice Q2 τ.conds.length e2)∧w'.cell? ⟨adi.block,adi.off+2,none⟩=some (.slice Q3 τ.res.length e3)∧w'.cell? ⟨adi.block,adi.off+3,none⟩=some (.slice Q4 τ.outs.length e4)) (by kernel_rfl) (by go_keep) (fun hH0=>?_)
       simp only[List.length_cons,List.length_nil,List.replicate_succ,List.replicate_zero,Nat.zero_add,Nat.reduceAdd]
       refine Rg.take (v:=?_) hH0 0 rfl (by kernel_rfl) (fun _ _ _ h=>h) (by rfl) ?_ ?_
       rotate_left
       ·(intro w hSw;(try dsimp only at hSw);go_simp<;>with_reducible rfl)
       refine Rg.take (v:=?_) hH0 1 rfl (by kernel_rfl) (fun _ _ _ h=>h) (by rfl) ?_ ?_
       rotate_left
       ·(intro w hSw;(try dsimp only at hSw);go_simp<;>with_reducible rfl)
       refine Rg.take (v:=?_) hH0 2 rfl (by kernel_rfl) (fun _ _ _ h=>h) (by rfl) ?_ ?_
       rotate_left
       ·(intro w hSw;(try dsimp only at hSw);go_simp<;>with_reducible rfl)
       refine Rg.take (v:=?_) hH0 3 rfl (by kernel_rfl) (fun _ _ _ h=>h) (by rfl) ?_ ?_
       rotate_left
       ·(intro w hSw;(try dsimp only at hSw);go_simp<;>with_reducible rfl)
       refine Rg.take (v:=?_) hH0 4 rfl (by kernel_rfl) (fun _ _ _ h=>h) (by rfl) ?_ ?_
       rotate_left
       ·(intro w hSw;(try dsimp only at hSw);go_simp<;>with_reducible rfl)
       refine Rg.take (v:=?_) hH0 5 rfl (by kernel_rfl) (fun _ _ _ h=>h) (by rfl) ?_ ?_
       rotate_left
       ·(intro w hSw;(try dsimp only at hSw);go_simp<;>with_reducible rfl)
       refine Rg.take (v:=?_) hH0 6 rfl (by kernel_rfl) (fun _ _ _ h=>h) (by rfl) ?_ ?_
       rotate_left
       ·(intro w hSw;(try dsimp only at hSw);go_simp<;>with_reducible rfl)
       refine Rg.take (v:=?_) hH0 7 rfl (by kernel_rfl) (fun _ _ _ h=>h) (by rfl) ?_ ?_
       rotate_left
       ·(intro w hSw;(try dsimp only at hSw);go_simp<;>with_reducible rfl)
       refine Rg.take (v:=?_) hH0 8 rfl (by kernel_rfl) (fun _ _ _ h=>h) (by rfl) ?_ ?_
       rotate_left
       ·(intro w hSw;(try dsimp only at hSw);go_simp<;>with_reducible rfl)
       refine Rg.take (v:=?_) hH0 9 rfl (by kernel_rfl) (fun _ _ _ h=>h) (by rfl) ?_ ?_
       rotate_left
       ·(intro w hSw;(try dsimp only at hSw);go_simp<;>with_reducible rfl)
       refine Rg.take (v:=?_) hH0 10 rfl (by kernel_rfl) (fun _ _ _ h=>h) (by rfl) ?_ ?_
       rotate_left
       ·(intro w hSw;(try dsimp only at hSw);go_simp<;>with_reducible rfl)
       refine Rg.take (v:=?_) hH0 11 rfl (by kernel_rfl) (fun _ _ _ h=>h) (by rfl) ?_ ?_
       rotate_left
       ·(intro w hSw;(try dsimp only at hSw);go_simp<;>with_reducible rfl)
       refine Rg.take (v:=?_) hH0 12 rfl (by kernel_rfl) (fun _ _ _ h=>h) (by rfl) ?_ ?_
       rotate_left
       ·(intro w hSw;(try dsimp only at hSw);go_simp<;>with_reducible rfl)
       refine Rg.take (v:=?_) hH0 14 rfl (by kernel_rfl) (fun _ _ _ h=>h) (by rfl) ?_ ?_
       rotate_left
       ·(intro w hSw;(try dsimp only at hSw);go_simp<;>with_reducible rfl)
       refine Rg.take (v:=?_) hH0 15 rfl (by kernel_rfl) (fun _ _ _ h=>h) (by rfl) ?_ ?_
       rotate_left
       ·(intro w hSw;(try dsimp only at hSw);go_simp<;>with_reducible rfl)
       refine Rg.step 13 (by kernel_rfl) rfl (fun K hK=>?_)
       go_simp;go_at_call 27;(with_reducible refine(rbare_any Q1 Q2 Q3 Q4 τ.params.length e1 τ.conds.length e2 τ.res.length e3 τ.outs.length e4 _).mono ?_);rintro e w5 ⟨rfl,hb5⟩;have hb5':Below we.heap.size we w5:=(Below.refl _ we).drew.trans hb5;obtain⟨k0,k1,k2,k3,k4,k5,k6⟩:=blk7 (HBRe.out.below hb5');obtain⟨v0,v1,v2,v3⟩:=cel4 (HIC.out.below hb5');have p0:=(HBE.out.box.below hb5').cell 0 rfl;have hz5:q<w5.heap.size:=Nat.lt_of_lt_of_le hql hb5'.size;have HB5:=Hd hb5';clear hb5 hb5'
       refine hK.out _ _ ?_ (fun hH1=>?_)
       ·((try dsimp only)<;>go_keep)
       clear hK K hH0
       try simp only[Act.put,List.setIfInBounds_toArray,List.set_cons_zero,List.set_cons_succ]
       refine Rg.take (v:=?_) hH1 16 rfl (by kernel_rfl) (fun _ _ _ h=>h) (by rfl) ?_ ?_
       rotate_left
       ·(intro w hSw;(try dsimp only at hSw);go_simp<;>with_reducible rfl)
       refine Rg.step 17 (by kernel_rfl) rfl (fun K hK=>?_)
       go_simp
       refine hK.out _ _ ?_ (fun hH2=>?_)
       ·((try dsimp only)<;>go_keep)
       clear hK K hH1
       try simp only[Act.put,List.setIfInBounds_toArray,List.set_cons_zero,List.set_cons_succ]
       refine Rg.step 18 (by kernel_rfl) rfl (fun K hK=>?_)
       refine step_row info_scope Tryz.underlying31 rfl (by omega) rfl (.tmp 83) (.tmp 95) rfl B R'.A1 R'.c1 sc'.length R'.x1 (by rfl) ((HBE.out.r1.below HB5.out).alloc (.cells #[.int .i64 (z:Int),.string (pre++r.id++dot),.slice Q1 τ.params.length e1,.slice Q2 τ.conds.length e2,.slice none 0 0,.slice Q4 τ.outs.length e4,.slice P1 r.props.length p1] 76)) (some ⟨w5.heap.size,0,none⟩) 1 1 [.int .i64 (z:Int),.string (pre++r.id++dot),.slice Q1 τ.params.length e1,.slice Q2 τ.conds.length e2,.slice none 0 0,.slice Q4 τ.outs.length e4,.slice P1 r.props.length p1] (by rfl) (Rd.lit w5 7 1 #[.int .i64 (z:Int),.string (pre++r.id++dot),.slice Q1 τ.params.length e1,.slice Q2 τ.conds.length e2,.slice none 0 0,.slice Q4 τ.outs.length e4,.slice P1 r.props.length p1] 76 (0,0) rfl (by simp[maxLen])) (by simp[Value.oneCell']) (by omega) (by omega) (by have:=HB5.out.size;simp;omega) ?_;intro A6 c6 w6 ho6 hg6 hat6;have HO6:=Hd ho6;have HG6:=Hd hg6;have HT6:=Hd hat6;have hbA:Below we.heap.size we (w5.alloc (.cells #[.int .i64 (z:Int),.string (pre++r.id++dot),.slice Q1 τ.params.length e1,.slice Q2 τ.conds.length e2,.slice none 0 0,.slice Q4 τ.outs.length e4,.slice P1 r.props.length p1] 76)):=HB5.out.alloc HB5.out.size _;have hg1:=mu_grown (F:=R'.mu q) hg6 (fun k hk=>.inr (.inl hk));have hg2:=hg1.trans (mu_set (F:=R'.mu q) (w:=w6) (q:=q) (i:=0) (u:=.slice A6 (sc'.length+1) c6) (.inl rfl));have hk6:=(HBE.out.box.below hbA).grown hg6 (HBE.out.r1.ne_blk HBE.out.box (by decide));have f6:=hk6.frozen 0;have g6:=hk6.cell 0 rfl;obtain⟨m0,m1,m2,m3,m4,m5,m6⟩:=blk7 ((HBRe.out.below hbA).go hg1 HNR.out);obtain⟨o0,o1,o2,o3⟩:=cel4 ((HIC.out.below hbA).go hg1 HNI.out);have HG2:=Hd hg2;clear ho6 hg6 hat6 hk6 hg1 hg2 hbA
       refine hK.out _ _ ?_ (fun hH3=>?_)
       ·((try dsimp only)<;>go_keep)
       clear hK K hH2
       try simp only[Act.put,List.setIfInBounds_toArray,List.set_cons_zero,List.set_cons_succ]
       refine Rg.take (v:=?_) hH3 19 rfl (by kernel_rfl) (fun _ _ _ h=>h) (by rfl) ?_ ?_
       rotate_left
       ·(intro w hSw;(try dsimp only at hSw);go_simp<;>with_reducible rfl)
       refine Rg.take (v:=?_) hH3 20 rfl (by kernel_rfl) (fun _ _ _ h=>h) (by rfl) ?_ ?_
       rotate_left
       ·(intro w hSw;(try dsimp only at hSw);go_simp<;>with_reducible rfl)
       refine Rg.take (v:=?_) hH3 21 rfl (by kernel_rfl) (fun _ _ _ h=>h) (by rfl) ?_ ?_
       rotate_left
       ·(intro w hSw;(try dsimp only at hSw);go_simp<;>with_reducible rfl)
       refine Rg.last (by kernel_rfl) (by kernel_rfl) rfl (fun K hK=>?_)
       go_simp
       refine hK.out _ _ ?_
       clear hK K hH3
       all_goals
        go_wp2_with fail
        go_meet
        have hbN:Below we.heap.size we (w5.alloc (.cells #[.int .i64 (z:Int),.string (pre++r.id++dot),.slice Q1 τ.params.length e1,.slice Q2 τ.conds.length e2,.slice none 0 0,.slice Q4 τ.outs.length e4,.slice P1 r.props.length p1] 76)):=HB5.out.alloc HB5.out.size _
        have hst:=sc_tr (z:=(z:Int)) (pr:=pre++r.id++dot) ⟨by omega,by have:=HLM.out.1;omega⟩ (by have:=HSP.out;omega) (HIT.out.go (Go1.of_below (F:=R'.mu q) hbN)) (HPRr.out.go (Go1.of_below (F:=R'.mu q) (HBWe.out.trans (hbN.mono HBWe.out.size))))
        obtain⟨R2,hB2,hgo2⟩:=HBE.out.add1 hbN hst HO6.out HG6.out HT6.out
        exact⟨R2,Hd hB2,Hd hgo2⟩
      obtain⟨R2,HB6,HGo6⟩:=hcut
      rename World=>wf
      clear q0 q1 hql u0 u1 u2 u3 fq b0 b1 b2 b3 b4 b5 b6
      have HBR6:=Hd (HBRe.out.go HGo6.out HNR.out)
      have HIC6:=Hd (HIC.out.go HGo6.out HNI.out)
      have HIT6:=Hd (HIT.out.go HGo6.out)
      have HLG6:=Hd (HLG.out.go HGo6.out)
      have HLE6:=Hd (HLE.out.go HGo6.out)
      obtain⟨b0,b1,b2,b3,b4,b5,b6⟩:=blk7 HBR6.out
      obtain⟨u0,u1,u2,u3⟩:=cel4 HIC6.out
      obtain⟨q0,q1⟩:=bz2 HB6.out.box
      have hlen:(sc'++[(⟨(z:Int),pre++r.id++dot,bareT τ,r.props⟩:Sc)]).length=sc'.length+1:=by simp
      rw[hlen] at q0
      have hql:=HB6.out.box.lt
      have hD6:Below wf.heap.size wf wf.drew:=(Below.refl _ wf).drew
      have HD6:Hid (Go1 (R2.mu q) (R2.mu q) wf wf.drew):=Hd (Go1.of_below hD6)
      have HIH:Hid (Calls Tryz.prog 28 #[.pointer (some ⟨q,0,none⟩),.agg #[.slice Q1 τ.params.length e1,.slice Q2 τ.conds.length e2,.slice Q3 τ.res.length e3,.slice Q4 τ.outs.length e4],.int .i64 (sc'.length:Int),.slice G' (gZ z gs r).length gc',.slice E2 ne ec2] wf.drew
       fun e w'=>e=.returned (.tuple #[])∧∃ (R3:Rz) (sc3:List Sc) (nd3:List Nd),Bz B w' q R3 sc3 nd3∧Go1 (R2.mu q) (R3.mu q) wf.drew w'∧PutR KS KN (sc'++[⟨(z:Int),pre++r.id++dot,bareT τ,r.props⟩]) sc3 nd' nd3 (cnT k' τ).1 (cnT k' τ).2):=Hd (by
       have h:=HIK.out (dp+1) τ _ sc'.length ⟨(z:Int),pre++r.id++dot,bareT τ,r.props⟩ G' gc' (gZ z gs r) E2 ec2 (eT z es r r.depends.length) R2 (sc'++[⟨(z:Int),pre++r.id++dot,bareT τ,r.props⟩]) nd' wf.drew hkk HZK.out HDK.out
        (by rw[hlen];have:=HCL.out.2;have:=HSL.out.1;omega) (by have:=HCL.out.1;have:=HSL.out.2.1;omega) (HB6.out.below hD6) (HIT6.out.go HD6.out) (by simp) HSP.out
        (fun c hc=>by
          rcases List.mem_append.1 hc with hc | hc
          ·exact HPR.out.pre HPS.out c hc
          ·rw[List.mem_singleton] at hc;subst hc;have:=HSP.out;show (pre++r.id++dot).size≤_;omega)
        (by have:=gZ_len z gs r;omega) (fun g hg=>(HGFZ.out g hg).le (by rw[hlen];omega)) (by rw[HEL.out,HNEL.out];omega) (fun g hg=>(HEFZ.out g hg).le (by rw[hlen];omega)) (HLG6.out.go HD6.out) (HLE6.out.go HD6.out)
       rw[HEL.out] at h
       exact h)
      have HNR2:Hid (¬R2.mu q wo.heap.size):=Hd (fun h=>HNR.out (HGo6.out.less _ HBRe.out.lt h))
      have HPR6:Hid (PutR KS KN sc (sc'++[⟨(z:Int),pre++r.id++dot,bareT τ,r.props⟩]) nd nd' p (m+1)):=Hd (HPR.out.scope ⟨HKS.out _ _ (by have:=HSP.out;omega),by have:=HSP.out;show (pre++r.id++dot).size≤_;omega⟩)
      have HGA:=Hd ((HGo.out.trans (Go1.of_below HBWe.out)).trans (HGo6.out.trans HD6.out))
      have hwr:IntKind.i64.wrap (sc'.length:Int)=(sc'.length:Int):=IntWalk.i64_in _ (by have:=HLM.out.1;omega)
      clear hD6 hlen
      go_wp2_with fail
      refine Rg.start 14 (fun w'=>w'.cell? ⟨q,0,none⟩=some (.slice R2.A1 (sc'.length+1) R2.c1)∧w'.cell? ⟨wo.heap.size,6,none⟩=some (.slice (some adi) r.inner.length i1)∧w'.cell? adi=some (.slice Q1 τ.params.length e1)∧w'.cell? ⟨adi.block,adi.off+1,none⟩=some (.slice Q2 τ.conds.length e2)∧w'.cell? ⟨adi.block,adi.off+2,none⟩=some (.slice Q3 τ.res.length e3)∧w'.cell? ⟨adi.block,adi.off+3,none⟩=some (.slice Q4 τ.outs.length e4)) (by kernel_rfl) (by go_keep) (fun hH0=>?_)
      simp only[List.length_cons,List.length_nil,List.replicate_succ,List.replicate_zero,Nat.zero_add,Nat.reduceAdd]
      refine Rg.take (v:=?_) hH0 0 rfl (by kernel_rfl) (fun _ _ _ h=>h) (by rfl) ?_ ?_
      rotate_left
      ·(intro w hSw;(try dsimp only at hSw);go_simp<;>with_reducible rfl)
      refine Rg.take (v:=?_) hH0 1 rfl (by kernel_rfl) (fun _ _ _ h=>h) (by rfl) ?_ ?_
      rotate_left
      ·(intro w hSw;(try dsimp only at hSw);go_simp<;>with_reducible rfl)
      refine Rg.take (v:=?_) hH0 2 rfl (by kernel_rfl) (fun _ _ _ h=>h) (by rfl) ?_ ?_
      rotate_left
      ·(intro w hSw;(try dsimp only at hSw);go_simp<;>with_reducible rfl)
      refine Rg.take (v:=?_) hH0 3 rfl (by kernel_rfl) (fun _ _ _ h=>h) (by rfl) ?_ ?_
      rotate_left
      ·(intro w hSw;(try dsimp only at hSw);go_simp<;>with_reducible rfl)
      refine Rg.take (v:=?_) hH0 4 rfl (by kernel_rfl) (fun _ _ _ h=>h) (by rfl) ?_ ?_
      rotate_left
      ·(intro w hSw;(try dsimp only at hSw);go_simp<;>with_reducible rfl)
      refine Rg.take (v:=?_) hH0 5 rfl (by kernel_rfl) (fun _ _ _ h=>h) (by rfl) ?_ ?_
      rotate_left
      ·(intro w hSw;(try dsimp only at hSw);go_simp<;>with_reducible rfl)
      refine Rg.take (v:=?_) hH0 6 rfl (by kernel_rfl) (fun _ _ _ h=>h) (by rfl) ?_ ?_
      rotate_left
      ·(intro w hSw;(try dsimp only at hSw);go_simp<;>with_reducible rfl)
      refine Rg.take (v:=?_) hH0 7 rfl (by kernel_rfl) (fun _ _ _ h=>h) (by rfl) ?_ ?_
      rotate_left
      ·(intro w hSw;(try dsimp only at hSw);go_simp<;>with_reducible rfl)
      refine Rg.take (v:=?_) hH0 8 rfl (by kernel_rfl) (fun _ _ _ h=>h) (by rfl) ?_ ?_
      rotate_left
      ·(intro w hSw;(try dsimp only at hSw);go_simp<;>with_reducible rfl)
      refine Rg.take (v:=?_) hH0 9 rfl (by kernel_rfl) (fun _ _ _ h=>h) (by rfl) ?_ ?_
      rotate_left
      ·(intro w hSw;(try dsimp only at hSw);go_simp<;>with_reducible rfl)
      refine Rg.take (v:=?_) hH0 10 rfl (by kernel_rfl) (fun _ _ _ h=>h) (by rfl) ?_ ?_
      rotate_left
      ·(intro w hSw;(try dsimp only at hSw);go_simp<;>with_reducible rfl)
      refine Rg.take (v:=?_) hH0 11 rfl (by kernel_rfl) (fun _ _ _ h=>h) (by rfl) ?_ ?_
      rotate_left
      ·(intro w hSw;(try dsimp only at hSw);go_simp<;>with_reducible rfl)
      refine Rg.take (v:=?_) hH0 12 rfl (by kernel_rfl) (fun _ _ _ h=>h) (by rfl) ?_ ?_
      rotate_left
      ·(intro w hSw;(try dsimp only at hSw);go_simp<;>with_reducible rfl)
      refine Rg.take (v:=?_) hH0 13 rfl (by kernel_rfl) (fun _ _ _ h=>h) (by rfl) ?_ ?_
      rotate_left
      ·(intro w hSw;(try dsimp only at hSw);go_simp<;>with_reducible rfl)
      refine Rg.last (by kernel_rfl) (by kernel_rfl) rfl (fun K hK=>?_)
      go_simp;go_at_call 28;(try rw[hwr]);(with_reducible refine HIH.out.mono ?_);rintro e w7 ⟨rfl,R3,sc3,nd3,hb7,hg7,hpr7⟩;obtain⟨k0,k1,k2,k3,k4,k5,k6⟩:=blk7 (HBR6.out.drew.go hg7 HNR2.out);have HB7:=Hd hb7;have HGo7:=Hd (HGA.out.trans hg7);have HPR7:=Hd (HPR6.out.then hpr7);clear hb7 hg7 hpr7
      refine hK.out _ _ ?_
      clear hK K hH0
      all_goals
       go_wp2_with fail
       go_roundg g
       case measure=>omega
       case rel=>exact⟨j+1,R3,sc3,nd3,p+(cnT k' τ).1,m+(cnT k' τ).2,by omega,by go_num,HCN,HB7,HGo7,by have h:=HPR7.out;rw[show m+1+(cnT k' τ).2-1=m+(cnT k' τ).2 by omega] at h;exact Hd h⟩
     ·rw[stack_ne hT]
      have HCN:Hid ((t.res.take (j+1)).foldl (cnOne (cnF k)) (0,1)=(p+1,m)):=Hd (by rw[cnTake HRI.out,HA.out,put_plain hT])
      clear hT
      have HIDS:Hid ((pre++r.id).size≤20000):=Hd (by rw[size_app];have:=HRZ.out.1;omega)
      have HB8:Hid (Below we.heap.size we (we.alloc (.cells #[.string (pre++r.id),.int .i64 (z:Int),.string r.id,.string r.type,.string r.cond,.slice P1 r.props.length p1,.slice D1 r.depends.length d1,.bool r.retain,.slice I1 r.inner.length i1,.slice G' (gZ z gs r).length gc',.slice none 0 0] 80))):=Hd ((Below.refl _ we).alloc (Nat.le_refl _) _)
      have HN8:Hid (Blk (we.alloc (.cells #[.string (pre++r.id),.int .i64 (z:Int),.string r.id,.string r.type,.string r.cond,.slice P1 r.props.length p1,.slice D1 r.depends.length d1,.bool r.retain,.slice I1 r.inner.length i1,.slice G' (gZ z gs r).length gc',.slice none 0 0] 80)) we.heap.size #[.string (pre++r.id),.int .i64 (z:Int),.string r.id,.string r.type,.string r.cond,.slice P1 r.props.length p1,.slice D1 r.depends.length d1,.bool r.retain,.slice I1 r.inner.length i1,.slice G' (gZ z gs r).length gc',.slice none 0 0] 80):=Hd (Blk.new we _ _)
      have HHQ:Hid (B≤we.heap.size∧q<wo.heap.size):=Hd ⟨by have:=HBj.out.hq;omega,HBj.out.box.lt⟩
      go_wp2_with fail
      clear q0 q1 hql b0 b1 b2 b3 b4 b5 b6
      go_loopg [17] ne (fun g iv wr=>∃ (j3:Nat) (A3:Option Addr) (c3:Nat) (l3:List ByteArray),j3+g=ne∧iv=.int .i64 (j3:Nat)∧Hid (l3.length=j3∧∀ d∈l3,d.size≤60000)∧Hid (Below we.heap.size we wr)∧Hid (Blk wr we.heap.size #[.string (pre++r.id),.int .i64 (z:Int),.string r.id,.string r.type,.string r.cond,.slice P1 r.props.length p1,.slice D1 r.depends.length d1,.bool r.retain,.slice I1 r.inner.length i1,.slice G' (gZ z gs r).length gc',.slice A3 j3 c3] 80)∧Hid (Ow wr (we.heap.size+1) 9 1 A3 j3 c3 (l3.map .string)))
      case atStart=>exact⟨0,none,0,[],by omega,rfl,Hd ⟨rfl,fun d hd=>by cases hd⟩,HB8,HN8,Hd (Ow.nil _ _ _ _)⟩
      obtain⟨j3,A3,c3,l3,hj3,rfl,HL3,HBW9,HN9,HO9⟩:=hrel
      rename World=>wg
      clear HB8 HN8
      have HBE9:=Hd (HBE.out.below HBW9.out)
      obtain⟨q0,q1⟩:=bz2 HBE9.out.box
      obtain⟨n0,n1,n2,n3,n4,n5,n6,n7,n8,n9,n10⟩:=blk11 HN9.out
      have hql:=HBE9.out.box.lt
      have hwl9:=HN9.out.lt
      have hq8:¬(we.heap.size=q):=by have:=HHQ.out.2;omega
      cases gk with
      | zero =>
        obtain rfl:j3=ne:=by omega
        have hjj:¬((j3:Int)<(j3:Int)):=by omega
        have fq:=HBE9.out.box.frozen 1
        have hnl:nd'.length+1≤1000001:=HLM.out.2
        have HNA:Hid (blk R'.A2≠some we.heap.size):=Hd (fun e=>by have:=(HBj.out.r2.lt e).2;omega)
        have hB9:B≤wg.heap.size:=by have:=HHQ.out.1;omega
        go_wp2_with fail
        refine Rg.start 12 (fun w'=>w'.cell? ⟨q,1,none⟩=some (.slice R'.A2 nd'.length R'.c2)∧w'.cell? ⟨we.heap.size,0,none⟩=some (.string (pre++r.id))∧w'.cell? ⟨we.heap.size,1,none⟩=some (.int .i64 (z:Int))∧w'.cell? ⟨we.heap.size,2,none⟩=some (.string r.id)∧w'.cell? ⟨we.heap.size,3,none⟩=some (.string r.type)∧w'.cell? ⟨we.heap.size,4,none⟩=some (.string r.cond)∧w'.cell? ⟨we.heap.size,5,none⟩=some (.slice P1 r.props.length p1)∧w'.cell? ⟨we.heap.size,6,none⟩=some (.slice D1 r.depends.length d1)∧w'.cell? ⟨we.heap.size,7,none⟩=some (.bool r.retain)∧w'.cell? ⟨we.heap.size,8,none⟩=some (.slice I1 r.inner.length i1)∧w'.cell? ⟨we.heap.size,9,none⟩=some (.slice G' (gZ z gs r).length gc')∧w'.cell? ⟨we.heap.size,10,none⟩=some (.slice A3 j3 c3)) (by kernel_rfl) (by go_keep) (fun hH0=>?_)
        simp only[List.length_cons,List.length_nil,List.replicate_succ,List.replicate_zero,Nat.zero_add,Nat.reduceAdd]
        refine Rg.take (v:=?_) hH0 0 rfl (by kernel_rfl) (fun _ _ _ h=>h) (by rfl) ?_ ?_
        rotate_left
        ·(intro w hSw;(try dsimp only at hSw);go_simp<;>with_reducible rfl)
        refine Rg.take (v:=?_) hH0 1 rfl (by kernel_rfl) (fun _ _ _ h=>h) (by rfl) ?_ ?_
        rotate_left
        ·(intro w hSw;(try dsimp only at hSw);go_simp<;>with_reducible rfl)
        refine Rg.take (v:=?_) hH0 2 rfl (by kernel_rfl) (fun _ _ _ h=>h) (by rfl) ?_ ?_
        rotate_left
        ·(intro w hSw;(try dsimp only at hSw);go_simp<;>with_reducible rfl)
        refine Rg.take (v:=?_) hH0 3 rfl (by kernel_rfl) (fun _ _ _ h=>h) (by rfl) ?_ ?_
        rotate_left
        ·(intro w hSw;(try dsimp only at hSw);go_simp<;>with_reducible rfl)
        refine Rg.take (v:=?_) hH0 4 rfl (by kernel_rfl) (fun _ _ _ h=>h) (by rfl) ?_ ?_
        rotate_left
        ·(intro w hSw;(try dsimp only at hSw);go_simp<;>with_reducible rfl)
        refine Rg.take (v:=?_) hH0 5 rfl (by kernel_rfl) (fun _ _ _ h=>h) (by rfl) ?_ ?_
        rotate_left
        ·(intro w hSw;(try dsimp only at hSw);go_simp<;>with_reducible rfl)
        refine Rg.take (v:=?_) hH0 6 rfl (by kernel_rfl) (fun _ _ _ h=>h) (by rfl) ?_ ?_
        rotate_left
        ·(intro w hSw;(try dsimp only at hSw);go_simp<;>with_reducible rfl)
        refine Rg.step 7 (by kernel_rfl) rfl (fun K hK=>?_)
        go_simp
        refine hK.out _ _ ?_ (fun hH1=>?_)
        ·((try dsimp only)<;>go_keep)
        clear hK K hH0
        try simp only[Act.put,List.setIfInBounds_toArray,List.set_cons_zero,List.set_cons_succ]
        refine Rg.step 8 (by kernel_rfl) rfl (fun K hK=>?_)
        refine step_row info_node Tryz.underlying32 rfl (by omega) rfl (.tmp 155) (.tmp 157) rfl B R'.A2 R'.c2 nd'.length R'.x2 (by rfl) (HBE9.out.r2.drew.alloc (.cells #[.string (pre++r.id),.int .i64 (z:Int),.string r.id,.string r.type,.string r.cond,.slice P1 r.props.length p1,.slice D1 r.depends.length d1,.bool r.retain,.slice I1 r.inner.length i1,.slice G' (gZ z gs r).length gc',.slice A3 j3 c3] 80)) (some ⟨wg.drew.heap.size,0,none⟩) 1 1 [.string (pre++r.id),.int .i64 (z:Int),.string r.id,.string r.type,.string r.cond,.slice P1 r.props.length p1,.slice D1 r.depends.length d1,.bool r.retain,.slice I1 r.inner.length i1,.slice G' (gZ z gs r).length gc',.slice A3 j3 c3] (by rfl) (Rd.lit wg.drew 11 1 #[.string (pre++r.id),.int .i64 (z:Int),.string r.id,.string r.type,.string r.cond,.slice P1 r.props.length p1,.slice D1 r.depends.length d1,.bool r.retain,.slice I1 r.inner.length i1,.slice G' (gZ z gs r).length gc',.slice A3 j3 c3] 80 (0,0) rfl (by simp[maxLen])) (by simp[Value.oneCell']) (by omega) (by omega) (by simp;omega) ?_;intro A6 c6 w6 ho6 hg6 hat6;have HO6:=Hd ho6;have HG6:=Hd hg6;have HT6:=Hd hat6;have hk6:=(HBE9.out.box.drew.alloc (.cells #[.string (pre++r.id),.int .i64 (z:Int),.string r.id,.string r.type,.string r.cond,.slice P1 r.props.length p1,.slice D1 r.depends.length d1,.bool r.retain,.slice I1 r.inner.length i1,.slice G' (gZ z gs r).length gc',.slice A3 j3 c3] 80)).grown hg6 (HBE9.out.r2.ne_blk HBE9.out.box (by decide));have f6:=hk6.frozen 1;have g6:=hk6.cell 1 rfl;obtain⟨m0,m1,m2,m3,m4,m5,m6,m7,m8,m9,m10⟩:=blk11 ((HN9.out.drew.alloc (.cells #[.string (pre++r.id),.int .i64 (z:Int),.string r.id,.string r.type,.string r.cond,.slice P1 r.props.length p1,.slice D1 r.depends.length d1,.bool r.retain,.slice I1 r.inner.length i1,.slice G' (gZ z gs r).length gc',.slice A3 j3 c3] 80)).grown hg6 HNA.out);clear ho6 hg6 hat6 hk6
        refine hK.out _ _ ?_ (fun hH2=>?_)
        ·((try dsimp only)<;>go_keep)
        clear hK K hH1
        try simp only[Act.put,List.setIfInBounds_toArray,List.set_cons_zero,List.set_cons_succ]
        refine Rg.take (v:=?_) hH2 9 rfl (by kernel_rfl) (fun _ _ _ h=>h) (by rfl) ?_ ?_
        rotate_left
        ·(intro w hSw;(try dsimp only at hSw);go_simp<;>with_reducible rfl)
        refine Rg.take (v:=?_) hH2 10 rfl (by kernel_rfl) (fun _ _ _ h=>h) (by rfl) ?_ ?_
        rotate_left
        ·(intro w hSw;(try dsimp only at hSw);go_simp<;>with_reducible rfl)
        refine Rg.take (v:=?_) hH2 11 rfl (by kernel_rfl) (fun _ _ _ h=>h) (by rfl) ?_ ?_
        rotate_left
        ·(intro w hSw;(try dsimp only at hSw);go_simp<;>with_reducible rfl)
        refine Rg.last (by kernel_rfl) (by kernel_rfl) rfl (fun K hK=>?_)
        go_simp
        refine hK.out _ _ ?_
        clear hK K hH2
        all_goals
         have hbN:Below wg.heap.size wg (wg.drew.alloc (.cells #[.string (pre++r.id),.int .i64 (z:Int),.string r.id,.string r.type,.string r.cond,.slice P1 r.props.length p1,.slice D1 r.depends.length d1,.bool r.retain,.slice I1 r.inner.length i1,.slice G' (gZ z gs r).length gc',.slice A3 j3 c3] 80)):=((Below.refl _ wg).drew).alloc (Nat.le_refl _) _
         have HBWg:=Hd (HBWe.out.trans (HBW9.out.mono HBWe.out.size))
         have hrt:=HRT.out.go (Go1.of_below (F:=R'.mu q) (HBWg.out.trans (hbN.mono HBWg.out.size)))
         have hgt:=HLG.out.go (Go1.of_below (F:=R'.mu q) (HBW9.out.trans (hbN.mono HBW9.out.size)))
         have hl3:=HL3.out
         have hat:Ss (Sf B (R'.mu q) wg) wg A3 c3 l3:=str_ls (by rw[hl3.1];exact HO9.out) (by have:=HHQ.out.1;omega) (fun k hk=>HMF.out k (by omega)) hl3.2 (by omega)
         have hat2:=hat.go (Go1.of_below (F:=R'.mu q) hbN)
         have hnt:=nd_trA (id:=pre++r.id) (z:=(z:Int)) HIDS.out ⟨by omega,by have:=HLM.out.1;omega⟩ hrt hgt hat2
         rw[hl3.1] at hnt
         obtain⟨R3,hB3,hgo3⟩:=HBE9.out.add2 hbN hnt HO6.out HG6.out HT6.out
         have HB7:=Hd hB3
         have HGo7:=Hd ((HGo.out.trans (Go1.of_below HBWg.out)).trans hgo3)
         have HPR7:=Hd (HPR.out.node (x:=⟨pre++r.id,(z:Int),r,gZ z gs r,l3⟩) (HRJ.out.2 _ _ _ _ HIDS.out (by have:=gZ_len z gs r;omega) (by rw[hl3.1];have:=HNEL.out;omega) hl3.2))
         clear hB3 hgo3 hbN hnt hrt hgt hat hat2 hl3
         go_wp2_with fail
         go_roundg g
         case measure=>omega
         case rel=>exact⟨j+1,R3,sc',_,p+1,m,by omega,by go_num,HCN,HB7,HGo7,HPR7⟩
      | succ g3 =>
        have hjj:(j3:Int)<(ne:Int):=by omega
        have hji:(0:Int)≤(j3:Int)∧(j3:Int)<(ne:Int):=by omega
        obtain⟨gg,hgg⟩:=get_lt (l:=eT z es r r.depends.length) (i:=j3) (by rw[HEL.out];omega)
        have HLE9:=Hd (HLE.out.go (Go1.of_below (F:=R'.mu q) HBW9.out))
        obtain⟨adg,hE2,hg0,hg1⟩:=gd_at HLE9.out hgg
        subst hE2
        have hgf:=HEFZ.out gg (List.mem_of_getElem? hgg)
        obtain⟨iz,hiz⟩:∃ iz:Nat,gg.scope=(iz:Int):=⟨gg.scope.toNat,by have:=hgf.2.1;omega⟩
        rw[hiz] at hg0
        have hizl:iz<sc'.length:=by have:=hgf.2.2;omega
        obtain⟨cz,hcz⟩:=get_lt (l:=sc') (i:=iz) hizl
        obtain⟨ad1,hA1,hpc,_⟩:=HBE9.out.pre hcz
        rw[hA1] at q0
        have hcs:=HPR.out.pre HPS.out cz (List.mem_of_getElem? hcz)
        have hnm:=hgf.1
        have hzi2:(0:Int)≤(iz:Int)∧(iz:Int)<(sc'.length:Int):=by omega
        have hcat3:∀ w',(Op.stringOp .add cz.pre gg.name).run Tryz.prog w'=.ok (.string (cz.pre++gg.name)) w':=fun w'=>run_string_add_sum _ _ _ (by omega)
        have fz:=HN9.out.frozen 10
        have HGI:=Hd hiz
        have HGG:=Hd hgg
        have HCZ:=Hd hcz
        have HA1:=Hd hA1
        have HSZ3:Hid ((cz.pre++gg.name).size≤60000):=Hd (by rw[size_app];omega)
        clear hgg hcz hA1 hiz hgf
        go_wp2_with fail
        refine Rg.start 24 (fun w'=>w'.cell? ⟨we.heap.size,10,none⟩=some (.slice A3 j3 c3)∧w'.cell? ⟨q,0,none⟩=some (.slice (some ad1) sc'.length R'.c1)∧w'.cell? ⟨(ad1.add (iz*7)).block,(ad1.add (iz*7)).off+1,none⟩=some (.string cz.pre)∧w'.cell? (adg.add (j3*2))=some (.int .i64 (iz:Int))∧w'.cell? ⟨(adg.add (j3*2)).block,(adg.add (j3*2)).off+1,none⟩=some (.string gg.name)) (by kernel_rfl) (by go_keep) (fun hH0=>?_)
        simp only[List.length_cons,List.length_nil,List.replicate_succ,List.replicate_zero,Nat.zero_add,Nat.reduceAdd]
        refine Rg.take (v:=?_) hH0 0 rfl (by kernel_rfl) (fun _ _ _ h=>h) (by rfl) ?_ ?_
        rotate_left
        ·(intro w hSw;(try dsimp only at hSw);go_simp<;>with_reducible rfl)
        refine Rg.take (v:=?_) hH0 1 rfl (by kernel_rfl) (fun _ _ _ h=>h) (by rfl) ?_ ?_
        rotate_left
        ·(intro w hSw;(try dsimp only at hSw);go_simp<;>with_reducible rfl)
        refine Rg.take (v:=?_) hH0 2 rfl (by kernel_rfl) (fun _ _ _ h=>h) (by rfl) ?_ ?_
        rotate_left
        ·(intro w hSw;(try dsimp only at hSw);go_simp<;>with_reducible rfl)
        refine Rg.take (v:=?_) hH0 3 rfl (by kernel_rfl) (fun _ _ _ h=>h) (by rfl) ?_ ?_
        rotate_left
        ·(intro w hSw;(try dsimp only at hSw);go_simp<;>with_reducible rfl)
        refine Rg.take (v:=?_) hH0 4 rfl (by kernel_rfl) (fun _ _ _ h=>h) (by rfl) ?_ ?_
        rotate_left
        ·(intro w hSw;(try dsimp only at hSw);go_simp<;>with_reducible rfl)
        refine Rg.take (v:=?_) hH0 5 rfl (by kernel_rfl) (fun _ _ _ h=>h) (by rfl) ?_ ?_
        rotate_left
        ·(intro w hSw;(try dsimp only at hSw);go_simp<;>with_reducible rfl)
        refine Rg.take (v:=?_) hH0 6 rfl (by kernel_rfl) (fun _ _ _ h=>h) (by rfl) ?_ ?_
        rotate_left
        ·(intro w hSw;(try dsimp only at hSw);go_simp<;>with_reducible rfl)
        refine Rg.take (v:=?_) hH0 7 rfl (by kernel_rfl) (fun _ _ _ h=>h) (by rfl) ?_ ?_
        rotate_left
        ·(intro w hSw;(try dsimp only at hSw);go_simp<;>with_reducible rfl)
        refine Rg.take (v:=?_) hH0 8 rfl (by kernel_rfl) (fun _ _ _ h=>h) (by rfl) ?_ ?_
        rotate_left
        ·(intro w hSw;(try dsimp only at hSw);go_simp<;>with_reducible rfl)
        refine Rg.take (v:=?_) hH0 9 rfl (by kernel_rfl) (fun _ _ _ h=>h) (by rfl) ?_ ?_
        rotate_left
        ·(intro w hSw;(try dsimp only at hSw);go_simp<;>with_reducible rfl)
        refine Rg.take (v:=?_) hH0 10 rfl (by kernel_rfl) (fun _ _ _ h=>h) (by rfl) ?_ ?_
        rotate_left
        ·(intro w hSw;(try dsimp only at hSw);go_simp<;>with_reducible rfl)
        refine Rg.take (v:=?_) hH0 11 rfl (by kernel_rfl) (fun _ _ _ h=>h) (by rfl) ?_ ?_
        rotate_left
        ·(intro w hSw;(try dsimp only at hSw);go_simp<;>with_reducible rfl)
        refine Rg.take (v:=?_) hH0 12 rfl (by kernel_rfl) (fun _ _ _ h=>h) (by rfl) ?_ ?_
        rotate_left
        ·(intro w hSw;(try dsimp only at hSw);go_simp<;>with_reducible rfl)
        refine Rg.take (v:=?_) hH0 13 rfl (by kernel_rfl) (fun _ _ _ h=>h) (by rfl) ?_ ?_
        rotate_left
        ·(intro w hSw;(try dsimp only at hSw);go_simp<;>with_reducible rfl)
        refine Rg.take (v:=?_) hH0 14 rfl (by kernel_rfl) (fun _ _ _ h=>h) (by rfl) ?_ ?_
        rotate_left
        ·(intro w hSw;(try dsimp only at hSw);go_simp<;>with_reducible rfl)
        refine Rg.take (v:=?_) hH0 15 rfl (by kernel_rfl) (fun _ _ _ h=>h) (by rfl) ?_ ?_
        rotate_left
        ·(intro w hSw;(try dsimp only at hSw);go_simp<;>with_reducible rfl)
        refine Rg.take (v:=?_) hH0 16 rfl (by kernel_rfl) (fun _ _ _ h=>h) (by rfl) ?_ ?_
        rotate_left
        ·(intro w hSw;(try dsimp only at hSw);go_simp<;>with_reducible rfl)
        refine Rg.take (v:=?_) hH0 17 rfl (by kernel_rfl) (fun _ _ _ h=>h) (by rfl) ?_ ?_
        rotate_left
        ·(intro w hSw;(try dsimp only at hSw);go_simp<;>with_reducible rfl)
        refine Rg.take (v:=?_) hH0 18 rfl (by kernel_rfl) (fun _ _ _ h=>h) (by rfl) ?_ ?_
        rotate_left
        ·(intro w hSw;(try dsimp only at hSw);go_simp<;>with_reducible rfl)
        refine Rg.take (v:=?_) hH0 19 rfl (by kernel_rfl) (fun _ _ _ h=>h) (by rfl) ?_ ?_
        rotate_left
        ·(intro w hSw;(try dsimp only at hSw);go_simp<;>with_reducible rfl)
        refine Rg.take (v:=?_) hH0 20 rfl (by kernel_rfl) (fun _ _ _ h=>h) (by rfl) ?_ ?_
        rotate_left
        ·(intro w hSw;(try dsimp only at hSw);go_simp<;>with_reducible rfl)
        refine Rg.step 21 (by kernel_rfl) rfl (fun K hK=>?_)
        go_simp
        refine hK.out _ _ ?_ (fun hH1=>?_)
        ·((try dsimp only)<;>go_keep)
        clear hK K hH0
        try simp only[Act.put,List.setIfInBounds_toArray,List.set_cons_zero,List.set_cons_succ]
        refine Rg.step 22 (by kernel_rfl) rfl (fun K hK=>?_)
        refine step_row info_str Tryz.underlying63 rfl (by omega) rfl (.tmp 127) (.tmp 147) rfl (we.heap.size+1) A3 c3 j3 (l3.map .string) (by rfl) (HO9.out.drew.alloc (.cells #[.string (cz.pre++gg.name)] 9)) (some ⟨wg.drew.heap.size,0,none⟩) 1 1 [.string (cz.pre++gg.name)] (by rfl) (Rd.lit wg.drew 1 1 #[.string (cz.pre++gg.name)] 9 (0,0) rfl (by simp[maxLen])) (by simp[Value.oneCell']) (by omega) (by omega) (by simp;omega) ?_;intro A6 c6 w6 ho6 hg6 hat6;have HO6:=Hd ho6;have hbA:Below we.heap.size we w6:=((HBW9.out.drew).alloc (by simp;omega) (.cells #[.string (cz.pre++gg.name)] 9)).grown hg6 (by simp;omega) (fun k hk=>by have:=(HO9.out.lt hk).1;omega);have HBA:=Hd hbA;have hk6:=(HN9.out.drew.alloc (.cells #[.string (cz.pre++gg.name)] 9)).grown hg6 (fun e=>by have:=(HO9.out.lt e).1;omega);have HK6:=Hd hk6;have f6:=hk6.frozen 10;have g6:=hk6.cell 10 rfl;have hb6:=HBE.out.below hbA;obtain⟨p0,p1⟩:=bz2 hb6.box;have p2:=hb6.preAt HA1.out HCZ.out;obtain⟨p3,p4⟩:=gd_cel (HLE.out.go (Go1.of_below (F:=R'.mu q) hbA)) HGG.out;rw[HA1.out] at p0;rw[HGI.out] at p3;clear ho6 hg6 hat6 hk6 hbA hb6
        refine hK.out _ _ ?_ (fun hH2=>?_)
        ·((try dsimp only)<;>go_keep)
        clear hK K hH1
        try simp only[Act.put,List.setIfInBounds_toArray,List.set_cons_zero,List.set_cons_succ]
        refine Rg.take (v:=?_) hH2 23 rfl (by kernel_rfl) (fun _ _ _ h=>h) (by rfl) ?_ ?_
        rotate_left
        ·(intro w hSw;(try dsimp only at hSw);go_simp<;>with_reducible rfl)
        refine Rg.last (by kernel_rfl) (by kernel_rfl) rfl (fun K hK=>?_)
        go_simp
        refine hK.out _ _ ?_
        clear hK K hH2
        all_goals
         go_wp2_with fail
         go_roundg g3
         case measure=>omega
         case rel =>
          refine⟨j3+1,A6,c6,l3++[cz.pre++gg.name],by omega,by go_num,Hd ⟨by simp[HL3.out.1],fun d hd=>?_⟩,Hd (HBA.out.setCell (by simp) _),Hd ((HK6.out.set 10 _).eq (by simp)),Hd ?_⟩
          ·rcases List.mem_append.1 hd with hd | hd
           ·exact HL3.out.2 d hd
           ·rw[List.mem_singleton] at hd;subst hd;exact HSZ3.out
          ·have:=HO6.out.setOther ⟨we.heap.size,10,none⟩ (.slice A6 (j3+1) c6) (fun e=>by have:=(HO6.out.lt e).1;simp at this;omega)
           simpa using this
   | succ g2 =>
     have hjj:(j2:Int)<(r.depends.length:Int):=by omega
     obtain⟨dd,hd⟩:=get_lt (l:=r.depends) (i:=j2) (by omega)
     obtain⟨add,rfl,hdc',hds⟩:=(HDPr.out.go (Go1.of_below (F:=R'.mu q) HBWd.out)).str hd
     have HEF2:=Hd (eT_succ (z:=z) (es:=es) hd)
     clear hd
     go_wp2_with (at_builtin;refine wpList_row info_gd Tryz.underlying78 rfl (by omega) rfl (.tmp 53) (.tmp 61) rfl (wo.heap.size+1) E2 ec2 (es.length+j2) (cG (eT z es r j2)) rfl (HOEd.out.alloc _) (some ⟨wd.heap.size,0,none⟩) 1 1 [.int .i64 (z:Int),.string dd] rfl (Rd.lit wd 2 1 #[.int .i64 (z:Int),.string dd] _ _ rfl (by simp[maxLen])) (by simp[Value.oneCell']) (by omega) (by omega) (by have:=HBRd.out.lt;simp;omega) ?_;intro E3 ec3 w5 ho hgw hat;have HO:=Hd ho;have HGW:=Hd hgw;have HAT:=Hd hat;clear ho hgw hat)
     go_roundg g2
     case measure=>omega
     case rel =>
      have ha:Below wd.heap.size wd (wd.alloc (.cells #[.int .i64 (z:Int),.string dd] 108)):=(Below.refl _ wd).alloc (Nat.le_refl _) _
      have hs:(wd.alloc (.cells #[.int .i64 (z:Int),.string dd] 108)).heap.size=wd.heap.size+1:=by simp
      have hog:=(HOGd.out.below ha).grown HGW.out HNEd.out
      have hbr:=(HBRd.out.below ha).grown HGW.out (fun e=>by have:=(HOEd.out.lt e).1;omega)
      have hbw:Below wo.heap.size wo w5:=(HBWd.out.trans (ha.mono HBWd.out.size)).grown HGW.out (by have:=HBWd.out.size;omega) (fun k hk=>by have:=(HOEd.out.lt hk).1;omega)
      refine⟨j2+1,E3,ec3,by omega,by go_num,by go_num,Hd hbw,Hd hbr,Hd hog,?_,?_⟩
      ·rw[HEF2.out]
       have:=HO.out
       exact Hd (by simpa [cG,Nat.add_assoc] using this)
      ·refine Hd ?_
       rcases HAT.out with rfl | rfl
       ·exact HNEd.out
       ·right
        intro e
        have:=(HOGd.out.lt (g:=(wd.alloc (.cells #[.int .i64 (z:Int),.string dd] 108)).heap.size) e).2
        omega
theorem putZ_any (KS:Sc→Prop) (KN:Nd→Prop) (B q:Nat):∀ k,PutZ KS KN B q k:=by
 intro k
 induction k with
 | zero=>exact put_step2 KS KN B q 0 (fun k' h=>by omega)
 | succ k ih => exact put_step2 KS KN B q (k + 1) (fun k' h => by obtain rfl : k = k' := by omega
                                                                  exact ih)
end Go.Proofs.YtgdfkbalnpfdgaaGreatDoor
