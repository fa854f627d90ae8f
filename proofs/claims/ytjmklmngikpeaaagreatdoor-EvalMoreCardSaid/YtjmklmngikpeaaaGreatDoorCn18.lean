/- Part of the proof. -/
import Derived.WalkLawsBesides
import Derived.StillTailTactics
import Derived.Test.YtjmklmngikpeaaaGreatDoorCn10
import Derived.Test.YtjmklmngikpeaaaGreatDoorCn16
set_option maxRecDepth 100000
set_option maxHeartbeats 8000000
set_option linter.unusedVariables false
set_option linter.unusedSimpArgs false
namespace Go.Proofs.YtjmklmngikpeaaaGreatDoor
open Go.RowKit
variable {l:List Cd}{ps:List Gv}{ac ev kb mb mn pc:Nat}{S:Nat->Prop}{A PA:Option Addr}{G:Vl->Prop}{eq:Vl->Vl->Bool}{w0:World}
theorem j7 (W:World) (q:Nat) (b0 b1 b2 b3 b4 b5 b6 b7:Value):fP (fun k=>k=q) W ((((((((W.setCell ⟨q,0,none⟩ b0).setCell ⟨q,1,none⟩ b1).setCell ⟨q,2,none⟩ b2).setCell ⟨q,3,none⟩ b3).setCell ⟨q,4,none⟩ b4).setCell ⟨q,5,none⟩ b5).setCell ⟨q,6,none⟩ b6).setCell ⟨q,7,none⟩ b7) :=
 ((((((((aK (aB _ W) (fun k=>k=q)).setCell ⟨q,0,none⟩ b0 (fun _=>rfl)).setCell ⟨q,1,none⟩ b1 (fun _=>rfl)).setCell ⟨q,2,none⟩ b2 (fun _=>rfl)).setCell ⟨q,3,none⟩ b3 (fun _=>rfl)).setCell ⟨q,4,none⟩ b4 (fun _=>rfl)).setCell ⟨q,5,none⟩ b5 (fun _=>rfl)).setCell ⟨q,6,none⟩ b6 (fun _=>rfl)).setCell ⟨q,7,none⟩ b7 (fun _=>rfl)
theorem f9 {W:World} {q:Nat} {b0 b1 b2 b3 b4 b5 b6 b7:Value} {p:Addr} {v:Value} (hp:p.block≠q) (h:W.cell? p=some v) :
 ((((((((W.setCell ⟨q,0,none⟩ b0).setCell ⟨q,1,none⟩ b1).setCell ⟨q,2,none⟩ b2).setCell ⟨q,3,none⟩ b3).setCell ⟨q,4,none⟩ b4).setCell ⟨q,5,none⟩ b5).setCell ⟨q,6,none⟩ b6).setCell ⟨q,7,none⟩ b7).cell? p=some v:=by
 have key:∀ (W:World) (i:Nat) (b:Value),(W.setCell ⟨q,i,none⟩ b).cell? p=W.cell? p:=fun W i b=>bU (dL _ _ _ _ hp)
 rw[key,key,key,key,key,key,key,key];exact h
theorem SZ (hV:j4 w0) (hE:TS G eq w0) (k:Nat)
 (c:Cd) (cs:List Value) (a:Addr) (f:ByteArray->Option Bool) (n:Nat) (w:World) (hD:Dp l ps G (k+1) c) (hW:DT l ps S w0 A ac PA pc mb mn ev kb w) (hM:MB w kb n f) (hK:nG l ps eq G f) (hn:n<=cntK l f) (htr:Trs.at S w c.tr cs) (hcel:i7 w a cs) (hab:a.block≠kb) (h0:c.kind=0) :
 Calls Tryz.prog 120 #[.pointer (some ⟨ev,0,none⟩),.pointer (some a)] w (PaOut l ps eq G kb (k+1) f (evC l ps eq (k+1) c) w):=by
 obtain⟨A1,n1,B1,n2,L,lc0,hcc,hls,hns,hta,htb,hxa,hxb⟩:=q8 htr hcel;obtain⟨x,y,hx,hy,hgx,hgy⟩:=hD.1 h0;have HEV:Hid (evC l ps eq (k+1) c=if x.unknown||y.unknown then none else some (eq x.v y.v)):=Hd (by
  rw[evC,if_pos h0];unfold S6;rw[hx,hy])
 have HCC:=Hd hcc;obtain⟨c0,c1,c2,c3,c4,c5,c6,c7,c8,c9,c10,c11,c12,c13,c14⟩:=gP hcc;have v2:=hW.box.cell 2 (v:=.slice PA ps.length pc) rfl;have HW:=Hd hW;have HM:=Hd hM;have HK:=Hd hK;have HN:=Hd hn;have HPA:Hid (∀ w',Below w.heap.size w w'->Calls Tryz.prog 83 #[.agg (kX c.a A1 n1),.slice PA ps.length pc] w' (yB (fun k=>S k/\k<w.heap.size) x w')) :=
  Hd (fun w' hb=>by have h1:=HW.o.below hb;exact(xI (fun k=>S k/\k<w.heap.size) c.a A1 n1 PA pc ps w' (hV.below h1.bel) (hxa.bound.below hb) (HW.o.pr.bound.below hb)).mono (fun e w'' h=>kZ.some (by rw[<-hx];exact h)))
 have HPB:Hid (∀ w',Below w.heap.size w w'->Calls Tryz.prog 83 #[.agg (kX c.b B1 n2),.slice PA ps.length pc] w' (yB (fun k=>S k/\k<w.heap.size) y w')) :=
  Hd (fun w' hb=>by have h1:=HW.o.below hb;exact(xI (fun k=>S k/\k<w.heap.size) c.b B1 n2 PA pc ps w' (hV.below h1.bel) (hxb.bound.below hb) (HW.o.pr.bound.below hb)).mono (fun e w'' h=>kZ.some (by rw[<-hy];exact h)))
 have HEQ:Hid (∀ w' xs ys,Below w.heap.size w w'->Trs.at (fun k=>S k/\k<w.heap.size) w' x.v.tr xs->Trs.at (fun k=>S k/\k<w.heap.size) w' y.v.tr ys->Calls Tryz.prog 170 #[.agg xs.toArray,.agg ys.toArray] w' (BoolB (eq x.v y.v) w')) :=
  Hd (fun w' xs ys hb h1 h2=>hE (fun k=>S k/\k<w.heap.size) x.v y.v xs ys w' hgx hgy (HW.o.below hb).bel h1 h2)
 have e0:(c.kind==0)=true:=by rw[h0];rfl
 have HB0:Hid (Below w.heap.size w w.drew):=Hd (aB _ w).drew;have HB1:Hid (Below w.heap.size w ((w.alloc (.cells zC 46)).drew)):=Hd ((aB _ w).alloc (aA _) _).drew;have HZ1:Hid (Blk ((w.alloc (.cells zC 46)).drew) w.heap.size zC 46):=Hd (aJ w _ _).drew;have hal:a.block<w.heap.size:=aF w _ c0;have hel:ev<w.heap.size:=hW.box.lt;have hal1:a.block≠w.heap.size:=by omega
 have hel1:ev≠w.heap.size:=by omega
 clear hcc hls hta htb hxa hxb htr hcel hx hy hgx hgy hD hW hM hK hn hV hE h0;go_enter Tryz.func120,Tryz.ntmps120;go_upto_region 3 with fail;go_cut [5] from 20 to 31 (fun v5 wx=>∃ (b1:Nat) (GL:Option Addr) (lc:Nat) (GK:Option Addr) (kc:Nat),v5=.pointer (some ⟨b1,0,none⟩)/\Hid (Blk wx b1 (kG x GL lc GK kc) 46)/\Hid (Trs.at (fun k=>S k/\k<w.heap.size) wx x.v.tr [.int .i8 x.v.kind,.bool x.v.bool,.int .i64 x.v.num,.string x.v.text,.slice GL x.v.list.length lc,.slice GK x.v.keys.length kc])/\Hid (Below w.heap.size w wx))
 case first =>
  go_region_held3 (fun w'=>w'.cell? ⟨a.block,a.off+2,none⟩=some (.int .i8 c.a.kind)/\w'.cell? ⟨a.block,a.off+3,none⟩=some (.string c.a.text)/\w'.cell? ⟨a.block,a.off+4,none⟩=some (.int .i64 c.a.num)/\w'.cell? ⟨a.block,a.off+5,none⟩=some (.string c.a.name)/\w'.cell? ⟨a.block,a.off+6,none⟩=some (.string c.a.attr)/\w'.cell? ⟨a.block,a.off+7,none⟩=some (.slice A1 c.a.l.length n1) /\
   w'.cell? ⟨ev,2,none⟩=some (.slice PA ps.length pc)) (first | go_keep | exact⟨f9 hal1 d2,f9 hal1 d3,f9 hal1 d4,f9 hal1 d5,f9 hal1 d6,f9 hal1 d7,f9 hel1 u2⟩)
   ((first
     | (go_at_call 83;(with_reducible refine(HPA.o ((w.alloc (.cells zC 46)).drew) HB1.o).mono ?_);rintro e w2 ⟨hb,GL,lc,GK,kc,rfl,ht⟩;have hb2:=HB1.o.trans (hb.mono HB1.o.size);have hz2:=HZ1.o.below hb;have HT2:=Hd ht;have HB2:=Hd hb2;have HZ2:=Hd hz2;obtain⟨d0,d1,d2,d3,d4,d5,d6,d7,d8,d9,d10,d11,d12,d13,d14⟩:=gP (HCC.o.below hb2);have u2:=(HW.o.below hb2).box.cell 2 (v:=.slice PA ps.length pc) rfl;have z0:=hz2.frozen 0;have z1:=hz2.frozen 1;have z2:=hz2.frozen 2;have z3:=hz2.frozen 3;have z4:=hz2.frozen 4;have z5:=hz2.frozen 5;have z6:=hz2.frozen 6;have z7:=hz2.frozen 7;obtain⟨q0,q1,q2,q3,q4,q5,q6,q7⟩:=gI hz2;clear hb ht hb2 hz2)
     | (go_at_call 83;(with_reducible refine(HPA.o w.drew HB0.o).mono ?_);rintro e w2 ⟨hb,GL,lc,GK,kc,rfl,ht⟩;have hb2:=HB0.o.trans (hb.mono HB0.o.size);have HT2:=Hd ht;have HB2:=Hd hb2;obtain⟨d0,d1,d2,d3,d4,d5,d6,d7,d8,d9,d10,d11,d12,d13,d14⟩:=gP (HCC.o.below hb2);have u2:=(HW.o.below hb2).box.cell 2 (v:=.slice PA ps.length pc) rfl;clear hb ht hb2)))
  .go_wp2_with fail;go_meet;exact⟨w2.heap.size,GL,lc,GK,kc,rfl,Hd (aJ w2 _ _),Hd (HT2.o.alloc _),Hd (HB2.o.alloc HB2.o.size _)⟩
  go_wp2_with fail;go_meet;exact⟨w.heap.size,GL,lc,GK,kc,rfl,Hd (HZ2.o.set8 rfl _ _ _ _ _ _ _ _),Hd (HT2.o.only (j7 _ _ _ _ _ _ _ _ _ _) (fun k hk=>by have:=hk.2;omega)),Hd ((j7 _ _ _ _ _ _ _ _ _ _).belowB HB2.o (fun k hk=>by omega))⟩
 obtain⟨b1,GL,lc,GK,kc,rfl,HX,HXT,HBW⟩:=hcut;rename World=>wd
 have HWD:=Hd (HW.o.below HBW.o);have HCD:=Hd (HCC.o.below HBW.o);have hsz:=HBW.o.size;obtain⟨c0,c1,c2,c3,c4,c5,c6,c7,c8,c9,c10,c11,c12,c13,c14⟩:=gP HCD.o;have v2:=HWD.o.box.cell 2 (v:=.slice PA ps.length pc) rfl;have hal2:a.block≠wd.heap.size:=by omega
 have hel2:ev≠wd.heap.size:=by omega
 have hbl2:b1<wd.heap.size:=HX.o.lt;have HB0':Hid (Below wd.heap.size wd wd.drew):=Hd (aB _ wd).drew;have HB1':Hid (Below wd.heap.size wd ((wd.alloc (.cells zC 46)).drew)):=Hd ((aB _ wd).alloc (aA _) _).drew;have HZ1':Hid (Blk ((wd.alloc (.cells zC 46)).drew) wd.heap.size zC 46):=Hd (aJ wd _ _).drew;have HPB':Hid (∀ w',Below wd.heap.size wd w'->Calls Tryz.prog 83 #[.agg (kX c.b B1 n2),.slice PA ps.length pc] w' (yB (fun k=>S k/\k<w.heap.size) y w')):=Hd (fun w' hb=>HPB.o w' (HBW.o.trans (hb.mono hsz)));clear HB0 HB1 HZ1 HPA HPB hal1 hel1;go_upto_region 4 with fail;go_cut [5,7] from 32 to 43 (fun v5 v7 wx=>∃ (b2:Nat) (HL:Option Addr) (ld:Nat) (HQ:Option Addr) (kd:Nat),v5=.pointer (some ⟨b1,0,none⟩)/\v7=.pointer (some ⟨b2,0,none⟩)/\Hid (Blk wx b2 (kG y HL ld HQ kd) 46)/\Hid (Trs.at (fun k=>S k/\k<w.heap.size) wx y.v.tr [.int .i8 y.v.kind,.bool y.v.bool,.int .i64 y.v.num,.string y.v.text,.slice HL y.v.list.length ld,.slice HQ y.v.keys.length kd])/\Hid (Below wd.heap.size wd wx))
 case first =>
  go_region_held3 (fun w'=>w'.cell? ⟨a.block,a.off+8,none⟩=some (.int .i8 c.b.kind)/\w'.cell? ⟨a.block,a.off+9,none⟩=some (.string c.b.text)/\w'.cell? ⟨a.block,a.off+10,none⟩=some (.int .i64 c.b.num)/\w'.cell? ⟨a.block,a.off+11,none⟩=some (.string c.b.name)/\w'.cell? ⟨a.block,a.off+12,none⟩=some (.string c.b.attr)/\w'.cell? ⟨a.block,a.off+13,none⟩=some (.slice B1 c.b.l.length n2) /\
  w'.cell? ⟨ev,2,none⟩=some (.slice PA ps.length pc)) (first | go_keep | exact⟨f9 hal2 d8,f9 hal2 d9,f9 hal2 d10,f9 hal2 d11,f9 hal2 d12,f9 hal2 d13,f9 hel2 u2⟩)
  ((first
    | (go_at_call 83;(with_reducible refine(HPB'.o ((wd.alloc (.cells zC 46)).drew) HB1'.o).mono ?_);rintro e w2 ⟨hb,HL,ld,HQ,kd,rfl,ht⟩;have hb2:=HB1'.o.trans (hb.mono HB1'.o.size);have hz2:=HZ1'.o.below hb;have HT2:=Hd ht;have HB2:=Hd hb2;have HZ2:=Hd hz2;obtain⟨d0,d1,d2,d3,d4,d5,d6,d7,d8,d9,d10,d11,d12,d13,d14⟩:=gP (HCD.o.below hb2);have u2:=(HWD.o.below hb2).box.cell 2 (v:=.slice PA ps.length pc) rfl;have z0:=hz2.frozen 0;have z1:=hz2.frozen 1;have z2:=hz2.frozen 2;have z3:=hz2.frozen 3;have z4:=hz2.frozen 4;have z5:=hz2.frozen 5;have z6:=hz2.frozen 6;have z7:=hz2.frozen 7;obtain⟨q0,q1,q2,q3,q4,q5,q6,q7⟩:=gI hz2;clear hb ht hb2 hz2)
    | (go_at_call 83;(with_reducible refine(HPB'.o wd.drew HB0'.o).mono ?_);rintro e w2 ⟨hb,HL,ld,HQ,kd,rfl,ht⟩;have hb2:=HB0'.o.trans (hb.mono HB0'.o.size);have HT2:=Hd ht;have HB2:=Hd hb2;obtain⟨d0,d1,d2,d3,d4,d5,d6,d7,d8,d9,d10,d11,d12,d13,d14⟩:=gP (HCD.o.below hb2);have u2:=(HWD.o.below hb2).box.cell 2 (v:=.slice PA ps.length pc) rfl;clear hb ht hb2)))
  .go_wp2_with fail;go_meet;exact⟨w2.heap.size,HL,ld,HQ,kd,rfl,rfl,Hd (aJ w2 _ _),Hd (HT2.o.alloc _),Hd (HB2.o.alloc HB2.o.size _)⟩
  go_wp2_with fail;go_meet;exact⟨wd.heap.size,HL,ld,HQ,kd,rfl,rfl,Hd (HZ2.o.set8 rfl _ _ _ _ _ _ _ _),Hd (HT2.o.only (j7 _ _ _ _ _ _ _ _ _ _) (fun k hk=>by have:=hk.2;omega)),Hd ((j7 _ _ _ _ _ _ _ _ _ _).belowB HB2.o (fun k hk=>by omega))⟩
 obtain⟨b2,HL,ld,HQ,kd,rfl,rfl,HY,HYT,HBX⟩:=hcut;rename World=>wx
 have hbw:=HBW.o.trans (HBX.o.mono hsz);have HX2:=Hd (HX.o.below HBX.o);have HEQ2:=Hd (HEQ.o wx [.int .i8 x.v.kind,.bool x.v.bool,.int .i64 x.v.num,.string x.v.text,.slice GL x.v.list.length lc,.slice GK x.v.keys.length kc] [.int .i8 y.v.kind,.bool y.v.bool,.int .i64 y.v.num,.string y.v.text,.slice HL y.v.list.length ld,.slice HQ y.v.keys.length kd] hbw (HXT.o.below HBX.o) HYT.o);obtain⟨x0,x1,x2,x3,x4,x5,x6,x7⟩:=gI HX2.o;obtain⟨y0,y1,y2,y3,y4,y5,y6,y7⟩:=gI HY.o;have HBE:=Hd hbw;obtain⟨ux,hux⟩:∃ ux,ux=x.unknown:=⟨_,rfl⟩;obtain⟨uy,huy⟩:∃ uy,uy=y.unknown:=⟨_,rfl⟩;rw[<-hux] at x1;rw[<-huy] at y1;rw[<-hux,<-huy] at HEV;clear hux huy hbw c0 c1 c2 c3 c4 c5 c6 c7 c8 c9 c10 c11 c12 c13 c14 HPB' HB0' HB1' HZ1' HEQ;have HFIN:Hid (∀ w',Below w.heap.size w w'->MB w' kb n f/\nG l ps eq G f/\n<=cntK l f/\fP (fun k=>k=kb) w w'):=Hd (fun w' hb=>⟨HM.o.below hb,HK.o,HN.o,aK hb _⟩);cases ux with
 | true =>
   go_wp2_with fail;obtain⟨g1,g2,g3,g4⟩:=HFIN.o _ HBE.o;exact⟨rfl,f,n,g1,g2,g3,g4,uU.refl,by rw[HEV.o];rfl⟩
 | false =>
   cases uy with
   | true =>
     go_wp2_with fail;obtain⟨g1,g2,g3,g4⟩:=HFIN.o _ HBE.o;exact⟨rfl,f,n,g1,g2,g3,g4,uU.refl,by rw[HEV.o];rfl⟩
   | false =>
     go_wp2_with fail;refine HEQ2.o.mono ?_;rintro e w5 ⟨rfl,hb5⟩;have hb6:=HBE.o.trans (hb5.mono HBE.o.size);obtain⟨g1,g2,g3,g4⟩:=HFIN.o w5 hb6;have HG1:=Hd g1;have HG4:=Hd g4;clear hb5 hb6 g1 g4;go_wp2;go_ret;exact⟨f,n,HG1.o,g2,g3,HG4.o,uU.refl,by rw[HEV.o];rfl⟩
theorem NS (k:Nat) (IH:∀ j,j<=k->UI l ps eq G S w0 A ac PA pc mb mn ev kb j)
 (c:Cd) (cs:List Value) (a:Addr) (f:ByteArray->Option Bool) (n:Nat) (w:World) (hD:Dp l ps G (k+1) c) (hW:DT l ps S w0 A ac PA pc mb mn ev kb w) (hM:MB w kb n f) (hK:nG l ps eq G f) (hn:n<=cntK l f) (htr:Trs.at S w c.tr cs) (hcel:i7 w a cs) (hab:a.block≠kb) (h4:c.kind=4) :
 Calls Tryz.prog 120 #[.pointer (some ⟨ev,0,none⟩),.pointer (some a)] w (PaOut l ps eq G kb (k+1) f (evC l ps eq (k+1) c) w):=by
 obtain⟨A1,n1,B1,n2,L,lc0,hcc,hlsc,hns,hta,htb,hxa,hxb⟩:=q8 htr hcel;obtain⟨i,d,hi,hd,hDd⟩:=hD.2.1 h4;obtain⟨j,hj,hDj,hmin⟩:=Dp.least k hDd;have hil:i<l.length:=plAt_lt hi;have hcap:=hW.ls.cap;have hbyt:=hW.ls.bytes;have HEV:Hid (evC l ps eq (k+1) c=evC l ps eq j d):=Hd (by
  rw[evC,if_neg (by rw[h4];decide),if_pos h4,hi];simp only[hd];exact Dp.same hDd hDj)
 have e0:(c.kind==0)=false:=by rw[h4];rfl
 have e4:(c.kind==4)=true:=by rw[h4];rfl
 have HCC:=Hd hcc;obtain⟨c0,c1,c2,c3,c4,c5,c6,c7,c8,c9,c10,c11,c12,c13,c14⟩:=gP hcc;have v0:=hW.box.cell 0 (v:=.slice A l.length ac) rfl;have v1:=hW.box.cell 1 (v:=.map (some mb)) rfl;have v3:=hW.box.cell 3 (v:=.map (some kb)) rfl;have hmx:c.name.size<=maxLen:=by unfold maxLen;omega
 have hlk:∀ q,(Instr.lookup 195 (.map (some kb)) (.string c.name) true).run Tryz.prog (w.drewN q)=.ok (.tuple #[.bool ((f c.name).getD false),.bool (f c.name).isSome]) (w.drewN q):=fun q=>(hM.drewN q).lookok hmx
 have hpl:∀ q,(Instr.lookup 193 (.map (some mb)) (.string c.name) false).run Tryz.prog (w.drewN q)=.ok (.int .i64 (i:Nat)) (w.drewN q):=fun q=>by
  have:=(hW.pl.only (w':=w.drewN q) (F:=fun _=>False) ⟨rfl,rfl,rfl,aA _,fun _ _ _=>rfl⟩ (fun h=>h)).look hmx;rw[this,hi];rfl
 obtain⟨ad,cs',rfl,htd,hcd⟩:=hW.ls.elem cY hd;have hadk:(ad.add (i*15)).block≠kb:=by
  rw[block_of_add];exact hW.hS _ (hW.ls.blk ad rfl (by omega))
 have HW:=Hd hW;have HM:=Hd hM;have HK:=Hd hK;have HN:=Hd hn;have HVAL:Hid (∀ b,f c.name=some b->evC l ps eq j d=some b):=Hd (fun b hb=>hK.val hb hi hd hDj);have HIH:Hid (∀ w',Below w.heap.size w w'->Calls Tryz.prog 120 #[.pointer (some ⟨ev,0,none⟩),.pointer (some (ad.add (i*15)))] w' (PaOut l ps eq G kb j f (evC l ps eq j d) w')):=Hd (fun w' hb =>
  IH j hj d cs' (ad.add (i*15)) f n w' hDj (hW.below hb) (hM.below hb) hK hn (htd.below hb) (hcd.below hb) hadk)
 have HFI:Hid (plAt l c.name=some i/\l[i]?=some d/\Dp l ps G j d/\∀ i,i<j->¬Dp l ps G i d):=Hd ⟨hi,hd,hDj,hmin⟩;have hii:(0:Int)<=(i:Int)/\(i:Int)<(l.length:Int):=by omega
 have hin:¬((i:Int)<0):=by omega
 have hnev:=hW.nev;obtain⟨o,ho⟩:∃ o,o=f c.name:=⟨_,rfl⟩;have HO:=Hd ho;rw[<-ho] at hlk;clear hcc hlsc hta htb hxa hxb htr hcel hD hW hM hK hn h4 hi hd hDd hDj hmin IH htd hcd ho;go_enter Tryz.func120,Tryz.ntmps120;cases o with
 | some b =>
   have HE:Hid (evC l ps eq (k+1) c=some b):=Hd (HEV.o.trans (HVAL.o b HO.o.symm));simp only[dT,Option.isSome_some] at hlk;clear hpl;go_wp2_with fail;go_quiet (fail);go_wp2;go_ret;exact⟨f,n,HM.o.drewN _,HK.o,HN.o,(aK (aB _ w) _).drewN _,uU.refl,by rw[HE.o];rfl⟩
 | none =>
   simp only[Option.getD_none,Option.isSome_none] at hlk;go_wp2_with fail;go_quiet (fail);have hbq:Below w.heap.size w (w.drewN nq):=⟨rfl,rfl,rfl,aA _,fun _ _=>rfl⟩
   have HBQ:=Hd hbq;have HWQ:=Hd (HW.o.below hbq);have HCQ:=Hd (HCC.o.below hbq);have HPL:Hid (MP (w.drewN nq) mb mn (plAt l)):=Hd (HW.o.pl.only (F:=fun _=>False) ⟨rfl,rfl,rfl,aA _,fun _ _ _=>rfl⟩ (fun h=>h));generalize w.drewN nq=w1 at HBQ HWQ HCQ HPL ⊢;clear c0 c1 c2 c3 c4 c5 c6 c7 c8 c9 c10 c11 c12 c13 c14 v0 v1 v3 hlk hpl hbq;obtain⟨c0,c1,c2,c3,c4,c5,c6,c7,c8,c9,c10,c11,c12,c13,c14⟩:=gP HCQ.o;have v0:=HWQ.o.box.cell 0 (v:=.slice (some ad) l.length ac) rfl;have v1:=HWQ.o.box.cell 1 (v:=.map (some mb)) rfl;have hpl:(Instr.lookup 193 (.map (some mb)) (.string c.name) false).run Tryz.prog w1.drew=.ok (.int .i64 (i:Nat)) w1.drew:=by
    have:=(HPL.o.only (w':=w1.drew) (F:=fun _=>False) ⟨rfl,rfl,rfl,aA _,fun _ _ _=>rfl⟩ (fun h=>h)).look hmx;rw[this,HFI.o.1];rfl
   go_wp2_with fail;go_still_tail 15,(by kernel_rfl);change wpList _ _ _ _ _ w1.drew;have hb1:Below w.heap.size w w1.drew:=HBQ.o.drew;have HCL:=Hd (HIH.o w1.drew hb1);have HO1:Hid (fP (fun k=>k=kb) w w1.drew):=Hd (aK hb1 _);have HW1:=Hd (HW.o.below hb1);have HC1:=Hd (HCC.o.below hb1);generalize w1.drew=w3 at HCL HO1 HW1 HC1 ⊢;obtain⟨v,hv⟩:∃ v,v=evC l ps eq j d:=⟨_,rfl⟩;rw[<-hv] at HCL;have HV:=Hd hv;clear c0 c1 c2 c3 c4 c5 c6 c7 c8 c9 c10 c11 c12 c13 c14 v0 v1 hpl hb1 HBQ HWQ HCQ HPL hv;go_wp2_with fail;refine HCL.o.mono ?_;rintro e w4 hpo;cases v with
   | none =>
     obtain⟨f2,n2,g1,g2,g3,g4,g5,rfl⟩:=hpo.panicked;have HE:Hid (evC l ps eq (k+1) c=none):=Hd (by rw[HEV.o,<-HV.o]);have HG:=Hd g1;have HG4:=Hd (HO1.o.trans g4 (fun _ _ h=>h));have HG5:=Hd (g5.mono (k':=k+1) (by omega));clear g1 g4 g5 hpo;go_wp2_with fail;exact⟨rfl,f2,n2,HG.o,g2,g3,HG4.o,HG5.o,by rw[HE.o]⟩
   | some b =>
     obtain⟨f2,n2,g1,g2,g3,g4,g5,rfl⟩:=hpo.returned;have HE:Hid (evC l ps eq (k+1) c=some b):=Hd (by rw[HEV.o,<-HV.o]);have hnone:f2 c.name=none:=g5.none HFI.o.1 HFI.o.2.1 HFI.o.2.2.2 HO.o.symm;have hcnt:=LO b hnone HFI.o.1;have hle:=OS l f2;have HG:=Hd g1;have HKP:=Hd (g2.put HFI.o.1 HFI.o.2.1 HFI.o.2.2.1 HV.o.symm);have HNP:=Hd (g5.put (k:=k+1) (b:=b) HFI.o.1 HFI.o.2.1 HFI.o.2.2.1 (by omega));have HG4:=Hd (HO1.o.trans g4 (fun _ _ h=>h));have v3:=(HW1.o.only g4).box.cell 3 (v:=.map (some kb)) rfl;obtain⟨c0,c1,c2,c3,c4,c5,c6,c7,c8,c9,c10,c11,c12,c13,c14⟩:=gP (HC1.o.only g4 hab);clear g1 g2 g4 g5 hpo hnone;go_wp2_with fail;go_still_tail 9,(by kernel_rfl);change wpList _ _ _ _ _ w4.drew;have HGD:=Hd HG.o.drew;have HG4D:=Hd HG4.o.drew;generalize w4.drew=w5 at HGD HG4D ⊢;clear c0 c1 c2 c3 c4 c5 c6 c7 c8 c9 c10 c11 c12 c13 c14 v3;go_wp2_with (refine wp_put_MB rfl _ _ _ rfl kb n2 f2 rfl HGD.o (by unfold maxLen;omega) c.name hmx rfl b rfl ?_;intro w6 hm6 hg6;have HM6:=Hd hm6;have HO6:=Hd (bX hg6);clear hm6 hg6);go_ret;exact⟨_,n2+1,HM6.o,HKP.o,by omega,HG4D.o.trans (HO6.o.mono (fun i _ h=>by injection h)) (fun _ _ h=>h),HNP.o,by rw[HE.o];rfl⟩
theorem allEv_none {f:Cd->Option Bool}:∀ {r:List Cd} {p:Cd},p∈r->f p=none->i6 f r=none
 | c::r,p,h,hp=>by
   unfold i6;cases e:f c with
   | none=>rfl
   | some b =>
     rcases List.mem_cons.1 h with rfl | h
     .rw[hp] at e;cases e
     simp only;rw[allEv_none h hp];rfl
theorem allEv_snoc {f:Cd->Option Bool} {p:Cd}:∀ {r:List Cd},i6 f (r++[p])=(i6 f r).bind fun m=>(f p).map fun b=>m+b.toNat
 | []=>by
   simp only[bP,i6];cases f p<;>simp
 | c::r=>by
   simp only[bM,i6];cases f c with
   | none=>rfl
   | some b =>
     simp only[allEv_snoc (r:=r)];cases i6 f r with
     | none=>rfl
     | some m=>cases f p<;>simp<;>omega
theorem BH {f:Cd->Option Bool}:∀ {r:List Cd} {m:Nat},i6 f r=some m->m<=r.length
 | [],m,h=>by simp[i6] at h;omega
 | c::r,m,h=>by
   unfold i6 at h;split at h
   .cases h
   next b hb =>
   obtain⟨x,hx,rfl⟩:=Option.map_eq_some_iff.1 h;have:=BH hx;cases b<;>simp<;>omega
theorem OC:(Tryz.prog.info? 4).map (·.size)=some 1:=by kernel_rfl
theorem JH (x y z:Bool) (w:World):(Instr.index 242 (.agg #[.bool false,.bool x,.bool y,.bool z]) (.int .i8 1)).run Tryz.prog w=.ok (.bool x) w/\(Instr.index 242 (.agg #[.bool false,.bool x,.bool y,.bool z]) (.int .i8 2)).run Tryz.prog w=.ok (.bool y) w /\
 (Instr.index 242 (.agg #[.bool false,.bool x,.bool y,.bool z]) (.int .i8 3)).run Tryz.prog w=.ok (.bool z) w:=by
 obtain⟨i,hi,hs⟩:=Option.map_eq_some_iff.1 OC;unfold Instr.index;simp[run_underlying Tryz.underlying242,run_underlying Tryz.underlying4,sizeOf,typeInfo,asIntOf,part,hi,hs,isAgg]
theorem NT (k:Nat) (IH:UI l ps eq G S w0 A ac PA pc mb mn ev kb k)
 (c:Cd) (cs:List Value) (a:Addr) (f:ByteArray->Option Bool) (n:Nat) (w:World) (hD:Dp l ps G (k+1) c) (hW:DT l ps S w0 A ac PA pc mb mn ev kb w) (hM:MB w kb n f) (hK:nG l ps eq G f) (hn:n<=cntK l f) (htr:Trs.at S w c.tr cs) (hcel:i7 w a cs) (hab:a.block≠kb) (h0:c.kind≠0) (h4:c.kind≠4) :
 Calls Tryz.prog 120 #[.pointer (some ⟨ev,0,none⟩),.pointer (some a)] w (PaOut l ps eq G kb (k+1) f (evC l ps eq (k+1) c) w):=by
 obtain⟨A1,n1,B1,n2,L,lc0,hcc,hls,hns,hta,htb,hxa,hxb⟩:=q8 htr hcel;obtain⟨hkd,hDp⟩:=hD.2.2 h0 h4;have hcap:=hls.cap;have hbyt:=hls.bytes;have HEV:Hid (evC l ps eq (k+1) c=(i6 (evC l ps eq k) c.l).map (AV c)):=Hd (by
  rw[evC,if_neg h0,if_neg h4])
 have e0:(c.kind==0)=false:=by simpa using h0
 have e4:(c.kind==4)=false:=by simpa using h4
 have HCC:=Hd hcc;have HDP:=Hd hDp;have HKD:=Hd hkd;obtain⟨c0,c1,c2,c3,c4,c5,c6,c7,c8,c9,c10,c11,c12,c13,c14⟩:=gP hcc;have HLS:=Hd hls;have HW:=Hd hW;have HM:=Hd hM;have HK:=Hd hK;have HN:=Hd hn;have HIH:=Hd IH;clear hcc hls hta htb hxa hxb htr hcel hD hW hM hK hn IH h0 h4 hkd hDp;go_enter Tryz.func120,Tryz.ntmps120;go_wp2_with fail;go_loopg [104,12] c.l.length (fun g i v wr=>∃ (j m:Nat) (f':ByteArray->Option Bool) (n':Nat),j+g=c.l.length/\i=.int .i64 (j:Nat)/\v=.int .i64 (m:Nat)/\Hid (i6 (evC l ps eq k) (c.l.take j)=some m)/\Hid (MB wr kb n' f'/\nG l ps eq G f'/\n'<=cntK l f')/\Hid (fP (fun k=>k=kb) w wr)/\Hid (uU l ps G k f f'))
 case atStart=>exact⟨0,0,f,n,by omega,rfl,rfl,Hd (by simp[i6]),Hd ⟨HM.o,HK.o,HN.o⟩,Hd (aK (aB _ _) _),Hd uU.refl⟩
 obtain⟨j,m,f',n',hj,rfl,rfl,HA,HMK,HO,HNW⟩:=hrel;rename World=>wo
 have hml:=BH HA.o;rw[cH] at hml;cases gk with
 | zero =>
   have hjj:¬((j:Int)<(c.l.length:Int)):=by omega
   have HE:Hid (evC l ps eq (k+1) c=some (AV c m)):=Hd (by
    have h1:=HA.o;rw[aN (by omega)] at h1;rw[HEV.o,h1];rfl)
   obtain⟨d0,d1,d2,d3,d4,d5,d6,d7,d8,d9,d10,d11,d12,d13,d14⟩:=gP (HCC.o.only HO.o hab);clear c0 c1 c2 c3 c4 c5 c6 c7 c8 c9 c10 c11 c12 c13 c14;rcases HKD.o with h1 | h1 | h1;all_goals
    have HCE:=Hd (show AV c m=_ by unfold AV;rw[h1])
    rw[h1] at d1
    clear h1
    obtain⟨r1,r2,r3⟩:=JH ((m:Int)==(c.l.length:Int)) (decide (0<m)) ((m:Int)==0) wo.drew
    go_wp2_with fail
    go_still_tail 17,(by kernel_rfl)
    go_wp2_with fail
    go_ret
    refine⟨f',n',HMK.o.1.drew,HMK.o.2.1,HMK.o.2.2,HO.o.drew,HNW.o.mono (fI k),?_⟩
    rw[HE.o,HCE.o]
    first
     | (simp;done)
     | (simp;omega)
     | (simp[Bool.beq_eq_decide_eq];try omega)
 | succ g =>
   have hjj:(j:Int)<(c.l.length:Int):=by omega
   have hj0:(0:Int)<=(j:Int)/\(j:Int)<(c.l.length:Int):=by omega
   obtain⟨p,hp⟩:=fO (l:=c.l) (i:=j) (by omega);have hmem:=aD hp;have hDq:=HDP.o p hmem;have hls2:=HLS.o.only HO.o (fun q hq e=>HW.o.hS q hq e);obtain⟨ad,cs',rfl,htd,hcd⟩:=hls2.elem cY hp;have hadk:(ad.add (j*15)).block≠kb:=by
    rw[block_of_add];exact HW.o.hS _ (hls2.blk ad rfl (by omega))
   have HCL:=Hd (HIH.o p cs' (ad.add (j*15)) f' n' wo hDq (HW.o.only HO.o) HMK.o.1 HMK.o.2.1 HMK.o.2.2 htd hcd hadk);have HTK:Hid (i6 (evC l ps eq k) (c.l.take (j+1))=(evC l ps eq k p).map fun b=>m+b.toNat):=Hd (by
    rw[aT,hp];show i6 _ (_++[p])=_
    rw[allEv_snoc,HA.o];rfl)
   have HNO:Hid (evC l ps eq k p=none->evC l ps eq (k+1) c=none):=Hd (fun h=>by rw[HEV.o,allEv_none hmem h];rfl);obtain⟨d0,d1,d2,d3,d4,d5,d6,d7,d8,d9,d10,d11,d12,d13,d14⟩:=gP (HCC.o.only HO.o hab);obtain⟨o,ho⟩:∃ o,o=evC l ps eq k p:=⟨_,rfl⟩;rw[<-ho] at HCL HTK HNO;clear hp hmem hDq hls2 htd hcd ho c0 c1 c2 c3 c4 c5 c6 c7 c8 c9 c10 c11 c12 c13 c14;go_wp2_with fail;refine HCL.o.mono ?_;rintro e w2 hpo;cases o with
   | none =>
     obtain⟨f2,n2,g1,g2,g3,g4,g5,rfl⟩:=hpo.panicked;have HE:=Hd (HNO.o rfl);have HG:=Hd g1;have HG4:=Hd (HO.o.trans g4 (fun _ _ h=>h));have HG5:=Hd ((HNW.o.trans g5).mono (fI k));clear g1 g4 g5 hpo;go_wp2_with fail;exact⟨rfl,f2,n2,HG.o,g2,g3,HG4.o,HG5.o,by rw[HE.o]⟩
   | some b =>
     obtain⟨f2,n2,g1,g2,g3,g4,g5,rfl⟩:=hpo.returned;have HG:=Hd (⟨g1,g2,g3⟩:MB w2 kb n2 f2/\nG l ps eq G f2/\n2<=cntK l f2);have HG4:=Hd (HO.o.trans g4 (fun _ _ h=>h));have HG5:=Hd (HNW.o.trans g5);clear g1 g2 g3 g4 g5 hpo;cases b with
     | true =>
       go_wp2_with fail;go_roundg g
       case measure=>omega
       case rel=>exact⟨j+1,m+1,f2,n2,by omega,by go_num,by go_num,HTK,HG,HG4,HG5⟩
     | false =>
       go_wp2_with fail;go_roundg g
       case measure=>omega
       case rel=>exact⟨j+1,m,f2,n2,by omega,by go_num,rfl,HTK,HG,HG4,HG5⟩
theorem QV (hV:j4 w0) (hE:TS G eq w0) (k:Nat):∀ j,j<=k->UI l ps eq G S w0 A ac PA pc mb mn ev kb j:=by
 induction k with
 | zero =>
   intro j hj c cs a f n w hD;have:j=0:=by omega
   subst this;exact hD.elim
 | succ k ih =>
   intro j hj;rcases bI j (k+1) with h | h
   .exact ih j (by omega)
   have:j=k+1:=by omega
   subst this;intro c cs a f n w hD hW hM hK hn htr hcel hab;by_cases h0:c.kind=0
   .exact SZ hV hE k c cs a f n w hD hW hM hK hn htr hcel hab h0
   by_cases h4:c.kind=4
   .exact NS k ih c cs a f n w hD hW hM hK hn htr hcel hab h4
   exact NT k (ih k (aA _)) c cs a f n w hD hW hM hK hn htr hcel hab h0 h4
