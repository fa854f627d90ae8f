/- Part of the proof. -/
import Derived.Test.YtjmklmngikpeaaaGreatDoorEv8
import Derived.Sort.Walk0
set_option maxRecDepth 100000
set_option maxHeartbeats 4000000
set_option linter.unusedVariables false
set_option linter.unusedSimpArgs false
namespace Go.Proofs.YtjmklmngikpeaaaGreatDoor
open Go
variable {a:Act}{ls:Array Bool}{ops:Array Oper}{d s:ByteArray}{Q:Exit->Act->World->Prop}{rest:List Oper}{ts:List Tr}{b f k n q:Nat}{P:Nat->Prop}{o oi:Oper}{p:Pk}{H α:Type}{t:TypeId}{v:Va}{c0 c1 c2 c3 c4 c5 c6 c7 c8:Value}{w:World}
section
variable {P:Program} {l:List Oper} {Q:Exit->Act->World->Prop} {S:World->Prop}
theorem Rg.skip (hS:S w) (i:Nat) (hi:l.drop i=oi::rest)
 (hc:(Region.noSelect l.toArray&&mU l.toArray n ls&&Region.free .any l.toArray ls i&&(Region.ready .any l.toArray ls).contains i&&decide (i<n))=true)
 (hQ:∀ c a w,Q (.panic c) (a.put oi.dst undef) w->Q (.panic c) a w) (hw:Region.wanted oi (yielded l.toArray a.tmps)=false)
 (h:Rg P l.toArray Q S n f (ls.setIfInBounds i true) (a.put oi.dst undef) w):Rg P l.toArray Q S n (f+1) ls a w:=by
 simp only[bJ,decide_eq_true_eq] at hc;obtain⟨⟨⟨⟨h1,h2⟩,h3⟩,h4⟩,h5⟩:=hc;obtain⟨inv,hsk,hsz⟩:=pM h2;exact Rg.first (drop_at hi) (Region.noSelect_spec h1) hQ hsk hsz h5 f ls a w inv (Region.free_spec (drop_at hi) h3) (by simpa using h4) (.inr ⟨hw,rfl⟩) hS h
abbrev eX:=@Rg.skip
theorem Rg.two (i j:Nat) {oj:Oper} {ri rj:List Oper} (hr:Region.ready .any l.toArray ls=[i,j]) (hoi:l.drop i=oi::ri) (hoj:l.drop j=oj::rj)
 (h1:∀ K':Act->World->Prop,Shut (∀ a w,S w->(S w->Rg P l.toArray Q S n f (ls.setIfInBounds i true) a w)->K' a w)->if Region.wanted oi (yielded l.toArray a.tmps)=true then Oper.wp P oi a w K' Q else K' (a.put oi.dst undef) w)
 (h2:∀ K':Act->World->Prop,Shut (∀ a w,S w->(S w->Rg P l.toArray Q S n f (ls.setIfInBounds j true) a w)->K' a w)->if Region.wanted oj (yielded l.toArray a.tmps)=true then Oper.wp P oj a w K' Q else K' (a.put oj.dst undef) w) :
 Rg P l.toArray Q S n (f+1) ls a w:=by
 refine⟨fun h0=>(by rw[hr] at h0;cases h0),fun k hk=>?_⟩;rw[hr] at hk;have hk':k=i∨k=j:=by simpa using hk
 rcases hk' with rfl | rfl
 .exact wpOp_step (drop_at hoi) (fun K' hK=>h1 K' (fun a w hS hW=>hK a w ⟨fun _=>hS,hW hS⟩))
 exact wpOp_step (drop_at hoj) (fun K' hK=>h2 K' (fun a w hS hW=>hK a w ⟨fun _=>hS,hW hS⟩))
end
open Go.RowKit
theorem KZ (n:Int) (w:World) (h1:-9223372036854775808<=n) (h2:n<=9223372036854775807) :
 Calls Tryz.prog 99 #[.int .i64 n] w (BoolB (decide (-9007199254740992<=n/\n<=9007199254740992)) w):=by
 obtain⟨b,hb⟩:∃ b,b=decide (-9007199254740992<=n/\n<=9007199254740992):=⟨_,rfl⟩;rw[<-hb];by_cases k1:-9007199254740992<=n
 .by_cases k2:n<=9007199254740992
  .have hE:b=true:=by rw[hb];exact decide_eq_true ⟨k1,k2⟩
   clear hb;subst hE;go_enter Tryz.func99,Tryz.ntmps99;go_wp2;go_ret;exact⟨rfl,aB _ _⟩
  have hE:b=false:=by rw[hb];exact decide_eq_false (fun e=>k2 e.2)
  clear hb;subst hE;go_enter Tryz.func99,Tryz.ntmps99;go_wp2;go_ret;exact⟨rfl,aB _ _⟩
 have hE:b=false:=by rw[hb];exact decide_eq_false (fun e=>k1 e.1)
 clear hb;subst hE;go_enter Tryz.func99,Tryz.ntmps99;go_wp2;go_ret;exact⟨rfl,aB _ _⟩
theorem info_u8:(Tryz.prog.info? 5).map (fun i=>(i.zero,i.size,i.bytes))=some (some (.int .u8 0),1,1):=by kernel_rfl
def SB (B pb ob f:Nat):Prop:=∀ (n:Nat) (w:World) (l:List UInt8) (A:Option Addr) (c:Nat),0<f->n<10 ^ f->(n:Int)<=9007199254740992->pb<B->ob<B->pb≠ob->B<=w.heap.size->l.length+f<=1000 ->
 Blk w pb #[(.func (.func 100) #[] #[.pointer (some ⟨pb,0,none⟩),.pointer (some ⟨ob,0,none⟩)])] 179->Blk w ob #[.slice A l.length c] 178->Ow w B 5 1 A l.length c (bv l) ->
 Calls Tryz.prog 100 #[.int .i64 (n:Nat),.pointer (some ⟨pb,0,none⟩),.pointer (some ⟨ob,0,none⟩)] w fun e w'=>e=.returned (.tuple #[])/\fP (fun k=>k=ob∨B<=k) w w' /\
  ∃ A' c',Blk w' ob #[.slice A' (l++lA f n).length c'] 178/\Ow w' B 5 1 A' (l++lA f n).length c' (bv (l++lA f n))
theorem FW (B pb ob f:Nat) (hf:f<=18) (IH:SB B pb ob f):SB B pb ob (f+1):=by
 intro n w l A c hf0 hn hnm hpb hob hne hB hl hkp hko how;have hnb:n<10 ^ 19:=aO hn (Nat.pow_le_pow_right (by omega) (by omega));have hni:(n:Int)<=9007199254740992:=hnm;have p0:=hkp.cell 0 (v:=(.func (.func 100) #[] #[.pointer (some ⟨pb,0,none⟩),.pointer (some ⟨ob,0,none⟩)])) rfl;have o0:=hko.cell 0 (v:=.slice A l.length c) rfl;by_cases h9:(9:Int)<(n:Int)
 .have HBS:=Hd hB;have HF1:Hid (lA (f+1) n=lA f (n / 10)++[UInt8.ofNat (48+n % 10)]):=Hd (by conv=>lhs;unfold lA;rw[if_pos (by omega)]);have hdl:=tW f (n / 10);have hf1:0<f:=by
   rcases dG f with e | e
   .subst e;simp at hn;omega
   exact e
  have HIH:=Hd (IH (n / 10) w l A c hf1 (by rw[Nat.pow_succ] at hn;omega) (by omega) hpb hob hne hB (by omega) hkp hko how);clear hkp hko how IH;go_enter Tryz.func100,Tryz.ntmps100;go_wp2_with fail;refine HIH.o.mono ?_;rintro e w1 ⟨rfl,ho1,A1,c1,hk1,how1⟩;have HO1:=Hd ho1;have hll:(l++lA f (n / 10)).length<=1000:=by rw[aS];omega
  obtain⟨l1,hl1⟩:∃ l1,l1=l++lA f (n / 10):=⟨_,rfl⟩;rw[<-hl1] at hk1 how1 hll;have HL1:=Hd hl1;have HOW:=Hd how1;have HKO:=Hd hk1;have o1:=hk1.cell 0 (v:=.slice A1 l1.length c1) rfl;have hs1:=ho1.size;clear ho1 hk1 how1 hl1 p0 o0 HIH;have hd0:(0:Int)<=48+(n:Int) % 10/\48+(n:Int) % 10<=255:=by omega
  have HRD:Hid (Rd (w1.alloc (.cells #[.int .u8 (48+(n:Int) % 10)] 5)) 1 (some ⟨w1.heap.size,0,none⟩) 1 1 (bv [UInt8.ofNat (48+n % 10)])):=Hd (Rd.one w1 5 _ _ (by simp;omega));have HOD:Hid (Ow (w1.alloc (.cells #[.int .u8 (48+(n:Int) % 10)] 5)) B 5 1 A1 l1.length c1 (bv l1)):=Hd (HOW.o.alloc _);skip;go_wp2_with (at_builtin;refine wpList_row info_u8 Tryz.underlying178 rfl (by omega) rfl (.tmp 10) (.tmp 15) rfl B A1 c1 l1.length (bv l1) rfl HOD.o (some ⟨w1.heap.size,0,none⟩) 1 1 (bv [UInt8.ofNat (48+n % 10)]) rfl HRD.o (DL _) (by omega) (by omega) (by simp;omega) ?_;intro A2 c2 w2 ho2 hg2 hat2;have HO2:=Hd ho2;have HG2:=Hd hg2;have HK2:Hid (Blk w2 ob #[.slice A1 l1.length c1] 178):=Hd ((HKO.o.alloc _).grown hg2 (fun e=>by have:=(HOD.o.lt e).1;omega));have hfz:=HK2.o.frozen 0;have hcl:=HK2.o.cell 0 (v:=.slice A1 l1.length c1) rfl;clear ho2 hg2 hat2);go_end0;have hnd:l++lA (f+1) n=l1++[UInt8.ofNat (48+n % 10)]:=by rw[HF1.o,<-dI,<-HL1.o]
  rw[hnd];have ho1:fP (fun k=>k=ob∨B<=k) w w2:=(HO1.o.alloc _).grown HG2.o (fun g e _=>.inr (HOD.o.lt e).1);refine⟨rfl,ho1.setCell _ _ (fun _=>.inl rfl),A2,c2,(HK2.o.set 0 _).eq (by simp),?_⟩;rw[q9];exact(by have:=HO2.o.only ((bG (fun k=>k=ob) w2).setCell ⟨ob,0,none⟩ (.slice A2 (l1.length+1) c2) (fun _=>rfl)) (fun g e h=>by have:=(HO2.o.lt e).1;omega);simpa using this)
 have HOW:=Hd how;have HKO:=Hd hko;have HBS:=Hd hB;clear hkp hko how IH;have hd0:(0:Int)<=48+(n:Int) % 10/\48+(n:Int) % 10<=255:=by omega
 have HRD:Hid (Rd (w.alloc (.cells #[.int .u8 (48+(n:Int) % 10)] 5)) 1 (some ⟨w.heap.size,0,none⟩) 1 1 (bv [UInt8.ofNat (48+n % 10)])):=Hd (Rd.one w 5 _ _ (by simp;omega));have HOD:Hid (Ow (w.alloc (.cells #[.int .u8 (48+(n:Int) % 10)] 5)) B 5 1 A l.length c (bv l)):=Hd (HOW.o.alloc _);go_enter Tryz.func100,Tryz.ntmps100;go_wp2_with (at_builtin;refine wpList_row info_u8 Tryz.underlying178 rfl (by omega) rfl (.tmp 10) (.tmp 15) rfl B A c l.length (bv l) rfl HOD.o (some ⟨w.heap.size,0,none⟩) 1 1 (bv [UInt8.ofNat (48+n % 10)]) rfl HRD.o (DL _) (by omega) (by omega) (by simp;omega) ?_;intro A2 c2 w2 ho2 hg2 hat2;have HO2:=Hd ho2;have HG2:=Hd hg2;have HK2:Hid (Blk w2 ob #[.slice A l.length c] 178):=Hd ((HKO.o.alloc _).grown hg2 (fun e=>by have:=(HOD.o.lt e).1;omega));have hfz:=HK2.o.frozen 0;have hcl:=HK2.o.cell 0 (v:=.slice A l.length c) rfl;clear ho2 hg2 hat2);go_end0;have hnd:lA (f+1) n=[UInt8.ofNat (48+n % 10)]:=by unfold lA;rw[if_neg (by omega)];rfl
 rw[hnd];have ho1:fP (fun k=>k=ob∨B<=k) w w2:=((bG _ w).alloc _).grown HG2.o (fun g e _=>.inr (HOD.o.lt e).1);refine⟨rfl,ho1.setCell _ _ (fun _=>.inl rfl),A2,c2,(HK2.o.set 0 _).eq rfl,?_⟩;rw[q9];exact HO2.o.only ((bG (fun k=>k=ob) w2).setCell _ _ (fun _=>rfl)) (fun g e h=>by have:=(HO2.o.lt e).1;omega)
theorem QU (B pb ob:Nat):∀ f,f<=19->SB B pb ob f
 | 0,_=>fun n w l A c h=>absurd h (Nat.lt_irrefl 0)
 | f+1,h=>FW B pb ob f (by omega) (QU B pb ob f (by omega))
theorem vX (n:Int) (w:World) (h1:-9223372036854775808<=n) (h2:n<=9223372036854775807) :
 Calls Tryz.prog 59 #[.int .i64 n] w fun e w'=>e=.returned (.tuple #[.string (nTx n),.int .i64 (if nFits n then 0 else 20)])/\Below w.heap.size w w':=by
 have HFI:=Hd (KZ n w h1 h2);have HTX:Hid (nTx n=if nFits n then ⟨((if n<0 then [45] else [])++lA 19 n.natAbs).toArray⟩ else ByteArray.empty):=Hd rfl;have hft:nFits n=decide (-9007199254740992<=n/\n<=9007199254740992):=rfl;rw[<-hft] at HFI;cases hb:nFits n with
 | false =>
   rw[hb] at HFI HTX;have HT2:Hid (nTx n=ByteArray.empty):=Hd HTX.o;clear hft hb HTX;go_enter Tryz.func59,Tryz.ntmps59;go_wp2_with fail;refine HFI.o.mono ?_;rintro e w1 ⟨rfl,hb1⟩;have HB1:=Hd hb1;clear hb1;go_wp2_with fail;refine bodyPost_ret (v:=.tuple #[.string ByteArray.empty,.int .i64 20]) (by simp[results,Tryz.results59,go_sem];rfl) rfl ?_;exact⟨by rw[HT2.o],HB1.o⟩
 | true =>
   rw[hb] at HFI;have HRG:=Hd (of_decide_eq_true (hft.symm.trans hb));clear hft;by_cases hneg:n<0
   .go_enter Tryz.func59,Tryz.ntmps59;go_wp2_with fail;refine HFI.o.mono ?_;rintro e w1 ⟨rfl,hb1⟩;have HB1:=Hd hb1;clear hb1;have kp:Blk ((w1.alloc (.cells #[.slice none 0 0] 178)).alloc (.cells #[.nilFunc] 179)) (w1.heap.size+1) #[.nilFunc] 179:=by
     have:=aJ (w1.alloc (.cells #[.slice none 0 0] 178)) #[.nilFunc] 179;simpa using this
    have ko:Blk ((w1.alloc (.cells #[.slice none 0 0] 178)).alloc (.cells #[.nilFunc] 179)) w1.heap.size #[.slice none 0 0] 178:=(aJ w1 #[.slice none 0 0] 178).alloc _;have hw:Below w.heap.size w ((w1.alloc (.cells #[.slice none 0 0] 178)).alloc (.cells #[.nilFunc] 179)):=(HB1.o.alloc HB1.o.size _).alloc (by have:=HB1.o.size;simp;omega) _;have hs:((w1.alloc (.cells #[.slice none 0 0] 178)).alloc (.cells #[.nilFunc] 179)).heap.size=w1.heap.size+2:=by simp
    have hs1:=HB1.o.size;go_upto_region 5 with fail;generalize ((w1.alloc (.cells #[.slice none 0 0] 178)).alloc (.cells #[.nilFunc] 179))=w3 at kp ko hw hs ⊢;have kc:=kp.cell 0 (v:=.nilFunc) rfl;have kf:=kp.frozen 0;obtain⟨k,rfl⟩:∃ k:Nat,n=-(k:Int):=⟨n.natAbs,by omega⟩;have hk0:Blk (w3.setCell ⟨w1.heap.size+1,0,none⟩ (.func (.func 100) #[] #[.pointer (some ⟨w1.heap.size+1,0,none⟩),.pointer (some ⟨w1.heap.size,0,none⟩)])) (w1.heap.size+1) #[(.func (.func 100) #[] #[.pointer (some ⟨w1.heap.size+1,0,none⟩),.pointer (some ⟨w1.heap.size,0,none⟩)])] 179:=(kp.set 0 _).eq rfl;have hk1:Blk (w3.setCell ⟨w1.heap.size+1,0,none⟩ (.func (.func 100) #[] #[.pointer (some ⟨w1.heap.size+1,0,none⟩),.pointer (some ⟨w1.heap.size,0,none⟩)])) w1.heap.size #[.slice none 0 0] 178:=ko.setOther _ _ (by show w1.heap.size≠w1.heap.size+1;omega);have hrg:=HRG.o.1;have HW:Hid (Below w.heap.size w (w3.setCell ⟨w1.heap.size+1,0,none⟩ (.func (.func 100) #[] #[.pointer (some ⟨w1.heap.size+1,0,none⟩),.pointer (some ⟨w1.heap.size,0,none⟩)]))):=Hd (hw.setCell (p:=⟨w1.heap.size+1,0,none⟩) (by show w.heap.size<=w1.heap.size+1;omega) _);have HN:Hid (nTx (-(k:Int))=⟨([45]++lA 19 k).toArray⟩):=Hd (by rw[HTX.o,if_pos hb,if_pos hneg,Int.natAbs_neg];rfl);have hsz:(w3.setCell ⟨w1.heap.size+1,0,none⟩ (.func (.func 100) #[] #[.pointer (some ⟨w1.heap.size+1,0,none⟩),.pointer (some ⟨w1.heap.size,0,none⟩)])).heap.size=w1.heap.size+2:=by simp[World.setCell];omega
    have HS3:=Hd hs;go_upto_region 8 with fail;have HK0:=Hd hk0;have HK1:=Hd hk1;have HSZ:=Hd hsz;have o0:=hk1.cell 0 (v:=.slice none 0 0) rfl;clear hk0 hk1 ko hw hb HTX kc kf kp hs;generalize w3.setCell ⟨w1.heap.size+1,0,none⟩ (.func (.func 100) #[] #[.pointer (some ⟨w1.heap.size+1,0,none⟩),.pointer (some ⟨w1.heap.size,0,none⟩)])=w4 at HK0 HK1 HW HSZ o0 hsz ⊢;have HRD:Hid (Rd (w4.alloc (.cells #[.int .u8 45] 5)) 1 (some ⟨w4.heap.size,0,none⟩) 1 1 (bv [45])):=Hd (Rd.one w4 5 _ _ rfl);clear hsz;go_wp2_with (at_builtin;refine wpList_row info_u8 Tryz.underlying178 rfl (by omega) rfl (.tmp 16) (.tmp 17) rfl (w1.heap.size+2) none 0 0 [] rfl (dF _ _ _ _) (some ⟨w4.heap.size,0,none⟩) 1 1 (bv [45]) rfl HRD.o (DL _) (by omega) (by omega) (by have:=HSZ.o;simp;omega) ?_;intro A2 c2 w5 ho2 hg2 hat2;have HO2:=Hd ho2;have HG2:=Hd hg2;have HK2:Hid (Blk w5 w1.heap.size #[.slice none 0 0] 178):=Hd ((HK1.o.alloc _).grown hg2 (fun e=>by simp[blk] at e));have HK3:Hid (Blk w5 (w1.heap.size+1) #[(.func (.func 100) #[] #[.pointer (some ⟨w1.heap.size+1,0,none⟩),.pointer (some ⟨w1.heap.size,0,none⟩)])] 179):=Hd ((HK0.o.alloc _).grown hg2 (fun e=>by simp[blk] at e));have hfz:=HK2.o.frozen 0;have hcl:=HK2.o.cell 0 (v:=.slice none 0 0) rfl;have hcf:=HK3.o.cell 0 (v:=(.func (.func 100) #[] #[.pointer (some ⟨w1.heap.size+1,0,none⟩),.pointer (some ⟨w1.heap.size,0,none⟩)])) rfl;clear ho2 hg2 hat2);have hz5:=HG2.o.size;have hsz4:=HSZ.o;rw[show (w4.alloc (.cells #[.int .u8 45] 5)).heap.size=w4.heap.size+1 by simp] at hz5;have ho5:fP (fun k=>k=w1.heap.size) w5 (w5.setCell ⟨w1.heap.size,0,none⟩ (.slice A2 1 c2)):=(bG _ w5).setCell _ _ (fun _=>rfl);have HC:=Hd (QU (w1.heap.size+2) (w1.heap.size+1) w1.heap.size 19 (by omega) k (w5.setCell ⟨w1.heap.size,0,none⟩ (.slice A2 1 c2)) [45] A2 c2 (by omega) (by omega) (by omega) (by omega) (by omega) (by omega) (by simp[World.setCell];omega) (by simp) (HK3.o.setOther _ _ (by show w1.heap.size+1≠w1.heap.size;omega)) ((HK2.o.set 0 _).eq rfl) (HO2.o.only ho5 (fun g e h=>by have:=(HO2.o.lt e).1;omega)));have HW5:Hid (Below w.heap.size w (w5.setCell ⟨w1.heap.size,0,none⟩ (.slice A2 1 c2))):=Hd (((HW.o.alloc HW.o.size _).grown HG2.o (by have:=HW.o.size;simp;omega) (fun g e=>by simp[blk] at e)).setCell (p:=⟨w1.heap.size,0,none⟩) (by show w.heap.size<=w1.heap.size;omega) _);clear hz5 hsz4 ho5 hfz hcl hcf o0;refine HC.o.mono ?_;rintro e w6 ⟨rfl,ho6,A6,c6,hk6,how6⟩;have hc6:=hk6.cell 0 (v:=.slice A6 ([45]++lA 19 k).length c6) rfl;have HB6:=Hd (HW5.o.trans (ho6.below (B:=w.heap.size) (by have:=HW5.o.size;omega) (fun i h=>by rcases h with h | h<;>omega)));have hs6:=xG (P:=Tryz.prog) (w:=w6) 178 5 9 Tryz.underlying178 Tryz.underlying5 Tryz.underlying9 how6.rd;obtain⟨tt,htt⟩:∃ tt,tt=[45]++lA 19 k:=⟨_,rfl⟩;rw[<-htt] at hs6 hc6 HN;clear ho6 hk6 how6 htt HC;go_wp2_with fail;refine bodyPost_ret (v:=.tuple #[.string ⟨tt.toArray⟩,.int .i64 0]) (by simp[results,Tryz.results59,go_sem];try rfl) rfl ?_;refine⟨?_,HB6.o⟩;rw[HN.o];try rfl
   go_enter Tryz.func59,Tryz.ntmps59;go_wp2_with fail;refine HFI.o.mono ?_;rintro e w1 ⟨rfl,hb1⟩;have HB1:=Hd hb1;clear hb1;have kp:Blk ((w1.alloc (.cells #[.slice none 0 0] 178)).alloc (.cells #[.nilFunc] 179)) (w1.heap.size+1) #[.nilFunc] 179:=by
    have:=aJ (w1.alloc (.cells #[.slice none 0 0] 178)) #[.nilFunc] 179;simpa using this
   have ko:Blk ((w1.alloc (.cells #[.slice none 0 0] 178)).alloc (.cells #[.nilFunc] 179)) w1.heap.size #[.slice none 0 0] 178:=(aJ w1 #[.slice none 0 0] 178).alloc _;have hw:Below w.heap.size w ((w1.alloc (.cells #[.slice none 0 0] 178)).alloc (.cells #[.nilFunc] 179)):=(HB1.o.alloc HB1.o.size _).alloc (by have:=HB1.o.size;simp;omega) _;have hs:((w1.alloc (.cells #[.slice none 0 0] 178)).alloc (.cells #[.nilFunc] 179)).heap.size=w1.heap.size+2:=by simp
   have hs1:=HB1.o.size;go_upto_region 5 with fail;generalize ((w1.alloc (.cells #[.slice none 0 0] 178)).alloc (.cells #[.nilFunc] 179))=w3 at kp ko hw hs ⊢;have kc:=kp.cell 0 (v:=.nilFunc) rfl;have kf:=kp.frozen 0;obtain⟨k,rfl⟩:∃ k:Nat,n=(k:Int):=⟨n.toNat,by omega⟩;have hk0:Blk (w3.setCell ⟨w1.heap.size+1,0,none⟩ (.func (.func 100) #[] #[.pointer (some ⟨w1.heap.size+1,0,none⟩),.pointer (some ⟨w1.heap.size,0,none⟩)])) (w1.heap.size+1) #[(.func (.func 100) #[] #[.pointer (some ⟨w1.heap.size+1,0,none⟩),.pointer (some ⟨w1.heap.size,0,none⟩)])] 179:=(kp.set 0 _).eq rfl;have hk1:Blk (w3.setCell ⟨w1.heap.size+1,0,none⟩ (.func (.func 100) #[] #[.pointer (some ⟨w1.heap.size+1,0,none⟩),.pointer (some ⟨w1.heap.size,0,none⟩)])) w1.heap.size #[.slice none 0 0] 178:=ko.setOther _ _ (by show w1.heap.size≠w1.heap.size+1;omega);have hrg:=HRG.o.2;have HC:=Hd (QU (w1.heap.size+2) (w1.heap.size+1) w1.heap.size 19 (by omega) k (w3.setCell ⟨w1.heap.size+1,0,none⟩ (.func (.func 100) #[] #[.pointer (some ⟨w1.heap.size+1,0,none⟩),.pointer (some ⟨w1.heap.size,0,none⟩)])) [] none 0 (by omega) (by omega) hrg (by omega) (by omega) (by omega) (by simp[World.setCell];omega) (by simp) hk0 hk1 (dF _ _ _ _));have HW:Hid (Below w.heap.size w (w3.setCell ⟨w1.heap.size+1,0,none⟩ (.func (.func 100) #[] #[.pointer (some ⟨w1.heap.size+1,0,none⟩),.pointer (some ⟨w1.heap.size,0,none⟩)]))):=Hd (hw.setCell (p:=⟨w1.heap.size+1,0,none⟩) (by show w.heap.size<=w1.heap.size+1;omega) _);have HN:Hid (nTx (k:Int)=⟨([]++lA 19 k).toArray⟩):=Hd (by rw[HTX.o,if_pos hb,if_neg (show ¬((k:Int)<0) by omega)];rfl);clear hk0 hk1 ko hw hb HTX;go_wp2_with fail;refine HC.o.mono ?_;rintro e w5 ⟨rfl,ho5,A5,c5,hk5,how5⟩;have hc5:=hk5.cell 0 (v:=.slice A5 ([]++lA 19 k).length c5) rfl;have HB5:=Hd (HW.o.trans (ho5.below (B:=w.heap.size) (by have:=HW.o.size;omega) (fun i h=>by rcases h with h | h<;>omega)));have hs5:=xG (P:=Tryz.prog) (w:=w5) 178 5 9 Tryz.underlying178 Tryz.underlying5 Tryz.underlying9 how5.rd;rw[bP] at hs5 hc5;clear ho5 hk5 how5 kp kc kf;go_wp2_with fail;refine bodyPost_ret (v:=.tuple #[.string ⟨(lA 19 k).toArray⟩,.int .i64 0]) (by simp[results,Tryz.results59,go_sem];try rfl) rfl ?_;refine⟨?_,HB5.o⟩;rw[HN.o];rfl
open Go.Maps
theorem tQ {α:Type} [BEq α] [LawfulBEq α]:∀ {V L:List α},V.Nodup->(∀ a∈V,a∈L)->V.length<=L.length
 | [],L,_,_=>eH _
 | a::V,L,hn,hs=>by
   have h1:=List.nodup_cons.1 hn;have ha:=hs a (.head _);have h2:=tQ (V:=V) (L:=L.erase a) h1.2 (fun b hb=>(List.mem_erase_of_ne (fun e:b=a=>h1.1 (e ▸ hb))).2 (hs b (.tail _ hb)));rw[eO ha] at h2;have h3:=List.length_pos_of_mem ha;simp only[aQ];omega
theorem key_st:Keyed Tryz.prog 215:=Keyed.of_law (deep_law_gate AC (dM (by kernel_rfl)) (dM (by kernel_rfl)) (by kernel_rfl) (by kernel_rfl))
theorem LV:Tryz.prog.cellsOf 215=3:=by kernel_rfl
theorem S2:Tryz.prog.keyType 215=true:=by kernel_rfl
theorem mS (hi:(Lit.int .i64 p.scope).wf=true) (hs:p.name.size<=maxLen):∃ l,keyOf Tryz.prog 215 (pKey p)=some l:=by
 have h0:Tryz.prog.cellsOf 4=1:=by kernel_rfl
 have h1:Tryz.prog.cellsOf 3=1:=by kernel_rfl
 have h2:Tryz.prog.cellsOf 9=1:=by kernel_rfl
 have h3:1<=Tryz.prog.types.size:=dM (by kernel_rfl);obtain⟨n,hn⟩:∃ n,Tryz.prog.types.size+1=n+1+1:=⟨Tryz.prog.types.size-1,by omega⟩;unfold keyOf pKey;rw[Tryz.underlying215];simp only;rw[hn];simp[S2,Value.formed,Tryz.underlying215,LV,Program.keyLits,h0,h1,h2,Tryz.underlying4,Tryz.underlying3,Tryz.underlying9,hi,hs,Value.cells]
theorem World.ownsMap.tight2 {P:Program} {k:TypeId} {R:Value->Option (DataW H × List MemPlace)} {m:Nat} {D:DataW H} (h:w.ownsMap P k R b n D) (hm:Go.Maps.size D=m):w.ownsMap P k R b m D:=by
 subst hm;obtain⟨es,clock,h1,h2,h3,h4⟩:=h;refine⟨es,clock,h1,h2,?_,h4⟩;rw[h4];simp[Go.Maps.size,length_sorted]
def sQ (w:World) (b:Nat) (K:List Pk) (f:Pk->Bool):Prop :=
 K.Nodup/\(∀ p,f p=true↔p∈K)/\∃ D:DataW Unit,w.ownsMap Tryz.prog 215 (plainElem Tryz.prog 4) b K.length D/\Go.Maps.IsMap D/\Go.Maps.size D=K.length /\
  ∀ (p:Pk) (l:Lit),keyOf Tryz.prog 215 (pKey p)=some l->Go.Maps.has D l=f p/\D.atKey l (.lit (.bool false))=.lit (.bool (f p))
section
variable {w w':World} {b:Nat} {K:List Pk} {f:Pk->Bool}
theorem sQ.new (w:World):sQ (w.alloc (.map #[] 0)) w.heap.size [] (fun _=>false):=⟨List.nodup_nil,fun p=>by simp,.map [],World.ownsMap_made _ _ _ _,⟨[],rfl⟩,rfl,fun _ _ _=>⟨rfl,rfl⟩⟩
theorem sQ.only {F:Nat->Prop} (h:sQ w b K f) (ho:fP F w w') (hF:¬F b):sQ w' b K f:=by
 obtain⟨h1,h2,D,h3,h4⟩:=h;exact⟨h1,h2,D,gS h3 (ho.block b h3.lt hF),h4⟩
theorem sQ.lt (h:sQ w b K f):b<w.heap.size:=by obtain⟨_,_,D,h1,_⟩:=h;exact h1.lt
theorem sQ.below (h:sQ w b K f) (hb:Below w.heap.size w w'):sQ w' b K f:=h.only (aK hb (fun _=>False)) (fun h=>h)
theorem sQ.look (h:sQ w b K f) (hi:(Lit.int .i64 p.scope).wf=true) (hs:p.name.size<=maxLen):(Instr.lookup 79 (.map (some b)) (.agg #[.bool p.out,.int .i64 p.scope,.string p.name]) false).run Tryz.prog w=.ok (.bool (f p)) w:=by
 obtain⟨_,_,D,g1,g2,_,g3⟩:=h;obtain⟨l,hl⟩:=mS hi hs;obtain⟨v,ps,hrun,hv⟩:=g1.lookup key_st Tryz.underlying79 (zero_bool w) (plainElem_bool Tryz.underlying4 false) hl;rw[(g3 p l hl).2] at hv;unfold pKey at hrun;rw[hrun];have hu:Tryz.prog.underlying 4=some .bool:=Tryz.underlying4;unfold plainElem at hv;rw[hu] at hv;cases v<;>simp_all
end
theorem wp_put_MUn (hg:o.guard=none) (m x v:Operand) (hop:o.op=Op.mapUpdate 79 m x v) (b:Nat) (K:List Pk) (f:Pk->Bool) (hm:a.eval m=.map (some b)) (h:sQ w b K f) (hn:K.length<maxLen)
 (p:Pk) (hi:(Lit.int .i64 p.scope).wf=true) (hs:p.name.size<=maxLen) (hp:f p=false) (hx:a.eval x=.agg #[.bool p.out,.int .i64 p.scope,.string p.name]) (hv:a.eval v=.bool true)
 (hK:∀ w',sQ w' b (K++[p]) (fun q=>if q=p then true else f q)->w.grownBy w' (some b)->wpList Tryz.prog ops Q rest (a.put o.dst undef) w'):wpList Tryz.prog ops Q (o::rest) a w:=by
 obtain⟨hK1,hK2,D,g1,g2,g4,g3⟩:=h;obtain⟨l,hl⟩:=mS hi hs;have hnk:p∉K:=fun hk=>by rw[(hK2 p).2 hk] at hp;cases hp
 refine wpList_mapUpdate_own w hg m x v 79 hop 215 4 key_st Tryz.underlying79 _ b K.length D hm g1 hn _ _ l hx hv hl (.lit (.bool true)) [] (plainElem_bool Tryz.underlying4 true) (fun w' h1 h2=>hK w' ⟨?_,fun q=>?_,_,by rw[aS];exact h1,g2.put _ _,?_,fun q l' hl'=>?_⟩ h2)
 .rw[List.nodup_append];exact⟨hK1,by simp,fun a ha c hc e=>by rw[aR] at hc;subst hc;subst e;exact hnk ha⟩
 .rw[dB,aR,<-hK2 q];by_cases hq:q=p
  .simp[hq]
  simp[hq]
 .rw[Go.Maps.size_put (g1.tidy key_st),(g3 p l hl).1,hp,aS];simp[g4]
 by_cases hj:q=p
 .subst hj;rw[hl] at hl';injection hl' with hl';subst hl';rw[Go.Maps.atKey_put_same g2 (key_st.key hl),Go.Maps.has_put_same g2 (key_st.key hl)];simp
 have hne:l'≠l:=fun e=>hj (tM (key_st.inj hl' (e ▸ hl)))
 rw[Go.Maps.atKey_put_other hne,Go.Maps.has_put_other hne,(g3 q l' hl').1,(g3 q l' hl').2];simp only[if_neg hj,and_self]
theorem wp_del_MUn (hg:o.guard=none) (m x:Operand) (hop:o.op=Op.call {callee:=Callee.builtin Builtin.delete,args:=#[m,x],argTypes:=#[79,215]}) (b:Nat) (K:List Pk) (f:Pk->Bool) (hm:a.eval m=.map (some b)) (h:sQ w b K f)
 (p:Pk) (hi:(Lit.int .i64 p.scope).wf=true) (hs:p.name.size<=maxLen) (hp:f p=true) (hx:a.eval x=.agg #[.bool p.out,.int .i64 p.scope,.string p.name])
 (hK:∀ w',sQ w' b (K.erase p) (fun q=>if q=p then false else f q)->w.grownBy w' (some b)->wpList Tryz.prog ops Q rest (a.put o.dst (.tuple #[])) w'):wpList Tryz.prog ops Q (o::rest) a w:=by
 obtain⟨hK1,hK2,D,g1,g2,g4,g3⟩:=h;obtain⟨l,hl⟩:=mS hi hs;have hpk:p∈K:=(hK2 p).1 hp;have hsz:Go.Maps.size (D.del l)=(K.erase p).length:=by
  have h1:=Go.Maps.size_del (k:=l) (g1.tidy key_st);rw[(g3 p l hl).1,hp,if_pos rfl,g4] at h1;rw[eO hpk];omega
 refine wpList_delete_own w hg m x 79 215 hop 4 key_st Tryz.underlying79 _ b K.length D hm g1 _ l hx hl (fun w' h1 h2=>hK w' ⟨hK1.erase p,fun q=>?_,_,World.ownsMap.tight2 h1 hsz,g2.del _,hsz,fun q l' hl'=>?_⟩ h2.grown)
 .rw[List.Nodup.mem_erase_iff hK1,<-hK2 q];by_cases hq:q=p
  .simp[hq]
  simp[hq]
 by_cases hj:q=p
 .subst hj;rw[hl] at hl';injection hl' with hl';subst hl';rw[Go.Maps.atKey_del_same,Go.Maps.has_del_same];simp
 have hne:l'≠l:=fun e=>hj (tM (key_st.inj hl' (e ▸ hl)))
 rw[Go.Maps.atKey_del_other hne,Go.Maps.has_del_other hne,(g3 q l' hl').1,(g3 q l' hl').2];simp only[if_neg hj,and_self]
def Rv (v:Value):Option (DataW Value × List MemPlace):=some (.held v,[])
def IJ:Value:=.agg zA
theorem IG (w:World):(zeroValue 74).run Tryz.prog w=.ok IJ w:=by kernel_rfl
def uW (w:World) (b:Nat) (K:List Pk) (g:Pk->Option Value):Prop :=
 K.Nodup/\(∀ p,(g p).isSome=true↔p∈K)/\∃ D:DataW Value,w.ownsMap Tryz.prog 215 Rv b K.length D/\Go.Maps.IsMap D/\Go.Maps.size D=K.length /\
  ∀ (p:Pk) (l:Lit),keyOf Tryz.prog 215 (pKey p)=some l->Go.Maps.has D l=(g p).isSome/\D.atKey l (.held IJ)=.held ((g p).getD IJ)
section
variable {w w':World} {b:Nat} {K:List Pk} {g:Pk->Option Value}
theorem uW.new (w:World):uW (w.alloc (.map #[] 0)) w.heap.size [] (fun _=>none):=⟨List.nodup_nil,fun p=>by simp,.map [],World.ownsMap_made _ _ _ _,⟨[],rfl⟩,rfl,fun _ _ _=>⟨rfl,rfl⟩⟩
theorem uW.only {F:Nat->Prop} (h:uW w b K g) (ho:fP F w w') (hF:¬F b):uW w' b K g:=by
 obtain⟨h1,h2,D,h3,h4⟩:=h;exact⟨h1,h2,D,gS h3 (ho.block b h3.lt hF),h4⟩
theorem uW.lt (h:uW w b K g):b<w.heap.size:=by obtain⟨_,_,D,h1,_⟩:=h;exact h1.lt
theorem uW.below (h:uW w b K g) (hb:Below w.heap.size w w'):uW w' b K g:=h.only (aK hb (fun _=>False)) (fun h=>h)
theorem uW.look (h:uW w b K g) (hi:(Lit.int .i64 p.scope).wf=true) (hs:p.name.size<=maxLen):(Instr.lookup 80 (.map (some b)) (.agg #[.bool p.out,.int .i64 p.scope,.string p.name]) true).run Tryz.prog w=.ok (.tuple #[(g p).getD IJ,.bool (g p).isSome]) w:=by
 obtain⟨_,_,D,g1,g2,_,g3⟩:=h;obtain⟨l,hl⟩:=mS hi hs;obtain⟨v,ps,hrun,hv⟩:=g1.look_ok key_st Tryz.underlying80 (IG w) (zd:=.held IJ) (zp:=[]) rfl hl;rw[(g3 p l hl).2] at hv;unfold Rv at hv;injection hv with hv;injection hv with hv _;injection hv with hv;unfold pKey at hrun;rw[hrun,hv,(g3 p l hl).1]
end
theorem wp_put_MKp (hg:o.guard=none) (m x v:Operand) (hop:o.op=Op.mapUpdate 80 m x v) (b:Nat) (K:List Pk) (g:Pk->Option Value) (hm:a.eval m=.map (some b)) (h:uW w b K g) (hn:K.length<maxLen)
 (p:Pk) (hi:(Lit.int .i64 p.scope).wf=true) (hs:p.name.size<=maxLen) (hx:a.eval x=.agg #[.bool p.out,.int .i64 p.scope,.string p.name]) (y:Value) (hv:a.eval v=y)
 (hK:∀ w',uW w' b (if p∈K then K else K++[p]) (fun q=>if q=p then some y else g q)->w.grownBy w' (some b)->wpList Tryz.prog ops Q rest (a.put o.dst undef) w'):wpList Tryz.prog ops Q (o::rest) a w:=by
 obtain⟨hK1,hK2,D,g1,g2,g4,g3⟩:=h;obtain⟨l,hl⟩:=mS hi hs;have hsz:Go.Maps.size (D.put l (.held y))=(if p∈K then K else K++[p]).length:=by
  rw[Go.Maps.size_put (g1.tidy key_st),(g3 p l hl).1];by_cases hk:p∈K
  .rw[if_pos hk,(hK2 p).2 hk,if_pos rfl,g4]
  rw[if_neg hk,if_neg (fun e=>hk ((hK2 p).1 e)),aS,g4];rfl
 refine wpList_mapUpdate_own w hg m x v 80 hop 215 74 key_st Tryz.underlying80 _ b K.length D hm g1 hn _ _ l hx hv hl (.held y) [] rfl (fun w' h1 h2=>hK w' ⟨?_,fun q=>?_,_,World.ownsMap.tight2 h1 hsz,g2.put _ _,hsz,fun q l' hl'=>?_⟩ h2)
 .split
  .exact hK1
  next hnk =>
  rw[List.nodup_append];exact⟨hK1,by simp,fun a ha c hc e=>by rw[aR] at hc;subst hc;subst e;exact hnk ha⟩
 .by_cases hq:q=p
  .subst hq;simp only[if_pos];split
   .next hk=>simp[hk]
   simp
  simp only[if_neg hq];rw[hK2 q];split
  .rfl
  simp[hq]
 by_cases hj:q=p
 .subst hj;rw[hl] at hl';injection hl' with hl';subst hl';rw[Go.Maps.atKey_put_same g2 (key_st.key hl),Go.Maps.has_put_same g2 (key_st.key hl)];simp
 have hne:l'≠l:=fun e=>hj (tM (key_st.inj hl' (e ▸ hl)))
 rw[Go.Maps.atKey_put_other hne,Go.Maps.has_put_other hne,(g3 q l' hl').1,(g3 q l' hl').2];simp only[if_neg hj,and_self]
theorem II (w:World):(zeroValue 9).run Tryz.prog w=.ok (.string ⟨#[]⟩) w:=by kernel_rfl
def j5 (w:World) (b n:Nat) (f:ByteArray->Option ByteArray):Prop :=
 ∃ D:DataW Unit,w.ownsMap Tryz.prog 9 (plainElem Tryz.prog 9) b n D/\Go.Maps.IsMap D /\
   ∀ s:ByteArray,Go.Maps.has D (.string s.data.toList)=(f s).isSome/\D.atKey (.string s.data.toList) (.lit (.string []))=.lit (.string ((f s).getD ByteArray.empty).data.toList)
section
variable {w w':World} {b n:Nat} {f:ByteArray->Option ByteArray}
theorem j5.new (w:World):j5 (w.alloc (.map #[] 0)) w.heap.size 0 (fun _=>none):=⟨.map [],World.ownsMap_made _ _ _ _,⟨[],rfl⟩,fun k=>⟨rfl,rfl⟩⟩
theorem j5.only {F:Nat->Prop} (h:j5 w b n f) (ho:fP F w w') (hF:¬F b):j5 w' b n f:=by
 obtain⟨D,h1,h2,h3⟩:=h;exact⟨D,gS h1 (ho.block b h1.lt hF),h2,h3⟩
theorem j5.lt (h:j5 w b n f):b<w.heap.size:=by obtain⟨D,h1,_⟩:=h;exact h1.lt
theorem j5.below (h:j5 w b n f) (hb:Below w.heap.size w w'):j5 w' b n f:=h.only (aK hb (fun _=>False)) (fun h=>h)
theorem bytes_eq (h:s.data.toList=d.data.toList):s=d:=by
 cases s;cases d;simp at h;rw[h]
theorem j5.look (h:j5 w b n f) (hd:d.size<=maxLen):(Instr.lookup 78 (.map (some b)) (.string d) true).run Tryz.prog w=.ok (.tuple #[.string ((f d).getD ByteArray.empty),.bool (f d).isSome]) w:=by
 obtain⟨D,g1,g2,g3⟩:=h;obtain⟨v,ps,hrun,hv⟩:=g1.look_ok iQ Tryz.underlying78 (II w) (plainElem_string Tryz.underlying9 (s:=⟨#[]⟩) (by show 0<=maxLen;unfold maxLen;omega)) (iP hd);have h3:=(g3 d).2;obtain⟨s,rfl,hz,_⟩:=plainElem_string_inv Tryz.underlying9 hv;injection hz with hz _;rw[hrun,(g3 d).1];have:D.atKey (.string d.data.toList) (.lit (.string (⟨#[]⟩:ByteArray).data.toList))=.lit (.string ((f d).getD ByteArray.empty).data.toList):=h3;rw[this] at hz;injection hz with hz;injection hz with hz;rw[bytes_eq hz]
end
theorem put_MIds (hg:o.guard=none) (m x v:Operand) (hop:o.op=Op.mapUpdate 78 m x v) (b n:Nat) (f:ByteArray->Option ByteArray) (hm:a.eval m=.map (some b)) (h:j5 w b n f) (hn:n<maxLen)
 (d t:ByteArray) (hd:d.size<=maxLen) (ht:t.size<=maxLen) (hx:a.eval x=.string d) (hv:a.eval v=.string t)
 (hK:∀ w',j5 w' b (n+1) (fun s=>if s=d then some t else f s)->w.grownBy w' (some b)->wpList Tryz.prog ops Q rest (a.put o.dst undef) w'):wpList Tryz.prog ops Q (o::rest) a w:=by
 obtain⟨D,g1,g2,g3⟩:=h;refine wpList_mapUpdate_own w hg m x v 78 hop 9 9 iQ Tryz.underlying78 _ b n D hm g1 hn _ _ (.string d.data.toList) hx hv (iP hd) (.lit (.string t.data.toList)) [] (plainElem_string Tryz.underlying9 ht) (fun w' h1 h2=>hK w' ⟨_,h1,g2.put _ _,fun s=>?_⟩ h2);by_cases hj:s=d
 .subst hj;rw[Go.Maps.atKey_put_same g2 (i5 _),Go.Maps.has_put_same g2 (i5 _)];simp
 have hne:Lit.string s.data.toList≠Lit.string d.data.toList:=fun e=>qF hj (by injection e)
 rw[Go.Maps.atKey_put_other hne,Go.Maps.has_put_other hne,(g3 s).1,(g3 s).2];simp only[if_neg hj,and_self]
def Va.tr (v:Va):List Tr:=lB v.unk::lB v.lst::(v.v.tr++[lI (v.most:Int)])
theorem Va.trlen (v:Va):v.tr.length=9:=by cases v;simp[Va.tr,dK]
section
variable {S:Nat->Prop} {w:World}
theorem Va.at_iff {cs:List Value}:Trs.at S w v.tr cs↔∃ vs,cs=.bool v.unk::.bool v.lst::(vs++[.int .i64 (v.most:Int)])/\Trs.at S w v.v.tr vs/\(Lit.int .i64 (v.most:Int)).wf=true:=by
 unfold Va.tr;constructor
 .intro h;obtain⟨_,rfl,_,h⟩:=fQ.1 h;obtain⟨_,rfl,_,h⟩:=fQ.1 h;obtain⟨vs,_,rfl,h1,h⟩:=Trs.at.app.1 h;obtain⟨_,rfl,h2,h⟩:=fQ.1 h;obtain rfl:=gJ.1 h;exact⟨vs,rfl,h1,h2⟩
 rintro⟨vs,rfl,h1,h2⟩;exact fQ.2 ⟨_,rfl,trivial,fQ.2 ⟨_,rfl,trivial,Trs.at.app.2 ⟨vs,_,rfl,h1,fQ.2 ⟨_,rfl,h2,gJ.2 rfl⟩⟩⟩⟩
theorem fT {cs:List Value} (h:Trs.at S w v.tr cs):∃ (VA VB:Option Addr) (vc vd:Nat),cs=(kA v VA vc VB vd).toList/\Ls S w 6 80 Vl.tr VA vc v.v.list/\Ss S w VB vd v.v.keys/\(Lit.int .i8 v.v.kind).wf=true/\(Lit.int .i64 v.v.num).wf=true/\v.v.text.size<=9007199254740992:=by
 obtain⟨vs,rfl,h1,h2⟩:=Va.at_iff.1 h;obtain⟨A,c,B,d,rfl,k0,k1,k2,k3,k4⟩:=Vl.at_iff.1 h1;exact⟨A,B,c,d,rfl,k3,k4,k0,k1,k2⟩
theorem sV {VA VB:Option Addr} {vc vd:Nat} (h:Trs.at S w v.v.tr [.int .i8 v.v.kind,.bool v.v.bool,.int .i64 v.v.num,.string v.v.text,.slice VA v.v.list.length vc,.slice VB v.v.keys.length vd]) (hm:v.most<=1000000000):Trs.at S w v.tr (kA v VA vc VB vd).toList :=
 Va.at_iff.2 ⟨_,rfl,h,by simp[Lit.wf,IntKind.min,IntKind.max,IntKind.bits,IntKind.signed];omega⟩
theorem sF:Trs.at S w gV.tr [.int .i8 0,.bool false,.int .i64 0,.string ⟨#[]⟩,.slice none 0 0,.slice none 0 0] :=
 Vl.at_iff.2 ⟨none,0,none,0,rfl,by decide,by decide,by show ByteArray.empty.size<=_;decide,cF _ _ _ _ (by omega) _,cF _ _ _ _ (by omega) _⟩
theorem IT (h:s.size<=9007199254740992):Trs.at S w (jO s).tr [.int .i8 3,.bool false,.int .i64 0,.string s,.slice none 0 0,.slice none 0 0] :=
 Vl.at_iff.2 ⟨none,0,none,0,rfl,by show (Lit.int .i8 3).wf=true;decide,by show (Lit.int .i64 0).wf=true;decide,h,cF _ _ _ _ (by omega) _,cF _ _ _ _ (by omega) _⟩
theorem QG {n:Int} (h:(Lit.int .i64 n).wf=true):Trs.at S w (oA n).tr [.int .i8 2,.bool false,.int .i64 n,.string ⟨#[]⟩,.slice none 0 0,.slice none 0 0] :=
 Vl.at_iff.2 ⟨none,0,none,0,rfl,by show (Lit.int .i8 2).wf=true;decide,h,by show ByteArray.empty.size<=_;decide,cF _ _ _ _ (by omega) _,cF _ _ _ _ (by omega) _⟩
theorem rU:Trs.at S w gE.tr zA.toList:=sV (v:=gE) (VA:=none) (VB:=none) (vc:=0) (vd:=0) sF (by decide)
theorem SV (h:n<=1000000000):Trs.at S w (Va.mk true false gV n).tr [.bool true,.bool false,.int .i8 0,.bool false,.int .i64 0,.string ⟨#[]⟩,.slice none 0 0,.slice none 0 0,.int .i64 (n:Int)]:=sV (v:=⟨true,false,gV,n⟩) (VA:=none) (VB:=none) (vc:=0) (vd:=0) sF h
theorem SW (hs:s.size<=9007199254740992) (h:n<=1000000000):Trs.at S w (Va.mk false false (jO s) n).tr [.bool false,.bool false,.int .i8 3,.bool false,.int .i64 0,.string s,.slice none 0 0,.slice none 0 0,.int .i64 (n:Int)]:=sV (v:=⟨false,false,jO s,n⟩) (VA:=none) (VB:=none) (vc:=0) (vd:=0) (IT hs) h
end
theorem wf_i64 {n:Int} (h1:-9223372036854775808<=n) (h2:n<=9223372036854775807):(Lit.int .i64 n).wf=true:=by
 simp[Lit.wf,IntKind.min,IntKind.max,IntKind.bits,IntKind.signed];omega
theorem iY (h:Blk w q #[c0,c1,c2,c3,c4,c5,c6,c7,c8] t):w.cell? ⟨q,0,none⟩=some c0/\w.cell? ⟨q,1,none⟩=some c1/\w.cell? ⟨q,2,none⟩=some c2/\w.cell? ⟨q,3,none⟩=some c3/\w.cell? ⟨q,4,none⟩=some c4/\w.cell? ⟨q,5,none⟩=some c5/\w.cell? ⟨q,6,none⟩=some c6/\w.cell? ⟨q,7,none⟩=some c7/\w.cell? ⟨q,8,none⟩=some c8 :=
 ⟨h.cell 0 rfl,h.cell 1 rfl,h.cell 2 rfl,h.cell 3 rfl,h.cell 4 rfl,h.cell 5 rfl,h.cell 6 rfl,h.cell 7 rfl,h.cell 8 rfl⟩
theorem RY {a:Addr} (h:i7 w a [c0,c1,c2,c3,c4,c5,c6,c7,c8]):w.cell? a=some c0/\w.cell? ⟨a.block,a.off+1,none⟩=some c1/\w.cell? ⟨a.block,a.off+2,none⟩=some c2/\w.cell? ⟨a.block,a.off+3,none⟩=some c3/\w.cell? ⟨a.block,a.off+4,none⟩=some c4/\w.cell? ⟨a.block,a.off+5,none⟩=some c5/\w.cell? ⟨a.block,a.off+6,none⟩=some c6/\w.cell? ⟨a.block,a.off+7,none⟩=some c7/\w.cell? ⟨a.block,a.off+8,none⟩=some c8 :=
 ⟨h 0 _ rfl,h 1 _ rfl,h 2 _ rfl,h 3 _ rfl,h 4 _ rfl,h 5 _ rfl,h 6 _ rfl,h 7 _ rfl,h 8 _ rfl⟩
structure Vh where
 wb:Nat
 ib:Nat
 ub:Nat
 kb:Nat
 SA:Option Addr
 sC:Nat
 NA:Option Addr
 nC:Nat
 PA:Option Addr
 pC:Nat
 CA:Option Addr
 cC:Nat
 EA:Option Addr
 eC:Nat
 X:Nat->Prop
def Vh.F (W:Vh):Nat->Prop:=fun k=>k=W.wb∨k=W.ub∨k=W.kb
def Vh.S (W:Vh):Nat->Prop:=fun k=>¬W.F k/\¬W.X k
def Vh.priv (W:Vh) (a b:Nat):Vh:={W with X:=fun k=>W.X k∨(a<=k/\k<b)}
structure Fxv (Γ:Eg) (W:Vh) (w:World):Prop where
 n1:W.wb≠W.ub
 n2:W.wb≠W.kb
 n3:W.ub≠W.kb
 ib:W.S W.ib
 xl:∀ k,W.X k->k<w.heap.size
 sc:Ls W.S w 7 144 Sc.tr W.SA W.sC Γ.G.sc
 nd:Ls W.S w 11 200 Nd.tr W.NA W.nC Γ.G.nd
 ps:Ls W.S w 1 24 oB W.PA W.pC Γ.P
 cs:Ls W.S w 1 24 rY W.CA W.cC Γ.G.O
 on:Rd w 1 W.EA Γ.G.on.length W.eC (Γ.G.on.map .bool)
 onb:∀ ad,W.EA=some ad->0<Γ.G.on.length->W.S ad.block
 ids:∃ n,j5 w W.ib n Γ.ids
 vo:∃ w0,j4 w0/\Below w0.heap.size w0 w/\∀ k,W.F k∨W.X k->w0.heap.size<=k
def P3 (S:Nat->Prop) (w:World):Option Va->Option Value->Prop
 | none,x=>x=none
 | some v,x=>∃ cs:List Value,x=some (.agg cs.toArray)/\Trs.at S w v.tr cs
structure Dv (Γ:Eg) (W:Vh) (s:Es) (w:World):Prop where
 wk:Blk w W.wb #[.slice W.SA Γ.G.sc.length W.sC,.slice W.NA Γ.G.nd.length W.nC,.slice W.PA Γ.P.length W.pC,.slice W.CA Γ.G.O.length W.cC,.slice W.EA Γ.G.on.length W.eC,.map (some W.ib),.string Γ.lg,.map (some W.ub),.map (some W.kb),.int .i64 (s.e:Nat)] 82
 und:∃ K:List Pk,(∀ p∈K,p∈places 0 Γ.G.sc)/\sQ w W.ub K s.und
 kept:∃ (K:List Pk) (g:Pk->Option Value),(∀ p∈K,p∈places 0 Γ.G.sc)/\uW w W.kb K g/\∀ p,P3 W.S w (s.kept p) (g p)
 ok:o9 s
section
variable {Γ:Eg} {W:Vh} {w w':World} {s:Es}
theorem P3.keep {S S':Nat->Prop} {o:Option Va} {x:Option Value} (h:P3 S w o x) (hk:∀ p:Addr,p.block<w.heap.size->S p.block->w'.cell? p=w.cell? p) (hS:∀ k,S k->k<w.heap.size->S' k):P3 S' w' o x:=by
 cases o with
 | none=>exact h
 | some v=>obtain⟨cs,h1,h2⟩:=h;exact⟨cs,h1,Trs.at.keep (fun p hp hs=>hk p hp hs.1) (fun k hk=>hS k hk.1 hk.2) _ _ (Trs.at.bound _ _ h2)⟩
theorem P3.only {S F:Nat->Prop} {o:Option Va} {x:Option Value} (h:P3 S w o x) (ho:fP F w w') (hF:∀ k,S k->¬F k):P3 S w' o x:=h.keep (fun p hp hs=>cell_only ho hp (hF _ hs)) (fun _ h _=>h)
theorem Ls.gain {S S':Nat->Prop} {sz c:Nat} {tr:α->List Tr} {A:Option Addr} {l:List α} (h:Ls S w sz b tr A c l) (hS:∀ k,S k->k<w.heap.size->S' k):Ls S' w sz b tr A c l:=h.bound.mono (fun k hk=>hS k hk.1 hk.2)
theorem Fxv.off (h:Fxv Γ W w) (ho:fP P w w') (hP:∀ k,k<w.heap.size->P k->W.X k∨W.F k):Fxv Γ W w':=by
 have hS:∀ k,W.S k/\k<w.heap.size->¬P k:=fun k hk hf=>by
  rcases hP k hk.2 hf with h1 | h1
  .exact hk.1.2 h1
  exact hk.1.1 h1
 obtain⟨n,hi⟩:=h.ids;exact⟨h.n1,h.n2,h.n3,h.ib,fun k hk=>aO (h.xl k hk) ho.size,(h.sc.bound.only ho hS).mono (fun _ h=>h.1),(h.nd.bound.only ho hS).mono (fun _ h=>h.1),(h.ps.bound.only ho hS).mono (fun _ h=>h.1),(h.cs.bound.only ho hS).mono (fun _ h=>h.1),h.on.only ho (fun ad e hn hf=>by
  have hlt:ad.block<w.heap.size:=by
   have:=h.on;rw[e] at this;exact this.lt (by rw[cX];exact hn)
  exact hS _ ⟨h.onb ad e hn,hlt⟩ hf),h.onb,⟨n,hi.only ho (fun hf=>hS _ ⟨h.ib,hi.lt⟩ hf)⟩,by
  obtain⟨w0,v1,v2,v3⟩:=h.vo;exact⟨w0,v1,⟨ho.os.trans v2.os,ho.tape.trans v2.tape,ho.output.trans v2.output,bB v2.size ho.size,fun k hk=>(ho.block k (aO hk v2.size) (fun hp=>by
   have:=hP k (aO hk v2.size) hp;have:=v3 k (this.elim .inr .inl);omega)).trans (v2.block k hk)⟩,v3⟩⟩
theorem Fxv.step (h:Fxv Γ W w) (ho:fP W.F w w'):Fxv Γ W w':=h.off ho (fun _ _ h=>.inr h)
theorem Fxv.below (h:Fxv Γ W w) (hb:Below w.heap.size w w'):Fxv Γ W w':=h.off (P:=fun _=>False) (aK hb _) (fun k _ hk=>hk.elim)
theorem Dv.off (h:Dv Γ W s w) (ho:fP P w w') (hP:∀ k,k<w.heap.size->P k->W.X k/\¬W.F k):Dv Γ W s w':=by
 obtain⟨K,h1,h2⟩:=h.und;obtain⟨L,g,h3,h4,h5⟩:=h.kept;exact⟨h.wk.only ho (fun e=>(hP _ h.wk.lt e).2 (.inl rfl)),⟨K,h1,h2.only ho (fun e=>(hP _ h2.lt e).2 (.inr (.inl rfl)))⟩,⟨L,g,h3,h4.only ho (fun e=>(hP _ h4.lt e).2 (.inr (.inr rfl))),fun p=>(h5 p).keep (fun q hq hs=>cell_only ho hq (fun e=>hs.2 (hP _ hq e).1)) (fun _ h _=>h)⟩,h.ok⟩
theorem Dv.below (h:Dv Γ W s w) (hb:Below w.heap.size w w'):Dv Γ W s w':=h.off (P:=fun _=>False) (aK hb _) (fun k _ hk=>hk.elim)
theorem Dv.lts (h:Dv Γ W s w):∀ k,W.F k->k<w.heap.size:=fun k hk=>by
 obtain⟨K,h1,h2⟩:=h.und;obtain⟨L,g,h3,h4,h5⟩:=h.kept;rcases hk with rfl | rfl | rfl
 .exact h.wk.lt
 .exact h2.lt
 exact h4.lt
theorem Fxv.new (hF:Fxv Γ W w) (h:Dv Γ W s w) (hk:w.heap.size<=k):W.S k:=⟨fun hf=>by have:=h.lts k hf;omega,fun hf=>by have:=hF.xl k hf;omega⟩
theorem Fxv.priv (hF:Fxv Γ W w) (hb:Below w.heap.size w w') {b:Nat} (hl:b<=w'.heap.size):Fxv Γ (W.priv w.heap.size b) w':=by
 have h:=hF.below hb;have hS:∀ k,W.S k->k<w.heap.size->(W.priv w.heap.size b).S k:=fun k hk hl=>⟨hk.1,fun hx=>hx.elim hk.2 (fun hx=>by omega)⟩
 obtain⟨n,hi⟩:=hF.ids;exact⟨h.n1,h.n2,h.n3,hS _ hF.ib hi.lt,fun k hk=>hk.elim (h.xl k) (fun hx=>by omega),(hF.sc.gain hS).below hb,(hF.nd.gain hS).below hb,(hF.ps.gain hS).below hb,(hF.cs.gain hS).below hb,h.on,fun ad e hn=>hS _ (hF.onb ad e hn) (by
  have:=hF.on;change W.EA=some ad at e;rw[e] at this;exact this.lt (by rw[cX];exact hn)),h.ids,by
  obtain⟨w0,v1,v2,v3⟩:=hF.vo;have hz:=v2.size;obtain⟨w1,u1,u2,u3⟩:=h.vo;exact⟨w0,v1,v2.trans (hb.mono v2.size),fun k hk=>by
   rcases hk with hk | hk | hk
   .exact v3 k (.inl hk)
   .exact v3 k (.inr hk)
   omega⟩⟩
theorem Fxv.vok (h:Fxv Γ W w):j4 w:=by
 obtain⟨w0,v1,v2,v3⟩:=h.vo;exact v1.below v2
theorem Dv.priv (hD:Dv Γ W s w) (hb:Below w.heap.size w w') (b:Nat):Dv Γ (W.priv w.heap.size b) s w':=by
 have h:=hD.below hb;obtain⟨K,h1,h2⟩:=h.und;obtain⟨L,g,h3,h4,h5⟩:=hD.kept;exact⟨h.wk,⟨K,h1,h2⟩,⟨L,g,h3,h4.below hb,fun p=>(h5 p).keep (fun q hq _=>hb.cell hq) (fun k hk hl=>⟨hk.1,fun hx=>hx.elim hk.2 (fun hx=>by omega)⟩)⟩,h.ok⟩
theorem CG {W:Vh} {a:Nat} (h:(W.priv a b).S k):W.S k:=⟨h.1,fun hx=>h.2 (.inl hx)⟩
theorem Dv.leave {a:Nat} (hD:Dv Γ (W.priv a b) s w):Dv Γ W s w:=by
 obtain⟨L,g,h3,h4,h5⟩:=hD.kept;exact⟨hD.wk,hD.und,⟨L,g,h3,h4,fun p=>(h5 p).keep (fun _ _ _=>rfl) (fun k hk _=>CG hk)⟩,hD.ok⟩
abbrev fG:=@Dv.leave
theorem Trs.at.priv {ts:List Tr} {cs:List Value} (h:Trs.at W.S w ts cs) (hb:Below w.heap.size w w') (b:Nat):Trs.at (W.priv w.heap.size b).S w' ts cs :=
 Trs.at.keep (fun q hq _=>hb.cell hq) (fun k hk=>⟨hk.1.1,fun hx=>hx.elim hk.1.2 (fun hx=>by have:=hk.2;omega)⟩) _ _ (Trs.at.bound _ _ h)
theorem Trs.at.leave {a:Nat} {cs:List Value} (h:Trs.at (W.priv a b).S w ts cs):Trs.at W.S w ts cs:=h.mono (fun _ hk=>CG hk)
theorem Trs.at.off {cs:List Value} (h:Trs.at W.S w ts cs) (ho:fP P w w') (hP:∀ k,k<w.heap.size->P k->W.X k∨W.F k):Trs.at W.S w' ts cs :=
 Trs.at.keep (fun q hq hs=>cell_only ho hq (fun e=>by
  rcases hP _ hq e with h1 | h1
  .exact hs.2 h1
  exact hs.1 h1)) (fun _ h=>h) _ _ h
theorem Trs.at.step {cs:List Value} (h:Trs.at W.S w ts cs) (ho:fP W.F w w'):Trs.at W.S w' ts cs:=h.off ho (fun _ _ h=>.inr h)
end
def ValO (Γ:Eg) (W:Vh) (r:Va × Es) (w:World) (e:Ending) (w':World):Prop:=∃ cs:List Value,e=.returned (.agg cs.toArray)/\Trs.at W.S w' r.1.tr cs/\Dv Γ W r.2 w'/\fP W.F w w'
variable {W:Vh}
theorem fP.F2 {w1 w2:World} (h:fP W.F w w1) (k:fP W.F w1 w2):fP W.F w w2:=h.trans k (fun _ _ h=>h)
theorem Dv.turn {Γ:Eg} {s s':Es} {w':World} (hF:Fxv Γ W w) (h:Dv Γ W s w) (ho:fP (fun k=>k=W.wb) w w') (hu:s'.und=s.und) (hk:s'.kept=s.kept) (hok:o9 s') (hwk:∀ s,s=s'->Blk w' W.wb #[.slice W.SA Γ.G.sc.length W.sC,.slice W.NA Γ.G.nd.length W.nC,.slice W.PA Γ.P.length W.pC,.slice W.CA Γ.G.O.length W.cC,.slice W.EA Γ.G.on.length W.eC,.map (some W.ib),.string Γ.lg,.map (some W.ub),.map (some W.kb),.int .i64 (s.e:Nat)] 82):Dv Γ W s' w':=by
 obtain⟨K,h1,h2⟩:=h.und;obtain⟨L,g,h3,h4,h5⟩:=h.kept;exact⟨hwk s' rfl,⟨K,h1,by rw[hu];exact h2.only ho (fun e=>hF.n1 e.symm)⟩,⟨L,g,h3,h4.only ho (fun e=>hF.n2 e.symm),fun p=>by rw[hk];exact(h5 p).only ho (fun k hk e=>hk.1 (.inl e))⟩,hok⟩
theorem fZ (Γ:Eg) (W:Vh) (s:Es) (w:World) (hF:Fxv Γ W w) (hD:Dv Γ W s w) (n:Nat) (hn:n<=1000) :
 Calls Tryz.prog 58 #[.pointer (some ⟨W.wb,0,none⟩),.int .i64 (n:Int)] w (ValO Γ W (gE,s.fail n) w):=by
 obtain⟨W1,hW1⟩:∃ W1,W1=w.alloc (.cells zA 74):=⟨_,rfl⟩;have hb1:Below w.heap.size w W1:=by rw[hW1];exact(aB _ w).alloc (aA _) _
 have hrb:Blk W1 w.heap.size zA 74:=by rw[hW1];exact aJ w _ _
 have c9:=(hD.below hb1).wk.cell 9 rfl;have hfz:=(hD.below hb1).wk.frozen 9;have HD:=Hd hD;have HF:=Hd hF;have HLT:=Hd (hD.lts _ (.inl rfl));have HB1:=Hd hb1;have HRB:=Hd hrb;have HW1:=Hd hW1;have HBW:=Hd (hD.below hb1).wk;clear hD hF hb1 hrb hW1;by_cases he:s.e=0
 .rw[he] at c9;have HE:=Hd he;clear he;have hrb2:Blk (W1.setCell ⟨W.wb,9,none⟩ (.int .i64 (n:Int))) w.heap.size zA 74:=HRB.o.setOther _ _ (fun e=>by have:=HLT.o;change w.heap.size=W.wb at e;omega);have HR2:=Hd hrb2;clear hrb2;go_enter Tryz.func58,Tryz.ntmps58;go_upto_region 1 with fail;rw[<-HW1.o];go_wp2_with ((with_reducible refine is_store ?_);refine wpList_store_blk rfl 74 _ _ rfl w.heap.size zA zA 74 rfl rfl HR2.o rfl (by kernel_rfl) (by simp[Value.oneCell']) ?_;intro w5 hk5 ho5;have HK5:=Hd hk5;have HO5:=Hd ho5;clear hk5 ho5);obtain⟨r0,r1,r2,r3,r4,r5,r6,r7,r8⟩:=iY HK5.o;refine bodyPost_ret (v:=.agg zA) (by simp[results,Tryz.results58,go_sem,r0,r1,r2,r3,r4,r5,r6,r7,r8]) rfl ?_;have ho1:fP (fun k=>k=W.wb) w w5:=(fP.setCell (F:=fun k=>k=W.wb) (aK HB1.o _) ⟨W.wb,9,none⟩ (.int .i64 (n:Int)) (fun _=>rfl)).trans HO5.o (fun k hk e=>by omega);refine⟨_,rfl,rU,Dv.turn HF.o HD.o ho1 rfl rfl (HD.o.ok.fail hn) (fun s' hs'=>?_),ho1.mono (fun k _ h=>.inl h)⟩;subst hs';have h1:=(HBW.o.set 9 (.int .i64 (n:Int))).only HO5.o (fun e=>by have:=HLT.o;omega);refine h1.eq ?_;unfold Es.fail;rw[HE.o];rfl
 have hne:((s.e:Int)==0)=false:=by simpa using he
 have HE:Hid (s.fail n=s):=Hd (by unfold Es.fail;rw[if_neg he]);clear he;go_enter Tryz.func58,Tryz.ntmps58;go_upto_region 1 with fail;rw[<-HW1.o];go_wp2_with ((with_reducible refine is_store ?_);refine wpList_store_blk rfl 74 _ _ rfl w.heap.size zA zA 74 rfl rfl HRB.o rfl (by kernel_rfl) (by simp[Value.oneCell']) ?_;intro w5 hk5 ho5;have HK5:=Hd hk5;have HO5:=Hd ho5;clear hk5 ho5);obtain⟨r0,r1,r2,r3,r4,r5,r6,r7,r8⟩:=iY HK5.o;refine bodyPost_ret (v:=.agg zA) (by simp[results,Tryz.results58,go_sem,r0,r1,r2,r3,r4,r5,r6,r7,r8]) rfl ?_;have hbl:Below w.heap.size w w5:=HO5.o.belowB HB1.o (fun k hk=>by omega);rw[HE.o];exact⟨_,rfl,rU,HD.o.below hbl,aK hbl _⟩
theorem PV {W:World} {cs:Array Value} (h:W.heap.size=q):Blk (W.alloc (.cells cs t)) q cs t:=by subst h;exact aJ _ _ _
theorem retV {fn:Func} {R:Ending->World->Prop} {s:Nat} (hf:fn.results=#[.cell s 74]) (hk:Blk w q #[c0,c1,c2,c3,c4,c5,c6,c7,c8] 74) (hR:R (.returned (.agg #[c0,c1,c2,c3,c4,c5,c6,c7,c8])) w) (hs:a.tmps.getD s undef=.pointer (some ⟨q,0,none⟩):=by rfl) (hd:a.defers=[]:=by rfl):bodyPost Tryz.prog fn R .ret a w:=by
 obtain⟨r0,r1,r2,r3,r4,r5,r6,r7,r8⟩:=iY hk;have hs':a.tmps[s]?.getD undef=.pointer (some ⟨q,0,none⟩):=by simpa using hs
 exact bodyPost_ret (by simp[results,hf,hs',go_sem,r0,r1,r2,r3,r4,r5,r6,r7,r8]) hd hR
theorem stV {x y:Operand} {cells cs:Array Value} (hb:Blk w b cs 74) (h:∀ w',Blk w' b cells 74->fP (fun k=>k=b) w w'->wpList Tryz.prog ops Q rest (a.put o.dst undef) w') (hgd:o.guard=none:=by rfl) (ho:o.op=.store 74 x y:=by rfl) (hx:a.eval x=.pointer (some ⟨b,0,none⟩):=by rfl) (hy:a.eval y=.agg cells:=by rfl) (hs:cells.size=cs.size:=by rfl) (h9:cells.size=9:=by rfl) (h1:cells.all (·.oneCell')=true:=by simp[Value.oneCell']):wpList Tryz.prog ops Q (o::rest) a w :=
 wpList_store_blk hgd 74 x y ho b cells cs 74 hx hy hb hs (by rw[h9];kernel_rfl) h1 h
