/- Part of the proof. -/
import Derived.Defers
import Derived.Recover
import Derived.Test.YtjmklmngikpeaaaGreatDoorCn18
set_option maxRecDepth 100000
set_option maxHeartbeats 8000000
set_option linter.unusedVariables false
set_option linter.unusedSimpArgs false
namespace Go.Proofs.YtjmklmngikpeaaaGreatDoor
open Go.RowKit
variable {es:Array MapEntry}{c:Cd}{l:List Cd}{ps:List Gv}{K b i k:Nat}{S:Nat->Prop}{A:Option Addr}{w:World}
theorem NO (b4 b5:Nat) (w:World) :
 CallsD Tryz.prog 118 #[.pointer (some ⟨b4,0,none⟩),.pointer (some ⟨b5,0,none⟩)] .returning w fun e u' w'=>e=.returned (.tuple #[])/\u'=.returning/\w'=w:=by
 refine callsD_of_wpS Tryz.func118 rfl fun c₀ cs hu=>?_
 apply wpS_seq;apply wpS_region;simp[wpOpsS,go_sem,recoverD,hu,Tryz.ntmps118,Exit.thenS];refine wpS_of_wp ?_;go_wp2;refine⟨rfl,.returning,?_,.tuple #[],by simp[results,Tryz.results118,go_sem],rfl,rfl,rfl⟩;cases c₀;simp_all
theorem CE (x:TypeId) (w:World):(Instr.typeAssert (.iface 191 (.agg #[])) x 191 true).run Tryz.prog w=.ok (.tuple #[.agg #[],.bool true]) w:=by
 unfold Instr.typeAssert;simp[run_underlying Tryz.underlying191]
theorem QT (b4 b5:Nat) (c4 c5:Value) (t4 t5:TypeId) (w:World) (h4:Blk w b4 #[c4] t4) (h5:Blk w b5 #[c5] t5) (hne:b4≠b5) :
 CallsD Tryz.prog 118 #[.pointer (some ⟨b4,0,none⟩),.pointer (some ⟨b5,0,none⟩)] (.panicking [{v:=.iface 191 (.agg #[]),recovered:=false}]) w fun e u' w' =>
  e=.returned (.tuple #[])/\u'=.panicking [{v:=.iface 191 (.agg #[]),recovered:=true}]/\Blk w' b4 #[.slice none 0 0] t4/\Blk w' b5 #[.int .i64 150] t5/\fP (fun k=>k=b4∨k=b5) w w':=by
 have hta:=fun x=>CE x w
 have k4:=h4.alloc (.cells #[] 191)
 have k5:=h5.alloc (.cells #[] 191)
 have a4:=k4.cell 0 (v:=c4) rfl
 have z4:=k4.frozen 0
 have k4':=(k4.set 0 (.slice none 0 0)).eq (cs':=#[.slice none 0 0]) (by simp)
 have k5':=k5.setOther ⟨b4,0,none⟩ (.slice none 0 0) (fun e=>hne e.symm)
 have a5:=k5'.cell 0 (v:=c5) rfl
 have z5:=k5'.frozen 0
 have K4:=Hd (k4'.setOther ⟨b5,0,none⟩ (.int .i64 150) (fun e=>hne e))
 have K5:=Hd ((k5'.set 0 (.int .i64 150)).eq (cs':=#[.int .i64 150]) (by simp))
 have HO:Hid (fP (fun k=>k=b4∨k=b5) w (((w.alloc (.cells #[] 191)).setCell ⟨b4,0,none⟩ (.slice none 0 0)).setCell ⟨b5,0,none⟩ (.int .i64 150))) :=
  Hd (((aK ((aB _ w).alloc (aA _) _) _).setCell _ _ (fun _=>.inl rfl)).setCell _ _ (fun _=>.inr rfl))
 clear h4 h5 k4 k5 k4' k5'
 refine callsD_of_wpS Tryz.func118 rfl fun c₀ cs hu=>?_
 apply wpS_seq
 apply wpS_region
 simp[wpOpsS,go_sem,recoverD,hu,Tryz.ntmps118,Exit.thenS]
 refine wpS_of_wp ?_
 go_wp2
 refine⟨rfl,_,rfl,.tuple #[],by simp[results,Tryz.results118,go_sem],rfl,rfl,K4.out,K5.out,HO.o⟩
def yes (nm:ByteArray) (b:Bool):List Value:=[.string nm,.bool false,.int .i8 1,.bool b,.int .i64 0,.string ⟨#[]⟩,.slice none 0 0,.slice none 0 0]
def yesL (r:List (ByteArray × Bool)):List Value:=r.flatMap fun x=>yes x.1 x.2
def iR (l:List Cd) (ps:List Gv) (eq:Vl->Vl->Bool) (K:Nat):List Cd->Option (List (ByteArray × Bool))
 | []=>some []
 | c::r=>match evC l ps eq K c with
   | none=>none
   | some b=>(iR l ps eq K r).map ((c.name,b)::·)
theorem tH {l:List Cd} {ps:List Gv} {eq:Vl->Vl->Bool} {K:Nat} {p:Cd}:∀ {r:List Cd},p∈r->evC l ps eq K p=none->iR l ps eq K r=none
 | c::r,h,hp=>by
   unfold iR;rcases List.mem_cons.1 h with rfl | h
   .rw[hp]
   cases evC l ps eq K c with
   | none=>rfl
   | some b=>simp only;rw[tH h hp];rfl
theorem tG {l:List Cd} {ps:List Gv} {eq:Vl->Vl->Bool} {K:Nat} {p:Cd}:∀ {r:List Cd},iR l ps eq K (r++[p])=(iR l ps eq K r).bind fun o=>(evC l ps eq K p).map fun b=>o++[(p.name,b)]
 | []=>by
   simp only[bP,iR];cases evC l ps eq K p<;>simp
 | c::r=>by
   simp only[bM,iR];cases evC l ps eq K c with
   | none=>rfl
   | some b =>
     simp only[tG (r:=r)];cases iR l ps eq K r with
     | none=>rfl
     | some m=>cases evC l ps eq K p<;>simp
theorem nM {l:List Cd} {ps:List Gv} {eq:Vl->Vl->Bool} {K:Nat}:∀ {r:List Cd} {o:List (ByteArray × Bool)},iR l ps eq K r=some o->o.length=r.length
 | [],o,h=>by simp only[iR,Option.some.injEq] at h;subst h;rfl
 | c::r,o,h=>by
   unfold iR at h;split at h
   .cases h
   obtain⟨x,hx,rfl⟩:=Option.map_eq_some_iff.1 h;simp[nM hx]
def gNames (ps:List Gv):List ByteArray:=ps.map Gv.name
def jT (l:List Cd) (ps:List Gv) (eq:Vl->Vl->Bool) (K:Nat):Nat ⊕ List (ByteArray × Bool) :=
 if csCheck l (gNames ps)≠0 then .inl (csCheck l (gNames ps)) else match iR l ps eq K l with
  | none=>.inl 150
  | some r=>.inr r
def DS (r:Nat ⊕ List (ByteArray × Bool)) (w:World) (e:Ending) (w':World):Prop:=match r with
 | .inl n=>e=.returned (.tuple #[.slice none 0 0,.int .i64 (n:Nat)])/\Below w.heap.size w w'
 | .inr r=>∃ A c,e=.returned (.tuple #[.slice A r.length c,.int .i64 0])/\Ow w' w.heap.size 46 8 A r.length c (yesL r)/\Below w.heap.size w w'
theorem info_given:(Tryz.prog.info? 46).map (fun i=>(i.zero,i.size,i.bytes))=some (some (.agg #[.string ByteArray.empty,.bool false,.int .i8 0,.bool false,.int .i64 0,.string ByteArray.empty,.slice none 0 0,.slice none 0 0]),8,104):=by kernel_rfl
def JY (s:ByteArray):Cd:=⟨s,4,⟨0,ByteArray.empty,0,ByteArray.empty,ByteArray.empty,[]⟩,⟨0,ByteArray.empty,0,ByteArray.empty,ByteArray.empty,[]⟩,[]⟩
theorem N0 (h:c.name.size<=9007199254740992):Trs.at S w (JY c.name).tr (#[.string c.name,.int .i8 4,.int .i8 0,.string ⟨#[]⟩,.int .i64 0,.string ⟨#[]⟩,.string ⟨#[]⟩,.slice none 0 0,.int .i8 0,.string ⟨#[]⟩,.int .i64 0,.string ⟨#[]⟩,.string ⟨#[]⟩,.slice none 0 0,.slice none 0 0]:Array Value).toList:=by
 have hx:Trs.at S w (Ex.tr ⟨0,ByteArray.empty,0,ByteArray.empty,ByteArray.empty,[]⟩) [.int .i8 0,.string ⟨#[]⟩,.int .i64 0,.string ⟨#[]⟩,.string ⟨#[]⟩,.slice none 0 0] :=
  Ex.at_iff.2 ⟨none,0,rfl,by show (Lit.int .i8 0).wf=true;decide,by show (Lit.int .i64 0).wf=true;decide,by show ByteArray.empty.size<=_;decide,by show ByteArray.empty.size<=_;decide,by show ByteArray.empty.size<=_;decide,cF _ _ _ _ (by omega) _⟩
 exact Cd.at_iff.2 ⟨_,_,none,0,rfl,h,by show (Lit.int .i8 4).wf=true;decide,hx,hx,cF _ _ _ _ (by omega) _⟩
theorem NZ {G:Vl->Prop} (h1:plAt l c.name=some i) (h2:l[i]?=some c) (h3:Dp l ps G K c):Dp l ps G (K+1) (JY c.name) :=
 ⟨fun e=>absurd e (by show ¬(4:Int)=0;decide),fun _=>⟨i,c,h1,h2,h3⟩,fun _ e=>absurd rfl e⟩
theorem NY {eq:Vl->Vl->Bool} (h1:plAt l c.name=some i) (h2:l[i]?=some c):evC l ps eq (K+1) (JY c.name)=evC l ps eq K c:=by
 rw[evC,if_neg (by show ¬(4:Int)=0;decide),if_pos (show (JY c.name).kind=4 from rfl)];show (match plAt l c.name with | some i=>_ | none=>_)=_
 rw[h1];simp only[h2]
theorem DT.go {w0 w':World} {ac:Nat} {PA:Option Addr} {pc mb mn ev kb:Nat} {F:Nat->Prop} (h:DT l ps S w0 A ac PA pc mb mn ev kb w) (ho:fP F w w') (hF:∀ k,F k->w0.heap.size<=k/\k≠ev/\k≠mb/\¬S k):DT l ps S w0 A ac PA pc mb mn ev kb w' :=
 ⟨h.bel.trans (ho.below h.bel.size (fun k hk=>(hF k hk).1)),h.kb0,h.ls.only ho (fun k hk e=>(hF k e).2.2.2 hk),h.pr.only ho (fun k hk e=>(hF k e).2.2.2 hk),h.pl.only ho (fun e=>(hF _ e).2.2.1 rfl),h.box.only ho (fun e=>(hF _ e).2.1 rfl),h.hS,h.nev,h.nmb⟩
theorem Ow.ne_map {base:Nat} {e:TypeId} {sz n c:Nat} {xs:List Value} (h:Ow w base e sz A n c xs) (hb:w.heap[b]?=some (.map es k)):blk A≠some b:=by
 intro hq;rcases h.2 with ⟨rfl,_⟩ | ⟨g,cur,rfl,_,hg,_⟩
 .cases hq
 injection hq with hq;subst hq;rw[hb] at hg;injection hg with hg;cases hg
theorem Blk.ne_map {q:Nat} {cs:Array Value} {t:TypeId} (h:Blk w q cs t) (hb:w.heap[b]?=some (.map es k)):q≠b:=by
 intro e;subst e;rw[show w.heap[q]?=_ from h] at hb;injection hb with hb;cases hb
theorem MB.map {w:World} {b n:Nat} {f:ByteArray->Option Bool} (h:MB w b n f):∃ es k,w.heap[b]?=some (.map es k):=by
 obtain⟨D,⟨es,k,h1,_⟩,_⟩:=h;exact⟨es,k,h1⟩
theorem MP.map {w:World} {b n:Nat} {f:ByteArray->Option Nat} (h:MP w b n f):∃ es k,w.heap[b]?=some (.map es k):=by
 obtain⟨D,⟨es,k,h1,_⟩,_⟩:=h;exact⟨es,k,h1⟩
theorem NK (S:Nat->Prop) (A:Option Addr) (ac:Nat) (l:List Cd) (PA:Option Addr) (pc:Nat) (ps:List Gv) (eq:Vl->Vl->Bool) (G:Vl->Prop) (K:Nat) (w:World) (hV:j4 w) (hE:TS G eq w) (hls:Ls S w 15 224 Cd.tr A ac l) (hps:Ls S w 8 104 Gv.tr PA pc ps) (hpl:ps.length<=1000000) (hok:CsOk l)
 (hdp:csCheck l (gNames ps)=0->(∀ c∈l,Dp l ps G K c)/\∀ i c,l[i]?=some c->plAt l c.name=some i) :
 Calls Tryz.prog 81 #[.slice A l.length ac,.slice PA ps.length pc] w (DS (jT l ps eq K) w):=by
 have hmf:∀ (fn:Fn) (first cap:Array Value) (w:World),(Instr.makeFunc fn first cap).run Tryz.prog w=.ok (.func fn first cap) w:=fun _ _ _ _=>rfl
 have hmm:=@run_makeMap Tryz.prog;have hcap:=hls.cap;have hbyt:=hls.bytes;have hcap2:=hps.cap;have hbyt2:=hps.bytes;have HLS:=Hd hls.bound;have HPS:=Hd hps.bound;have HOK:=Hd hok;have HV:=Hd hV;have HE:=Hd hE;have HDP:=Hd hdp;have hb1:Below w.heap.size w ((w.alloc (.cells #[.slice none 0 0] 28)).alloc (.cells #[.int .i64 0] 55)):=((aB _ w).alloc (aA _) _).alloc (by simp) _;have HB1:=Hd hb1;have HK4:Hid (Blk ((w.alloc (.cells #[.slice none 0 0] 28)).alloc (.cells #[.int .i64 0] 55)) w.heap.size #[.slice none 0 0] 28):=Hd ((aJ w _ _).alloc _);have HK5:Hid (Blk ((w.alloc (.cells #[.slice none 0 0] 28)).alloc (.cells #[.int .i64 0] 55)) (w.heap.size+1) #[.int .i64 0] 55):=Hd (by
  have:=aJ (w.alloc (.cells #[.slice none 0 0] 28)) #[.int .i64 0] 55;rwa [show (w.alloc (.cells #[.slice none 0 0] 28)).heap.size=w.heap.size+1 by simp] at this)
 have hsz1:((w.alloc (.cells #[.slice none 0 0] 28)).alloc (.cells #[.int .i64 0] 55)).heap.size=w.heap.size+2:=by simp
 clear hls hps hok hV hE hdp hb1;go_enter_defers Tryz.func81,Tryz.ntmps81;go_wp2_with fail;go_loopg [16,6] ps.length (fun g i v wr=>∃ (j:Nat) (NA:Option Addr) (nc:Nat),j+g=ps.length/\i=.int .i64 (j:Nat)/\v=.slice NA j nc/\Hid (Ow wr (w.heap.size+2) 9 1 NA j nc ((gNames (ps.take j)).map .string))/\Hid (Below (w.heap.size+2) ((w.alloc (.cells #[.slice none 0 0] 28)).alloc (.cells #[.int .i64 0] 55)) wr))
 case atStart=>exact⟨0,none,0,by omega,rfl,rfl,Hd (by simpa [gNames] using dF _ _ _ _),Hd (by rw[<-hsz1];exact aB _ _)⟩
 obtain⟨j,NA,nc,hj,rfl,rfl,HN,HB⟩:=hrel;rename World=>wo
 have hwo:=HB.o.size;rw[hsz1] at hwo;cases gk with
 | zero =>
   have hj2:j=ps.length:=by omega
   subst hj2;have hjj:¬((ps.length:Int)<(ps.length:Int)):=by omega
   have hb2:Below w.heap.size w wo:=HB1.o.trans (HB.o.mono (by omega));have HB2:=Hd hb2;have hncap:=HN.o.cap;have hsz:∀ x∈gNames ps,x.size<=9007199254740992:=fun x hx=>by
    obtain⟨p,hp,rfl⟩:=List.mem_map.1 hx;obtain⟨i,hi⟩:=List.mem_iff_getElem?.1 hp;obtain⟨_,_,_,hpt,_⟩:=HPS.o.elem dA hi;obtain⟨_,_,hn,_⟩:=Gv.at_iff.1 hpt;exact hn
   have hgl:(gNames ps).length=ps.length:=by simp[gNames]
   have hss:Ss (fun _=>True) wo NA nc (gNames ps):=Ls.mk_strs (by
    have h:=HN.o.rd;rw[aN (aA _)] at h;rw[hgl];exact h) (by omega) hsz (fun _ _ _=>trivial)
   have HCK:Hid (Calls Tryz.prog 117 #[.slice A l.length ac,.slice NA ps.length nc] wo fun e w'=>e=.returned (.int .i64 (csCheck l (gNames ps):Nat))/\Below wo.heap.size wo w'):=Hd (by
    have h:=G5 (fun _=>True) A ac l NA nc (gNames ps) wo (HV.o.below hb2) ((HLS.o.below hb2).mono (fun _ _=>trivial)) hss (by omega) HOK.o;rwa [hgl] at h)
   have HK4w:=Hd (HK4.o.below (HB.o.mono (by omega)));have HK5w:=Hd (HK5.o.below (HB.o.mono (by omega)));obtain⟨e0,he0⟩:∃ e0,e0=csCheck l (gNames ps):=⟨_,rfl⟩;have HRO:Hid (jT l ps eq K=if e0≠0 then .inl e0 else match iR l ps eq K l with | none=>.inl 150 | some r=>.inr r):=Hd (by rw[he0];rfl);rw[<-he0] at HCK HDP;clear hb2 hsz hgl hss he0;by_cases hz:e0=0
   .subst hz;obtain⟨hdp,hself⟩:=HDP.o rfl;have HR:Hid (jT l ps eq K=match iR l ps eq K l with | none=>.inl 150 | some r=>.inr r):=Hd (by rw[HRO.o,if_neg (by simp)]);have HD:=Hd hdp;have HSELF:=Hd hself;have HPLC:Hid (∀ w',Below wo.heap.size wo w'->Calls Tryz.prog 119 #[.slice A l.length ac] w' fun e w3=>e=.returned (.map (some w'.heap.size))/\MP w3 w'.heap.size l.length (plAt l)/\Below w'.heap.size w' w3) :=
     Hd (fun w' hb=>oR (fun _=>True) A ac l w' ((HLS.o.below (HB2.o.trans (hb.mono HB2.o.size))).mono (fun _ _=>trivial)))
    clear hdp hself HRO HDP;go_wp2_with fail;refine HCK.o.mono ?_;rintro e w2 ⟨rfl,hb3⟩;have hb2w:=HB2.o.trans (hb3.mono HB2.o.size);have HB3:=Hd hb2w;have hsz2:=hb2w.size;have k4:=HK4w.o.below hb3;have k5:=HK5w.o.below hb3;have h52:=k5.lt;have HK4x:=Hd k4;have HK5x:=Hd k5;have HPC:=Hd (HPLC.o w2 hb3);clear hb3 hb2w k4 k5 HPLC HCK;go_wp2_with fail;refine HPC.o.mono ?_;rintro e w3 ⟨rfl,hmp,hb4⟩;have hb3w:=HB3.o.trans (hb4.mono hsz2);have hsz3:=hb4.size;have hmlt:=hmp.lt;have hba:=((aB _ w3).alloc (aA _) (.map #[] 0)).alloc (by simp) (.cells #[.slice A l.length ac,.map (some w2.heap.size),.slice PA ps.length pc,.map (some w3.heap.size)] 197);have hev:Blk ((w3.alloc (.map #[] 0)).alloc (.cells #[.slice A l.length ac,.map (some w2.heap.size),.slice PA ps.length pc,.map (some w3.heap.size)] 197)) (w3.heap.size+1) #[.slice A l.length ac,.map (some w2.heap.size),.slice PA ps.length pc,.map (some w3.heap.size)] 197:=by
     have:=aJ (w3.alloc (.map #[] 0)) #[.slice A l.length ac,.map (some w2.heap.size),.slice PA ps.length pc,.map (some w3.heap.size)] 197;rwa [show (w3.alloc (.map #[] 0)).heap.size=w3.heap.size+1 by simp] at this
    have hbw4:Below w.heap.size w ((w3.alloc (.map #[] 0)).alloc (.cells #[.slice A l.length ac,.map (some w2.heap.size),.slice PA ps.length pc,.map (some w3.heap.size)] 197)):=hb3w.trans (hba.mono hb3w.size);have HEW:Hid (DT l ps (fun k=>S k/\k<w.heap.size) w A ac PA pc w2.heap.size l.length (w3.heap.size+1) w3.heap.size ((w3.alloc (.map #[] 0)).alloc (.cells #[.slice A l.length ac,.map (some w2.heap.size),.slice PA ps.length pc,.map (some w3.heap.size)] 197))) :=
     Hd ⟨hbw4,by omega,HLS.o.below hbw4,HPS.o.below hbw4,hmp.below hba,hev,fun k hk=>by omega,by omega,by omega⟩
    have HMB:Hid (MB ((w3.alloc (.map #[] 0)).alloc (.cells #[.slice A l.length ac,.map (some w2.heap.size),.slice PA ps.length pc,.map (some w3.heap.size)] 197)) w3.heap.size 0 (fun _=>none)):=Hd ((MB.new w3).below ((aB _ _).alloc (aA _) _));have HK4y:Hid (Blk ((w3.alloc (.map #[] 0)).alloc (.cells #[.slice A l.length ac,.map (some w2.heap.size),.slice PA ps.length pc,.map (some w3.heap.size)] 197)) w.heap.size #[.slice none 0 0] 28):=Hd ((HK4x.o.below hb4).below hba);have HK5y:Hid (Blk ((w3.alloc (.map #[] 0)).alloc (.cells #[.slice A l.length ac,.map (some w2.heap.size),.slice PA ps.length pc,.map (some w3.heap.size)] 197)) (w.heap.size+1) #[.int .i64 0] 55):=Hd ((HK5x.o.below hb4).below hba);obtain⟨ev,hev2⟩:∃ ev,w3.heap.size+1=ev:=⟨_,rfl⟩;obtain⟨kb,hkb2⟩:∃ kb,w3.heap.size=kb:=⟨_,rfl⟩;obtain⟨mb,hmb2⟩:∃ mb,w2.heap.size=mb:=⟨_,rfl⟩;clear hmp hb4 hb3w hba hev hbw4 HPC HK4x HK5x;go_wp2_with fail;go_loopg [42] l.length (fun g i wr=>∃ (j:Nat) (CA:Option Addr) (cc:Nat) (f:ByteArray->Option Bool) (n:Nat) (O:List (ByteArray × Bool)),j+g=l.length/\i=.int .i64 (j:Nat)/\O.length=j/\Hid (iR l ps eq K (l.take j)=some O)/\Hid (DT l ps (fun k=>S k/\k<w.heap.size) w A ac PA pc mb l.length ev kb wr) /\
     Hid (MB wr kb n f/\nG l ps eq G f/\n<=cntK l f)/\Hid (Blk wr w.heap.size #[.slice CA O.length cc] 28)/\Hid (Blk wr (w.heap.size+1) #[.int .i64 0] 55)/\Hid (Ow wr w.heap.size 46 8 CA O.length cc (yesL O)))
    case atStart =>
     subst hev2 hkb2 hmb2;exact⟨0,none,0,_,0,[],by omega,rfl,rfl,Hd (by simp[iR]),HEW,Hd ⟨HMB.o,(by intro s b h;cases h),eH _⟩,HK4y,HK5y,Hd (by simpa [yesL] using dF _ _ _ _)⟩
    obtain⟨j,CA,cc,f,n,O,hj,rfl,hO,HRE,HEV,HMK,HX4,HX5,HOW⟩:=hrel;subst hO;rename World=>wq
    clear HEW HMB HK4y HK5y;subst hev2 hkb2 hmb2;cases gk with
    | zero =>
      have hjj:¬((O.length:Int)<(l.length:Int)):=by omega
      have HRF:Hid (jT l ps eq K=.inr O):=Hd (by
       have h1:=HRE.o;rw[aN (by omega)] at h1;rw[HR.o,h1])
      have x4:=HX4.o.cell 0 (v:=.slice CA O.length cc) rfl;have z4:=HX4.o.frozen 0;have k4':=(HX4.o.set 0 (.slice CA O.length cc)).eq (cs':=#[.slice CA O.length cc]) (by simp);have k5':=HX5.o.setOther ⟨w.heap.size,0,none⟩ (.slice CA O.length cc) (by simp);have x5:=k5'.cell 0 (v:=.int .i64 0) rfl;have z5:=k5'.frozen 0;have k4'':=k4'.setOther ⟨w.heap.size+1,0,none⟩ (.int .i64 0) (by simp);have k5'':=(k5'.set 0 (.int .i64 0)).eq (cs':=#[.int .i64 0]) (by simp);have y4:=k4''.cell 0 (v:=.slice CA O.length cc) rfl;have y5:=k5''.cell 0 (v:=.int .i64 0) rfl;have HB4:=Hd ((HEV.o.bel.setCell (p:=⟨w.heap.size,0,none⟩) (aA _) (.slice CA O.length cc)).setCell (p:=⟨w.heap.size+1,0,none⟩) (by simp) (.int .i64 0));have HOZ:=Hd ((HOW.o.setOther ⟨w.heap.size,0,none⟩ (.slice CA O.length cc) (HOW.o.ne_blk HX4.o (by decide))).setOther ⟨w.heap.size+1,0,none⟩ (.int .i64 0) (HOW.o.ne_blk HX5.o (by decide)));clear k4' k5' k4'' k5'';go_wp2_with fail;simp only[bodyPostD];refine leaves_cons (f:=118) (args:=#[.pointer (some ⟨w.heap.size,0,none⟩),.pointer (some ⟨w.heap.size+1,0,none⟩)]) (by simp) (by simp[go_sem]) ?_;refine(NO _ _ _).mono ?_;rintro e u' w'' ⟨rfl,rfl,rfl⟩;refine⟨.tuple #[.slice CA O.length cc,.int .i64 0],by simp[results,Tryz.results81,go_sem,y4,y5],?_⟩;rw[HRF.o];exact⟨CA,cc,rfl,HOZ.o,HB4.o⟩
    | succ g =>
      have hjj:(O.length:Int)<(l.length:Int):=by omega
      obtain⟨c,hc⟩:=fO (l:=l) (i:=O.length) (by omega);have hmem:=aD hc;have hself:=HSELF.o _ _ hc;have hdc:=HD.o c hmem;obtain⟨ad,cs,rfl,hct,hcc⟩:=HEV.o.ls.elem cY hc;obtain⟨A1,n1,B1,n2,L,lc0,hcel,hlsc,hns,_,_,_,_⟩:=q8 hct hcc;obtain⟨d0,d1,d2,d3,d4,d5,d6,d7,d8,d9,d10,d11,d12,d13,d14⟩:=gP hcel;have hkb:=HEV.o.kb0;have hkl:=HMK.o.1.lt;have hbb:Below wq.heap.size wq ((wq.alloc (.cells (kD c A1 n1 B1 n2 L lc0) 148)).alloc (.cells #[.string c.name,.int .i8 4,.int .i8 0,.string ⟨#[]⟩,.int .i64 0,.string ⟨#[]⟩,.string ⟨#[]⟩,.slice none 0 0,.int .i8 0,.string ⟨#[]⟩,.int .i64 0,.string ⟨#[]⟩,.string ⟨#[]⟩,.slice none 0 0,.slice none 0 0] 148)):=((aB _ wq).alloc (aA _) _).alloc (by simp) _;have hcp:Blk ((wq.alloc (.cells (kD c A1 n1 B1 n2 L lc0) 148)).alloc (.cells #[.string c.name,.int .i8 4,.int .i8 0,.string ⟨#[]⟩,.int .i64 0,.string ⟨#[]⟩,.string ⟨#[]⟩,.slice none 0 0,.int .i8 0,.string ⟨#[]⟩,.int .i64 0,.string ⟨#[]⟩,.string ⟨#[]⟩,.slice none 0 0,.slice none 0 0] 148)) wq.heap.size (kD c A1 n1 B1 n2 L lc0) 148:=(aJ wq _ _).alloc _;have hc4:Blk ((wq.alloc (.cells (kD c A1 n1 B1 n2 L lc0) 148)).alloc (.cells #[.string c.name,.int .i8 4,.int .i8 0,.string ⟨#[]⟩,.int .i64 0,.string ⟨#[]⟩,.string ⟨#[]⟩,.slice none 0 0,.int .i8 0,.string ⟨#[]⟩,.int .i64 0,.string ⟨#[]⟩,.string ⟨#[]⟩,.slice none 0 0,.slice none 0 0] 148)) (wq.heap.size+1) #[.string c.name,.int .i8 4,.int .i8 0,.string ⟨#[]⟩,.int .i64 0,.string ⟨#[]⟩,.string ⟨#[]⟩,.slice none 0 0,.int .i8 0,.string ⟨#[]⟩,.int .i64 0,.string ⟨#[]⟩,.string ⟨#[]⟩,.slice none 0 0,.slice none 0 0] 148:=by
       have:=aJ (wq.alloc (.cells (kD c A1 n1 B1 n2 L lc0) 148)) #[.string c.name,.int .i8 4,.int .i8 0,.string ⟨#[]⟩,.int .i64 0,.string ⟨#[]⟩,.string ⟨#[]⟩,.slice none 0 0,.int .i8 0,.string ⟨#[]⟩,.int .i64 0,.string ⟨#[]⟩,.string ⟨#[]⟩,.slice none 0 0,.slice none 0 0] 148;rwa [show (wq.alloc (.cells (kD c A1 n1 B1 n2 L lc0) 148)).heap.size=wq.heap.size+1 by simp] at this
      have hpa:=QV (l:=l) (ps:=ps) (eq:=eq) (G:=G) (S:=fun k=>S k/\k<w.heap.size) (w0:=w) (A:=some ad) (ac:=ac) (PA:=PA) (pc:=pc) (mb:=w2.heap.size) (mn:=l.length) (ev:=w3.heap.size+1) (kb:=w3.heap.size) HV.o HE.o (K+1) (K+1) (aA _)
       (JY c.name) _ ⟨wq.heap.size+1,0,none⟩ f n ((wq.alloc (.cells (kD c A1 n1 B1 n2 L lc0) 148)).alloc (.cells #[.string c.name,.int .i8 4,.int .i8 0,.string ⟨#[]⟩,.int .i64 0,.string ⟨#[]⟩,.string ⟨#[]⟩,.slice none 0 0,.int .i8 0,.string ⟨#[]⟩,.int .i64 0,.string ⟨#[]⟩,.string ⟨#[]⟩,.slice none 0 0,.slice none 0 0] 148)) (NZ hself hc hdc) (HEV.o.below hbb) (HMK.o.1.below hbb) HMK.o.2.1 HMK.o.2.2 (N0 hns) (uS hc4) (by show wq.heap.size+1≠_;omega)
      rw[NY hself hc] at hpa;have HPA:=Hd hpa;have HTK:Hid (iR l ps eq K (l.take (O.length+1))=(evC l ps eq K c).map fun b=>O++[(c.name,b)]):=Hd (by
       rw[aT,hc];show iR l ps eq K (_++[c])=_
       rw[tG,HRE.o];rfl)
      have HNO:Hid (evC l ps eq K c=none->jT l ps eq K=.inl 150):=Hd (fun h=>by rw[HR.o,tH hmem h]);have HBB:=Hd hbb;have HCP:=Hd hcp;obtain⟨v,hv⟩:∃ v,v=evC l ps eq K c:=⟨_,rfl⟩;rw[<-hv] at HPA HTK HNO;clear hc hmem hself hdc hct hcc hcel hlsc hbb hcp hc4 hpa hv;go_wp2_with fail;refine HPA.o.mono ?_;rintro e w6 hpo;cases v with
      | none =>
        obtain⟨f2,n2,g1,g2,g3,g4,g5,rfl⟩:=hpo.panicked;have HRF:=Hd (HNO.o rfl);have k4:=Hd ((HX4.o.below HBB.o).only g4 (by omega));have k5:=Hd ((HX5.o.below HBB.o).only g4 (by omega));have hbz:=HBB.o.size;have hwz:=HEV.o.bel.size;have HB6:=Hd (HEV.o.bel.trans ((HBB.o.mono hwz).trans (g4.below (by omega) (fun k hk=>by omega))));clear g1 g2 g3 g4 g5 hpo d0 d1 d2 d3 d4 d5 d6 d7 d8 d9 d10 d11 d12 d13 d14;go_wp2_with fail;simp only[bodyPostD];refine leaves_cons (f:=118) (args:=#[.pointer (some ⟨w.heap.size,0,none⟩),.pointer (some ⟨w.heap.size+1,0,none⟩)]) (by simp) (by simp[go_sem]) ?_;refine(QT _ _ _ _ _ _ _ k4.out k5.out (by omega)).mono ?_;rintro e u' w7 ⟨rfl,rfl,q4,q5,ho⟩;have y4:=q4.cell 0 (v:=.slice none 0 0) rfl;have y5:=q5.cell 0 (v:=.int .i64 150) rfl;refine⟨.tuple #[.slice none 0 0,.int .i64 150],by simp[results,Tryz.results81,go_sem,y4,y5],?_⟩;rw[HRF.o];exact⟨rfl,ho.belowB HB6.o (fun k hk=>by omega)⟩
      | some b =>
        obtain⟨f2,n2,g1,g2,g3,g4,g5,rfl⟩:=hpo.returned;have k4:=Hd ((HX4.o.below HBB.o).only g4 (by omega));have k5:=Hd ((HX5.o.below HBB.o).only g4 (by omega));have hbz:=HBB.o.size;have HEV6:=Hd ((HEV.o.below HBB.o).only g4);have hmap:=(HMK.o.1.below HBB.o).map;have HOW6:=Hd ((HOW.o.below HBB.o).only g4 (fun g hg e=>by
         obtain⟨es,q,hmm⟩:=hmap;subst e;exact(HOW.o.below HBB.o).ne_map hmm hg))
        have HMK6:=Hd (⟨g1,g2,g3⟩:MB w6 w3.heap.size n2 f2/\nG l ps eq G f2/\n2<=cntK l f2);have x4:=k4.out.cell 0 (v:=.slice CA O.length cc) rfl;have hcn:wq.heap.size≠w3.heap.size:=by omega
        have xn:=(HCP.o.only g4 hcn).cell 0 (v:=.string c.name) rfl;have hocap:=HOW.o.cap;have h6:=HEV6.o.bel.size;have hnb:=HOW6.o.ne_blk k4.out (by decide);have hnb5:=HOW6.o.ne_blk k5.out (by decide);have hnbe:=HOW6.o.ne_blk HEV6.o.box (by decide);have hnbm:blk CA≠some w2.heap.size:=by
         obtain⟨es,q,hmm⟩:=HEV6.o.pl.map;exact HOW6.o.ne_map hmm
        have hnbk:blk CA≠some w3.heap.size:=by
         obtain⟨es,q,hmm⟩:=HMK6.o.1.map;exact HOW6.o.ne_map hmm
        have HRN:Hid (Rd (w6.alloc (.cells #[.string c.name,.bool false,.int .i8 1,.bool b,.int .i64 0,.string ⟨#[]⟩,.slice none 0 0,.slice none 0 0] 46)) 8 (some ⟨w6.heap.size,0,none⟩) 1 1 (yes c.name b)):=Hd (cQ w6 8 1 _ 46 (0,0) rfl (by simp[maxLen]));have k4a:=Hd (k4.out.alloc (.cells #[.string c.name,.bool false,.int .i8 1,.bool b,.int .i64 0,.string ⟨#[]⟩,.slice none 0 0,.slice none 0 0] 46));have HO6:Hid (fP (fun _=>False) w6 (w6.alloc (.cells #[.string c.name,.bool false,.int .i8 1,.bool b,.int .i64 0,.string ⟨#[]⟩,.slice none 0 0,.slice none 0 0] 46))):=Hd ((bG _ w6).alloc _);clear g1 g2 g3 g4 g5 hpo d0 d1 d2 d3 d4 d5 d6 d7 d8 d9 d10 d11 d12 d13 d14 hmap HPA;go_wp2_with (at_builtin;refine wpList_row info_given Tryz.underlying28 rfl (by omega) rfl (.tmp 52) (.tmp 58) rfl w.heap.size CA cc O.length (yesL O) rfl (HOW6.o.alloc _) (some ⟨w6.heap.size,0,none⟩) 1 1 (yes c.name b) rfl HRN.o (by simp[yes,Value.oneCell']) (by omega) (by omega) (by simp;omega) ?_;intro A' c' w7 ho hg hat;have HO7:=Hd ho;have HG7:=Hd hg;have k7:=k4a.out.grown hg hnb;have x7:=k7.cell 0 (v:=.slice CA O.length cc) rfl;have z7:=k7.frozen 0;have K7:=Hd k7;clear ho hg hat k7);go_roundg g
        case measure=>omega
        case rel =>
         have hon:fP (fun k=>some k=blk CA∨k=w.heap.size) w6 (w7.setCell ⟨w.heap.size,0,none⟩ (.slice A' (O.length+1) c')) :=
          (((bG _ w6).alloc (.cells #[.string c.name,.bool false,.int .i8 1,.bool b,.int .i64 0,.string ⟨#[]⟩,.slice none 0 0,.slice none 0 0] 46)).grown HG7.o (fun g hg _=>.inl hg.symm)).setCell _ _ (fun _=>.inr rfl)
         have hnb7:blk A'≠some w.heap.size:=HO7.o.ne_blk K7.out (by decide);refine⟨O.length+1,A',c',f2,n2,O++[(c.name,b)],by omega,by go_num,by simp,HTK,Hd (HEV6.o.go hon (fun k hk=>?_)),Hd ⟨HMK6.o.1.only hon (fun hk=>?_),HMK6.o.2⟩,Hd ?_,Hd (k5.out.only hon (fun hk=>?_)),Hd ?_⟩
         .rcases hk with hk | hk
          .have:=(HOW6.o.lt hk.symm).1;exact⟨this,fun e=>hnbe (by rw[<-e,hk]),fun e=>hnbm (by rw[<-e,hk]),fun e=>by have:=e.2;omega⟩
          omega
         .rcases hk with hk | hk
          .exact hnbk hk.symm
          omega
         .simpa using (K7.out.set 0 (.slice A' (O.length+1) c')).eq (cs':=#[.slice A' (O.length+1) c']) (by simp)
         .rcases hk with hk | hk
          .exact hnb5 hk.symm
          omega
         have h:=HO7.o.setOther ⟨w.heap.size,0,none⟩ (.slice A' (O.length+1) c') hnb7;simpa [yesL] using h
   have hz2:((e0:Int)!=0)=true:=by simp;omega
   have HR:Hid (jT l ps eq K=.inl e0):=Hd (by rw[HRO.o,if_pos hz]);clear hz;go_wp2_with fail;refine HCK.o.mono ?_;rintro e w2 ⟨rfl,hb3⟩;have HB3:=Hd (HB2.o.trans (hb3.mono HB2.o.size));have k4:=HK4w.o.below hb3;have k5:=HK5w.o.below hb3;have x4:=k4.cell 0 (v:=.slice none 0 0) rfl;have z4:=k4.frozen 0;have k4':=(k4.set 0 (.slice none 0 0)).eq (cs':=#[.slice none 0 0]) (by simp);have k5':=k5.setOther ⟨w.heap.size,0,none⟩ (.slice none 0 0) (by simp);have x5:=k5'.cell 0 (v:=.int .i64 0) rfl;have z5:=k5'.frozen 0;have k4'':=k4'.setOther ⟨w.heap.size+1,0,none⟩ (.int .i64 e0) (by simp);have k5'':=(k5'.set 0 (.int .i64 e0)).eq (cs':=#[.int .i64 e0]) (by simp);have y4:=k4''.cell 0 (v:=.slice none 0 0) rfl;have y5:=k5''.cell 0 (v:=.int .i64 e0) rfl;have HB4:=Hd ((HB3.o.setCell (p:=⟨w.heap.size,0,none⟩) (aA _) (.slice none 0 0)).setCell (p:=⟨w.heap.size+1,0,none⟩) (by simp) (.int .i64 e0));clear hb3 k4 k5 k4' k5' k4'' k5'';go_wp2_with fail;simp only[bodyPostD,Leaves];refine⟨.tuple #[.slice none 0 0,.int .i64 e0],by simp[results,Tryz.results81,go_sem,y4,y5],?_⟩;rw[HR.o];exact⟨rfl,HB4.o⟩
 | succ g =>
   have hjj:(j:Int)<(ps.length:Int):=by omega
   obtain⟨p,hp⟩:=fO (l:=ps) (i:=j) (by omega);have hb2:Below w.heap.size w wo:=HB1.o.trans (HB.o.mono (by omega));obtain⟨ad,cs,rfl,hpt,hpc⟩:=(HPS.o.below hb2).elem dA hp;obtain⟨vs,rfl,hpn,hvt⟩:=Gv.at_iff.1 hpt;obtain⟨GL,lc,GK,kc,rfl,_⟩:=Vl.at_iff.1 hvt;obtain⟨d0,d1,d2,d3,d4,d5,d6,d7⟩:=l8 hpc;have hncap:=HN.o.cap;have HTK:Hid ((gNames (ps.take (j+1))).map Value.string=(gNames (ps.take j)).map .string++[.string p.name]):=Hd (by simp[gNames,aT,hp]);have HWS:Hid (Below wo.heap.size wo (wo.alloc (.cells (kG p GL lc GK kc) 46))):=Hd ((aB _ wo).alloc (aA _) _);have HRN:Hid (Rd ((wo.alloc (.cells (kG p GL lc GK kc) 46)).alloc (.cells #[.string p.name] 9)) 1 (some ⟨wo.heap.size+1,0,none⟩) 1 1 [.string p.name]):=Hd (by
    have h:=cQ (wo.alloc (.cells (kG p GL lc GK kc) 46)) 1 1 #[.string p.name] 9 (0,0) rfl (by simp[maxLen]);rw[show (wo.alloc (.cells (kG p GL lc GK kc) 46)).heap.size=wo.heap.size+1 by simp] at h;exact h)
   have HOS:=Hd (HN.o.below HWS.o);obtain⟨xs,hxs⟩:∃ xs,xs=(gNames (ps.take j)).map Value.string:=⟨_,rfl⟩;rw[<-hxs] at HTK HOS;clear hp hpt hpc hvt hb2 hxs;go_wp2_with (at_builtin;refine wpList_row info_str Tryz.underlying42 rfl (by omega) rfl (.tmp 20) (.tmp 23) rfl (w.heap.size+2) NA nc j xs rfl (HOS.o.alloc _) (some ⟨wo.heap.size+1,0,none⟩) 1 1 [.string p.name] rfl HRN.o (by simp[Value.oneCell']) (by omega) (by omega) (by simp;omega) ?_;intro A' c' w6 ho hg hat;have HO6:=Hd ho;have HG6:=Hd hg;clear ho hg hat);go_roundg g
   case measure=>omega
   case rel=>exact⟨j+1,A',c',by omega,by go_num,rfl,Hd (by rw[HTK.o];exact HO6.o),Hd (((HB.o.trans (HWS.o.mono (by omega))).alloc (by simp;omega) _).grown HG6.o (by simp;omega) (fun k hk=>(HOS.o.lt hk).1))⟩
