/- Part of the proof. -/
import Derived.Test.YtjmklmngikpeaaaGreatDoorTi
set_option linter.unusedVariables false
set_option linter.unusedSimpArgs false
namespace Go.Proofs.YtjmklmngikpeaaaGreatDoor
open Go.RowKit
variable {a b:ByteArray}
theorem info_str:(Tryz.prog.info? 9).map (fun i=>(i.zero,i.size,i.bytes))=some (some (.string ByteArray.empty),1,16):=by kernel_rfl
theorem info_gd:(Tryz.prog.info? 151).map (fun i=>(i.zero,i.size,i.bytes))=some (some (.agg #[.int .i64 0,.string ByteArray.empty]),2,24):=by kernel_rfl
theorem CT:(Tryz.prog.info? 89).map (fun i=>(i.zero,i.size,i.bytes))=some (some (.agg #[.int .i64 0,.string ByteArray.empty,.slice none 0 0,.slice none 0 0,.slice none 0 0,.slice none 0 0,.slice none 0 0]),7,144):=by kernel_rfl
theorem GI:(Tryz.prog.info? 53).map (fun i=>(i.zero,i.size,i.bytes))=some (some (.agg #[.string ByteArray.empty,.int .i64 0,.string ByteArray.empty,.string ByteArray.empty,.string ByteArray.empty,.slice none 0 0,.slice none 0 0,.bool false,.slice none 0 0,.slice none 0 0,.slice none 0 0]),11,200):=by kernel_rfl
theorem yU (h:a=b):(a.toList==b.toList)=true:=by subst h;simp
theorem vK (h:a≠b):(a.toList==b.toList)=false:=by
 rw[beq_eq_false_iff_ne];intro e;rw[Lib.toList_data,Lib.toList_data] at e;apply h;cases a;cases b;simp at e;congr
def fW (a b:ByteArray):Bool:=a.data.toList==b.data.toList
theorem bEq_iff:fW a b=true↔a=b:=by
 unfold fW;rw[beq_iff_eq];exact⟨fun h=>by cases a;cases b;simp at h;congr,fun h=>by rw[h]⟩
theorem bEq_ne (h:a≠b):fW a b=false:=by
 cases e:fW a b with
 | false=>rfl
 | true=>exact absurd (bEq_iff.1 e) h
def jB (x:ByteArray) (l:List ByteArray):Bool:=l.any (fW x)
theorem pL {x:ByteArray} {l:List ByteArray}:jB x l=true↔x∈l:=by
 unfold jB;rw[List.any_eq_true];exact⟨fun ⟨y,h1,h2⟩=>by rw[bEq_iff.1 h2];exact h1,fun h=>⟨x,h,bEq_iff.2 rfl⟩⟩
theorem I3 (S:Nat->Prop) (A:Option Addr) (c:Nat) (l:List ByteArray) (x:ByteArray) (w:World) (h:Ss S w A c l) (hl:l.length<=1000000) :
 Calls Tryz.prog 200 #[.slice A l.length c,.string x] w fun e w'=>(∃ z:Int,e=.returned (.int .i64 z)/\-1<=z/\z<=1000000/\decide (0<=z)=jB x l)/\w=w':=by
 have hc:=h.cap;have HL:=Hd h;clear h;go_enter Tryz.func200,Tryz.ntmps200;go_wp2_with fail;go_loopg [8] l.length (fun g i wr=>∃ j:Nat,j+g=l.length/\i=.int .i64 (j:Nat)/\wr=w/\Hid (jB x l=jB x (l.drop j)))
 case atStart=>exact⟨0,by omega,rfl,rfl,Hd rfl⟩
 case round =>
  obtain⟨j,hj,rfl,rfl,HD⟩:=hrel;cases gk with
  | zero =>
    have hjj:¬((j:Int)<(l.length:Int)):=by omega
    have HR:Hid (jB x l=false):=Hd (by rw[HD.o,aP (by omega)];simp[jB]);go_wp2;go_ret;exact⟨⟨-1,rfl,by omega,by omega,by rw[HR.o];rfl⟩,rfl⟩
  | succ g =>
    have hjj:(j:Int)<(l.length:Int):=by omega
    obtain⟨y,hy⟩:=fO (l:=l) (i:=j) (by omega);have hd:=fS hy;obtain⟨ad,rfl,hyc,hys⟩:=HL.o.str hy;by_cases hxy:x=y
    .have HC:Hid (jB x l=true):=Hd (by rw[HD.o,hd];simp[jB,bEq_iff.2 hxy]);have hb:=yU hxy;clear hy hd hxy;go_wp2;go_ret;exact⟨⟨(j:Int),rfl,by omega,by omega,by rw[HC.o];exact decide_eq_true (by omega)⟩,rfl⟩
    have HC:Hid (jB x l=jB x (l.drop (j+1))):=Hd (by rw[HD.o,hd];simp[jB,bEq_ne hxy]);have hb:=vK hxy;clear hy hd hxy;go_wp2_with fail;go_roundg g
    case measure=>omega
    case rel=>exact⟨j+1,by omega,by go_num,rfl,HC⟩
def BJ (b:Bool) (w:World) (e:Ending) (w':World):Prop:=e=.returned (.bool b)/\w=w'
theorem vM (S:Nat->Prop) (A:Option Addr) (c:Nat) (l:List ByteArray) (x:ByteArray) (w:World) (h:Ss S w A c l) (hl:l.length<=1000000) :
 Calls Tryz.prog 167 #[.slice A l.length c,.string x] w (BJ (jB x l) w):=by
 have HF:=Hd (I3 S A c l x w h hl);clear h;go_enter Tryz.func167,Tryz.ntmps167;go_wp2_with fail;refine HF.o.mono ?_;rintro e w' ⟨⟨z,rfl,hz1,hz2,hz⟩,rfl⟩;have HZ:=Hd hz;clear hz;go_wp2;go_ret;exact⟨by rw[<-HZ.o];rfl,rfl⟩
theorem oQ {P:Program} (w:World) (t:TypeId) (s:ByteArray) (ht:P.underlying t=some .string) (kh:IntKind) (h:Nat) (h':Int) (e2:h'=(h:Int)) (h2:h<=s.size) :
 (Instr.slice t (.string s) none (some (.int kh h')) none).run P w=.ok (.string (s.extract 0 h)) w:=by
 subst e2;simp[Instr.slice,run_underlying ht,Instr.sliceBounds,run_sliceBound,h2]
def CX (s p:ByteArray):Bool:=p.data.toList.isPrefixOf s.data.toList
theorem kQ (h:a.data.toList=b.data.toList):a=b:=by
 cases a;cases b;simp at h;congr
def OP (s p:ByteArray):ByteArray:=if CX s p then s.extract p.size s.size else s
structure Gd where
 scope:Int
 name:ByteArray
structure Nd where
 id:ByteArray
 scope:Int
 r:Rs
 guards:List Gd
 after:List ByteArray
structure Sc where
 parent:Int
 pre:ByteArray
 t:Tm
 args:List Pr
abbrev kN (x:Nd) (A0:Option Addr) (c0:Nat) (A1:Option Addr) (c1:Nat) (A2:Option Addr) (c2:Nat) (A3:Option Addr) (c3:Nat) (A4:Option Addr) (c4:Nat):Array Value:=#[.string x.id,.int .i64 x.scope,.string x.r.id,.string x.r.type,.string x.r.cond,.slice A0 x.r.props.length c0,.slice A1 x.r.depends.length c1,.bool x.r.retain,.slice A2 x.r.inner.length c2,.slice A3 x.guards.length c3,.slice A4 x.after.length c4]
abbrev kS (x:Sc) (A0:Option Addr) (c0:Nat) (A1:Option Addr) (c1:Nat) (A2:Option Addr) (c2:Nat) (A3:Option Addr) (c3:Nat) (A4:Option Addr) (c4:Nat):Array Value:=#[.int .i64 x.parent,.string x.pre,.slice A0 x.t.params.length c0,.slice A1 x.t.conds.length c1,.slice A2 x.t.res.length c2,.slice A3 x.t.outs.length c3,.slice A4 x.args.length c4]
def Gd.tr (g:Gd):List Tr:=[lI g.scope,lS g.name]
def Nd.tr (n:Nd):List Tr:=lS n.id::lI n.scope::(n.r.tr++[.sl 2 24 n.guards.length (n.guards.flatMap Gd.tr),sTr n.after])
def Sc.tr (s:Sc):List Tr:=lI s.parent::lS s.pre::(s.t.tr++[.sl 7 104 s.args.length (s.args.flatMap Pr.tr)])
theorem Gd.trlen (g:Gd):g.tr.length=2:=rfl
theorem Nd.trlen (n:Nd):n.tr.length=11:=by simp[Nd.tr,Rs.trlen]
theorem Sc.trlen (n:Sc):n.tr.length=7:=by simp[Sc.tr,Tm.trlen]
abbrev dS:=@Sc.trlen
structure Nc where
 id:ByteArray
 scope:Int
 rid:ByteArray
 rty:ByteArray
 rco:ByteArray
 P:Option Addr
 pn:Nat
 pc:Nat
 D:Option Addr
 dn:Nat
 dc:Nat
 ret:Bool
 I:Option Addr
 iN:Nat
 ic:Nat
 G:Option Addr
 gn:Nat
 gc:Nat
 A:Option Addr
 an:Nat
 ac:Nat
def Nc.cs (x:Nc):List Value:=[.string x.id,.int .i64 x.scope,.string x.rid,.string x.rty,.string x.rco,.slice x.P x.pn x.pc,.slice x.D x.dn x.dc,.bool x.ret,.slice x.I x.iN x.ic,.slice x.G x.gn x.gc,.slice x.A x.an x.ac]
def Nc.tr (x:Nc):List Tr:=x.cs.map .leaf
theorem uG {α:Type} {cs:α->List Value} {sz:Nat} (h:∀ a,(cs a).length=sz):∀ (l:List α) (i:Nat) (x:α),l[i]?=some x->∀ (j:Nat) (u:Value),(cs x)[j]?=some u->(l.flatMap cs)[i*sz+j]?=some u
 | [],i,x,hx,_,_,_=>by simp at hx
 | y::l,i,x,hx,j,u,hu=>by
   rw[aW];cases i with
   | zero =>
     simp at hx;subst hx;have hj:=(List.getElem?_eq_some_iff.1 hu).1;rw[Nat.zero_mul,aZ,bZ hj];exact hu
   | succ i =>
     rw[bH (by rw[h,fF];omega),h,show (i+1)*sz+j-sz=i*sz+j by rw[fF];omega];exact uG h l i x (by simpa using hx) j u hu
theorem Nc.len (x:Nc):x.cs.length=11:=rfl
theorem Rd.ncell {w:World} {A:Option Addr} {n c:Nat} {xs:List Nc} (h:Rd w 11 A n c (xs.flatMap Nc.cs)) {i:Nat} {x:Nc} (hx:xs[i]?=some x):∃ ad,A=some ad/\i7 w (ad.add (i*11)) x.cs:=by
 have h0:=uG Nc.len xs i x hx 0 (.string x.id) rfl;obtain⟨ad,rfl,_⟩:=h.at_ _ _ h0;refine⟨ad,rfl,fun j u hu=>?_⟩;have h1:=h.get (uG Nc.len xs i x hx j u hu);split
 .next hj=>subst hj;exact h1
 next hj =>
 have e:(ad.add (i*11)).add j=ad.add (i*11+j):=mI _ _ _;rw[nW _ (by omega)] at e;rw[e];exact h1
def oJ:ByteArray:=⟨#[46]⟩
def und (d x:ByteArray):Bool:=CX x (d++oJ)&&!(fW (OP x (d++oJ)) ByteArray.empty)
def cN (l:List Nat):List Value:=l.map fun (x:Nat)=>.int .i64 (x:Int)
theorem info_int:(Tryz.prog.info? 3).map (fun i=>(i.zero,i.size,i.bytes))=some (some (.int .i64 0),1,8):=by kernel_rfl
