/- Part of the proof. -/
import Derived.Test.YtjmklmngikpeaaaGreatDoorCn5
import Derived.Shelf.Unicode.ValidAny
import Derived.KernelRfl
import Derived.Test.YtjmklmngikpeaaaGreatDoorProg
set_option maxRecDepth 100000
set_option maxHeartbeats 4000000
set_option linter.unusedVariables false
set_option linter.unusedSimpArgs false
namespace Go.Proofs.YtjmklmngikpeaaaGreatDoor
open Go.RowKit
theorem UQ (t:ByteArray):fW t ByteArray.empty=t.toList.isEmpty:=by
 unfold fW;rw[Lib.toList_data];cases h:t.data.toList with
 | nil=>rfl
 | cons x r=>rfl
def BoolB (b:Bool) (w:World) (e:Ending) (w':World):Prop:=e=.returned (.bool b)/\Below w.heap.size w w'
theorem pR (k:Int) (t:ByteArray) (z:Int) (n a:ByteArray) (A:Option Addr) (ln lc:Nat) (w:World) :
 Calls Tryz.prog 172 #[.agg #[.int .i8 k,.string t,.int .i64 z,.string n,.string a,.slice A ln lc]] w (BoolB (fW t ByteArray.empty&&decide (z=0)&&fW n ByteArray.empty&&fW a ByteArray.empty&&decide (ln=0)) w):=by
 go_enter Tryz.func172,Tryz.ntmps172;go_wp2_with fail;all_goals
  go_ret
  refine⟨?_,(aB _ w).alloc (aA _) _⟩
  first
   | (simp[UQ, *];done)
   | (simp[UQ, *];cases ln<;>simp<;>omega)
theorem lD (e:Ex) (A:Option Addr) (lc:Nat) (w:World):Calls Tryz.prog 195 #[.agg (kX e A lc)] w (BoolB (gQ e) w):=by
 have HO:=Hd (pR e.kind e.text e.num e.name e.attr A e.l.length lc (w.alloc (.cells (kX e A lc) 32)));have HX:Hid (gQ e=(decide (e.kind=0)&&(fW e.text ByteArray.empty&&decide (e.num=0)&&fW e.name ByteArray.empty&&fW e.attr ByteArray.empty&&decide (e.l.length=0)))):=Hd rfl;obtain⟨v,hv⟩:∃ v,v=(fW e.text ByteArray.empty&&decide (e.num=0)&&fW e.name ByteArray.empty&&fW e.attr ByteArray.empty&&decide (e.l.length=0)):=⟨_,rfl⟩;rw[<-hv] at HO HX;clear hv;by_cases h0:e.kind=0
 .have e0:(e.kind==0)=true:=by rw[h0];rfl
  have HE:Hid (gQ e=v):=Hd (by rw[HX.o,h0];simp);clear h0;go_enter Tryz.func195,Tryz.ntmps195;go_wp2_with fail;refine HO.o.mono ?_;rintro e' w2 ⟨rfl,hb⟩;have HB:=Hd (((aB _ w).alloc (aA _) _).trans (hb.mono (by simp)));clear hb;go_wp2;go_ret;exact⟨by rw[HE.o];rfl,HB.o⟩
 have e0:(e.kind==0)=false:=by simpa using h0
 have HE:Hid (gQ e=false):=Hd (by rw[HX.o];simp[h0]);clear h0;go_enter Tryz.func195,Tryz.ntmps195;go_wp2;go_ret;exact⟨by rw[HE.o];rfl,(aB _ w).alloc (aA _) _⟩
def j4 (w:World):Prop:=∀ (s:ByteArray) (w':World),s.size<=9007199254740992->Below w.heap.size w w'->Calls Tryz.prog 173 #[.string s] w' (BoolB (Lib.validD s.data.toList) w')
theorem j4.below {w w':World} (h:j4 w) (hb:Below w.heap.size w w'):j4 w':=fun s w'' hs hb'=>h s w'' hs (hb.trans (hb'.mono hb.size))
theorem qL (e:Ex) (A:Option Addr) (lc:Nat) (w:World) (hV:j4 w) (hs:e.text.size<=9007199254740992):Calls Tryz.prog 123 #[.agg (kX e A lc)] w (BoolB (gF e) w):=by
 have HV:=Hd hV;clear hV;by_cases h0:e.kind=0
 .have e0:(e.kind==0)=true:=by rw[h0];rfl
  have HO:Hid (Calls Tryz.prog 172 #[.agg #[.int .i8 e.kind,.string ⟨#[]⟩,.int .i64 e.num,.string e.name,.string e.attr,.slice A e.l.length lc]] (w.alloc (.cells #[.int .i8 e.kind,.string ⟨#[]⟩,.int .i64 e.num,.string e.name,.string e.attr,.slice A e.l.length lc] 32)) (BoolB (mJ ⟨e.kind,ByteArray.empty,e.num,e.name,e.attr,e.l⟩) (w.alloc (.cells #[.int .i8 e.kind,.string ⟨#[]⟩,.int .i64 e.num,.string e.name,.string e.attr,.slice A e.l.length lc] 32)))):=Hd (pR _ _ _ _ _ _ _ _ _);have hb1:Below w.heap.size w (w.alloc (.cells #[.int .i8 e.kind,.string ⟨#[]⟩,.int .i64 e.num,.string e.name,.string e.attr,.slice A e.l.length lc] 32)):=(aB _ w).alloc (aA _) _;have HB1:=Hd hb1;have HX:Hid (gF e=(mJ ⟨e.kind,ByteArray.empty,e.num,e.name,e.attr,e.l⟩&&Lib.validD e.text.data.toList)):=Hd (by unfold gF;rw[if_pos h0]);obtain⟨v,hv⟩:∃ v,v=mJ ⟨e.kind,ByteArray.empty,e.num,e.name,e.attr,e.l⟩:=⟨_,rfl⟩;rw[<-hv] at HO HX;clear hv h0 hb1;cases v with
  | false =>
    go_enter Tryz.func123,Tryz.ntmps123;go_wp2_with fail;refine HO.o.mono ?_;rintro e' w2 ⟨rfl,hb⟩;have HB:=Hd (HB1.o.trans (hb.mono HB1.o.size));clear hb;go_wp2;go_ret;exact⟨by rw[HX.o];rfl,HB.o⟩
  | true =>
    go_enter Tryz.func123,Tryz.ntmps123;go_wp2_with fail;refine HO.o.mono ?_;rintro e' w2 ⟨rfl,hb⟩;have hb2:=HB1.o.trans (hb.mono HB1.o.size);have HVV:=Hd (HV.o e.text w2 hs hb2);have HB:=Hd hb2;clear hb hb2;go_wp2_with fail;refine HVV.o.mono ?_;rintro e' w3 ⟨rfl,hb⟩;have HB3:=Hd (HB.o.trans (hb.mono HB.o.size));clear hb;go_wp2;go_ret;exact⟨by rw[HX.o];rfl,HB3.o⟩
 have e0:(e.kind==0)=false:=by simpa using h0
 by_cases h1:e.kind=1
 .have e1:(e.kind==1)=true:=by rw[h1];rfl
  have HO:Hid (Calls Tryz.prog 172 #[.agg #[.int .i8 e.kind,.string e.text,.int .i64 0,.string e.name,.string e.attr,.slice A e.l.length lc]] (w.alloc (.cells #[.int .i8 e.kind,.string e.text,.int .i64 0,.string e.name,.string e.attr,.slice A e.l.length lc] 32)) (BoolB (mJ ⟨e.kind,e.text,0,e.name,e.attr,e.l⟩) (w.alloc (.cells #[.int .i8 e.kind,.string e.text,.int .i64 0,.string e.name,.string e.attr,.slice A e.l.length lc] 32)))):=Hd (pR _ _ _ _ _ _ _ _ _);have HB1:Hid (Below w.heap.size w (w.alloc (.cells #[.int .i8 e.kind,.string e.text,.int .i64 0,.string e.name,.string e.attr,.slice A e.l.length lc] 32))):=Hd ((aB _ w).alloc (aA _) _);have HX:Hid (gF e=(mJ ⟨e.kind,e.text,0,e.name,e.attr,e.l⟩&&decide (-9007199254740992<=e.num/\e.num<=9007199254740992))):=Hd (by unfold gF;rw[if_neg h0,if_pos h1]);obtain⟨v,hv⟩:∃ v,v=mJ ⟨e.kind,e.text,0,e.name,e.attr,e.l⟩:=⟨_,rfl⟩;rw[<-hv] at HO HX;clear hv h0 h1;cases v with
  | false =>
    go_enter Tryz.func123,Tryz.ntmps123;go_wp2_with fail;refine HO.o.mono ?_;rintro e' w2 ⟨rfl,hb⟩;have HB:=Hd (HB1.o.trans (hb.mono HB1.o.size));clear hb;go_wp2;go_ret;exact⟨by rw[HX.o];rfl,HB.o⟩
  | true =>
    go_enter Tryz.func123,Tryz.ntmps123;go_wp2_with fail;refine HO.o.mono ?_;rintro e' w2 ⟨rfl,hb⟩;have HB:=Hd (HB1.o.trans (hb.mono HB1.o.size));clear hb;go_wp2_with fail;all_goals
     go_ret
     refine⟨?_,HB.o⟩
     rw[HX.o]
     first
      | (simp[*];done)
      | (simp[*];intros;omega)
 have e1:(e.kind==1)=false:=by simpa using h1
 by_cases h3:e.kind=3
 .have e3:(e.kind==3)=true:=by rw[h3];rfl
  have HO:Hid (Calls Tryz.prog 172 #[.agg #[.int .i8 e.kind,.string e.text,.int .i64 e.num,.string ⟨#[]⟩,.string e.attr,.slice A e.l.length lc]] (w.alloc (.cells #[.int .i8 e.kind,.string e.text,.int .i64 e.num,.string ⟨#[]⟩,.string e.attr,.slice A e.l.length lc] 32)) (BoolB (mJ ⟨e.kind,e.text,e.num,ByteArray.empty,e.attr,e.l⟩) (w.alloc (.cells #[.int .i8 e.kind,.string e.text,.int .i64 e.num,.string ⟨#[]⟩,.string e.attr,.slice A e.l.length lc] 32)))):=Hd (pR _ _ _ _ _ _ _ _ _);have HB1:Hid (Below w.heap.size w (w.alloc (.cells #[.int .i8 e.kind,.string e.text,.int .i64 e.num,.string ⟨#[]⟩,.string e.attr,.slice A e.l.length lc] 32))):=Hd ((aB _ w).alloc (aA _) _);have HX:Hid (gF e=mJ ⟨e.kind,e.text,e.num,ByteArray.empty,e.attr,e.l⟩):=Hd (by unfold gF;rw[if_neg h0,if_neg h1,if_pos h3]);clear h0 h1 h3;go_enter Tryz.func123,Tryz.ntmps123;go_wp2_with fail;refine HO.o.mono ?_;rintro e' w2 ⟨rfl,hb⟩;have HB:=Hd (HB1.o.trans (hb.mono HB1.o.size));clear hb;go_wp2;go_ret;exact⟨by rw[HX.o];rfl,HB.o⟩
 have e3:(e.kind==3)=false:=by simpa using h3
 have HX:Hid (gF e=false):=Hd (by unfold gF;rw[if_neg h0,if_neg h1,if_neg h3]);clear h0 h1 h3;go_enter Tryz.func123,Tryz.ntmps123;go_wp2;go_ret;exact⟨by rw[HX.o];rfl,(aB _ w).alloc (aA _) _⟩
def TO (b:Bool) (w:World) (e:Ending) (w':World):Prop:=e=.returned (.bool b)/\w'=w
theorem zW {l:List UInt8} {i:Nat} {b:UInt8} (h:l[i]?=some b):jF i (l.drop i)=((mZ b.toNat||(decide (i≠0)&&decide (48<=b.toNat/\b.toNat<=57)))&&jF (i+1) (l.drop (i+1))):=by rw[fS h];rfl
theorem vN (s:ByteArray) (w:World) (hs:s.size<=9007199254740992):Calls Tryz.prog 162 #[.string s] w (TO (iI s) w):=by
 go_enter Tryz.func162,Tryz.ntmps162;go_wp2_with fail;go_loopg [8] s.size (fun g i wr=>∃ j:Nat,j+g=s.size/\i=.int .i64 (j:Nat)/\wr=w/\Hid (jF 0 s.data.toList=jF j (s.data.toList.drop j)))
 case atStart=>exact⟨0,by omega,rfl,rfl,Hd rfl⟩
 obtain⟨j,hj,rfl,rfl,HN⟩:=hrel;cases gk with
 | zero =>
   have hjj:¬((j:Int)<(s.size:Int)):=by omega
   have hlen:s.data.toList.length=s.size:=rfl;have HE:Hid (jF 0 s.data.toList=true):=Hd (by rw[HN.o,aP (by omega)];rfl);by_cases h0:0<s.size
   .have h0i:(0:Int)<(s.size:Int):=by omega
    by_cases h1:s.size<=32
    .have h1i:(s.size:Int)<=32:=by omega
     go_wp2;go_ret;exact⟨by unfold iI;rw[HE.o];simp[h0,h1],rfl⟩
    have h1i:¬((s.size:Int)<=32):=by omega
    go_wp2;go_ret;exact⟨by unfold iI;rw[HE.o];simp[h0,h1],rfl⟩
   have h0i:¬((0:Int)<(s.size:Int)):=by omega
   go_wp2;go_ret;exact⟨by unfold iI;rw[HE.o];simp[h0],rfl⟩
 | succ g =>
   have hjj:(j:Int)<(s.size:Int):=by omega
   have hjb:(0:Int)<=(j:Int)/\(j:Int)<(s.size:Int):=⟨by omega,by omega⟩
   have hjn:j<s.size:=by omega
   have hbj:s.data.toList[j]?=some (s[j]'hjn):=by
    rw[aM (show j<s.data.toList.length from hjn)];rfl
   have HD:=Hd (zW hbj);have HF:Hid (jF j (s.data.toList.drop j)=false->iI s=false):=Hd (fun h=>by unfold iI;rw[HN.o,h];rfl);have HL:Hid (mZ (s[j]'hjn).toNat=decide (97<=bits BinOp.or IntKind.u8 ((s[j]'hjn).toNat:Int) 32/\bits BinOp.or IntKind.u8 ((s[j]'hjn).toNat:Int) 32<=122)):=Hd rfl;clear hbj;by_cases hA:97<=bits BinOp.or IntKind.u8 ((s[j]'hjn).toNat:Int) 32
   .by_cases hB:bits BinOp.or IntKind.u8 ((s[j]'hjn).toNat:Int) 32<=122
    .have HN2:Hid (jF 0 s.data.toList=jF (j+1) (s.data.toList.drop (j+1))):=Hd (by rw[HN.o,HD.o,HL.o,decide_eq_true ⟨hA,hB⟩];simp);go_wp2_with fail;go_roundg g
     case measure=>omega
     case rel=>exact⟨j+1,by omega,by go_num,rfl,HN2⟩
    have HLF:Hid (mZ (s[j]'hjn).toNat=false):=Hd (by rw[HL.o];simp[hB]);by_cases hj0:j=0
    .have ej:((j:Int)==0)=true:=by simp;omega
     have HR:Hid (iI s=false):=Hd (HF.o (by rw[HD.o,HLF.o];simp[hj0]));clear hj0;go_wp2;go_ret;exact⟨by rw[HR.o];rfl,rfl⟩
    have ej:((j:Int)==0)=false:=by simp;omega
    by_cases h48:(s[j]'hjn).toNat<48
    .have h48i:((s[j]'hjn).toNat:Int)<48:=by omega
     have HR:Hid (iI s=false):=Hd (HF.o (by rw[HD.o,HLF.o];simp;intro _ h _;omega));clear hj0;go_wp2;go_ret;exact⟨by rw[HR.o];rfl,rfl⟩
    have h48i:¬(((s[j]'hjn).toNat:Int)<48):=by omega
    by_cases h57:57<(s[j]'hjn).toNat
    .have h57i:(57:Int)<((s[j]'hjn).toNat:Int):=by omega
     have HR:Hid (iI s=false):=Hd (HF.o (by rw[HD.o,HLF.o];simp;intro _ _ h;omega));clear hj0;go_wp2;go_ret;exact⟨by rw[HR.o];rfl,rfl⟩
    have h57i:¬((57:Int)<((s[j]'hjn).toNat:Int)):=by omega
    have HN2:Hid (jF 0 s.data.toList=jF (j+1) (s.data.toList.drop (j+1))):=Hd (by
     rw[HN.o,HD.o,HLF.o,decide_eq_true hj0,decide_eq_true (show 48<=(s[j]'hjn).toNat/\(s[j]'hjn).toNat<=57 from ⟨by omega,by omega⟩)];simp)
    clear hj0;go_wp2_with fail;go_roundg g
    case measure=>omega
    case rel=>exact⟨j+1,by omega,by go_num,rfl,HN2⟩
   have HLF:Hid (mZ (s[j]'hjn).toNat=false):=Hd (by rw[HL.o];simp[hA]);by_cases hj0:j=0
   .have ej:((j:Int)==0)=true:=by simp;omega
    have HR:Hid (iI s=false):=Hd (HF.o (by rw[HD.o,HLF.o];simp[hj0]));clear hj0;go_wp2;go_ret;exact⟨by rw[HR.o];rfl,rfl⟩
   have ej:((j:Int)==0)=false:=by simp;omega
   by_cases h48:(s[j]'hjn).toNat<48
   .have h48i:((s[j]'hjn).toNat:Int)<48:=by omega
    have HR:Hid (iI s=false):=Hd (HF.o (by rw[HD.o,HLF.o];simp;intro _ h _;omega));clear hj0;go_wp2;go_ret;exact⟨by rw[HR.o];rfl,rfl⟩
   have h48i:¬(((s[j]'hjn).toNat:Int)<48):=by omega
   by_cases h57:57<(s[j]'hjn).toNat
   .have h57i:(57:Int)<((s[j]'hjn).toNat:Int):=by omega
    have HR:Hid (iI s=false):=Hd (HF.o (by rw[HD.o,HLF.o];simp;intro _ _ h;omega));clear hj0;go_wp2;go_ret;exact⟨by rw[HR.o];rfl,rfl⟩
   have h57i:¬((57:Int)<((s[j]'hjn).toNat:Int)):=by omega
   have HN2:Hid (jF 0 s.data.toList=jF (j+1) (s.data.toList.drop (j+1))):=Hd (by
    rw[HN.o,HD.o,HLF.o,decide_eq_true hj0,decide_eq_true (show 48<=(s[j]'hjn).toNat/\(s[j]'hjn).toNat<=57 from ⟨by omega,by omega⟩)];simp)
   clear hj0;go_wp2_with fail;go_roundg g
   case measure=>omega
   case rel=>exact⟨j+1,by omega,by go_num,rfl,HN2⟩
open Go.Shelf
def QS:Go.Shelf.Ren:=⟨fun | 196=>205 | 259=>230 | n=>n,fun | 0=>0 | 3=>3 | 4=>4 | 5=>5 | 9=>9 | 12=>12 | 46=>282 | 53=>295 | 119=>278 | 138=>280 | 139=>281 | n=>n,fun | 3=>0 | 4=>1 | n=>n⟩
theorem J8:Go.Proofs.Lays.n196 Tryz.prog QS:={
 mixed:=by kernel_rfl
 f196:=Tryz.func205.trans (congrArg some (by kernel_rfl))
 f259:=Tryz.func230.trans (congrArg some (by kernel_rfl))
 g3:=by kernel_rfl
 g4:=by kernel_rfl
 t0:=Tryz.underlying0
 a0:=Tryz.isAgg0
 z0:=Tryz.sizeOf0
 v0:=Tryz.zeroValue0
 t3:=Tryz.underlying3
 a3:=Tryz.isAgg3
 z3:=Tryz.sizeOf3
 v3:=Tryz.zeroValue3
 t4:=Tryz.underlying4
 a4:=Tryz.isAgg4
 z4:=Tryz.sizeOf4
 v4:=Tryz.zeroValue4
 t5:=Tryz.underlying5
 a5:=Tryz.isAgg5
 z5:=Tryz.sizeOf5
 v5:=Tryz.zeroValue5
 t9:=Tryz.underlying9
 a9:=Tryz.isAgg9
 z9:=Tryz.sizeOf9
 v9:=Tryz.zeroValue9
 t12:=Tryz.underlying12
 a12:=Tryz.isAgg12
 z12:=Tryz.sizeOf12
 v12:=Tryz.zeroValue12
 t46:=Tryz.underlying282
 a46:=Tryz.isAgg282
 z46:=Tryz.sizeOf282
 v46:=Tryz.zeroValue282
 t53:=Tryz.underlying295
 a53:=Tryz.isAgg295
 z53:=Tryz.sizeOf295
 v53:=Tryz.zeroValue295
 t119:=Tryz.underlying278
 a119:=Tryz.isAgg278
 z119:=Tryz.sizeOf278
 t138:=Tryz.underlying280
 a138:=Tryz.isAgg280
 z138:=Tryz.sizeOf280
 v138:=Tryz.zeroValue280
 t139:=Tryz.underlying281
 a139:=Tryz.isAgg281
 z139:=Tryz.sizeOf281
 v139:=Tryz.zeroValue281}
abbrev U8 (w:World):Prop:=Lib.Utf8Tabs 0 1 w
theorem FF (s:ByteArray) (w:World) (hs:s.size<=9223372036854775807) (hT:U8 w) :
 Calls Tryz.prog 205 #[.string s] w fun e w'=>e=.returned (.bool (Lib.validD s.data.toList))/\Below w.heap.size w w':=Any.utf8_ValidString J8 s w hs hT
