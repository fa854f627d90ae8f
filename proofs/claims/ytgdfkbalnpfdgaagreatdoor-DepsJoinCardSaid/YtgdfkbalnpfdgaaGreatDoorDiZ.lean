/- Part of the proof. -/
import Derived.Shelf.Sort.Plain
import Derived.Shelf.Slices.In.SortNone
import Derived.Maps.OwnSet
import Derived.Maps.OwnOps
import Derived.Maps.Views
import Derived.Maps.RangeWalk
import Derived.Deep.CutRange
import Derived.Deep.QuietTactic
import Derived.BigQuiet
import Derived.Deep.OwnRows
import Derived.Laws.IdiomRangeMap
import Derived.WalkSpells
import Derived.Test.YtgdfkbalnpfdgaaGreatDoorNs1
import Derived.Test.YtgdfkbalnpfdgaaGreatDoorRg
import Derived.Test.YtgdfkbalnpfdgaaGreatDoorGrPlain
import Derived.Test.YtgdfkbalnpfdgaaGreatDoorSto
set_option maxRecDepth 100000
set_option maxHeartbeats 4000000
set_option linter.unusedVariables false
set_option linter.unusedSimpArgs false
namespace Go.Proofs.YtgdfkbalnpfdgaaGreatDoor
open Go.Shelf Go.RowKit
def renISort:Go.Shelf.Ren:=⟨fun | 125=>66 | 128=>96 | 129=>97 | 189=>52 | 215=>131 | 216=>93 | 257=>65 | 294=>87 | 295=>88 | 296=>89 | 297=>90 | 298=>91 | 299=>92 | 300=>94 | 301=>95 | 328=>126 | 329=>127 | 330=>128 | 331=>129 | 332=>130 | 343=>152 | n=>n,fun | 0=>0 | 3=>3 | 4=>4 | 5=>5 | 9=>9 | 28=>44 | 46=>150 | 51=>191 | 53=>193 | 131=>175 | 182=>183 | 183=>184 | 218=>215 | 222=>219 | 228=>231 | 229=>69 | n=>n,fun | n=>n⟩
theorem layISort:Go.Proofs.Lays.n189 Tryz.prog renISort:={
 mixed:=by kernel_rfl
 f125:=Tryz.func66.trans (congrArg some (by kernel_rfl))
 f128:=Tryz.func96.trans (congrArg some (by kernel_rfl))
 f129:=Tryz.func97.trans (congrArg some (by kernel_rfl))
 f189:=Tryz.func52.trans (congrArg some (by kernel_rfl))
 f215:=Tryz.func131.trans (congrArg some (by kernel_rfl))
 f216:=Tryz.func93.trans (congrArg some (by kernel_rfl))
 f257:=Tryz.func65.trans (congrArg some (by kernel_rfl))
 f294:=Tryz.func87.trans (congrArg some (by kernel_rfl))
 f295:=Tryz.func88.trans (congrArg some (by kernel_rfl))
 f296:=Tryz.func89.trans (congrArg some (by kernel_rfl))
 f297:=Tryz.func90.trans (congrArg some (by kernel_rfl))
 f298:=Tryz.func91.trans (congrArg some (by kernel_rfl))
 f299:=Tryz.func92.trans (congrArg some (by kernel_rfl))
 f300:=Tryz.func94.trans (congrArg some (by kernel_rfl))
 f301:=Tryz.func95.trans (congrArg some (by kernel_rfl))
 f328:=Tryz.func126.trans (congrArg some (by kernel_rfl))
 f329:=Tryz.func127.trans (congrArg some (by kernel_rfl))
 f330:=Tryz.func128.trans (congrArg some (by kernel_rfl))
 f331:=Tryz.func129.trans (congrArg some (by kernel_rfl))
 f332:=Tryz.func130.trans (congrArg some (by kernel_rfl))
 f343:=Tryz.func152.trans (congrArg some (by kernel_rfl))
 t0:=Tryz.underlying0
 a0:=Tryz.isAgg0
 z0:=Tryz.sizeOf0
 v0:=Tryz.zeroValue0
 t3:=Tryz.underlying3
 a3:=Tryz.isAgg3
 z3:=Tryz.sizeOf3
 v3:=Tryz.zeroValue3
 t4:=Tryz.underlying4
 a4:=Tryz.isAgg4
 z4:=Tryz.sizeOf4
 v4:=Tryz.zeroValue4
 t5:=Tryz.underlying5
 a5:=Tryz.isAgg5
 z5:=Tryz.sizeOf5
 v5:=Tryz.zeroValue5
 t9:=Tryz.underlying9
 a9:=Tryz.isAgg9
 z9:=Tryz.sizeOf9
 v9:=Tryz.zeroValue9
 t28:=Tryz.underlying44
 a28:=Tryz.isAgg44
 z28:=Tryz.sizeOf44
 v28:=Tryz.zeroValue44
 t46:=Tryz.underlying150
 a46:=Tryz.isAgg150
 z46:=Tryz.sizeOf150
 v46:=Tryz.zeroValue150
 t51:=Tryz.underlying191
 a51:=Tryz.isAgg191
 z51:=Tryz.sizeOf191
 v51:=Tryz.zeroValue191
 t53:=Tryz.underlying193
 a53:=Tryz.isAgg193
 z53:=Tryz.sizeOf193
 v53:=Tryz.zeroValue193
 t131:=Tryz.underlying175
 a131:=Tryz.isAgg175
 z131:=Tryz.sizeOf175
 v131:=Tryz.zeroValue175
 t182:=Tryz.underlying183
 a182:=Tryz.isAgg183
 z182:=Tryz.sizeOf183
 v182:=Tryz.zeroValue183
 t183:=Tryz.underlying184
 a183:=Tryz.isAgg184
 z183:=Tryz.sizeOf184
 v183:=Tryz.zeroValue184
 t218:=Tryz.underlying215
 a218:=Tryz.isAgg215
 z218:=Tryz.sizeOf215
 v218:=Tryz.zeroValue215
 t222:=Tryz.underlying219
 a222:=Tryz.isAgg219
 z222:=Tryz.sizeOf219
 v222:=Tryz.zeroValue219
 t228:=Tryz.underlying231
 a228:=Tryz.isAgg231
 z228:=Tryz.sizeOf231
 v228:=Tryz.zeroValue231
 t229:=Tryz.underlying69
 a229:=Tryz.isAgg69
 z229:=Tryz.sizeOf69
 v229:=Tryz.zeroValue69}
open Go.RowKit Go.Sort Go.Shelf
open Go.Maps (Keyed)
theorem zero_boolT (w:World):(zeroValue 4).run Tryz.prog w=.ok (.bool false) w:=by kernel_rfl
theorem key_int:Keyed Tryz.prog 3:=Go.Maps.int_keyed Tryz.underlying3
theorem key_of {k:Int} (h1:-9223372036854775808≤k) (h2:k≤9223372036854775807):keyOf Tryz.prog 3 (.int .i64 k)=some (.int .i64 k) :=
 Go.Maps.keyOf_int_mk Tryz.underlying3 (WalkArith.wf_i64 ⟨h1,h2⟩)
theorem isKey_int (k:Int):WideAt.IsKeyLit (.int .i64 k):=by unfold WideAt.IsKeyLit;trivial
def fput {α:Type} (f:Int→α) (k:Int) (y:α):Int→α:=fun j=>if j=k then y else f j
theorem fput_same {α:Type} (f:Int→α) (k:Int) (y:α):fput f k y k=y:=if_pos rfl
theorem fput_other {α:Type} (f:Int→α) {k j:Int} (y:α) (h:j≠k):fput f k y j=f j:=if_neg h
def MT (w:World) (b n:Nat) (f:Int→Bool):Prop :=
 ∃ D:DataW Unit,w.ownsMap Tryz.prog 3 (plainElem Tryz.prog 4) b n D∧Go.Maps.IsMap D∧∀ k:Int,D.atKey (.int .i64 k) (.lit (.bool false))=.lit (.bool (f k))∧Go.Maps.has D (.int .i64 k)=f k
theorem ownsMapT_same {H:Type} {P:Program} {k:TypeId} {R:Value→Option (DataW H × List MemPlace)} {w w':World} {b n:Nat} {D:DataW H} (h:w.ownsMap P k R b n D) (hb:w'.heap[b]?=w.heap[b]?):w'.ownsMap P k R b n D:=by
 obtain⟨es,clock,h1,h2⟩:=h
 exact⟨es,clock,hb.trans h1,h2⟩
section
variable {w w':World} {b n:Nat} {f:Int→Bool}
theorem MT.new (w:World):MT (w.alloc (.map #[] 0)) w.heap.size 0 (fun _=>false) :=
 ⟨.map [],World.ownsMap_made _ _ _ _,⟨[],rfl⟩,fun k=>⟨rfl,rfl⟩⟩
theorem MT.only {F:Nat→Prop} (h:MT w b n f) (ho:Only F w w') (hF:¬F b):MT w' b n f:=by
 obtain⟨D,h1,h2,h3⟩:=h
 exact⟨D,ownsMapT_same h1 (ho.block b h1.lt hF),h2,h3⟩
theorem MT.lt (h:MT w b n f):b<w.heap.size:=by obtain⟨D,h1,_⟩:=h;exact h1.lt
theorem MT.below (h:MT w b n f) (hb:Below w.heap.size w w'):MT w' b n f:=h.only (Only.of_below hb (fun _=>False)) (fun h=>h)
theorem MT.look (h:MT w b n f) {k:Int} (h1:-9223372036854775808≤k) (h2:k≤9223372036854775807):(Instr.lookup 52 (.map (some b)) (.int .i64 k) false).run Tryz.prog w=.ok (.bool (f k)) w:=by
 obtain⟨D,g1,g2,g3⟩:=h
 obtain⟨v,ps,hrun,hv⟩:=g1.lookup key_int Tryz.underlying52 (zero_boolT w) (plainElem_bool Tryz.underlying4 false) (key_of h1 h2)
 rw[(g3 k).1] at hv
 rw[hrun]
 have hu:Tryz.prog.underlying 4=some .bool:=Tryz.underlying4
 unfold plainElem at hv
 rw[hu] at hv
 cases v<;>simp_all
end
def cZ (l:List Int):List Value:=l.map fun z=>.int .i64 z
theorem cZ_len (l:List Int):(cZ l).length=l.length:=by simp[cZ]
theorem cZ_one (l:List Int):∀ u∈cZ l,u.oneCell'=true:=by intro u hu;simp only[cZ,List.mem_map] at hu;obtain⟨b,_,rfl⟩:=hu;rfl
theorem cZ_app (a b:List Int):cZ (a++b)=cZ a++cZ b:=by simp[cZ]
theorem Rd.oneZ (w:World) (t:TypeId) (z:Int):Rd (w.alloc (.cells #[.int .i64 z] t)) 1 (some ⟨w.heap.size,0,none⟩) 1 1 (cZ [z]):=Rd.lit w 1 1 #[.int .i64 z] t (0,0) rfl (by simp[maxLen])
def Rises (f:Int→Bool) (l:List Int):Prop:=l.Pairwise (· < ·)∧∀ k,k∈l↔f k=true
theorem sort_rises {f:Int→Bool} {zs:List Int} (hn:zs.Nodup) (hm:∀ k,k∈zs↔f k=true):Rises f (zs.mergeSort fun x y=>decide (x≤y)):=by
 have hp:=List.mergeSort_perm zs (fun x y=>decide (x≤y))
 have hs:=List.pairwise_mergeSort (le:=fun x y:Int=>decide (x≤y)) (by simp;omega) (by simp;omega) zs
 refine⟨?_,fun k=>by rw[hp.mem_iff];exact hm k⟩
 have hd:(zs.mergeSort fun x y=>decide (x≤y)).Nodup:=hp.nodup_iff.2 hn
 have hs2:=List.Pairwise.and hs hd
 exact hs2.imp (fun h=>by have:=h.1;have:=h.2;simp at *;omega)
theorem isort_any (w:World) (base:Nat) (A:Option Addr) (n c:Nat) (zs:List Int) (h:Ow w base 3 1 A n c (cZ zs)) (hn:n≤1000000) :
 Calls Tryz.prog 52 #[.slice A n c] w fun e w'=>e=.returned (.tuple #[])∧Ow w' base 3 1 A n c (cZ (zs.mergeSort fun x y=>decide (x≤y)))∧Only (fun k=>blk A=some k) w w':=by
 have hl:zs.length=n:=by have:=h.len;simpa [cZ] using this
 rcases h.2 with ⟨rfl,rfl,rfl⟩ | ⟨g,cur,rfl,hb,hg,hnc,hcm,hcs,ht⟩
 ·have hz:zs=[]:=List.eq_nil_of_length_eq_zero hl
  subst hz
  refine Calls.mono (P:=Tryz.prog) (Any.slices_Sort_int_none (P:=Tryz.prog) (ρ:=renISort) layISort none 0 w) (fun e w' h2=>?_)
  obtain⟨rfl,rfl⟩:=h2
  exact⟨rfl,by simpa [cZ] using Ow.nil _ _ _ _,Only.refl _ _⟩
 ·subst hl
  have hlt:g<w.heap.size:=(Array.getElem?_eq_some_iff.1 hg).1
  have hH:Holds (Value.int .i64) w g 0 zs.toArray:=fun j hj=>by
   rw[Nat.zero_add]
   have hj2:j<zs.length:=by simpa using hj
   refine⟨?_,frozen_of_row w g j cur _ hg⟩
   rw[cell_of_row w g j cur _ (0,0) hg]
   have h4:(cZ zs)[j]?=some (.int .i64 zs[j]):=by simp[cZ,hj2]
   rw[←ht,List.getElem?_take_of_lt (by omega)] at h4
   rw[getElem!_pos _ j hj]
   simpa using h4
  refine Calls.mono (P:=Tryz.prog) (Any.slices_Sort_int (P:=Tryz.prog) (ρ:=renISort) layISort g 0 c zs w hH hlt (by omega)) (fun e w' h2=>?_)
  obtain⟨rfl,m,os,rfl⟩:=h2
  obtain⟨D,hD⟩:∃ D,D=(zs.mergeSort fun x y=>decide (x≤y)):=⟨_,rfl⟩
  have hDl:D.length=zs.length:=by rw[hD,List.length_mergeSort]
  rw[←hD]
  have hp:∀ k,(putRow (Value.int .i64) (Sort.ahead w m) g 0 D.toArray).heap[k]?=if g=k then w.heap[k]?.map (onCells (putCells (Value.int .i64) 0 D.toArray)) else w.heap[k]?:=fun k=>by
   simp only[putRow,mapBlock,Sort.ahead,Array.getElem?_modify]
  have hsz:(putRow (Value.int .i64) (Sort.ahead w m) g 0 D.toArray).heap.size=w.heap.size:=by simp[putRow,mapBlock,Sort.ahead]
  have hgo:∀ k,k<w.heap.size→(grow (putRow (Value.int .i64) (Sort.ahead w m) g 0 D.toArray) os).heap[k]?=(putRow (Value.int .i64) (Sort.ahead w m) g 0 D.toArray).heap[k]?:=fun k hk=>heap_grow_old _ _ (by rw[hsz];exact hk)
  refine⟨rfl,⟨by rw[cZ_len,hDl,Nat.mul_one],.inr ⟨g,putCells (Value.int .i64) 0 D.toArray cur,rfl,hb,?_,hnc,hcm,by unfold putCells;simpa using hcs,?_⟩⟩,⟨rfl,rfl,rfl,?_,fun k hk hne=>?_⟩⟩
  ·rw[hgo g hlt,hp g,if_pos rfl,hg];rfl
  ·apply List.ext_getElem?
   intro j
   by_cases hj:j<zs.length
   ·rw[List.getElem?_take_of_lt (by omega)]
    have hjc:j<cur.size:=by omega
    simp[putCells,cZ,hjc,hDl,hj]
   ·rw[List.getElem?_eq_none (by rw[List.length_take];omega),List.getElem?_eq_none (by rw[cZ_len];omega)]
  ·unfold grow
   simp[hsz]
  ·rw[hgo k hk,hp k,if_neg (fun e=>hne (by simp[e]))]
theorem bool_inv (v:Value) (y:DataW Unit × List MemPlace) (hv:plainElem Tryz.prog 4 v=some y):∃ c,v=.bool c:=by
 have hu:Tryz.prog.underlying 4=some .bool:=Tryz.underlying4
 unfold plainElem at hv
 rw[hu] at hv
 cases v<;>simp_all
theorem wp_next_T {w:World} {ops:Array Oper} {rest:List Oper} {o:Oper} {a:Act} {Q:Exit→Act→World→Prop} (hg:o.guard=none) (it:Operand) (hop:o.op=Op.next it false) (b r n:Nat) (D:DataW Unit) (left:Lit→Bool) (cnt:Nat)
 (hit:a.eval it=.pointer (some ⟨r,0,none⟩)) (h:w.ranges Tryz.prog 3 (plainElem Tryz.prog 4) b r n D left cnt)
 (hDone:cnt=0→(∀ kl,left kl=false)→wpList Tryz.prog ops Q rest (a.put o.dst (.tuple #[.bool false])) w)
 (hMore:∀ (x:Int) (v:Value) (w':World) (cnt':Nat),left (.int .i64 x)=true→w'.ranges Tryz.prog 3 (plainElem Tryz.prog 4) b r n D (fun z=>left z&&!z.sameKey (.int .i64 x)) cnt'→cnt'<cnt →
   w.grownBy w' (some r)→w'.heap.size=w.heap.size→(Instr.entry (.pointer (some ⟨r,0,none⟩))).run Tryz.prog w'=.ok (.tuple #[.int .i64 x,v]) w'→wpList Tryz.prog ops Q rest (a.put o.dst (.tuple #[.bool true,.int .i64 x,v])) w') :
 wpList Tryz.prog ops Q (o::rest) a w :=
 wpList_next_ranges w hg it hop 3 key_int (plainElem Tryz.prog 4) (fun z:Int=>Value.int .i64 z) Value.bool (fun key kl hkey=>by obtain⟨x,rfl,_⟩:=Maps.keyOf_int_inv Tryz.underlying3 hkey;exact⟨x,rfl⟩) bool_inv b r n D left cnt hit h hDone
  (fun x c kl y w' cnt' hkey hlk hR hat hrg hlt hgr hsz hen=>by
    obtain⟨x',ex,rfl,hwx⟩:=Maps.keyOf_int_inv Tryz.underlying3 hkey
    injection ex with _ ex
    subst ex
    exact hMore x (.bool c) w' cnt' hlk hrg hlt hgr hsz hen)
theorem rising_any (w:World) (b n:Nat) (f:Int→Bool) (h:MT w b n f) (hn:n≤1000000) :
 Calls Tryz.prog 35 #[.map (some b)] w fun e w'=>∃ A c l,e=.returned (.slice A l.length c)∧Ow w' w.heap.size 3 1 A l.length c (cZ l)∧Below w.heap.size w w'∧Rises f l:=by
 obtain⟨D,hD,hm,hk⟩:=h
 have hsz:=hD.size_le
 obtain⟨N,hN⟩:∃ N,N=Go.Maps.size D:=⟨_,rfl⟩
 rw[←hN] at hsz
 have HN:=Hd hN
 have HM:=Hd hD
 have HBL:=Hd hD.lt
 have HK:=Hd hk
 clear hD hm hk hN
 go_enter Tryz.func35,Tryz.ntmps35
 go_wp2_with (with_reducible refine wpList_range_own _ rfl (.tmp 4) 52 rfl 3 4 key_int Tryz.underlying52 (plainElem Tryz.prog 4) b n D rfl HM.out ?_;intro w2 hrg hg2 hz2;have HB2:=Hd (Below.grown (Below.refl w.heap.size w) hg2 (Nat.le_refl _) (fun k e=>by cases e));have HRG:=Hd hrg;have HZ2:=Hd hz2;clear hrg hg2 hz2)
 go_frame
 go_loopg [2] N (fun g v wr=>∃ (A:Option Addr) (c:Nat) (O:List Int) (left:Lit→Bool) (cnt:Nat),v=.slice A O.length c∧cnt+O.length≤N∧cnt≤g∧Hid (wr.ranges Tryz.prog 3 (plainElem Tryz.prog 4) b w.heap.size n D left cnt)∧Hid (Ow wr (w.heap.size+1) 3 1 A O.length c (cZ O))∧Hid (Below w.heap.size w wr)∧Hid (w.heap.size+1≤wr.heap.size)∧Hid (O.Nodup)∧Hid (∀ k:Int,k∈O→f k=true∧left (.int .i64 k)=false)∧Hid (∀ k:Int,f k=true→k∈O∨left (.int .i64 k)=true)∧Hid (∀ k:Int,left (.int .i64 k)=true→f k=true))
 case atStart=>exact⟨none,0,[],_,_,rfl,Nat.le_of_eq (by rw[HN.out];simp),Nat.le_of_eq HN.out.symm,HRG,Hd (Ow.nil _ _ _ _),HB2,Hd (Nat.le_of_eq HZ2.out.symm),Hd List.nodup_nil,Hd (fun k hk=>by cases hk),Hd (fun k hk=>.inr (by rw[(HK.out k).2,hk])),Hd (fun k hk=>by rw[←(HK.out k).2,hk])⟩
 obtain⟨A,c,O,left,cnt,rfl,hcn,hcg,HR,HO,HB,HS,HU,HOF,HFO,HLF⟩:=hrel
 rename World=>wo
 have hoc:=HO.out.cap
 go_wp2_with (with_reducible refine wp_next_T rfl (.tmp 5) rfl b w.heap.size n D left cnt rfl HR.out ?_ ?_)
 ·intro hc0 hl0
  have hmem:∀ k,k∈O↔f k=true:=fun k=>⟨fun h=>(HOF.out k h).1,fun h=>(HFO.out k h).resolve_right (by rw[hl0];simp)⟩
  have HRS:=Hd (sort_rises HU.out hmem)
  have HSO:=Hd (isort_any wo (w.heap.size+1) A O.length c O HO.out (by omega))
  obtain⟨l,hl⟩:∃ l,l=(O.mergeSort fun x y=>decide (x≤y)):=⟨_,rfl⟩
  have hlen:O.length=l.length:=by rw[hl,List.length_mergeSort]
  rw[←hl] at HRS HSO
  have HLEN:=Hd hlen
  clear hmem hl hlen hc0 hl0
  go_wp2_with fail
  refine HSO.out.mono ?_
  rintro e w5 ⟨rfl,ho5,on5⟩
  have HO5:=Hd ho5
  have HB5:=Hd (HB.out.trans (on5.below HB.out.size (fun i hi=>by have:=(HO.out.lt hi).1;omega)))
  clear ho5 on5
  go_wp2_with fail
  go_ret
  exact⟨A,c,l,by rw[HLEN.out];rfl,by have:=HO5.out.le (base':=w.heap.size) (by omega);rwa [←HLEN.out],HB5.out,HRS.out⟩
 ·intro x cv w3 cnt3 hlk hrg3 hlt3 hg3 hs3 hen
  have hfx:=HLF.out x hlk
  have hxO:x∉O:=fun h=>by have:=(HOF.out x h).2;rw[this] at hlk;cases hlk
  have HO3:=Hd (HO.out.grown (row:=some w.heap.size) hg3 (by
   rcases A with _ | a
   ·exact .inl rfl
   ·right;intro e;have:=(HO.out.lt rfl).1;injection e with e;have e2:a.block=w.heap.size:=e;omega))
  have HB3:=Hd (HB.out.grown hg3 HB.out.size (fun k e=>by injection e with e;omega))
  have HS3:Hid (w.heap.size+1≤w3.heap.size):=Hd (by rw[hs3];exact HS.out)
  have HR3:=Hd hrg3
  have HU2:Hid (O++[x]).Nodup:=Hd (by rw[List.nodup_append];exact⟨HU.out,by simp,fun a ha b hb e=>by rw[List.mem_singleton] at hb;subst hb;subst e;exact hxO ha⟩)
  have HOF2:Hid (∀ k:Int,k∈O++[x]→f k=true∧(fun z=>left z&&!z.sameKey (.int .i64 x)) (.int .i64 k)=false):=Hd (fun k hk=>by
   rcases List.mem_append.1 hk with hk | hk
   ·exact⟨(HOF.out k hk).1,by simp only[(HOF.out k hk).2,Bool.false_and]⟩
   ·rw[List.mem_singleton] at hk;subst hk
    exact⟨hfx,by simp[Lit.sameKey]⟩)
  have HFO2:Hid (∀ k:Int,f k=true→k∈O++[x]∨(fun z=>left z&&!z.sameKey (.int .i64 x)) (.int .i64 k)=true):=Hd (fun k hk=>by
   by_cases e:k=x
   ·left;subst e;simp
   ·rcases HFO.out k hk with h | h
    ·left;simp[h]
    ·right;simp[h,Lit.sameKey,e])
  have HLF2:Hid (∀ k:Int,(fun z=>left z&&!z.sameKey (.int .i64 x)) (.int .i64 k)=true→f k=true):=Hd (fun k hk=>HLF.out k (by simp only[Bool.and_eq_true] at hk;exact hk.1))
  clear hlk hrg3 hg3 hs3 hfx hxO
  go_wp2_with (at_builtin;refine step_int rfl (.tmp 10) (.tmp 12) rfl (w.heap.size+1) A c O.length (cZ O) rfl (HO3.out.alloc _) _ 1 1 (cZ [x]) rfl (Rd.oneZ _ _ _) (cZ_one _) (by omega) (by simp;have:=HS3.out;omega) ?_;intro A' c' w6 ho hg hat;have HO6:=Hd ho;have HG6:=Hd hg;clear ho hg hat)
  go_roundg cnt3
  case measure=>omega
  case rel=>exact⟨A',c',O++[x],_,cnt3,by simp,by simp;omega,Nat.le_refl _,Hd ((HR3.out.alloc _).kept HG6.out (fun e=>by have:=(HO3.out.lt e.symm).1;have:=HBL.out;omega) (fun e=>by have:=(HO3.out.lt e.symm).1;omega)),Hd (by have:=HO6.out;simpa [cZ_app] using this),Hd ((HB3.out.alloc HB3.out.size _).grown HG6.out (by simp;have:=HS3.out;omega) (fun k hk=>by have:=(HO3.out.lt hk).1;omega)),Hd (by have:=HG6.out.size;simp at this;have:=HS3.out;omega),HU2,HOF2,HFO2,HLF2⟩
open Go.RowKit
theorem cZ_get {l:List Int} {i:Nat} {z:Int} (h:l[i]?=some z):(cZ l)[i]?=some (.int .i64 z):=by simp[cZ,h]
theorem Rd.zcell {w:World} {A:Option Addr} {c n:Nat} {l:List Int} (h:Rd w 1 A n c (cZ l)) {i:Nat} {z:Int} (hz:l[i]?=some z):∃ ad,A=some ad∧w.cell? (ad.add i)=some (.int .i64 z):=h.at_ i _ (cZ_get hz)
structure LL (w:World) (A:Option Addr) (c:Nat) (ls:List (List Int)):Prop where
 cap:ls.length≤c
 max:c≤maxLen
 row:∀ (i:Nat) (x:List Int),ls[i]?=some x→∃ ad Ai ci,A=some ad∧w.cell? (ad.add i)=some (.slice Ai x.length ci)∧Rd w 1 Ai x.length ci (cZ x)
theorem LL.below {w w':World} {A:Option Addr} {c:Nat} {ls:List (List Int)} (h:LL w A c ls) (hb:Below w.heap.size w w'):LL w' A c ls :=
 ⟨h.cap,h.max,fun i x hx=>by
   obtain⟨ad,Ai,ci,e,hc,hr⟩:=h.row i x hx
   exact⟨ad,Ai,ci,e,(hb.cell (World.block_lt_of_cell? w _ hc)).trans hc,hr.below hb⟩⟩
theorem LL.drewN {w:World} {A:Option Addr} {c:Nat} {ls:List (List Int)} (h:LL w A c ls) (k:Nat):LL (w.drewN k) A c ls:=h.below ⟨rfl,rfl,rfl,Nat.le_refl _,fun _ _=>rfl⟩
theorem take_anyZ {α:Type} {l:List α} {p:α→Bool} {i:Nat} {x:α} (h:l[i]?=some x):(l.take (i+1)).any p=((l.take i).any p||p x):=by rw[List.take_add_one,h];simp
open Go.RowKit
theorem rises_eq {f:Int→Bool}:∀ {l m:List Int},Rises f l→Rises f m→l=m:=by
 intro l m h1 h2
 have hp:l.Perm m:=(List.perm_ext_iff_of_nodup (h1.1.imp (fun h=>by omega)) (h2.1.imp (fun h=>by omega))).2 (fun k=>(h1.2 k).trans (h2.2 k).symm)
 exact hp.eq_of_pairwise (fun a b _ _ h k=>by omega) h1.1 h2.1
open Go.RowKit
def cB (l:List Bool):List Value:=l.map Value.bool
def bF (bs:List Bool) (k:Int):Bool:=decide (0≤k)&&bs.getD k.toNat false
theorem bF_nat (bs:List Bool) (j:Nat):bF bs (j:Int)=bs.getD j false:=by unfold bF;simp
open Go.RowKit
section
variable {P:Program}
end
def rowAt (ls:List (List Int)) (k:Int):List Int:=ls.getD k.toNat []
def vld (ls:List (List Int)) (k:Int):Prop:=0≤k∧k<(ls.length:Int)
inductive Rch (ls:List (List Int)) (s:Int):Int→Prop
 | base {k:Int}:k∈rowAt ls s→vld ls k→Rch ls s k
 | step {i k:Int}:Rch ls s i→k∈rowAt ls i→vld ls k→Rch ls s k
theorem Rch.vld {ls:List (List Int)} {s k:Int} (h:Rch ls s k):vld ls k:=by cases h<;>assumption
open Go.RowKit
section
variable {P:Program} (w:World)
end
def tZ (V:List Int):Int→Bool:=fun z=>V.contains z
theorem tZ_iff {V:List Int} {k:Int}:tZ V k=true↔k∈V:=by simp[tZ]
theorem tZ_put (V:List Int) (k:Int):fput (tZ V) k true=tZ (V++[k]):=by
 funext z
 by_cases hz:z=k
 ·subst hz;rw[fput_same];simp[tZ]
 ·rw[fput_other _ _ hz];simp[tZ,hz]
theorem tZ_nil:tZ []=fun _=>false:=by funext z;rfl
theorem MT.ne {w:World} {b n:Nat} {f:Int→Bool} (h:MT w b n f) {p:Addr} {v:Value} (hc:w.cell? p=some v):p.block≠b:=by
 obtain⟨D,⟨es,k,h1,_⟩,_⟩:=h
 rintro e
 unfold World.cell? at hc
 rw[e,h1] at hc
 cases hc
theorem valid_len {ls:List (List Int)} {V:List Int} (hn:V.Nodup) (hv:∀ k∈V,vld ls k):V.length≤ls.length:=by
 have h:=nodup_len ls.length (V.map Int.toNat) (by
  rw[List.Nodup,List.pairwise_map]
  refine List.Pairwise.imp_of_mem ?_ hn
  intro a b ha hb hab e
  have h1:=(hv a ha).1
  have h2:=(hv b hb).1
  omega) (fun x hx=>by
  obtain⟨k,hk,rfl⟩:=List.mem_map.1 hx
  have h1:=(hv k hk).1
  have h2:=(hv k hk).2
  omega)
 simpa using h
theorem rowAt_nat {ls:List (List Int)} {j:Nat} {x:List Int} (h:ls[j]?=some x):rowAt ls (j:Int)=x:=by
 unfold rowAt
 rw[show ((j:Int)).toNat=j from rfl,List.getD_eq_getElem?_getD,h];rfl
section
variable {w:World} {ops:Array Oper} {rest:List Oper} {o:Oper} {a:Act} {Q:Exit→Act→World→Prop}
end
open Go.RowKit
open Go.RowKit
theorem Blk.setB {w:World} {g:Nat} {bs:List Bool} (h:Blk w g (cB bs).toArray 4) (i:Nat) (b:Bool):Blk (w.setCell ⟨g,i,none⟩ (.bool b)) g (cB (bs.set i b)).toArray 4:=by
 refine(h.set i (.bool b)).eq ?_
 apply Array.ext
 ·simp[cB]
 ·intro j h1 h2
  simp[cB,List.getElem_set,Array.getElem_setIfInBounds]
theorem bF_set {bs:List Bool} {i:Nat} (hi:i<bs.length) (k:Int):bF (bs.set i true) k=true↔bF bs k=true∨k=(i:Int):=by
 unfold bF
 simp only[Bool.and_eq_true,decide_eq_true_eq]
 rw[List.getD_eq_getElem?_getD,List.getD_eq_getElem?_getD,List.getElem?_set]
 by_cases hk:i=k.toNat
 ·subst hk
  rw[if_pos rfl,if_pos hi]
  constructor
  ·rintro⟨h,_⟩;exact .inr (by omega)
  ·intro h
   refine⟨?_,rfl⟩
   rcases h with h | h
   ·exact h.1
   ·omega
 ·rw[if_neg hk]
  constructor
  ·intro h;exact .inl h
  ·rintro(h | h)
   ·exact h
   ·exact absurd (by omega) hk
open Go.RowKit
structure GB (w0:World) (ls:List (List Int)) (s:Int) (bs:List Bool) (w:World):Prop where
 blk:Blk w w0.heap.size (cB bs).toArray 4
 len:bs.length=ls.length
 bel:Below w0.heap.size w0 w
 rch:∀ k,bF bs k=true→Rch ls s k
theorem GB.put {w0 w:World} {ls:List (List Int)} {s:Int} {bs:List Bool} (h:GB w0 ls s bs w) {q:Nat} (hq:q<ls.length) (hr:Rch ls s (q:Int)):GB w0 ls s (bs.set q true) (w.setCell ⟨w0.heap.size,q,none⟩ (.bool true)) :=
 ⟨h.blk.setB q true,by rw[List.length_set];exact h.len,h.bel.setCell (Nat.le_refl _) _,fun k hk=>by
   rcases (bF_set (by rw[h.len];exact hq) k).1 hk with hk | hk
   ·exact h.rch k hk
   ·rw[hk];exact hr⟩
theorem GB.at_ {w0 w:World} {ls:List (List Int)} {s:Int} {bs:List Bool} (h:GB w0 ls s bs w) {q:Nat} (hq:q<ls.length):∃ b,bs[q]?=some b∧bF bs (q:Int)=b∧w.cell? ⟨w0.heap.size,q,none⟩=some (.bool b)∧w.frozen? ⟨w0.heap.size,q,none⟩=false:=by
 obtain⟨b,hb⟩:=get_lt (l:=bs) (i:=q) (by rw[h.len];exact hq)
 exact⟨b,hb,by rw[bF_nat,List.getD_eq_getElem?_getD,hb];rfl,h.blk.cell q (by simp[cB,hb]),h.blk.frozen q⟩
def Cls (ls:List (List Int)) (s:Int) (bs:List Bool) (i:Nat):Prop:=∀ p:Nat,p<i→((p:Int)=s∨bF bs (p:Int)=true)→∀ k∈rowAt ls (p:Int),vld ls k→bF bs k=true
theorem Cls.succ {ls:List (List Int)} {s:Int} {bs:List Bool} {i:Nat} (h:Cls ls s bs i) (h2:((i:Int)=s∨bF bs (i:Int)=true)→∀ k∈rowAt ls (i:Int),vld ls k→bF bs k=true):Cls ls s bs (i+1):=fun p hp=>by
 rcases Nat.lt_or_ge p i with h3 | h3
 ·exact h p h3
 ·have:p=i:=by omega
  subst this;exact h2
open Go.RowKit
def turnF (ls:List (List Int)) (k:Nat):Int→Bool:=fun i=>decide (0≤i)&&(decide (i<(ls.length:Int))&&(rowAt ls i).contains (k:Int))
theorem turnF_iff {ls:List (List Int)} {k:Nat} {i:Int}:turnF ls k i=true↔0≤i∧i<(ls.length:Int)∧(k:Int)∈rowAt ls i:=by
 unfold turnF
 simp
def TurnP (ls ms:List (List Int)):Prop:=ms.length=ls.length∧∀ (k:Nat) (m:List Int),ms[k]?=some m→Rises (turnF ls k) m
def Til (ls:List (List Int)) (j a:Nat) (F:Nat→Int→Bool):Prop:=∀ (k:Nat) (i:Int),k<ls.length→(F k i=true↔(0≤i∧i<(j:Int)∧(k:Int)∈rowAt ls i)∨(i=(j:Int)∧(k:Int)∈(rowAt ls i).take a))
theorem Til.zero {ls:List (List Int)}:Til ls 0 0 (fun _ _=>false):=fun k i hk=>by
 constructor
 ·intro h;cases h
 ·rintro(h | h)
  ·omega
  ·simp at h
theorem Til.row {ls:List (List Int)} {j a:Nat} {F:Nat→Int→Bool} (h:Til ls j a F) (ha:(rowAt ls (j:Int)).length≤a):Til ls (j+1) 0 F:=fun k i hk=>by
 rw[h k i hk]
 constructor
 ·rintro(h1 | ⟨rfl,h1⟩)
  ·exact .inl ⟨h1.1,by omega,h1.2.2⟩
  ·rw[List.take_of_length_le ha] at h1
   exact .inl ⟨by omega,by omega,h1⟩
 ·rintro(⟨h1,h2,h3⟩ | ⟨_,h1⟩)
  ·rcases (show i<(j:Int)∨i=(j:Int) by omega) with h4 | h4
   ·exact .inl ⟨h1,h4,h3⟩
   ·refine .inr ⟨h4,?_⟩
    subst h4
    rwa [List.take_of_length_le ha]
  ·simp at h1
theorem Til.skip {ls:List (List Int)} {j a:Nat} {F:Nat→Int→Bool} {z:Int} (h:Til ls j a F) (hz:(rowAt ls (j:Int))[a]?=some z) (hv:¬vld ls z):Til ls j (a+1) F:=fun k i hk=>by
 rw[h k i hk]
 refine or_congr Iff.rfl (and_congr_right fun e=>?_)
 subst e
 rw[List.take_add_one,hz]
 simp only[Option.toList,List.mem_append,List.mem_singleton]
 refine⟨.inl,fun h2=>h2.resolve_right fun e=>hv ?_⟩
 rw[←e]
 exact⟨by omega,by omega⟩
def fset (F:Nat→Int→Bool) (k:Nat) (i:Int):Nat→Int→Bool:=fun q=>if q=k then fput (F k) i true else F q
theorem fset_same (F:Nat→Int→Bool) (k:Nat) (i:Int):fset F k i k=fput (F k) i true:=if_pos rfl
theorem fset_other (F:Nat→Int→Bool) {k q:Nat} (i:Int) (h:q≠k):fset F k i q=F q:=if_neg h
theorem Til.put {ls:List (List Int)} {j a q:Nat} {F:Nat→Int→Bool} (h:Til ls j a F) (hz:(rowAt ls (j:Int))[a]?=some (q:Int)):Til ls j (a+1) (fset F q (j:Int)):=fun k i hk=>by
 have key:(k:Int)∈(rowAt ls (j:Int)).take (a+1)↔(k:Int)∈(rowAt ls (j:Int)).take a∨k=q:=by
  rw[List.take_add_one,hz]
  simp only[Option.toList,List.mem_append,List.mem_singleton]
  exact or_congr Iff.rfl (by omega)
 have step:(F k i=true∨(k=q∧i=(j:Int)))↔fset F q (j:Int) k i=true:=by
  by_cases hkq:k=q
  ·subst hkq
   rw[fset_same]
   by_cases hij:i=(j:Int)
   ·subst hij;rw[fput_same];simp
   ·rw[fput_other _ _ hij];simp[hij]
  ·rw[fset_other F (j:Int) hkq];simp[hkq]
 rw[←step,h k i hk]
 constructor
 ·rintro((h1 | ⟨rfl,h1⟩) | ⟨rfl,rfl⟩)
  ·exact .inl h1
  ·exact .inr ⟨rfl,key.2 (.inl h1)⟩
  ·exact .inr ⟨rfl,key.2 (.inr rfl)⟩
 ·rintro(h1 | ⟨rfl,h1⟩)
  ·exact .inl (.inl h1)
  ·rcases key.1 h1 with h2 | h2
   ·exact .inl (.inr ⟨rfl,h2⟩)
   ·exact .inr ⟨h2,rfl⟩
theorem Til.all {ls:List (List Int)} {j:Nat} {F:Nat→Int→Bool} (h:Til ls j 0 F) (hj:j=ls.length) {k:Nat} (hk:k<ls.length):F k=turnF ls k:=by
 subst hj
 funext i
 have h1:=h k i hk
 have h2:=turnF_iff (ls:=ls) (k:=k) (i:=i)
 have h3:F k i=true↔turnF ls k i=true:=by rw[h1,h2];simp
 cases h4:F k i<;>cases h5:turnF ls k i<;>simp_all
def cM (ms:List (Option Nat)):List Value:=ms.map Value.map
structure Gtm (w0:World) (N M:Nat) (ms:List (Option Nat)) (F:Nat→Int→Bool) (w:World):Prop where
 blk:Blk w w0.heap.size (cM ms).toArray 52
 len:ms.length=N
 bel:Below w0.heap.size w0 w
 mt:∀ (k b:Nat),ms[k]?=some (some b)→w0.heap.size<b∧∃ n,n≤M∧MT w b n (F k)
 nl:∀ k:Nat,ms[k]?=some none→F k=fun _=>false
 inj:∀ (j k b:Nat),ms[j]?=some (some b)→ms[k]?=some (some b)→j=k
section
variable {w0 w:World} {N M:Nat} {ms:List (Option Nat)} {F:Nat→Int→Bool}
theorem Gtm.new (w0:World) (N:Nat):Gtm w0 N 0 (List.replicate N none) (fun _ _=>false) (w0.alloc (.cells (cM (List.replicate N none)).toArray 52)) :=
 ⟨Blk.new _ _ _,by simp,(Below.refl _ w0).alloc (Nat.le_refl _) _,fun k b h=>by
   rw[List.getElem?_replicate] at h;split at h<;>simp at h,fun _ _=>rfl,fun j k b h=>by
   rw[List.getElem?_replicate] at h;split at h<;>simp at h⟩
theorem Gtm.more (h:Gtm w0 N M ms F w) {M':Nat} (hM:M≤M'):Gtm w0 N M' ms F w :=
 ⟨h.blk,h.len,h.bel,fun k b hb=>by obtain⟨h1,n,h2,h3⟩:=h.mt k b hb;exact⟨h1,n,by omega,h3⟩,h.nl,h.inj⟩
theorem Gtm.cell (h:Gtm w0 N M ms F w) {k:Nat} {o:Option Nat} (hk:ms[k]?=some o):w.cell? ⟨w0.heap.size,k,none⟩=some (.map o)∧w.frozen? ⟨w0.heap.size,k,none⟩=false :=
 ⟨h.blk.cell k (by simp[cM,hk]),h.blk.frozen k⟩
theorem Gtm.put (h:Gtm w0 N M ms F w) {k b n:Nat} {i:Int} {w':World} (hk:ms[k]?=some (some b)) (hM:n≤M) (hmt:MT w' b (n+1) (fput (F k) i true)) (hg:w.grownBy w' (some b)):Gtm w0 N (M+1) ms (fset F k i) w':=by
 obtain⟨h1,_⟩:=h.mt k b hk
 refine⟨h.blk.grown hg (fun e=>by injection e with e;omega),h.len,h.bel.grown hg h.bel.size (fun q e=>by injection e with e;omega),fun q c hq=>?_,fun q hq=>?_,h.inj⟩
 ·obtain⟨h3,n2,h4,h5⟩:=h.mt q c hq
  by_cases hqk:q=k
  ·subst hqk
   rw[hk] at hq
   injection hq with hq;injection hq with hq
   subst hq
   exact⟨h3,n+1,by omega,by rw[fset_same];exact hmt⟩
  ·rw[fset_other F i hqk]
   refine⟨h3,n2,by omega,h5.only (Only.of_grown hg) (fun e=>?_)⟩
   injection e with e
   subst e
   exact hqk (h.inj q k _ hq hk)
 ·have hqk:q≠k:=fun e=>by subst e;rw[hk] at hq;cases hq
  rw[fset_other F i hqk]
  exact h.nl q hq
theorem Gtm.below (h:Gtm w0 N M ms F w) {w':World} (hb:Below w.heap.size w w'):Gtm w0 N M ms F w' :=
 ⟨h.blk.below hb,h.len,h.bel.trans (hb.mono h.bel.size),fun k b hq=>by obtain⟨h1,n,h2,h3⟩:=h.mt k b hq;exact⟨h1,n,h2,h3.below hb⟩,h.nl,h.inj⟩
end
structure Rw3 where
 A:Option Addr
 c:Nat
 l:List Int
def Rw3.v (r:Rw3):Value:=.slice r.A r.l.length r.c
def cR (rs:List Rw3):List Value:=rs.map Rw3.v
def RwOk (w:World) (rs:List Rw3):Prop:=∀ r∈rs,Rd w 1 r.A r.l.length r.c (cZ r.l)
theorem LL.of {w:World} {ad:Addr} {c:Nat} {rs:List Rw3} (hc:rs.length≤c) (hm:c≤maxLen) (hcell:∀ (i:Nat) (r:Rw3),rs[i]?=some r→w.cell? (ad.add i)=some r.v) (hr:RwOk w rs):LL w (some ad) c (rs.map Rw3.l) :=
 ⟨by rw[List.length_map];exact hc,hm,fun i x hx=>by
   rw[List.getElem?_map] at hx
   cases hi:rs[i]? with
   | none=>rw[hi] at hx;cases hx
   | some r =>
     rw[hi] at hx
     injection hx with hx
     subst hx
     exact⟨ad,r.A,r.c,rfl,hcell i r hi,hr r (List.mem_of_getElem? hi)⟩⟩
theorem LL.of_rd {w:World} {A:Option Addr} {c:Nat} {rs:List Rw3} (h:Rd w 1 A rs.length c (cR rs)) (hr:RwOk w rs):LL w A c (rs.map Rw3.l) :=
 ⟨by rw[List.length_map];exact h.cap,h.max,fun i x hx=>by
   rw[List.getElem?_map] at hx
   cases hi:rs[i]? with
   | none=>rw[hi] at hx;cases hx
   | some r =>
     rw[hi] at hx
     injection hx with hx
     subst hx
     obtain⟨ad,e,hc⟩:=h.at_ i r.v (by simp[cR,hi])
     exact⟨ad,r.A,r.c,e,hc,hr r (List.mem_of_getElem? hi)⟩⟩
open Go.RowKit
theorem info_intsD:(Tryz.prog.info? 44).map (fun i=>(i.zero,i.size,i.bytes))=some (some (Value.slice none 0 0),1,24):=by kernel_rfl
structure OR (w0:World) (N:Nat) (F:Nat→Int→Bool) (rs:List Rw3) (w:World):Prop where
 row:Blk w w0.heap.size (cR rs++List.replicate (N-rs.length) (Value.slice none 0 0)).toArray 44
 len:rs.length≤N
 bel:Below w0.heap.size w0 w
 ok:RwOk w rs
 off:∀ r∈rs,blk r.A≠some w0.heap.size
 ris:∀ (k:Nat) (r:Rw3),rs[k]?=some r→Rises (F k) r.l
theorem OR.at_ {w0:World} {N:Nat} {F:Nat→Int→Bool} {rs:List Rw3} {w w1:World} (h:OR w0 N F rs w) (hl:rs.length<N) (hb:Below w.heap.size w w1):w1.cell? ⟨w0.heap.size,rs.length,none⟩=some (Value.slice none 0 0)∧w1.frozen? ⟨w0.heap.size,rs.length,none⟩=false:=by
 refine⟨(h.row.below hb).cell _ ?_,(h.row.below hb).frozen _⟩
 have e1:(cR rs).length=rs.length:=by simp[cR]
 rw[List.getElem?_toArray,List.getElem?_append_right (by rw[e1];exact Nat.le_refl _),e1,Nat.sub_self,List.getElem?_replicate,if_pos (by omega)]
theorem OR.put {w0:World} {N:Nat} {F:Nat→Int→Bool} {rs:List Rw3} {w w1:World} (h:OR w0 N F rs w) (hl:rs.length<N) (hb:Below w.heap.size w w1) {A:Option Addr} {c:Nat} {l:List Int} (ho:Ow w1 w.heap.size 3 1 A l.length c (cZ l)) (hr:Rises (F rs.length) l) :
 OR w0 N F (rs++[⟨A,c,l⟩]) (w1.setCell ⟨w0.heap.size,rs.length,none⟩ (.slice A l.length c)):=by
 have hlt:=h.row.lt
 have on:Only (fun k=>k=w0.heap.size) w1 (w1.setCell ⟨w0.heap.size,rs.length,none⟩ (.slice A l.length c)):=(Only.refl _ _).setCell _ _ (fun _=>rfl)
 have hA:blk A≠some w0.heap.size:=fun e=>by have:=(ho.lt e).1;omega
 refine⟨((h.row.below hb).set rs.length (.slice A l.length c)).eq ?_,by simp;omega,(h.bel.trans (hb.mono h.bel.size)).setCell (Nat.le_refl _) _,fun r hr2=>?_,fun r hr2=>?_,fun k r hk=>?_⟩
 ·apply Array.ext'
  simp only[Array.toList_setIfInBounds]
  rw[List.set_append_right _ _ (by simp[cR])]
  have e1:(cR rs).length=rs.length:=by simp[cR]
  rw[e1,Nat.sub_self,show N-rs.length=(N-(rs++[(⟨A,c,l⟩:Rw3)]).length)+1 by simp;omega,List.replicate_succ,List.set_cons_zero]
  simp[cR,Rw3.v]
 ·rcases List.mem_append.1 hr2 with hr2 | hr2
  ·exact((h.ok r hr2).below hb).only on (fun ad e _ e2=>h.off r hr2 (by rw[e];simp[blk,e2]))
  ·rw[List.mem_singleton] at hr2;subst hr2
   exact ho.rd.only on (fun ad e _ e2=>hA (by rw[show A=some ad from e];simp[blk,e2]))
 ·rcases List.mem_append.1 hr2 with hr2 | hr2
  ·exact h.off r hr2
  ·rw[List.mem_singleton] at hr2;subst hr2
   exact hA
 ·rcases Nat.lt_or_ge k rs.length with h2 | h2
  ·rw[List.getElem?_append_left h2] at hk;exact h.ris k r hk
  ·rw[List.getElem?_append_right h2] at hk
   have h3:k-rs.length<1:=by simpa using (List.getElem?_eq_some_iff.1 hk).1
   have h4:k=rs.length:=by omega
   subst h4
   simp at hk;subst hk
   exact hr
open Go.RowKit
def TB (ls:List (List Int)) (k i:Nat) (bs:List Bool):Prop:=bs.length=ls.length∧∀ p:Nat,p<ls.length→(bF bs (p:Int)=true↔p<i∧(k:Int)∈rowAt ls (p:Int))
def TC (ls:List (List Int)) (k i a:Nat) (bs:List Bool):Prop:=bs.length=ls.length∧∀ p:Nat,p<ls.length→(bF bs (p:Int)=true↔(p<i∧(k:Int)∈rowAt ls (p:Int))∨(p=i∧(k:Int)∈(rowAt ls (i:Int)).take a))
theorem TB.zero {ls:List (List Int)} {k:Nat}:TB ls k 0 (List.replicate ls.length false):=⟨by simp,fun p hp=>by
 rw[bF_nat,List.getD_eq_getElem?_getD,List.getElem?_replicate]
 split<;>simp⟩
theorem TB.row {ls:List (List Int)} {k i:Nat} {bs:List Bool} (h:TB ls k i bs):TC ls k i 0 bs:=⟨h.1,fun p hp=>by rw[h.2 p hp];simp⟩
theorem TC.row {ls:List (List Int)} {k i a:Nat} {bs:List Bool} (h:TC ls k i a bs) (ha:(rowAt ls (i:Int)).length≤a):TB ls k (i+1) bs:=⟨h.1,fun p hp=>by
 rw[h.2 p hp,List.take_of_length_le ha]
 constructor
 ·rintro(⟨h1,h2⟩ | ⟨rfl,h2⟩)
  ·exact⟨by omega,h2⟩
  ·exact⟨by omega,h2⟩
 ·rintro⟨h1,h2⟩
  rcases (show p<i∨p=i by omega) with h3 | h3
  ·exact .inl ⟨h3,h2⟩
  ·subst h3;exact .inr ⟨rfl,h2⟩⟩
theorem TC.no {ls:List (List Int)} {k i a:Nat} {bs:List Bool} {z:Int} (h:TC ls k i a bs) (hz:(rowAt ls (i:Int))[a]?=some z) (hne:z≠(k:Int)):TC ls k i (a+1) bs:=⟨h.1,fun p hp=>by
 rw[h.2 p hp,List.take_add_one,hz]
 simp only[Option.toList,List.mem_append,List.mem_singleton]
 refine or_congr Iff.rfl (and_congr_right fun _=>⟨.inl,fun h2=>h2.resolve_right (fun e=>hne e.symm)⟩)⟩
theorem TC.yes {ls:List (List Int)} {k i a:Nat} {bs:List Bool} (h:TC ls k i a bs) (hi:i<ls.length) (hz:(rowAt ls (i:Int))[a]?=some (k:Int)):TC ls k i (a+1) (bs.set i true):=⟨by rw[List.length_set];exact h.1,fun p hp=>by
 rw[bF_set (by rw[h.1];exact hi),h.2 p hp,List.take_add_one,hz]
 simp only[Option.toList,List.mem_append,List.mem_singleton]
 constructor
 ·rintro((h1 | ⟨rfl,h1⟩) | h1)
  ·exact .inl h1
  ·exact .inr ⟨rfl,.inl h1⟩
  ·exact .inr ⟨by omega,.inr trivial⟩
 ·rintro(h1 | ⟨rfl,h1⟩)
  ·exact .inl (.inl h1)
  ·exact .inr rfl⟩
structure UB (w0:World) (ls:List (List Int)) (bs:List Bool) (w:World):Prop where
 blk:Blk w w0.heap.size (cB bs).toArray 4
 bel:Below w0.heap.size w0 w
 only:Only (fun k=>k=w0.heap.size) (w0.alloc (.cells (cB (List.replicate ls.length false)).toArray 4)) w
theorem UB.put {w0 w:World} {ls:List (List Int)} {bs:List Bool} (h:UB w0 ls bs w) (q:Nat):UB w0 ls (bs.set q true) (w.setCell ⟨w0.heap.size,q,none⟩ (.bool true)) :=
 ⟨h.blk.setB q true,h.bel.setCell (Nat.le_refl _) _,h.only.setCell _ _ (fun _=>rfl)⟩
structure UR (w0:World) (ls:List (List Int)) (A:Option Addr) (c:Nat) (rs:List Rw3) (w:World):Prop where
 own:Ow w w0.heap.size 44 1 A rs.length c (cR rs)
 bel:Below w0.heap.size w0 w
 ok:RwOk w rs
 off:∀ r∈rs,∀ g,blk r.A=some g→blk A≠some g∧g<w.heap.size
 ris:∀ (k:Nat) (r:Rw3),rs[k]?=some r→Rises (turnF ls k) r.l
theorem UR.below {w0 w w':World} {ls:List (List Int)} {A:Option Addr} {c:Nat} {rs:List Rw3} (h:UR w0 ls A c rs w) (hb:Below w.heap.size w w'):UR w0 ls A c rs w' :=
 ⟨h.own.below hb,h.bel.trans (hb.mono h.bel.size),fun r hr=>(h.ok r hr).below hb,fun r hr g hg=>⟨(h.off r hr g hg).1,Nat.lt_of_lt_of_le (h.off r hr g hg).2 hb.size⟩,h.ris⟩
theorem Rd.lt0 {w:World} {A:Option Addr} {c:Nat} {l:List Int} (h:Rd w 1 A l.length c (cZ l)) {ad:Addr} (hA:A=some ad) (hl:0<l.length):ad.block<w.heap.size:=by
 obtain⟨ad',e,hc⟩:=h.zcell (i:=0) (z:=l[0]) (by simp[hl])
 rw[hA] at e;injection e with e;subst e
 exact World.block_lt_of_cell? w _ hc
open Go.RowKit
def WkOk (w:World):Prop:=∀ w',Below w.heap.size w w'→Calls Tryz.prog 8 #[] w' fun e w2=>e=.returned (.bool true)∧Below w'.heap.size w' w2
theorem below_drewN (w:World) (k:Nat):Below w.heap.size w (w.drewN k):=⟨rfl,rfl,rfl,Nat.le_refl _,fun _ _=>rfl⟩
open Go.RowKit Go.Maps
def MZ (w:World) (b:Nat) (V:List Int):Prop :=
 ∃ D:DataW Unit,w.ownsMap Tryz.prog 3 (plainElem Tryz.prog 4) b V.length D∧Go.Maps.IsMap D∧(∀ k:Int,D.atKey (.int .i64 k) (.lit (.bool false))=.lit (.bool (tZ V k))∧Go.Maps.has D (.int .i64 k)=tZ V k)∧Go.Maps.size D=V.length
section
variable {w w':World} {b:Nat} {V:List Int}
theorem MZ.mt (h:MZ w b V):MT w b V.length (tZ V):=by obtain⟨D,h1,h2,h3,_⟩:=h;exact⟨D,h1,h2,h3⟩
theorem MZ.new (w:World):MZ (w.alloc (.map #[] 0)) w.heap.size []:=⟨.map [],World.ownsMap_made _ _ _ _,⟨[],rfl⟩,fun k=>⟨rfl,rfl⟩,rfl⟩
theorem MZ.only {F:Nat→Prop} (h:MZ w b V) (ho:Only F w w') (hF:¬F b):MZ w' b V:=by
 obtain⟨D,h1,h2,h3⟩:=h
 exact⟨D,ownsMapT_same h1 (ho.block b h1.lt hF),h2,h3⟩
theorem MZ.below (h:MZ w b V) (hb:Below w.heap.size w w'):MZ w' b V:=h.only (Only.of_below hb (fun _=>False)) (fun h=>h)
theorem MZ.lt (h:MZ w b V):b<w.heap.size:=h.mt.lt
theorem MZ.len (h:MZ w b V) (ty:TypeId):(Builtin.len_ #[52] ty #[.map (some b)]).run Tryz.prog w=.ok (.int .i64 V.length) w:=by
 obtain⟨D,h1,h2,h3,h4⟩:=h
 rw[h1.len Tryz.underlying52 ty,h4]
end
theorem wp_put_MZ {w:World} {ops:Array Oper} {rest:List Oper} {o:Oper} {a:Act} {Q:Exit→Act→World→Prop} (hg:o.guard=none) (m x v:Operand) (hop:o.op=Op.mapUpdate 52 m x v) (b:Nat) (V:List Int) (hm:a.eval m=.map (some b)) (h:MZ w b V) (hn:V.length<maxLen)
 (k:Int) (hk1:-9223372036854775808≤k) (hk2:k≤9223372036854775807) (hkV:k∉V) (hx:a.eval x=.int .i64 k) (hv:a.eval v=.bool true)
 (hK:∀ w',MZ w' b (V++[k])→w.grownBy w' (some b)→wpList Tryz.prog ops Q rest (a.put o.dst undef) w'):wpList Tryz.prog ops Q (o::rest) a w:=by
 obtain⟨D,g1,g2,g3,g4⟩:=h
 have ht:=g1.tidy key_int
 refine wpList_mapUpdate_own w hg m x v 52 hop 3 4 key_int Tryz.underlying52 _ b V.length D hm g1 hn _ _ (.int .i64 k) hx hv (key_of hk1 hk2) (.lit (.bool true)) [] (plainElem_bool Tryz.underlying4 true) (fun w' h1 h2=>hK w' ⟨_,by simpa using h1,g2.put _ _,fun j=>?_,?_⟩ h2)
 ·rw[←tZ_put]
  by_cases hj:j=k
  ·subst hj
   exact⟨by rw[Go.Maps.atKey_put_same g2 (isKey_int j),fput_same],by rw[Go.Maps.has_put_same g2 (isKey_int j),fput_same]⟩
  ·have hne:(Lit.int .i64 j)≠(Lit.int .i64 k):=fun e=>hj (by injection e)
   exact⟨by rw[Go.Maps.atKey_put_other hne,(g3 j).1,fput_other _ true hj],by rw[Go.Maps.has_put_other hne,(g3 j).2,fput_other _ true hj]⟩
 ·rw[Go.Maps.size_put ht,(g3 k).2,g4]
  have:tZ V k=false:=by
   cases hq:tZ V k with
   | false=>rfl
   | true=>exact absurd (tZ_iff.1 hq) hkV
  rw[this];simp
theorem ow_none {w:World} {q base:Nat} {e:TypeId} {sz:Nat} (h:Blk w q #[] e) (hb:base≤q):Ow w base e sz (some ⟨q,0,none⟩) 0 0 [] :=
 ⟨by simp,.inr ⟨q,#[],rfl,hb,h,Nat.le_refl _,Nat.zero_le _,by simp,by simp⟩⟩
theorem TurnP.len {ls ms:List (List Int)} (h:TurnP ls ms):∀ m∈ms,m.length≤ls.length:=fun m hm=>by
 obtain⟨k,hk⟩:=List.mem_iff_getElem?.1 hm
 have hr:=h.2 k m hk
 exact valid_len (ls:=ls) (hr.1.imp (fun h=>by omega)) (fun z hz=>by
  have:=turnF_iff.1 ((hr.2 z).1 hz)
  exact⟨this.1,this.2.1⟩)
theorem TurnP.row {ls ms:List (List Int)} (h:TurnP ls ms) {k:Nat} (hk:k<ls.length) (i:Int):i∈rowAt ms (k:Int)↔turnF ls k i=true:=by
 obtain⟨m,hm⟩:=get_lt (l:=ms) (i:=k) (by rw[h.1];exact hk)
 rw[rowAt_nat hm]
 exact(h.2 k m hm).2 i
theorem LL.only {F:Nat→Prop} {w0 w w':World} {A:Option Addr} {c:Nat} {ls:List (List Int)} (h:LL w0 A c ls) (hb:Below w0.heap.size w0 w) (ho:Only F w w') (hF:∀ k,F k→w0.heap.size≤k):LL w' A c ls :=
 h.below (ho.belowB hb hF)
end Go.Proofs.YtgdfkbalnpfdgaaGreatDoor
