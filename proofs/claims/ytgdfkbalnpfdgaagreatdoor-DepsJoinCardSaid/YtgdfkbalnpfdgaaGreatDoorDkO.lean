/- Part of the proof. -/
import Derived.Shelf.Unicode.ValidAny
import Derived.ProofKit
import Derived.Test.YtgdfkbalnpfdgaaGreatDoorRows
import Derived.PinnedBridge
import Derived.Lib.LaidU8T
import Derived.Lay
import Derived.LaidOnce
import Derived.Test.YtgdfkbalnpfdgaaGreatDoorDjP
set_option maxRecDepth 100000
set_option linter.unusedVariables false
namespace Go.Proofs.YtgdfkbalnpfdgaaGreatDoor
open Go.RowKit Go.ChangeShapes Go.WideShapes Go.ChangeAt
section
variable {H:Type} {enc:TypeId × Value→H} {w:World} {base:Nat} {held:Bool}
theorem closed_givens:closedB Tryz.prog [28,106,104,102,63,9,4,45,3]=true:=by kernel_rfl
theorem closed_expr:closedB Tryz.prog [48,46,9,45,3]=true:=by kernel_rfl
theorem open_givens {A:Option Addr} {n c:Nat} {d:DataW H} {p:List MemPlace} (h:DataW.Trod enc Tryz.prog w base (fun _=>true) held 28 (.slice A n c) d p) (hw:∀ z∈d.weights Tryz.prog 28,z≤reachBytes) :
 ∃ l:List Gv,n=l.length∧Ls (fun k=>k<w.heap.size) w 8 104 Gv.tr A c l:=by
 obtain⟨fuel,hf⟩:=h
 obtain⟨ts,h1,h2⟩:=trod_fits closed_givens (fun _ h=>h) fuel _ _ _ rfl hf hw
 obtain⟨l,rfl⟩:=fits_givens h1
 obtain⟨A',c',_,e,h3,_⟩:=at_row.1 (by simpa [Value.cells] using h2)
 injection e with e _
 injection e with e1 e2 e3
 subst e1;subst e2;subst e3
 exact⟨l,rfl,h3⟩
theorem open_expr {r:Reach} {b0:Nat} {v:Value} {d:DataW H} {p:List MemPlace} (hv:Value.okWide Tryz.prog w r b0 48 v) (h:DataW.Trod enc Tryz.prog w base (fun _=>true) held 48 v d p) (hw:∀ z∈d.weights Tryz.prog 48,z≤reachBytes) :
 ∃ cs:Array Value,v=.agg cs∧∃ x:Ex,Trs.at (fun k=>k<w.heap.size) w x.tr cs.toList:=by
 obtain⟨cs,rfl,hsz⟩:=okWide_struct Tryz.underlying48 hv
 obtain⟨fuel,hf⟩:=h
 obtain⟨ts,h1,h2⟩:=trod_fits closed_expr (fun _ h=>h) fuel _ _ _ rfl hf hw
 obtain⟨x,rfl⟩:=fits_expr _ _ h1
 exact⟨cs,rfl,x,by simpa [Value.cells] using h2⟩
end
end Go.Proofs.YtgdfkbalnpfdgaaGreatDoor
