/- Part of the proof. -/
import Derived.Deep.RegionHeld3
import Derived.StillTail
import Derived.Deep.CutRange
import Derived.Deep.QuietTactic
import Derived.BigQuiet
import Derived.StillTailTactics
import Derived.Test.YtjmklmngikpeaaaGreatDoorNs3
set_option linter.unusedVariables false
set_option linter.unusedSimpArgs false
namespace Go.Proofs.YtjmklmngikpeaaaGreatDoor
open Go.RowKit
variable {l:List ByteArray}{n:Nat}{w:World}
theorem DO (a:List ByteArray) (d:ByteArray):(uT a d).length<=a.length+1:=by unfold uT;split<;>simp
def IF (l:List ByteArray) (n:Nat):Prop:=l.length<=n/\∀ x∈l,x.size<=9007199254740992
theorem IF.add {d:ByteArray} (h:IF l n) (hd:d.size<=20000):IF (uT l d) (n+1) :=
 ⟨bB (DO _ _) (by have:=h.1;omega),fun x hx=>(DN hx).elim (fun h1=>h.2 x h1) (fun e=>by subst e;omega)⟩
theorem IF.le {m:Nat} (h:IF l n) (hm:n<=m):IF l m:=⟨bB h.1 hm,h.2⟩
theorem fP.below' {F:Nat->Prop} {w2 w3:World} (ho:fP F w2 w3) (hb:Below w.heap.size w w2) (hF:∀ k,F k->w.heap.size<=k):Below w.heap.size w w3 :=
 hb.trans (ho.below hb.size hF)
theorem Ow.some0 {B sz c:Nat} {e:TypeId} {A:Option Addr} {xs:List Value} (h:Ow w B e sz A n c xs) (hn:0<n):∃ g,A=some ⟨g,0,none⟩:=by
 rcases h.2 with ⟨_,h0,_⟩ | ⟨g,_,hA,_⟩
 .omega
 exact⟨g,hA⟩
section
variable {B q i mb nb fb c:Nat} {R:Rw} {s:BS} {pre:List Nd} {xb:List Value} {u:Value} {w0 w w':World} {A:Option Addr} {l:List ByteArray}
