/-
  NARROWER THAN 'FOR EVERY INPUT', by the rows' own cells (each row's printed sentence says how): CondsTurned: loops, laid · CondsMorgan: loops, laid · CondsCircle: loops, laid.
  DERIVED. THE GIVEN ROWS OF THIS SEAT. 3 by the template 'for every input the law returns true; each argument reads behind the call as it read before'; 0 by the template 'total and deterministic' (their statements: YtmljdppdaaoehaaDoorTotals.lean).
  GIVEN WITH THE SEED: the statements are not yours to turn. If you find one false, say at which input.
  Laid BY PROGRAM, IN A SANDBOX (cutbox-rows.mjs): the forced cells as the released guide's own fill.sh prints them over the translation be404374095f7670… (all of the seat's roots in one cut). By AI agents, Wed Nov 11 2026. No macro, syntax, notation, axiom, sorry.
-/
import Derived.Test.YtmljdppdaaoehaaDoorChecked
import GoSem.PinnedTables
import GoSem.Claim
import GoSem.ClaimJoined
import GoSem.ClaimMapViews
import Derived.JoinedTies
import Derived.KernelRfl
namespace Go.Proofs.YtmljdppdaaoehaaDoor
/- THE CELL 'sum', in the pinned program and in every row, IS THE sha256 OF THE DUMP (.gsa) THAT YtmljdppdaaoehaaDoorProg.lean LOADS. Nothing in Lean hashes anything: it is a label: what it is worth is what the hold of that sum in a sandbox is worth. -/
noncomputable def Tryd.pinned : Pinned := { name := "ytmljdppdaaoehaadoor", sum := "be404374095f7670145190c9d00ce1c9c876e424a18da13267ee0b9c79398e7a", checked := Tryd.checked }
namespace Rows
def none {H : Type} : Left H := { results := [], args := [] }

/- WHAT THE LISTED PACKAGE-LEVEL VARIABLES READ AS WHEN THE CALL BEGINS. Each datum BY PROGRAM (the guide's laid-datum.mjs) off the statement by which the dump's own 'gosem.cut.vars' lays the variable. In a bare row this is a premise. The card (YtmljdppdaaoehaaDoorCards.lean) ties it to the program's text. -/
def laid_unicode_utf8_acceptRanges {H : Type} : DataW H := .agg [.agg [.lit (.int .u8 128), .lit (.int .u8 191)], .agg [.lit (.int .u8 160), .lit (.int .u8 191)], .agg [.lit (.int .u8 128), .lit (.int .u8 159)], .agg [.lit (.int .u8 144), .lit (.int .u8 191)], .agg [.lit (.int .u8 128), .lit (.int .u8 143)], .agg [.lit (.int .u8 0), .lit (.int .u8 0)], .agg [.lit (.int .u8 0), .lit (.int .u8 0)], .agg [.lit (.int .u8 0), .lit (.int .u8 0)], .agg [.lit (.int .u8 0), .lit (.int .u8 0)], .agg [.lit (.int .u8 0), .lit (.int .u8 0)], .agg [.lit (.int .u8 0), .lit (.int .u8 0)], .agg [.lit (.int .u8 0), .lit (.int .u8 0)], .agg [.lit (.int .u8 0), .lit (.int .u8 0)], .agg [.lit (.int .u8 0), .lit (.int .u8 0)], .agg [.lit (.int .u8 0), .lit (.int .u8 0)], .agg [.lit (.int .u8 0), .lit (.int .u8 0)]]
/-- One of Go's own tables, pinned by name: the form's constant. -/
def laid_unicode_utf8_first : DataW Unit := Go.Pinned.utf8First

/-- 'hoardinglaw15.CondsTurned': WHATEVER THE INPUT: true; the input reads as it did. -/
def condsTurnedSpec : ChangeSpec := { name := "condsTurned", fn := fun _ => fun
  | [d1, d2] => { results := [.lit (.bool true)], args := [d1, d2] }
  | _ => none }
def condsTurnedRow : OpenClaim := { program := "ytmljdppdaaoehaadoor", sum := "be404374095f7670145190c9d00ce1c9c876e424a18da13267ee0b9c79398e7a", func := "hoarding/hoardinglaw15.CondsTurned", spec := "condsTurned", inPlace := ["internal/bytealg.abigen_runtime_cmpstring"], unfollowed := true, recurses := true, named := ["unicode/utf8.first", "unicode/utf8.acceptRanges"], loops := true, apart := false, laid := [("unicode/utf8.acceptRanges", laid_unicode_utf8_acceptRanges), ("unicode/utf8.first", laid_unicode_utf8_first)] }
def CondsTurnedSaid : Prop := condsTurnedRow.holds Tryd.pinned (OpenSpec.ofChange condsTurnedSpec)

/-- ITS FALSE NEIGHBOUR: 'it returns false'. Refute it at one input. -/
def condsTurnedWrong : ChangeSpec := { name := "condsTurned", fn := fun _ => fun
  | [d1, d2] => { results := [.lit (.bool false)], args := [d1, d2] }
  | _ => none }
def CondsTurnedWrongFalsely : Prop := condsTurnedRow.holds Tryd.pinned (OpenSpec.ofChange condsTurnedWrong)

/-- 'hoardinglaw15.CondsMorgan': WHATEVER THE INPUT: true; the input reads as it did. -/
def condsMorganSpec : ChangeSpec := { name := "condsMorgan", fn := fun _ => fun
  | [d1, d2, d3, d4] => { results := [.lit (.bool true)], args := [d1, d2, d3, d4] }
  | _ => none }
def condsMorganRow : OpenClaim := { program := "ytmljdppdaaoehaadoor", sum := "be404374095f7670145190c9d00ce1c9c876e424a18da13267ee0b9c79398e7a", func := "hoarding/hoardinglaw15.CondsMorgan", spec := "condsMorgan", inPlace := ["internal/bytealg.abigen_runtime_cmpstring"], unfollowed := true, recurses := true, named := ["unicode/utf8.first", "unicode/utf8.acceptRanges"], loops := true, apart := false, laid := [("unicode/utf8.acceptRanges", laid_unicode_utf8_acceptRanges), ("unicode/utf8.first", laid_unicode_utf8_first)] }
def CondsMorganSaid : Prop := condsMorganRow.holds Tryd.pinned (OpenSpec.ofChange condsMorganSpec)

/-- ITS FALSE NEIGHBOUR: 'it returns false'. Refute it at one input. -/
def condsMorganWrong : ChangeSpec := { name := "condsMorgan", fn := fun _ => fun
  | [d1, d2, d3, d4] => { results := [.lit (.bool false)], args := [d1, d2, d3, d4] }
  | _ => none }
def CondsMorganWrongFalsely : Prop := condsMorganRow.holds Tryd.pinned (OpenSpec.ofChange condsMorganWrong)

/-- 'hoardinglaw15.CondsCircle': WHATEVER THE INPUT: true; the input reads as it did. -/
def condsCircleSpec : ChangeSpec := { name := "condsCircle", fn := fun _ => fun
  | [d1, d2] => { results := [.lit (.bool true)], args := [d1, d2] }
  | _ => none }
def condsCircleRow : OpenClaim := { program := "ytmljdppdaaoehaadoor", sum := "be404374095f7670145190c9d00ce1c9c876e424a18da13267ee0b9c79398e7a", func := "hoarding/hoardinglaw15.CondsCircle", spec := "condsCircle", inPlace := ["internal/bytealg.abigen_runtime_cmpstring"], unfollowed := true, recurses := true, named := ["unicode/utf8.first", "unicode/utf8.acceptRanges"], loops := true, apart := false, laid := [("unicode/utf8.acceptRanges", laid_unicode_utf8_acceptRanges), ("unicode/utf8.first", laid_unicode_utf8_first)] }
def CondsCircleSaid : Prop := condsCircleRow.holds Tryd.pinned (OpenSpec.ofChange condsCircleSpec)

/-- ITS FALSE NEIGHBOUR: 'it returns false'. Refute it at one input. -/
def condsCircleWrong : ChangeSpec := { name := "condsCircle", fn := fun _ => fun
  | [d1, d2] => { results := [.lit (.bool false)], args := [d1, d2] }
  | _ => none }
def CondsCircleWrongFalsely : Prop := condsCircleRow.holds Tryd.pinned (OpenSpec.ofChange condsCircleWrong)

/- THE SECOND FORM. 'bulk': how many values and letters a reading holds, each counted each time it is reached (what is shared counts as often as it is met; a slice's spare places count too). A statement '..UptoSaid' is the law's where the arguments, and the package variables that the reading takes, are together of bulk at most 1048576: NARROWER than '..Said'. Prove '..Said' where nothing that the law and all that it calls make is longer than what came in: it says more and counts as full. Else prove '..UptoSaid'. A law counts once. -/
mutual
def uptoBulk {H : Type} : DataW H → Nat
  | .lit (.string bytes) => bytes.length + 1
  | .lit _ => 1
  | .nil => 1
  | .ptr d => uptoBulk d + 1
  | .slice elems spare => uptoBulkAll elems + uptoBulkAll spare + 1
  | .agg parts => uptoBulkAll parts + 1
  | .iface _ d => uptoBulk d + 1
  | .map entries => uptoBulkEntries entries + 1
  | .held _ => 1
def uptoBulkAll {H : Type} : List (DataW H) → Nat
  | [] => 0
  | d :: r => uptoBulk d + uptoBulkAll r
def uptoBulkEntries {H : Type} : List (Lit × DataW H) → Nat
  | [] => 0
  | x :: r => uptoBulkEntry x + uptoBulkEntries r
def uptoBulkEntry {H : Type} : Lit × DataW H → Nat
  | (.string bytes, d) => bytes.length + uptoBulk d + 1
  | (_, d) => uptoBulk d + 1
 end
def uptoSmall : (H : Type) → List (DataW H) → Bool := fun _ ds => decide (uptoBulkAll ds ≤ 1048576)
def OpenSpec.upto (s : _root_.Go.ChangeSpec) : _root_.Go.OpenSpec := { _root_.Go.OpenSpec.ofChange s with cond := some uptoSmall }

/-- 'hoardinglaw15.CondsTurned', WHERE WHAT IT READS IS OF BULK AT MOST 1048576: true; the input reads as it did. -/
def condsTurnedUptoRow : OpenClaim := { program := "ytmljdppdaaoehaadoor", sum := "be404374095f7670145190c9d00ce1c9c876e424a18da13267ee0b9c79398e7a", func := "hoarding/hoardinglaw15.CondsTurned", spec := "condsTurned", inPlace := ["internal/bytealg.abigen_runtime_cmpstring"], unfollowed := true, recurses := true, named := ["unicode/utf8.first", "unicode/utf8.acceptRanges"], loops := true, apart := false, laid := [("unicode/utf8.acceptRanges", laid_unicode_utf8_acceptRanges), ("unicode/utf8.first", laid_unicode_utf8_first)], narrowed := true }
def CondsTurnedUptoSaid : Prop := condsTurnedUptoRow.holds Tryd.pinned (OpenSpec.upto condsTurnedSpec)

/-- 'hoardinglaw15.CondsMorgan', WHERE WHAT IT READS IS OF BULK AT MOST 1048576: true; the input reads as it did. -/
def condsMorganUptoRow : OpenClaim := { program := "ytmljdppdaaoehaadoor", sum := "be404374095f7670145190c9d00ce1c9c876e424a18da13267ee0b9c79398e7a", func := "hoarding/hoardinglaw15.CondsMorgan", spec := "condsMorgan", inPlace := ["internal/bytealg.abigen_runtime_cmpstring"], unfollowed := true, recurses := true, named := ["unicode/utf8.first", "unicode/utf8.acceptRanges"], loops := true, apart := false, laid := [("unicode/utf8.acceptRanges", laid_unicode_utf8_acceptRanges), ("unicode/utf8.first", laid_unicode_utf8_first)], narrowed := true }
def CondsMorganUptoSaid : Prop := condsMorganUptoRow.holds Tryd.pinned (OpenSpec.upto condsMorganSpec)

/-- 'hoardinglaw15.CondsCircle', WHERE WHAT IT READS IS OF BULK AT MOST 1048576: true; the input reads as it did. -/
def condsCircleUptoRow : OpenClaim := { program := "ytmljdppdaaoehaadoor", sum := "be404374095f7670145190c9d00ce1c9c876e424a18da13267ee0b9c79398e7a", func := "hoarding/hoardinglaw15.CondsCircle", spec := "condsCircle", inPlace := ["internal/bytealg.abigen_runtime_cmpstring"], unfollowed := true, recurses := true, named := ["unicode/utf8.first", "unicode/utf8.acceptRanges"], loops := true, apart := false, laid := [("unicode/utf8.acceptRanges", laid_unicode_utf8_acceptRanges), ("unicode/utf8.first", laid_unicode_utf8_first)], narrowed := true }
def CondsCircleUptoSaid : Prop := condsCircleUptoRow.holds Tryd.pinned (OpenSpec.upto condsCircleSpec)

end Rows
end Go.Proofs.YtmljdppdaaoehaaDoor
