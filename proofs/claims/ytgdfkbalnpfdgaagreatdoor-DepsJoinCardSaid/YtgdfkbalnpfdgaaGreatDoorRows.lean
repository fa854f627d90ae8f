/-
  NARROWER THAN 'FOR EVERY INPUT', by the rows' own cells (each row's printed sentence says how): DepsOff: loops, laid · DepsJoin: loops, laid · DepsTurns: laid · DepsClosure: laid.
  DERIVED. THE GIVEN ROWS OF THIS SEAT. 4 by the template 'for every input the law returns true; each argument reads behind the call as it read before'; 0 by the template 'total and deterministic' (their statements: YtgdfkbalnpfdgaaGreatDoorTotals.lean).
  GIVEN WITH THE SEED: the statements are not yours to turn. If you find one false, say at which input.
  Laid BY PROGRAM, IN A SANDBOX (cutbox-rows.mjs): the forced cells as the released guide's own fill.sh prints them over the translation 87bec15cbd273419… (all of the seat's roots in one cut). By AI agents, Wed Nov 11 2026. No macro, syntax, notation, axiom, sorry.
-/
import Derived.Test.YtgdfkbalnpfdgaaGreatDoorChecked
import GoSem.PinnedTables
import GoSem.Claim
import GoSem.ClaimJoined
import GoSem.ClaimMapViews
import Derived.JoinedTies
import Derived.KernelRfl
namespace Go.Proofs.YtgdfkbalnpfdgaaGreatDoor
/- THE CELL 'sum', in the pinned program and in every row, IS THE sha256 OF THE DUMP (.gsa) THAT YtgdfkbalnpfdgaaGreatDoorProg.lean LOADS. Nothing in Lean hashes anything: it is a label: what it is worth is what the hold of that sum in a sandbox is worth. -/
noncomputable def Tryz.pinned : Pinned := { name := "ytgdfkbalnpfdgaagreatdoor", sum := "87bec15cbd273419040fcce7fe930b0fd67fcaa922fc83227bdb305a1e1a8323", checked := Tryz.checked }
namespace Rows
def none {H : Type} : Left H := { results := [], args := [] }

/- WHAT THE LISTED PACKAGE-LEVEL VARIABLES READ AS WHEN THE CALL BEGINS. Each datum BY PROGRAM (the guide's laid-datum.mjs) off the statement by which the dump's own 'gosem.cut.vars' lays the variable. In a bare row this is a premise. The card (YtgdfkbalnpfdgaaGreatDoorCards.lean) ties it to the program's text. -/
def laid_unicode_utf8_acceptRanges {H : Type} : DataW H := .agg [.agg [.lit (.int .u8 128), .lit (.int .u8 191)], .agg [.lit (.int .u8 160), .lit (.int .u8 191)], .agg [.lit (.int .u8 128), .lit (.int .u8 159)], .agg [.lit (.int .u8 144), .lit (.int .u8 191)], .agg [.lit (.int .u8 128), .lit (.int .u8 143)], .agg [.lit (.int .u8 0), .lit (.int .u8 0)], .agg [.lit (.int .u8 0), .lit (.int .u8 0)], .agg [.lit (.int .u8 0), .lit (.int .u8 0)], .agg [.lit (.int .u8 0), .lit (.int .u8 0)], .agg [.lit (.int .u8 0), .lit (.int .u8 0)], .agg [.lit (.int .u8 0), .lit (.int .u8 0)], .agg [.lit (.int .u8 0), .lit (.int .u8 0)], .agg [.lit (.int .u8 0), .lit (.int .u8 0)], .agg [.lit (.int .u8 0), .lit (.int .u8 0)], .agg [.lit (.int .u8 0), .lit (.int .u8 0)], .agg [.lit (.int .u8 0), .lit (.int .u8 0)]]
/-- One of Go's own tables, pinned by name: the form's constant. -/
def laid_unicode_utf8_first : DataW Unit := Go.Pinned.utf8First

/-- 'hoardinglaw19.DepsOff': WHATEVER THE INPUT: true; the input reads as it did. -/
def depsOffSpec : ChangeSpec := { name := "depsOff", fn := fun _ => fun
  | [d1, d2] => { results := [.lit (.bool true)], args := [d1, d2] }
  | _ => none }
def depsOffRow : OpenClaim := { program := "ytgdfkbalnpfdgaagreatdoor", sum := "87bec15cbd273419040fcce7fe930b0fd67fcaa922fc83227bdb305a1e1a8323", func := "hoarding/hoardinglaw19.DepsOff", spec := "depsOff", inPlace := ["internal/bytealg.abigen_runtime_cmpstring"], unfollowed := true, recurses := true, named := ["unicode/utf8.first", "unicode/utf8.acceptRanges"], loops := true, plainKeys := false, apart := false, laid := [("unicode/utf8.acceptRanges", laid_unicode_utf8_acceptRanges), ("unicode/utf8.first", laid_unicode_utf8_first)] }
def DepsOffSaid : Prop := depsOffRow.holds Tryz.pinned (OpenSpec.ofChange depsOffSpec)

/-- ITS FALSE NEIGHBOUR: 'it returns false'. Refute it at one input. -/
def depsOffWrong : ChangeSpec := { name := "depsOff", fn := fun _ => fun
  | [d1, d2] => { results := [.lit (.bool false)], args := [d1, d2] }
  | _ => none }
def DepsOffWrongFalsely : Prop := depsOffRow.holds Tryz.pinned (OpenSpec.ofChange depsOffWrong)

/-- 'hoardinglaw19.DepsJoin': WHATEVER THE INPUT: true; the input reads as it did. -/
def depsJoinSpec : ChangeSpec := { name := "depsJoin", fn := fun _ => fun
  | [d1, d2, d3, d4, d5] => { results := [.lit (.bool true)], args := [d1, d2, d3, d4, d5] }
  | _ => none }
def depsJoinRow : OpenClaim := { program := "ytgdfkbalnpfdgaagreatdoor", sum := "87bec15cbd273419040fcce7fe930b0fd67fcaa922fc83227bdb305a1e1a8323", func := "hoarding/hoardinglaw19.DepsJoin", spec := "depsJoin", inPlace := ["internal/bytealg.abigen_runtime_cmpstring"], unfollowed := true, recurses := true, named := ["unicode/utf8.first", "unicode/utf8.acceptRanges"], loops := true, plainKeys := false, apart := false, laid := [("unicode/utf8.acceptRanges", laid_unicode_utf8_acceptRanges), ("unicode/utf8.first", laid_unicode_utf8_first)] }
def DepsJoinSaid : Prop := depsJoinRow.holds Tryz.pinned (OpenSpec.ofChange depsJoinSpec)

/-- ITS FALSE NEIGHBOUR: 'it returns false'. Refute it at one input. -/
def depsJoinWrong : ChangeSpec := { name := "depsJoin", fn := fun _ => fun
  | [d1, d2, d3, d4, d5] => { results := [.lit (.bool false)], args := [d1, d2, d3, d4, d5] }
  | _ => none }
def DepsJoinWrongFalsely : Prop := depsJoinRow.holds Tryz.pinned (OpenSpec.ofChange depsJoinWrong)

/-- 'hoardinglaw19.DepsTurns': WHATEVER THE INPUT: true; the input reads as it did. -/
def depsTurnsSpec : ChangeSpec := { name := "depsTurns", fn := fun _ => fun
  | [d1, d2] => { results := [.lit (.bool true)], args := [d1, d2] }
  | _ => none }
def depsTurnsRow : OpenClaim := { program := "ytgdfkbalnpfdgaagreatdoor", sum := "87bec15cbd273419040fcce7fe930b0fd67fcaa922fc83227bdb305a1e1a8323", func := "hoarding/hoardinglaw19.DepsTurns", spec := "depsTurns", inPlace := ["internal/bytealg.abigen_runtime_cmpstring"], unfollowed := true, recurses := true, named := ["unicode/utf8.first", "unicode/utf8.acceptRanges"], plainKeys := false, apart := false, laid := [("unicode/utf8.acceptRanges", laid_unicode_utf8_acceptRanges), ("unicode/utf8.first", laid_unicode_utf8_first)] }
def DepsTurnsSaid : Prop := depsTurnsRow.holds Tryz.pinned (OpenSpec.ofChange depsTurnsSpec)

/-- ITS FALSE NEIGHBOUR: 'it returns false'. Refute it at one input. -/
def depsTurnsWrong : ChangeSpec := { name := "depsTurns", fn := fun _ => fun
  | [d1, d2] => { results := [.lit (.bool false)], args := [d1, d2] }
  | _ => none }
def DepsTurnsWrongFalsely : Prop := depsTurnsRow.holds Tryz.pinned (OpenSpec.ofChange depsTurnsWrong)

/-- 'hoardinglaw19.DepsClosure': WHATEVER THE INPUT: true; the input reads as it did. -/
def depsClosureSpec : ChangeSpec := { name := "depsClosure", fn := fun _ => fun
  | [d1, d2] => { results := [.lit (.bool true)], args := [d1, d2] }
  | _ => none }
def depsClosureRow : OpenClaim := { program := "ytgdfkbalnpfdgaagreatdoor", sum := "87bec15cbd273419040fcce7fe930b0fd67fcaa922fc83227bdb305a1e1a8323", func := "hoarding/hoardinglaw19.DepsClosure", spec := "depsClosure", inPlace := ["internal/bytealg.abigen_runtime_cmpstring"], unfollowed := true, recurses := true, named := ["unicode/utf8.first", "unicode/utf8.acceptRanges"], plainKeys := false, apart := false, laid := [("unicode/utf8.acceptRanges", laid_unicode_utf8_acceptRanges), ("unicode/utf8.first", laid_unicode_utf8_first)] }
def DepsClosureSaid : Prop := depsClosureRow.holds Tryz.pinned (OpenSpec.ofChange depsClosureSpec)

/-- ITS FALSE NEIGHBOUR: 'it returns false'. Refute it at one input. -/
def depsClosureWrong : ChangeSpec := { name := "depsClosure", fn := fun _ => fun
  | [d1, d2] => { results := [.lit (.bool false)], args := [d1, d2] }
  | _ => none }
def DepsClosureWrongFalsely : Prop := depsClosureRow.holds Tryz.pinned (OpenSpec.ofChange depsClosureWrong)

/- THE SECOND FORM. 'bulk': how many values and letters a reading holds, each counted each time it is reached (what is shared counts as often as it is met; a slice's spare places count too). A statement '..UptoSaid' is the law's where the arguments, and the package variables that the reading takes, are together of bulk at most 1048576: NARROWER than '..Said'. Prove '..Said' where nothing that the law and all that it calls make is longer than what came in: it says more and counts as full. Else prove '..UptoSaid'. A law counts once. -/
mutual
def uptoBulk {H : Type} : DataW H → Nat
  | .lit (.string bytes) => bytes.length + 1
  | .lit _ => 1
  | .nil => 1
  | .ptr d => uptoBulk d + 1
  | .slice elems spare => uptoBulkAll elems + uptoBulkAll spare + 1
  | .agg parts => uptoBulkAll parts + 1
  | .iface _ d => uptoBulk d + 1
  | .map entries => uptoBulkEntries entries + 1
  | .held _ => 1
def uptoBulkAll {H : Type} : List (DataW H) → Nat
  | [] => 0
  | d :: r => uptoBulk d + uptoBulkAll r
def uptoBulkEntries {H : Type} : List (Lit × DataW H) → Nat
  | [] => 0
  | x :: r => uptoBulkEntry x + uptoBulkEntries r
def uptoBulkEntry {H : Type} : Lit × DataW H → Nat
  | (.string bytes, d) => bytes.length + uptoBulk d + 1
  | (_, d) => uptoBulk d + 1
 end
def uptoSmall : (H : Type) → List (DataW H) → Bool := fun _ ds => decide (uptoBulkAll ds ≤ 1048576)
def OpenSpec.upto (s : _root_.Go.ChangeSpec) : _root_.Go.OpenSpec := { _root_.Go.OpenSpec.ofChange s with cond := some uptoSmall }

/-- 'hoardinglaw19.DepsOff', WHERE WHAT IT READS IS OF BULK AT MOST 1048576: true; the input reads as it did. -/
def depsOffUptoRow : OpenClaim := { program := "ytgdfkbalnpfdgaagreatdoor", sum := "87bec15cbd273419040fcce7fe930b0fd67fcaa922fc83227bdb305a1e1a8323", func := "hoarding/hoardinglaw19.DepsOff", spec := "depsOff", inPlace := ["internal/bytealg.abigen_runtime_cmpstring"], unfollowed := true, recurses := true, named := ["unicode/utf8.first", "unicode/utf8.acceptRanges"], loops := true, plainKeys := false, apart := false, laid := [("unicode/utf8.acceptRanges", laid_unicode_utf8_acceptRanges), ("unicode/utf8.first", laid_unicode_utf8_first)], narrowed := true }
def DepsOffUptoSaid : Prop := depsOffUptoRow.holds Tryz.pinned (OpenSpec.upto depsOffSpec)

/-- 'hoardinglaw19.DepsJoin', WHERE WHAT IT READS IS OF BULK AT MOST 1048576: true; the input reads as it did. -/
def depsJoinUptoRow : OpenClaim := { program := "ytgdfkbalnpfdgaagreatdoor", sum := "87bec15cbd273419040fcce7fe930b0fd67fcaa922fc83227bdb305a1e1a8323", func := "hoarding/hoardinglaw19.DepsJoin", spec := "depsJoin", inPlace := ["internal/bytealg.abigen_runtime_cmpstring"], unfollowed := true, recurses := true, named := ["unicode/utf8.first", "unicode/utf8.acceptRanges"], loops := true, plainKeys := false, apart := false, laid := [("unicode/utf8.acceptRanges", laid_unicode_utf8_acceptRanges), ("unicode/utf8.first", laid_unicode_utf8_first)], narrowed := true }
def DepsJoinUptoSaid : Prop := depsJoinUptoRow.holds Tryz.pinned (OpenSpec.upto depsJoinSpec)

/-- 'hoardinglaw19.DepsTurns', WHERE WHAT IT READS IS OF BULK AT MOST 1048576: true; the input reads as it did. -/
def depsTurnsUptoRow : OpenClaim := { program := "ytgdfkbalnpfdgaagreatdoor", sum := "87bec15cbd273419040fcce7fe930b0fd67fcaa922fc83227bdb305a1e1a8323", func := "hoarding/hoardinglaw19.DepsTurns", spec := "depsTurns", inPlace := ["internal/bytealg.abigen_runtime_cmpstring"], unfollowed := true, recurses := true, named := ["unicode/utf8.first", "unicode/utf8.acceptRanges"], plainKeys := false, apart := false, laid := [("unicode/utf8.acceptRanges", laid_unicode_utf8_acceptRanges), ("unicode/utf8.first", laid_unicode_utf8_first)], narrowed := true }
def DepsTurnsUptoSaid : Prop := depsTurnsUptoRow.holds Tryz.pinned (OpenSpec.upto depsTurnsSpec)

/-- 'hoardinglaw19.DepsClosure', WHERE WHAT IT READS IS OF BULK AT MOST 1048576: true; the input reads as it did. -/
def depsClosureUptoRow : OpenClaim := { program := "ytgdfkbalnpfdgaagreatdoor", sum := "87bec15cbd273419040fcce7fe930b0fd67fcaa922fc83227bdb305a1e1a8323", func := "hoarding/hoardinglaw19.DepsClosure", spec := "depsClosure", inPlace := ["internal/bytealg.abigen_runtime_cmpstring"], unfollowed := true, recurses := true, named := ["unicode/utf8.first", "unicode/utf8.acceptRanges"], plainKeys := false, apart := false, laid := [("unicode/utf8.acceptRanges", laid_unicode_utf8_acceptRanges), ("unicode/utf8.first", laid_unicode_utf8_first)], narrowed := true }
def DepsClosureUptoSaid : Prop := depsClosureUptoRow.holds Tryz.pinned (OpenSpec.upto depsClosureSpec)

end Rows
end Go.Proofs.YtgdfkbalnpfdgaaGreatDoor
