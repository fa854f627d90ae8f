/-
  NARROWER THAN 'FOR EVERY INPUT', by the rows' own cells (each row's printed sentence says how): NestPlain: loops · NestDeep: loops.
  DERIVED. THE GIVEN ROWS OF THIS SEAT. 2 by the template 'for every input the law returns true; each argument reads behind the call as it read before'; 0 by the template 'total and deterministic' (their statements: YtnimfdfdpkineaaTotals.lean).
  GIVEN WITH THE SEED: the statements are not yours to turn. If you find one false, say at which input.
  Laid BY PROGRAM, IN A SANDBOX (cutbox-rows.mjs): the forced cells as the released guide's own fill.sh prints them over the translation 61cab0a1ee9a91de… (all of the seat's roots in one cut). By AI agents, Wed Nov 11 2026. No macro, syntax, notation, axiom, sorry.
-/
import Derived.Test.YtnimfdfdpkineaaChecked
import GoSem.Claim
import GoSem.ClaimJoined
import GoSem.ClaimMapViews
import Derived.JoinedTies
import Derived.KernelRfl
namespace Go.Proofs.Ytnimfdfdpkineaa
/- THE CELL 'sum', in the pinned program and in every row, IS THE sha256 OF THE DUMP (.gsa) THAT YtnimfdfdpkineaaProg.lean LOADS. Nothing in Lean hashes anything: it is a label: what it is worth is what the hold of that sum in a sandbox is worth. -/
noncomputable def Try.pinned : Pinned := { name := "ytnimfdfdpkineaa", sum := "61cab0a1ee9a91debd130394c8dcbc18b90f4ad59839a41214f64aa1679012f2", checked := Try.checked }
namespace Rows
def none {H : Type} : Left H := { results := [], args := [] }

/-- 'hoardinglaw17.NestPlain': WHATEVER THE INPUT: true; the input reads as it did. -/
def nestPlainSpec : ChangeSpec := { name := "nestPlain", fn := fun _ => fun
  | [d] => { results := [.lit (.bool true)], args := [d] }
  | _ => none }
def nestPlainRow : OpenClaim := { program := "ytnimfdfdpkineaa", sum := "61cab0a1ee9a91debd130394c8dcbc18b90f4ad59839a41214f64aa1679012f2", func := "hoarding/hoardinglaw17.NestPlain", spec := "nestPlain", unfollowed := true, recurses := true, loops := true, apart := false }
def NestPlainSaid : Prop := nestPlainRow.holds Try.pinned (OpenSpec.ofChange nestPlainSpec)

/-- ITS FALSE NEIGHBOUR: 'it returns false'. Refute it at one input. -/
def nestPlainWrong : ChangeSpec := { name := "nestPlain", fn := fun _ => fun
  | [d] => { results := [.lit (.bool false)], args := [d] }
  | _ => none }
def NestPlainWrongFalsely : Prop := nestPlainRow.holds Try.pinned (OpenSpec.ofChange nestPlainWrong)

/-- 'hoardinglaw17.NestDeep': WHATEVER THE INPUT: true; the input reads as it did. -/
def nestDeepSpec : ChangeSpec := { name := "nestDeep", fn := fun _ => fun
  | [d] => { results := [.lit (.bool true)], args := [d] }
  | _ => none }
def nestDeepRow : OpenClaim := { program := "ytnimfdfdpkineaa", sum := "61cab0a1ee9a91debd130394c8dcbc18b90f4ad59839a41214f64aa1679012f2", func := "hoarding/hoardinglaw17.NestDeep", spec := "nestDeep", unfollowed := true, recurses := true, loops := true, apart := false }
def NestDeepSaid : Prop := nestDeepRow.holds Try.pinned (OpenSpec.ofChange nestDeepSpec)

/-- ITS FALSE NEIGHBOUR: 'it returns false'. Refute it at one input. -/
def nestDeepWrong : ChangeSpec := { name := "nestDeep", fn := fun _ => fun
  | [d] => { results := [.lit (.bool false)], args := [d] }
  | _ => none }
def NestDeepWrongFalsely : Prop := nestDeepRow.holds Try.pinned (OpenSpec.ofChange nestDeepWrong)

/- THE SECOND FORM. 'bulk': how many values and letters a reading holds, each counted each time it is reached (what is shared counts as often as it is met; a slice's spare places count too). A statement '..UptoSaid' is the law's where the arguments, and the package variables that the reading takes, are together of bulk at most 1048576: NARROWER than '..Said'. Prove '..Said' where nothing that the law and all that it calls make is longer than what came in: it says more and counts as full. Else prove '..UptoSaid'. A law counts once. -/
mutual
def uptoBulk {H : Type} : DataW H → Nat
  | .lit (.string bytes) => bytes.length + 1
  | .lit _ => 1
  | .nil => 1
  | .ptr d => uptoBulk d + 1
  | .slice elems spare => uptoBulkAll elems + uptoBulkAll spare + 1
  | .agg parts => uptoBulkAll parts + 1
  | .iface _ d => uptoBulk d + 1
  | .map entries => uptoBulkEntries entries + 1
  | .held _ => 1
def uptoBulkAll {H : Type} : List (DataW H) → Nat
  | [] => 0
  | d :: r => uptoBulk d + uptoBulkAll r
def uptoBulkEntries {H : Type} : List (Lit × DataW H) → Nat
  | [] => 0
  | x :: r => uptoBulkEntry x + uptoBulkEntries r
def uptoBulkEntry {H : Type} : Lit × DataW H → Nat
  | (.string bytes, d) => bytes.length + uptoBulk d + 1
  | (_, d) => uptoBulk d + 1
 end
def uptoSmall : (H : Type) → List (DataW H) → Bool := fun _ ds => decide (uptoBulkAll ds ≤ 1048576)
def OpenSpec.upto (s : _root_.Go.ChangeSpec) : _root_.Go.OpenSpec := { _root_.Go.OpenSpec.ofChange s with cond := some uptoSmall }

/-- 'hoardinglaw17.NestPlain', WHERE WHAT IT READS IS OF BULK AT MOST 1048576: true; the input reads as it did. -/
def nestPlainUptoRow : OpenClaim := { program := "ytnimfdfdpkineaa", sum := "61cab0a1ee9a91debd130394c8dcbc18b90f4ad59839a41214f64aa1679012f2", func := "hoarding/hoardinglaw17.NestPlain", spec := "nestPlain", unfollowed := true, recurses := true, loops := true, apart := false, narrowed := true }
def NestPlainUptoSaid : Prop := nestPlainUptoRow.holds Try.pinned (OpenSpec.upto nestPlainSpec)

/-- 'hoardinglaw17.NestDeep', WHERE WHAT IT READS IS OF BULK AT MOST 1048576: true; the input reads as it did. -/
def nestDeepUptoRow : OpenClaim := { program := "ytnimfdfdpkineaa", sum := "61cab0a1ee9a91debd130394c8dcbc18b90f4ad59839a41214f64aa1679012f2", func := "hoarding/hoardinglaw17.NestDeep", spec := "nestDeep", unfollowed := true, recurses := true, loops := true, apart := false, narrowed := true }
def NestDeepUptoSaid : Prop := nestDeepUptoRow.holds Try.pinned (OpenSpec.upto nestDeepSpec)

end Rows
end Go.Proofs.Ytnimfdfdpkineaa
