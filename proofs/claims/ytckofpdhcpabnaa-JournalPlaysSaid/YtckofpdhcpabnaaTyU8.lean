/- Facts on the type of bytes in this translation; the laws' own answer. -/
import Derived.Test.YtckofpdhcpabnaaProg
import Derived.Test.YtckofpdhcpabnaaBase
namespace Go.Proofs.Ytckofpdhcpabnaa
open Go.RowKit
theorem info_u8 : (Try.prog.info? 5).map (fun i => (i.zero, i.size, i.bytes)) = some (some (.int .u8 0), 1, 1) := by kernel_rfl
theorem info_bsz : (Try.prog.info? 5).map (·.size) = some 1 := by kernel_rfl
/-- what a law answers -/
def Yes (w : World) (e : Ending) (w' : World) : Prop := e = .returned (.bool true) ∧ Below w.heap.size w w'
end Go.Proofs.Ytckofpdhcpabnaa
