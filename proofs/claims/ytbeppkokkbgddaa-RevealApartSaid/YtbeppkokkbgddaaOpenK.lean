/- Closed facts of the rows. -/
import Derived.Test.YtbeppkokkbgddaaOpen
namespace Go.Proofs.Ytbeppkokkbgddaa
open Go.RowKit Go.ChangeShapes Go.WideShapes Go.ChangeAt
theorem own : ownKnob Try.prog.godebug = none := by kernel_rfl
theorem laidOut : laidOutB Try.prog = true := by kernel_rfl
end Go.Proofs.Ytbeppkokkbgddaa
