/- Closed facts of the rows. -/
import Derived.Test.YtmcmapcijncblaaDoorOpen
namespace Go.Proofs.YtmcmapcijncblaaDoor
open Go.RowKit Go.ChangeShapes Go.WideShapes Go.ChangeAt
theorem own : ownKnob Tryd.prog.godebug = none := by kernel_rfl
theorem laidOut : laidOutB Tryd.prog = true := by kernel_rfl
end Go.Proofs.YtmcmapcijncblaaDoor
