/- Parts of the proof, one behind the other. -/
import Derived.Test.YtpobhbdomldecaaGreatDoorItxP6
import Derived.Test.YtpobhbdomldecaaGreatDoorCards
import Derived.Test.YtpobhbdomldecaaGreatDoorTie
import Derived.SevenTiedAt
set_option linter.unusedSimpArgs false
set_option linter.unusedVariables false
set_option maxRecDepth 100000
set_option maxHeartbeats 40000000
namespace Go.Proofs.YtpobhbdomldecaaGreatDoor
open Go.RowKit
end Go.Proofs.YtpobhbdomldecaaGreatDoor
namespace Go.Proofs.YtpobhbdomldecaaGreatDoor.itxns
open Go.RowKit Go.ChangeShapes Go.WideShapes Go.ChangeAt
theorem closed:joinedFacts Tryz.pinned.checked.prog 11 Tryz.f11 Rows.inclusionTxnsSpec Rows.inclusionTxnsRow=true:=by
 unfold joinedFacts
 simp only[Bool.and_eq_true]
 repeat' apply And.intro
 all_goals (as_aux_lemma=>kernel_rfl)
end Go.Proofs.YtpobhbdomldecaaGreatDoor.itxns
namespace Go.Proofs.YtpobhbdomldecaaGreatDoor
open Go.RowKit
end Go.Proofs.YtpobhbdomldecaaGreatDoor
