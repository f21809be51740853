/- Parts of the proof, one behind the other. -/
import Derived.Test.YtpobhbdomldecaaGreatDoorIhdP6
import Derived.Test.YtpobhbdomldecaaGreatDoorCards
import Derived.Test.YtpobhbdomldecaaGreatDoorTie
import Derived.SevenTiedAt
set_option linter.unusedSimpArgs false
set_option linter.unusedVariables false
set_option maxRecDepth 100000
set_option maxHeartbeats 40000000
namespace Go.Proofs.YtpobhbdomldecaaGreatDoor
open Go.RowKit
end Go.Proofs.YtpobhbdomldecaaGreatDoor
namespace Go.Proofs.YtpobhbdomldecaaGreatDoor.ihdrs
open Go.RowKit Go.ChangeShapes Go.WideShapes Go.ChangeAt
theorem closed:joinedFacts Tryz.pinned.checked.prog 10 Tryz.f10 Rows.inclusionHeadersSpec Rows.inclusionHeadersRow=true:=by
 unfold joinedFacts;simp only[Bool.and_eq_true]
 repeat' apply And.intro
 all_goals (as_aux_lemma=>kernel_rfl)
end Go.Proofs.YtpobhbdomldecaaGreatDoor.ihdrs
namespace Go.Proofs.YtpobhbdomldecaaGreatDoor
open Go.RowKit
end Go.Proofs.YtpobhbdomldecaaGreatDoor
