/- Parts of the proof, one behind the other. -/
import Derived.Test.YtpobhbdomldecaaGreatDoorIknP5
import Derived.Test.YtpobhbdomldecaaGreatDoorCards
import Derived.Test.YtpobhbdomldecaaGreatDoorTie
import Derived.SevenTiedAt
namespace Go.Proofs.YtpobhbdomldecaaGreatDoor.iknown
set_option linter.unusedSimpArgs false
set_option linter.unusedVariables false
open Go.RowKit Go.ChangeShapes Go.WideShapes Go.ChangeAt
set_option maxRecDepth 100000 in
set_option maxHeartbeats 40000000 in
theorem closed:joinedFacts Tryz.pinned.checked.prog 13 Tryz.f13 Rows.inclusionKnownSpec Rows.inclusionKnownRow=true:=by
 unfold joinedFacts
 simp only[Bool.and_eq_true]
 repeat' apply And.intro
 all_goals (as_aux_lemma=>kernel_rfl)
end Go.Proofs.YtpobhbdomldecaaGreatDoor.iknown
