/- For every input the law InclusionAll returns true; each argument reads behind the call as it read before. What is listed of the package variables is tied to the text. -/
import Derived.Test.YtpobhbdomldecaaGreatDoorIalP7
import Derived.Test.YtpobhbdomldecaaGreatDoorCards
import Derived.Test.YtpobhbdomldecaaGreatDoorTie
import Derived.SevenTiedAt
namespace Go.Proofs.YtpobhbdomldecaaGreatDoor.iall
open Go.RowKit Go.ChangeShapes Go.WideShapes Go.ChangeAt

theorem over : Rows.inclusionAllRow.holds Tryz.pinned (OpenSpec.ofChange Rows.inclusionAllSpec) :=
  OpenClaim.holds_of_wide 12 Tryz.f12 rfl rfl rfl rfl rfl rfl rfl ⟨rfl, rfl, rfl, rfl, rfl⟩ rfl rfl rfl rfl rfl (by kernel_rfl) Tryz.func12 closed
    (of_decide_eq_true (by kernel_rfl)) (by unfold Func.isWrapper; first | (rw [if_pos (by decide +kernel)]; kernel_rfl) | (rw [if_neg (by decide +kernel)]; exact ⟨rfl, rfl⟩))
    (fun os started H enc _ => lifted os started H enc)

theorem said : Rows.InclusionAllSaid := over
/-- The card: what is listed is tied to the text of the program. -/
theorem proved : Rows.InclusionAllCardSaid :=
  Claim7.holds_tied_plain_at .later [] _ true _ true
    said (fun _ h => by cases h) (by as_aux_lemma => kernel_rfl) (fun _ h => by cases h) inclusionAll_row_tie rfl ⟨rfl, rfl⟩ (by as_aux_lemma => kernel_rfl) rfl
    (fun f fn hf hfn => by
      obtain rfl : f = 12 := Option.some.inj ((show Tryz.prog.funcNamed Rows.inclusionAllRow.func = some 12 by as_aux_lemma => kernel_rfl).symm.trans hf) |>.symm
      obtain rfl : fn = Tryz.f12 := (Option.some.inj (Tryz.func12.symm.trans hfn)).symm
      exact ⟨by as_aux_lemma => kernel_rfl, fun j t ht => by
        rw [Tryz.params12] at ht
        have hm : t ∈ [23, 41, 36] := by simpa using Array.mem_of_getElem? ht
        have hall : ([23, 41, 36].all fun u => !Tryz.prog.wantsStandIn u) = true := by as_aux_lemma => kernel_rfl
        exact (show Tryz.prog.wantsStandIn t = false by simpa using List.all_eq_true.1 hall t hm)⟩)
    (by as_aux_lemma => kernel_rfl)
#print axioms proved
end Go.Proofs.YtpobhbdomldecaaGreatDoor.iall
