/- For every input the law UnpackBack returns true; each argument reads behind the call as it read before. What is listed of the package variables is tied to the text. -/
import Derived.Test.YtmcmapcijncblaaDoorBackB
import Derived.Test.YtmcmapcijncblaaDoorLaidU
import Derived.Test.YtmcmapcijncblaaDoorOpenT
import Derived.Test.YtmcmapcijncblaaDoorCards
import Derived.Test.YtmcmapcijncblaaDoorTie
import Derived.SevenTiedAt
namespace Go.Proofs.YtmcmapcijncblaaDoor.back
open Go.RowKit Go.ChangeShapes Go.WideShapes Go.ChangeAt

theorem door_met (os : Os) (args : Array Value) : laidMetH Tryd.prog Rows.unpackBackRow.laid ((World.doorLaid Tryd.prog 55 os).forCall (fun _ _ => 0) ⟨#[], args, []⟩).memory :=
  laidMetH_of_parts3 (fuel := 8) (laidMet_of_run' 8 (by kernel_rfl) (by kernel_rfl)) (by kernel_rfl) (by kernel_rfl)

set_option maxRecDepth 100000 in
theorem lifted (os : Os) (started : os.Started) (H : Type) (enc : TypeId × Value → H) :
    ReturnsInHanded {} Tryd.checked os 4 .any (fun w args => (Rows.unpackBackSpec.pre enc Tryd.prog Tryd.f4 [] false w args ∧ laidMetH Tryd.prog Rows.unpackBackRow.laid w) ∧ sizedMet enc Tryd.prog Tryd.f4 (OpenSpec.ofChange Rows.unpackBackSpec) false w args)
      (Rows.unpackBackSpec.post enc Tryd.prog Tryd.f4 false true false false) := by
  refine returnsInHanded_of_change_and (C := Tryd.checked) (X := fun w _ => laidMetH Tryd.prog Rows.unpackBackRow.laid w) (fun _ _ _ hh h => h.of_heap hh) own started (by kernel_rfl) Tryd.func4
    (ChangeSpec.witness_shaped (enc := enc) (C := Tryd.checked) (os := os) (X := fun w _ => laidMetH Tryd.prog Rows.unpackBackRow.laid w) false (World.doorLaid Tryd.prog 55 os) #[.slice none 0 0] 8 rfl (World.shaped_of_RefB (by kernel_rfl) (by kernel_rfl)) (by kernel_rfl) (by kernel_rfl) (by kernel_rfl) (door_met os _)) ?_
  intro W base args ds gs before hval0 hW _ _ hL _
  have hval : ∀ (j : Nat) t v, Tryd.f4.params[j]? = some t → args[j]? = some v → Value.okWide Tryd.prog W .any base t v := hval0
  have hW' := hW
  obtain ⟨p, q, hA0, hV, rfl, hfz, hnd⟩ := hW
  have hA : DataW.TrodAll enc Tryd.prog W 0 (fun _ => true) true Tryd.f4.params.toList args.toList ds p := hA0
  rw [Tryd.params4] at hA hval
  have hAA := hA
  obtain ⟨v0, vs0, d0, ds0, p0, q0, hargs, rfl, rfl, h0, r0⟩ := trodAll_cons hA
  obtain ⟨rfl, rfl, rfl⟩ := trodAll_nil r0
  obtain rfl : args = #[v0] := by cases args; simp_all
  obtain ⟨rfl, rfl⟩ := trodVars_none hV
  obtain ⟨a0, c0, l0, rfl, lc0, cm0, o0, k0⟩ := open_thgs (hval 0 _ _ rfl rfl) h0
  obtain ⟨hT, hET⟩ := of_laid (show laidMetH Tryd.prog Rows.unpackReadsRow.laid W from hL)
  unfold maxLen at cm0
  clear hA0 hval0
  refine (back_law W.heap.size a0 c0 l0 W lc0 (by omega) o0 k0 hT hET (Nat.le_refl _)).mono fun e W' ⟨he, bel⟩ => ?_
  subst he
  have hback := below_trodAll laidOut bel (fun t ht => ⟨by revert t; exact of_decide_eq_true (by kernel_rfl), by revert t; exact of_decide_eq_true (by kernel_rfl)⟩) hAA
  exact ⟨_, rfl, _, _, _, [], _, [], hW', trodAll_mk1 (shut_bool Tryd.underlying4 _), hback, rfl, bel.frame _, fun h => by cases h⟩

theorem over : Rows.unpackBackRow.holds Tryd.pinned (OpenSpec.ofChange Rows.unpackBackSpec) :=
  OpenClaim.holds_of_wide 4 Tryd.f4 rfl rfl rfl rfl rfl rfl rfl ⟨rfl, rfl, rfl, rfl, rfl⟩ rfl rfl rfl rfl rfl (by kernel_rfl) Tryd.func4 (by kernel_rfl)
    (of_decide_eq_true (by kernel_rfl)) (by unfold Func.isWrapper; first | (rw [if_pos (by decide +kernel)]; kernel_rfl) | (rw [if_neg (by decide +kernel)]; exact ⟨rfl, rfl⟩))
    (fun os started H enc _ => lifted os started H enc)

theorem said : Rows.UnpackBackSaid := over
/-- The card: what is listed is tied to the text of the program. -/
theorem proved : Rows.UnpackBackCardSaid :=
  Claim7.holds_tied_plain_at .later [] _ true _ true
    said (fun _ h => by cases h) (by kernel_rfl) (fun _ h => by cases h) unpackBack_row_tie rfl ⟨rfl, rfl⟩ (by kernel_rfl) rfl
    (fun f fn hf hfn => by
      obtain rfl : f = 4 := Option.some.inj ((show Tryd.prog.funcNamed Rows.unpackBackRow.func = some 4 by kernel_rfl).symm.trans hf) |>.symm
      obtain rfl : fn = Tryd.f4 := (Option.some.inj (Tryd.func4.symm.trans hfn)).symm
      exact ⟨by kernel_rfl, fun j t ht => by
        rw [Tryd.params4] at ht
        have hm : t ∈ [42] := by simpa using Array.mem_of_getElem? ht
        have hall : ([42].all fun u => !Tryd.prog.wantsStandIn u) = true := by kernel_rfl
        exact (show Tryd.prog.wantsStandIn t = false by simpa using List.all_eq_true.1 hall t hm)⟩)
    (by kernel_rfl)
#print axioms proved
end Go.Proofs.YtmcmapcijncblaaDoor.back
