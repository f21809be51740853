/- For every input the law MultiSizes returns true; each argument reads behind the call as it read before. -/
import Derived.Test.YtloccahcnikbfaaMszP4
namespace Go.Proofs.Ytloccahcnikbfaa.msizes
open Go.RowKit Go.ChangeShapes Go.WideShapes Go.ChangeAt

set_option maxRecDepth 100000 in
theorem lifted (os : Os) (started : os.Started) (H : Type) (enc : TypeId × Value → H) :
    ReturnsInHanded {} Try.checked os 7 .any (Rows.multiSizesSpec.pre6 enc Try.prog Try.f7 Rows.multiSizesRow.domain false) (Rows.multiSizesSpec.post enc Try.prog Try.f7 false true false false) := by
  refine returnsInHanded_of_change (C := Try.checked) own started (by kernel_rfl) Try.func7
    (ChangeSpec.witness6 (enc := enc) (C := Try.checked) false ⟨#[], #[.int .i64 0, .slice none 0 0], []⟩ 8 (by kernel_rfl) (by kernel_rfl) (by kernel_rfl) (by kernel_rfl)) ?_
  intro W base args ds gs before hval0 hW hcnd _
  have hval : ∀ (j : Nat) t v, Try.f7.params[j]? = some t → args[j]? = some v → Value.okWide Try.prog W .any base t v := hval0
  have hW' := hW
  obtain ⟨p, q, hA0, hV, rfl, hfz, hnd⟩ := hW
  have hA : DataW.TrodAll enc Try.prog W 0 (fun _ => true) true Try.f7.params.toList args.toList ds p := hA0
  rw [Try.params7] at hA hval
  have hAA := hA
  obtain ⟨v0, vs0, d0, ds0, p0, q0, hargs, rfl, rfl, h0, r0⟩ := trodAll_cons hA
  obtain ⟨v1, vs1, d1, ds1, p1, q1, rfl, rfl, rfl, h1, r1⟩ := trodAll_cons r0
  obtain ⟨rfl, rfl, rfl⟩ := trodAll_nil r1
  obtain rfl : args = #[v0, v1] := by cases args; simp_all
  obtain ⟨rfl, rfl⟩ := trodVars_none hV
  obtain ⟨n, rfl, n1, n2, wd⟩ := open_int Try.underlying3 (hval 0 _ _ rfl rfl) h0
  obtain ⟨a1, c1, l1, rfl, lc1, cm1, o1, k1⟩ := open_u64s Try.underlying22 Try.underlying35 (by kernel_rfl) (hval 1 _ _ rfl rfl) h1
  unfold maxLen at cm1
  clear hA0 hval0
  refine (sizes_law n a1 c1 l1 W o1 lc1 cm1 k1 (wf_i64 wd).1 (wf_i64 wd).2).mono fun e W' ⟨he, bel⟩ => ?_
  subst he
  have hback := below_trodAll laidOut bel (fun t ht => ⟨by revert t; exact of_decide_eq_true (by kernel_rfl), by revert t; exact of_decide_eq_true (by kernel_rfl)⟩) hAA
  exact ⟨_, rfl, _, _, _, [], _, [], hW', trodAll_mk1 (shut_bool Try.underlying4 _), hback, rfl, bel.frame _, fun h => by cases h⟩

theorem over : Rows.multiSizesRow.holds Try.pinned (OpenSpec.ofChange Rows.multiSizesSpec) :=
  OpenClaim.holds_of_wide 7 Try.f7 rfl rfl rfl rfl rfl rfl rfl ⟨rfl, rfl, rfl, rfl, rfl⟩ rfl rfl rfl rfl rfl (by kernel_rfl) Try.func7 (by kernel_rfl)
    (of_decide_eq_true (by kernel_rfl)) (by unfold Func.isWrapper; first | (rw [if_pos (by decide +kernel)]; kernel_rfl) | (rw [if_neg (by decide +kernel)]; exact ⟨rfl, rfl⟩))
    (fun os started H enc _ => lifted os started H enc)

theorem proved : Rows.MultiSizesSaid := over
#print axioms proved
end Go.Proofs.Ytloccahcnikbfaa.msizes
