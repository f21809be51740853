/- For every input the law ProofChecks returns true; each argument reads behind the call as it read before. -/
import Derived.Test.YtloccahcnikbfaaPrcP5
namespace Go.Proofs.Ytloccahcnikbfaa.pchecks
open Go.RowKit Go.ChangeShapes Go.WideShapes Go.ChangeAt

set_option maxRecDepth 100000 in
theorem lifted (os : Os) (started : os.Started) (H : Type) (enc : TypeId × Value → H) :
    ReturnsInHanded {} Try.checked os 4 .any (Rows.proofChecksSpec.pre6 enc Try.prog Try.f4 Rows.proofChecksRow.domain false) (Rows.proofChecksSpec.post enc Try.prog Try.f4 false true false false) := by
  refine returnsInHanded_of_change (C := Try.checked) own started (by kernel_rfl) Try.func4
    (ChangeSpec.witness6 (enc := enc) (C := Try.checked) false ⟨#[], #[.agg #[.int .i64 0, .slice none 0 0, .slice none 0 0, .slice none 0 0], .string ⟨#[]⟩], []⟩ 8 (by kernel_rfl) (by kernel_rfl) (by kernel_rfl) (by kernel_rfl)) ?_
  intro W base args ds gs before hval0 hW hcnd _
  have hval : ∀ (j : Nat) t v, Try.f4.params[j]? = some t → args[j]? = some v → Value.okWide Try.prog W .any base t v := hval0
  have hW' := hW
  obtain ⟨p, q, hA0, hV, rfl, hfz, hnd⟩ := hW
  have hA : DataW.TrodAll enc Try.prog W 0 (fun _ => true) true Try.f4.params.toList args.toList ds p := hA0
  rw [Try.params4] at hA hval
  have hAA := hA
  obtain ⟨v0, vs0, d0, ds0, p0, q0, hargs, rfl, rfl, h0, r0⟩ := trodAll_cons hA
  obtain ⟨v1, vs1, d1, ds1, p1, q1, rfl, rfl, rfl, h1, r1⟩ := trodAll_cons r0
  obtain ⟨rfl, rfl, rfl⟩ := trodAll_nil r1
  obtain rfl : args = #[v0, v1] := by cases args; simp_all
  obtain ⟨rfl, rfl⟩ := trodVars_none hV
  obtain ⟨n, pa, pc, ps, ea, ec, es, da, dc, ds, rfl, hn, ⟨hp1, hp2, hp3, hp4⟩, ⟨he1, he2, he3⟩, ⟨hd1, hd2, hd3⟩⟩ := open_try (hval 0 _ _ rfl rfl) h0
  obtain ⟨r, rfl, _⟩ := open_str Try.underlying9 (hval 1 _ _ rfl rfl) h1
  unfold maxLen at hp2 he2 hd2
  clear hA0 hval0
  refine (checks_law n pa pc ps ea ec es da dc ds r W hn.1 hn.2 hp3 hp1 hp4 he3 (by omega) hd3 (by omega) (by omega)).mono fun e W' ⟨he, bel⟩ => ?_
  subst he
  have hback := below_trodAll laidOut bel (fun t ht => ⟨by revert t; exact of_decide_eq_true (by kernel_rfl), by revert t; exact of_decide_eq_true (by kernel_rfl)⟩) hAA
  exact ⟨_, rfl, _, _, _, [], _, [], hW', trodAll_mk1 (shut_bool Try.underlying4 _), hback, rfl, bel.frame _, fun h => by cases h⟩

theorem over : Rows.proofChecksRow.holds Try.pinned (OpenSpec.ofChange Rows.proofChecksSpec) :=
  OpenClaim.holds_of_wide 4 Try.f4 rfl rfl rfl rfl rfl rfl rfl ⟨rfl, rfl, rfl, rfl, rfl⟩ rfl rfl rfl rfl rfl (by kernel_rfl) Try.func4 (by kernel_rfl)
    (of_decide_eq_true (by kernel_rfl)) (by unfold Func.isWrapper; first | (rw [if_pos (by decide +kernel)]; kernel_rfl) | (rw [if_neg (by decide +kernel)]; exact ⟨rfl, rfl⟩))
    (fun os started H enc _ => lifted os started H enc)

theorem proved : Rows.ProofChecksSaid := over
#print axioms proved
end Go.Proofs.Ytloccahcnikbfaa.pchecks
