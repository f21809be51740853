/- For every input the law LayoutTurns returns true; each argument reads behind the call as it read before. -/
import Derived.Test.YtbeppkokkbgddaaTurns
import Derived.Test.YtbeppkokkbgddaaOpenN
namespace Go.Proofs.Ytbeppkokkbgddaa.turns
open Go.RowKit Go.ChangeShapes Go.WideShapes Go.ChangeAt

theorem wf_u32 {x : Int} (h : (Lit.int .u32 x).wf = true) : 0 ≤ x ∧ x ≤ 4294967295 := by
  simp [Lit.wf, IntKind.min, IntKind.max, IntKind.bits, IntKind.signed] at h; omega

set_option maxRecDepth 100000 in
theorem lifted (os : Os) (started : os.Started) (H : Type) (enc : TypeId × Value → H) :
    ReturnsInHanded {} Try.checked os 5 .any (Rows.layoutTurnsSpec.pre6 enc Try.prog Try.f5 Rows.layoutTurnsRow.domain false) (Rows.layoutTurnsSpec.post enc Try.prog Try.f5 false true false false) := by
  refine returnsInHanded_of_change (C := Try.checked) own started (by kernel_rfl) Try.func5
    (ChangeSpec.witness6 (enc := enc) (C := Try.checked) false ⟨#[], #[.int .u32 0, .int .u32 0], []⟩ 8 (by kernel_rfl) (by kernel_rfl) (by kernel_rfl) (by kernel_rfl)) ?_
  intro W base args ds gs before hval0 hW hcnd _
  have hval : ∀ (j : Nat) t v, Try.f5.params[j]? = some t → args[j]? = some v → Value.okWide Try.prog W .any base t v := hval0
  have hW' := hW
  obtain ⟨p, q, hA0, hV, rfl, hfz, hnd⟩ := hW
  have hA : DataW.TrodAll enc Try.prog W 0 (fun _ => true) true Try.f5.params.toList args.toList ds p := hA0
  rw [Try.params5] at hA hval
  have hAA := hA
  obtain ⟨v0, vs0, d0, ds0, p0, q0, hargs, rfl, rfl, h0, r0⟩ := trodAll_cons hA
  obtain ⟨v1, vs1, d1, ds1, p1, q1, rfl, rfl, rfl, h1, r1⟩ := trodAll_cons r0
  obtain ⟨rfl, rfl, rfl⟩ := trodAll_nil r1
  obtain rfl : args = #[v0, v1] := by cases args; simp_all
  obtain ⟨rfl, rfl⟩ := trodVars_none hV
  obtain ⟨n, rfl, _, _, wn⟩ := open_int Try.underlying33 (hval 0 _ _ rfl rfl) h0
  obtain ⟨k, rfl, _, _, wk⟩ := open_int Try.underlying33 (hval 1 _ _ rfl rfl) h1
  obtain ⟨n, rfl⟩ := Int.eq_ofNat_of_zero_le (wf_u32 wn).1
  obtain ⟨k, rfl⟩ := Int.eq_ofNat_of_zero_le (wf_u32 wk).1
  clear hA0 hval0
  refine (turns_law n k W (by have := (wf_u32 wn).2; omega) (by have := (wf_u32 wk).2; omega)).mono fun e W' ⟨he, bel⟩ => ?_
  subst he
  have hback := below_trodAll laidOut bel (fun t ht => ⟨by revert t; exact of_decide_eq_true (by kernel_rfl), by revert t; exact of_decide_eq_true (by kernel_rfl)⟩) hAA
  exact ⟨_, rfl, _, _, _, [], _, [], hW', trodAll_mk1 (shut_bool Try.underlying4 _), hback, rfl, bel.frame _, fun h => by cases h⟩

theorem over : Rows.layoutTurnsRow.holds Try.pinned (OpenSpec.ofChange Rows.layoutTurnsSpec) :=
  OpenClaim.holds_of_wide 5 Try.f5 rfl rfl rfl rfl rfl rfl rfl ⟨rfl, rfl, rfl, rfl, rfl⟩ rfl rfl rfl rfl rfl (by kernel_rfl) Try.func5 (by kernel_rfl)
    (of_decide_eq_true (by kernel_rfl)) (by unfold Func.isWrapper; first | (rw [if_pos (by decide +kernel)]; kernel_rfl) | (rw [if_neg (by decide +kernel)]; exact ⟨rfl, rfl⟩))
    (fun os started H enc _ => lifted os started H enc)

theorem proved : Rows.LayoutTurnsSaid := over
#print axioms proved
end Go.Proofs.Ytbeppkokkbgddaa.turns
