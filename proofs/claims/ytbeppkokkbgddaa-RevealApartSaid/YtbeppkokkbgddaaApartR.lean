/- For every input the law RevealApart returns true; each argument reads behind the call as it read before. -/
import Derived.Test.YtbeppkokkbgddaaApartL
import Derived.Test.YtbeppkokkbgddaaOpenR
namespace Go.Proofs.Ytbeppkokkbgddaa.apart20
open Go.RowKit Go.ChangeShapes Go.WideShapes Go.ChangeAt

theorem wf_u8 {x : Int} (h : (Lit.int .u8 x).wf = true) : 0 ≤ x ∧ x ≤ 255 := by
  simp [Lit.wf, IntKind.min, IntKind.max, IntKind.bits, IntKind.signed] at h; omega

set_option maxRecDepth 100000 in
theorem lifted (os : Os) (started : os.Started) (H : Type) (enc : TypeId × Value → H) :
    ReturnsInHanded {} Try.checked os 10 .any (Rows.revealApartSpec.pre6 enc Try.prog Try.f10 Rows.revealApartRow.domain false) (Rows.revealApartSpec.post enc Try.prog Try.f10 false true false false) := by
  refine returnsInHanded_of_change (C := Try.checked) own started (by kernel_rfl) Try.func10
    (ChangeSpec.witness6 (enc := enc) (C := Try.checked) false ⟨#[], #[.slice none 0 0, .slice none 0 0, .int .u8 0], []⟩ 8 (by kernel_rfl) (by kernel_rfl) (by kernel_rfl) (by kernel_rfl)) ?_
  intro W base args ds gs before hval0 hW hcnd _
  have hval : ∀ (j : Nat) t v, Try.f10.params[j]? = some t → args[j]? = some v → Value.okWide Try.prog W .any base t v := hval0
  have hW' := hW
  obtain ⟨p, q, hA0, hV, rfl, hfz, hnd⟩ := hW
  have hA : DataW.TrodAll enc Try.prog W 0 (fun _ => true) true Try.f10.params.toList args.toList ds p := hA0
  rw [Try.params10] at hA hval
  have hAA := hA
  obtain ⟨v0, vs0, d0, ds0, p0, q0, hargs, rfl, rfl, h0, r0⟩ := trodAll_cons hA
  obtain ⟨v1, vs1, d1, ds1, p1, q1, rfl, rfl, rfl, h1, r1⟩ := trodAll_cons r0
  obtain ⟨v2, vs2, d2, ds2, p2, q2, rfl, rfl, rfl, h2, r2⟩ := trodAll_cons r1
  obtain ⟨rfl, rfl, rfl⟩ := trodAll_nil r2
  obtain rfl : args = #[v0, v1, v2] := by cases args; simp_all
  obtain ⟨rfl, rfl⟩ := trodVars_none hV
  obtain ⟨a0, c0, l0, rfl, lc0, cm0, o0, k0⟩ := open_rows Try.underlying39 (hval 0 _ _ rfl rfl) h0
  obtain ⟨b0, d0, l1, rfl, lc1, cm1, o1, k1⟩ := open_u64s Try.underlying28 Try.underlying22 (by kernel_rfl) (hval 1 _ _ rfl rfl) h1
  have hn1 := nil_cap Try.underlying28 (hval 1 _ _ rfl rfl) h1
  obtain ⟨k, rfl, _, _, wk⟩ := open_int Try.underlying5 (hval 2 _ _ rfl rfl) h2
  obtain ⟨k, rfl⟩ := Int.eq_ofNat_of_zero_le (wf_u8 wk).1
  unfold maxLen at cm0 cm1
  clear hA0 hval0
  refine (apart20_law a0 b0 c0 d0 l0 l1 k W o0 lc0 cm0 k0 o1 lc1 cm1 hn1 k1 (by have := (wf_u8 wk).2; omega)).mono fun e W' ⟨he, bel⟩ => ?_
  subst he
  have hback := below_trodAll laidOut bel (fun t ht => ⟨by revert t; exact of_decide_eq_true (by kernel_rfl), by revert t; exact of_decide_eq_true (by kernel_rfl)⟩) hAA
  exact ⟨_, rfl, _, _, _, [], _, [], hW', trodAll_mk1 (shut_bool Try.underlying4 _), hback, rfl, bel.frame _, fun h => by cases h⟩

theorem over : Rows.revealApartRow.holds Try.pinned (OpenSpec.ofChange Rows.revealApartSpec) :=
  OpenClaim.holds_of_wide 10 Try.f10 rfl rfl rfl rfl rfl rfl rfl ⟨rfl, rfl, rfl, rfl, rfl⟩ rfl rfl rfl rfl rfl (by kernel_rfl) Try.func10 (by kernel_rfl)
    (of_decide_eq_true (by kernel_rfl)) (by unfold Func.isWrapper; first | (rw [if_pos (by decide +kernel)]; kernel_rfl) | (rw [if_neg (by decide +kernel)]; exact ⟨rfl, rfl⟩))
    (fun os started H enc _ => lifted os started H enc)

theorem proved : Rows.RevealApartSaid := over
#print axioms proved
end Go.Proofs.Ytbeppkokkbgddaa.apart20
