/- For every input the law WireCerts returns true; each argument reads behind the call as it read before. What is listed of the package variables is tied to the text. -/
import Derived.Test.YtihiaopilnjonaaGreatDoorWceP6
import Derived.Test.YtihiaopilnjonaaGreatDoorCards
import Derived.Test.YtihiaopilnjonaaGreatDoorTie
import Derived.SevenTiedAt
namespace Go.Proofs.YtihiaopilnjonaaGreatDoor.wirecerts
open Go.RowKit Go.ChangeShapes Go.WideShapes Go.ChangeAt

theorem Qxj (os : Os) (args : Array Value) : laidMetH Tryz.prog Rows.wireCertsRow.laid ((World.doorLaid Tryz.prog 79 os).forCall (fun _ _ => 0) ⟨#[], args, []⟩).memory :=
  laidMetH_of_parts3 (fuel := 8) (laidMet_of_run' 8 (by kernel_rfl) (by kernel_rfl)) (by kernel_rfl) (by kernel_rfl)

set_option maxRecDepth 100000 in
theorem Q1o (os : Os) (started : os.Started) (H : Type) (enc : TypeId × Value → H) :
    ReturnsInHanded {} Tryz.checked os 9 .any (fun w args => (Rows.wireCertsSpec.pre enc Tryz.prog Tryz.f9 [] false w args ∧ laidMetH Tryz.prog Rows.wireCertsRow.laid w) ∧ sizedMet enc Tryz.prog Tryz.f9 (OpenSpec.ofChange Rows.wireCertsSpec) false w args)
      (Rows.wireCertsSpec.post enc Tryz.prog Tryz.f9 false true false false) := by
  refine returnsInHanded_of_change_and (C := Tryz.checked) (X := fun w _ => laidMetH Tryz.prog Rows.wireCertsRow.laid w) (fun _ _ _ hh h => h.of_heap hh) own started (by kernel_rfl) Tryz.func9
    (ChangeSpec.witness_shaped (enc := enc) (C := Tryz.checked) (os := os) (X := fun w _ => laidMetH Tryz.prog Rows.wireCertsRow.laid w) false (World.doorLaid Tryz.prog 79 os) #[.agg #[.string ⟨#[]⟩, .int .u64 0, .slice none 0 0, .slice none 0 0, .slice none 0 0, .slice none 0 0], .string ⟨#[]⟩, .agg #[.int .u16 0, .int .u8 0, .int .i64 0]] 8 rfl (World.shaped_of_RefB (by kernel_rfl) (by kernel_rfl)) (by kernel_rfl) (by kernel_rfl) (by kernel_rfl) (Qxj os _)) ?_
  intro W base args ds gs before hval0 hW _ _ hL _
  have hval : ∀ (j : Nat) t v, Tryz.f9.params[j]? = some t → args[j]? = some v → Value.okWide Tryz.prog W .any base t v := hval0
  have hW' := hW
  obtain ⟨p, q, hA0, hV, rfl, hfz, hnd⟩ := hW
  have hA : DataW.TrodAll enc Tryz.prog W 0 (fun _ => true) true Tryz.f9.params.toList args.toList ds p := hA0
  rw [Tryz.params9] at hA hval
  have hAA := hA
  obtain ⟨v0, vs0, d0, ds0, p0, q0, hargs, rfl, rfl, h0, r0⟩ := trodAll_cons hA
  obtain ⟨v1, vs1, d1, ds1, p1, q1, rfl, rfl, rfl, h1, r1⟩ := trodAll_cons r0
  obtain ⟨v2, vs2, d2, ds2, p2, q2, rfl, rfl, rfl, h2, r2⟩ := trodAll_cons r1
  obtain ⟨rfl, rfl, rfl⟩ := trodAll_nil r2
  obtain rfl : args = #[v0, v1, v2] := by cases args; simp_all
  obtain ⟨rfl, rfl⟩ := trodVars_none hV
  obtain ⟨root, sg, a2, k2, rs, a3, k3, cs, a4, k4, sp, a5, k5, pp, rfl, o0, o1, ⟨n2, s2, w2⟩, ⟨n3, m3, s3, w3⟩, ⟨n4, s4, w4⟩, ⟨n5, s5, w5⟩⟩ := Quk (hval 0 _ _ rfl rfl) h0
  obtain ⟨s, rfl, _, _, ws⟩ := Qwt Tryz.underlying9 (hval 1 _ _ rfl rfl) h1
  obtain ⟨ta, ty, ts, rfl, ha, hy⟩ := Qug (hval 2 _ _ rfl rfl) h2
  have hT := Qwv (show laidMetH Tryz.prog Rows.wirePartsRow.laid W from hL)
  clear hA0 hval0
  refine (Qr5 W.heap.size root sg a2 a3 a4 a5 k2 k3 k4 k5 rs cs sp pp s ta ty ts W hT ⟨o0, o1, s2, n2, w2, s3, n3, m3, w3, s4, n4, s5, n5⟩ ws ha hy).mono fun e W' ⟨he, bel⟩ => ?_
  subst he
  have hback := Qf7 Qzb bel (fun t ht => ⟨by revert t; exact of_decide_eq_true (by kernel_rfl), by revert t; exact of_decide_eq_true (by kernel_rfl)⟩) hAA
  exact ⟨_, rfl, _, _, _, [], _, [], hW', trodAll_mk1 (shut_bool Tryz.underlying4 _), hback, rfl, bel.frame _, fun h => by cases h⟩

set_option maxRecDepth 100000 in
set_option maxHeartbeats 40000000 in
theorem Q1p : joinedFacts Tryz.pinned.checked.prog 9 Tryz.f9 Rows.wireCertsSpec Rows.wireCertsRow = true := by
  unfold joinedFacts
  simp only [Bool.and_eq_true]
  repeat' apply And.intro
  all_goals (as_aux_lemma => kernel_rfl)
theorem over : Rows.wireCertsRow.holds Tryz.pinned (OpenSpec.ofChange Rows.wireCertsSpec) :=
  OpenClaim.holds_of_wide 9 Tryz.f9 rfl rfl rfl rfl rfl rfl rfl ⟨rfl, rfl, rfl, rfl, rfl⟩ rfl rfl rfl rfl rfl (by kernel_rfl) Tryz.func9 Q1p
    (of_decide_eq_true (by kernel_rfl)) (by unfold Func.isWrapper; first | (rw [if_pos (by decide +kernel)]; kernel_rfl) | (rw [if_neg (by decide +kernel)]; exact ⟨rfl, rfl⟩))
    (fun os started H enc _ => Q1o os started H enc)

theorem said : Rows.WireCertsSaid := over
/-- The card: what is listed is tied to the text of the program. -/
theorem proved : Rows.WireCertsCardSaid :=
  Claim7.holds_tied_plain_at .later [] _ true _ true
    said (fun _ h => by cases h) (by kernel_rfl) (fun _ h => by cases h) wireCerts_row_tie rfl ⟨rfl, rfl⟩ (by kernel_rfl) rfl
    (fun f fn hf hfn => by
      obtain rfl : f = 9 := Option.some.inj ((show Tryz.prog.funcNamed Rows.wireCertsRow.func = some 9 by kernel_rfl).symm.trans hf) |>.symm
      obtain rfl : fn = Tryz.f9 := (Option.some.inj (Tryz.func9.symm.trans hfn)).symm
      exact ⟨by kernel_rfl, fun j t ht => by
        rw [Tryz.params9] at ht
        have hm : t ∈ [28, 9, 55] := by simpa using Array.mem_of_getElem? ht
        have hall : ([28, 9, 55].all fun u => !Tryz.prog.wantsStandIn u) = true := by kernel_rfl
        exact (show Tryz.prog.wantsStandIn t = false by simpa using List.all_eq_true.1 hall t hm)⟩)
    (by kernel_rfl)
#print axioms proved
end Go.Proofs.YtihiaopilnjonaaGreatDoor.wirecerts
