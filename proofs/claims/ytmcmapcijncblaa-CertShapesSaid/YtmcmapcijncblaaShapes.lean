/- For every input the law CertShapes returns true; each argument reads behind the call as it read before. -/
import Derived.Test.YtmcmapcijncblaaCertK
import Derived.Test.YtmcmapcijncblaaOpen
namespace Go.Proofs.Ytmcmapcijncblaa.shapes
open Go.RowKit Go.ChangeShapes Go.WideShapes Go.ChangeAt

theorem own : ownKnob Try.prog.godebug = none := by kernel_rfl
theorem laidOut : laidOutB Try.prog = true := by kernel_rfl

set_option maxRecDepth 100000 in
theorem open_ones {H : Type} {enc : TypeId × Value → H} {w : World} {v : Value} {d : DataW H} {p : List MemPlace} {r : Reach} {base : Nat} (hv : Value.okWide Try.prog w r base 22 v) (h : DataW.Trod enc Try.prog w 0 (fun _ => true) true 22 v d p) :
    ∃ a c, ∃ l : List One, v = .slice a (len l) c ∧ len l ≤ c ∧ c ≤ maxLen ∧ Ones w a l ∧ ∀ i, (onth l i).Ok := by
  obtain ⟨a, c, l, rfl, h1, h2, h3⟩ := open_elems 4 One.cells One.Ok Try.underlying22 (by kernel_rfl) (by decide) (fun n cs' y hl hy => by
    match cs', hl with
    | [v0, v1, v2, v3], _ =>
      obtain ⟨xs, m, _, _, _, hxl, hx⟩ := DataW.trod_struct Try.underlying37 hy
      have c24 : Try.prog.cellsOf 24 = 1 := by kernel_rfl
      have c5 : Try.prog.cellsOf 5 = 1 := by kernel_rfl
      have hxl' : xs.length = 4 := hxl
      have h0 : DataW.trod enc Try.prog w 0 (fun _ => true) true m 24 (([v0, v1, v2, v3].drop 0).take (Try.prog.cellsOf 24)) = xs[0]? := hx 0 _ rfl
      have h1 : DataW.trod enc Try.prog w 0 (fun _ => true) true m 24 (([v0, v1, v2, v3].drop 1).take (Try.prog.cellsOf 24)) = xs[1]? := hx 1 _ rfl
      have h2 : DataW.trod enc Try.prog w 0 (fun _ => true) true m 24 (([v0, v1, v2, v3].drop 2).take (Try.prog.cellsOf 24)) = xs[2]? := hx 2 _ rfl
      have h3 : DataW.trod enc Try.prog w 0 (fun _ => true) true m 5 (([v0, v1, v2, v3].drop 3).take (Try.prog.cellsOf 5)) = xs[3]? := hx 3 _ rfl
      rw [c24] at h0 h1 h2
      rw [c5] at h3
      obtain ⟨x0, rfl, w0⟩ := cell_read Try.underlying24 (h0.trans (List.getElem?_eq_getElem (show 0 < xs.length by omega)))
      obtain ⟨x1, rfl, w1⟩ := cell_read Try.underlying24 (h1.trans (List.getElem?_eq_getElem (show 1 < xs.length by omega)))
      obtain ⟨x2, rfl, w2⟩ := cell_read Try.underlying24 (h2.trans (List.getElem?_eq_getElem (show 2 < xs.length by omega)))
      obtain ⟨x3, rfl, w3⟩ := cell_read Try.underlying5 (h3.trans (List.getElem?_eq_getElem (show 3 < xs.length by omega)))
      exact ⟨⟨x0, x1, x2, x3⟩, rfl, One.Ok.mk (wf_u64 w0).1 (wf_u64 w0).2 (wf_u64 w1).1 (wf_u64 w1).2 (wf_u64 w2).1 (wf_u64 w2).2 (wf_u8 w3).1 (wf_u8 w3).2⟩) hv h
  refine ⟨a, c, l, rfl, h1, h2, fun i hi => ?_, fun i => ?_⟩
  · obtain ⟨_, b, off, e1, e2⟩ := h3 i hi
    rw [onth_eq l i hi]
    exact ⟨b, off, e1, by have := e2 0 (by decide); rwa [Nat.add_zero] at this, e2 1 (by decide), e2 2 (by decide), e2 3 (by decide)⟩
  · rcases Nat.lt_or_ge i l.length with hi | hi
    · rw [onth_eq l i hi]; exact (h3 i hi).1
    · have : onth l i = One.zero := by unfold onth; rw [List.getD_eq_getElem?_getD, List.getElem?_eq_none hi]; rfl
      rw [this]; exact One.zero_ok

set_option maxRecDepth 100000 in
theorem lifted (os : Os) (started : os.Started) (H : Type) (enc : TypeId × Value → H) :
    ReturnsInHanded {} Try.checked os 3 .any (Rows.certShapesSpec.pre6 enc Try.prog Try.f3 Rows.certShapesRow.domain false) (Rows.certShapesSpec.post enc Try.prog Try.f3 false true false false) := by
  refine returnsInHanded_of_change (C := Try.checked) own started (by kernel_rfl) Try.func3
    (ChangeSpec.witness6 (enc := enc) (C := Try.checked) false ⟨#[], #[.slice none 0 0, .slice none 0 0, .agg #[.int .u64 0, .int .u64 0]], []⟩ 8 (by kernel_rfl) (by kernel_rfl) (by kernel_rfl) (by kernel_rfl)) ?_
  intro W base args ds gs before hval0 hW hcnd _
  have hval : ∀ (j : Nat) t v, Try.f3.params[j]? = some t → args[j]? = some v → Value.okWide Try.prog W .any base t v := hval0
  have hW' := hW
  obtain ⟨p, q, hA0, hV, rfl, hfz, hnd⟩ := hW
  have hA : DataW.TrodAll enc Try.prog W 0 (fun _ => true) true Try.f3.params.toList args.toList ds p := hA0
  rw [Try.params3] at hA hval
  have hAA := hA
  obtain ⟨v0, vs0, d0, ds0, p0, q0, hargs, rfl, rfl, h0, r0⟩ := trodAll_cons hA
  obtain ⟨v1, vs1, d1, ds1, p1, q1, rfl, rfl, rfl, h1, r1⟩ := trodAll_cons r0
  obtain ⟨v2, vs2, d2, ds2, p2, q2, rfl, rfl, rfl, h2, r2⟩ := trodAll_cons r1
  obtain ⟨rfl, rfl, rfl⟩ := trodAll_nil r2
  obtain rfl : args = #[v0, v1, v2] := by cases args; simp_all
  obtain ⟨rfl, rfl⟩ := trodVars_none hV
  obtain ⟨a0, c0, l0, rfl, lc0, cm0, o0, k0⟩ := open_ones (hval 0 _ _ rfl rfl) h0
  obtain ⟨a1, c1, l1, rfl, lc1, cm1, o1, k1⟩ := open_u64s Try.underlying23 Try.underlying24 (by kernel_rfl) (hval 1 _ _ rfl rfl) h1
  obtain ⟨x, y, rfl, wx, wy⟩ := open_arr2 Try.underlying25 Try.underlying24 (by kernel_rfl) (by kernel_rfl) (hval 2 _ _ rfl rfl) h2
  unfold maxLen at cm0 cm1
  clear hA0 hval0
  refine (shapes_law a0 c0 l0 a1 c1 l1 x y W (by omega) (by omega) lc1 o0 o1 k0 (wf_u64 wx).2).mono fun e W' ⟨he, bel⟩ => ?_
  subst he
  have hback := below_trodAll laidOut bel (fun t ht => ⟨by revert t; exact of_decide_eq_true (by kernel_rfl), by revert t; exact of_decide_eq_true (by kernel_rfl)⟩) hAA
  exact ⟨_, rfl, _, _, _, [], _, [], hW', trodAll_mk1 (shut_bool Try.underlying4 _), hback, rfl, bel.frame _, fun h => by cases h⟩

theorem over : Rows.certShapesRow.holds Try.pinned (OpenSpec.ofChange Rows.certShapesSpec) :=
  OpenClaim.holds_of_wide 3 Try.f3 rfl rfl rfl rfl rfl rfl rfl ⟨rfl, rfl, rfl, rfl, rfl⟩ rfl rfl rfl rfl rfl (by kernel_rfl) Try.func3 (by kernel_rfl)
    (of_decide_eq_true (by kernel_rfl)) (by unfold Func.isWrapper; first | (rw [if_pos (by decide +kernel)]; kernel_rfl) | (rw [if_neg (by decide +kernel)]; exact ⟨rfl, rfl⟩))
    (fun os started H enc _ => lifted os started H enc)

theorem proved : Rows.CertShapesSaid := over
#print axioms proved
end Go.Proofs.Ytmcmapcijncblaa.shapes
