/- Opening arguments: reveals, an array of six. -/
import Derived.Test.YtihiaopilnjonaaGreatDoorCertK
import Derived.Test.YtihiaopilnjonaaGreatDoorOpenK
namespace Go.Proofs.YtihiaopilnjonaaGreatDoor
open Go.RowKit Go.ChangeShapes Go.WideShapes Go.ChangeAt

set_option maxRecDepth 100000 in
theorem openOnes {H : Type} {enc : TypeId × Value → H} {w : World} {v : Value} {d : DataW H} {p : List MemPlace} {r : Reach} {base : Nat} (hv : Value.okWide Tryz.prog w r base 22 v) (h : DataW.Trod enc Tryz.prog w 0 (fun _ => true) true 22 v d p) :
    ∃ a c, ∃ l : List One, v = .slice a (len l) c ∧ len l ≤ c ∧ c ≤ maxLen ∧ Ones w a l ∧ ∀ i, (onth l i).Ok := by
  obtain ⟨a, c, l, rfl, h1, h2, h3⟩ := open_elems 4 One.cells One.Ok Tryz.underlying22 (by kernel_rfl) (by decide) (fun n cs' y hl hy => by
    match cs', hl with
    | [v0, v1, v2, v3], _ =>
      obtain ⟨xs, m, _, _, _, hxl, hx⟩ := DataW.trod_struct Tryz.underlying51 hy
      have c24 : Tryz.prog.cellsOf 23 = 1 := by kernel_rfl
      have c5 : Tryz.prog.cellsOf 5 = 1 := by kernel_rfl
      have hxl' : xs.length = 4 := hxl
      have h0 : DataW.trod enc Tryz.prog w 0 (fun _ => true) true m 23 (([v0, v1, v2, v3].drop 0).take (Tryz.prog.cellsOf 23)) = xs[0]? := hx 0 _ rfl
      have h1 : DataW.trod enc Tryz.prog w 0 (fun _ => true) true m 23 (([v0, v1, v2, v3].drop 1).take (Tryz.prog.cellsOf 23)) = xs[1]? := hx 1 _ rfl
      have h2 : DataW.trod enc Tryz.prog w 0 (fun _ => true) true m 23 (([v0, v1, v2, v3].drop 2).take (Tryz.prog.cellsOf 23)) = xs[2]? := hx 2 _ rfl
      have h3 : DataW.trod enc Tryz.prog w 0 (fun _ => true) true m 5 (([v0, v1, v2, v3].drop 3).take (Tryz.prog.cellsOf 5)) = xs[3]? := hx 3 _ rfl
      rw [c24] at h0 h1 h2
      rw [c5] at h3
      obtain ⟨x0, rfl, w0⟩ := cell_read Tryz.underlying23 (h0.trans (List.getElem?_eq_getElem (show 0 < xs.length by omega)))
      obtain ⟨x1, rfl, w1⟩ := cell_read Tryz.underlying23 (h1.trans (List.getElem?_eq_getElem (show 1 < xs.length by omega)))
      obtain ⟨x2, rfl, w2⟩ := cell_read Tryz.underlying23 (h2.trans (List.getElem?_eq_getElem (show 2 < xs.length by omega)))
      obtain ⟨x3, rfl, w3⟩ := cell_read Tryz.underlying5 (h3.trans (List.getElem?_eq_getElem (show 3 < xs.length by omega)))
      exact ⟨⟨x0, x1, x2, x3⟩, rfl, One.Ok.mk (wf_u64 w0).1 (wf_u64 w0).2 (wf_u64 w1).1 (wf_u64 w1).2 (wf_u64 w2).1 (wf_u64 w2).2 (wf_u8 w3).1 (wf_u8 w3).2⟩) hv h
  refine ⟨a, c, l, rfl, h1, h2, fun i hi => ?_, fun i => ?_⟩
  · obtain ⟨_, b, off, e1, e2⟩ := h3 i hi
    rw [onth_eq l i hi]
    exact ⟨b, off, e1, by have := e2 0 (by decide); rwa [Nat.add_zero] at this, e2 1 (by decide), e2 2 (by decide), e2 3 (by decide)⟩
  · rcases Nat.lt_or_ge i l.length with hi | hi
    · rw [onth_eq l i hi]; exact (h3 i hi).1
    · have : onth l i = One.zero := by unfold onth; rw [List.getD_eq_getElem?_getD, List.getElem?_eq_none hi]; rfl
      rw [this]; exact One.zero_ok

section
variable {P : Program} {H : Type} {enc : TypeId × Value → H} {w : World}
theorem open_arr6 {t e : TypeId} {k : IntKind} (ht : P.underlying t = some (.array 6 e)) (he : P.underlying e = some (.int k)) (hC : P.cellsOf e = 1) (hCt : P.cellsOf t = 6)
    {v : Value} {d : DataW H} {p : List MemPlace} {r : Reach} {base : Nat} (hv : Value.okWide P w r base t v) (h : DataW.Trod enc P w 0 (fun _ => true) true t v d p) :
    ∃ x0 x1 x2 x3 x4 x5, v = .agg #[.int k x0, .int k x1, .int k x2, .int k x3, .int k x4, .int k x5] ∧ ∀ x ∈ [x0, x1, x2, x3, x4, x5], (Lit.int k x).wf = true := by
  have hv' : ∃ cs, v = .agg cs ∧ cs.size = P.cellsOf t := by
    simp only [Value.okWide, ht] at hv
    obtain ⟨cs, h1, h2, _⟩ := hv
    exact ⟨cs, h1, h2⟩
  obtain ⟨cs, rfl, hsz⟩ := hv'
  obtain ⟨fuel, hf⟩ := h
  obtain ⟨xs, m, _, _, _, hxl, hx⟩ := DataW.trod_array ht hf
  obtain ⟨l⟩ := cs
  match l, hsz.trans hCt with
  | [c0, c1, c2, c3, c4, c5], _ =>
    have h0 := hx 0 (by decide)
    have h1 := hx 1 (by decide)
    have h2 := hx 2 (by decide)
    have h3 := hx 3 (by decide)
    have h4 := hx 4 (by decide)
    have h5 := hx 5 (by decide)
    rw [hC] at h0 h1 h2 h3 h4 h5
    have e0 : xs[0]? = some (xs[0]'(by omega)) := List.getElem?_eq_getElem (by omega)
    have e1 : xs[1]? = some (xs[1]'(by omega)) := List.getElem?_eq_getElem (by omega)
    have e2 : xs[2]? = some (xs[2]'(by omega)) := List.getElem?_eq_getElem (by omega)
    have e3 : xs[3]? = some (xs[3]'(by omega)) := List.getElem?_eq_getElem (by omega)
    have e4 : xs[4]? = some (xs[4]'(by omega)) := List.getElem?_eq_getElem (by omega)
    have e5 : xs[5]? = some (xs[5]'(by omega)) := List.getElem?_eq_getElem (by omega)
    obtain ⟨x0, rfl, w0⟩ := cell_read he (h0.trans e0)
    obtain ⟨x1, rfl, w1⟩ := cell_read he (h1.trans e1)
    obtain ⟨x2, rfl, w2⟩ := cell_read he (h2.trans e2)
    obtain ⟨x3, rfl, w3⟩ := cell_read he (h3.trans e3)
    obtain ⟨x4, rfl, w4⟩ := cell_read he (h4.trans e4)
    obtain ⟨x5, rfl, w5⟩ := cell_read he (h5.trans e5)
    refine ⟨x0, x1, x2, x3, x4, x5, rfl, fun x hx => ?_⟩
    simp only [List.mem_cons, List.not_mem_nil, or_false] at hx
    rcases hx with rfl | rfl | rfl | rfl | rfl | rfl <;> assumption
end
end Go.Proofs.YtihiaopilnjonaaGreatDoor
