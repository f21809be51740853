/- Opening arguments: lists of participants. -/
import Derived.Test.YtmcmapcijncblaaPartD
import Derived.Test.YtmcmapcijncblaaOpenK
namespace Go.Proofs.Ytmcmapcijncblaa
open Go.RowKit Go.ChangeShapes Go.WideShapes Go.ChangeAt

section
variable {P : Program} {H : Type} {enc : TypeId × Value → H} {w : World}
theorem str_read {n : Nat} {e : TypeId} {v : Value} {y : DataW H × List MemPlace} (he : P.underlying e = some .string) (h : DataW.trod enc P w 0 (fun _ => true) true n e [v] = some y) : ∃ s : ByteArray, v = .string s ∧ s.size ≤ maxLen := by
  obtain ⟨s, hx, _, hw⟩ := DataW.trod_string he h
  exact ⟨s, by simpa using hx, hw⟩
end

set_option maxRecDepth 100000 in
theorem open_prts {H : Type} {enc : TypeId × Value → H} {w : World} {v : Value} {d : DataW H} {p : List MemPlace} {r : Reach} {base : Nat} (hv : Value.okWide Try.prog w r base 46 v) (h : DataW.Trod enc Try.prog w 0 (fun _ => true) true 46 v d p) :
    ∃ a c, ∃ l : List Prt, v = .slice a (len l) c ∧ len l ≤ c ∧ c ≤ maxLen ∧ Prts w a l ∧ ∀ i, (pnth l i).Ok := by
  obtain ⟨a, c, l, rfl, h1, h2, h3⟩ := open_elems 5 Prt.cells Prt.Ok Try.underlying46 (by kernel_rfl) (by decide) (fun n cs' y hl hy => by
    match cs', hl with
    | [v0, v1, v2, v3, v4], _ =>
      obtain ⟨xs, m, _, _, _, hxl, hx⟩ := DataW.trod_struct Try.underlying49 hy
      have cu : Try.prog.cellsOf 24 = 1 := by kernel_rfl
      have cs : Try.prog.cellsOf 9 = 1 := by kernel_rfl
      have hxl' : xs.length = 5 := hxl
      have h0 : DataW.trod enc Try.prog w 0 (fun _ => true) true m 9 (([v0, v1, v2, v3, v4].drop 0).take (Try.prog.cellsOf 9)) = xs[0]? := hx 0 _ rfl
      have h1 : DataW.trod enc Try.prog w 0 (fun _ => true) true m 24 (([v0, v1, v2, v3, v4].drop 1).take (Try.prog.cellsOf 24)) = xs[1]? := hx 1 _ rfl
      have h2 : DataW.trod enc Try.prog w 0 (fun _ => true) true m 24 (([v0, v1, v2, v3, v4].drop 2).take (Try.prog.cellsOf 24)) = xs[2]? := hx 2 _ rfl
      have h3 : DataW.trod enc Try.prog w 0 (fun _ => true) true m 24 (([v0, v1, v2, v3, v4].drop 3).take (Try.prog.cellsOf 24)) = xs[3]? := hx 3 _ rfl
      have h4 : DataW.trod enc Try.prog w 0 (fun _ => true) true m 24 (([v0, v1, v2, v3, v4].drop 4).take (Try.prog.cellsOf 24)) = xs[4]? := hx 4 _ rfl
      rw [cs] at h0
      rw [cu] at h1 h2 h3 h4
      obtain ⟨x0, rfl, w0⟩ := str_read Try.underlying9 (h0.trans (List.getElem?_eq_getElem (show 0 < xs.length by omega)))
      obtain ⟨x1, rfl, w1⟩ := cell_read Try.underlying24 (h1.trans (List.getElem?_eq_getElem (show 1 < xs.length by omega)))
      obtain ⟨x2, rfl, w2⟩ := cell_read Try.underlying24 (h2.trans (List.getElem?_eq_getElem (show 2 < xs.length by omega)))
      obtain ⟨x3, rfl, w3⟩ := cell_read Try.underlying24 (h3.trans (List.getElem?_eq_getElem (show 3 < xs.length by omega)))
      obtain ⟨x4, rfl, w4⟩ := cell_read Try.underlying24 (h4.trans (List.getElem?_eq_getElem (show 4 < xs.length by omega)))
      exact ⟨⟨x0, x1, x2, x3, x4⟩, rfl, Prt.Ok.mk (wf_u64 w1).1 (wf_u64 w1).2 (wf_u64 w2).1 (wf_u64 w2).2 (wf_u64 w3).1 (wf_u64 w3).2 (wf_u64 w4).1 (wf_u64 w4).2⟩) hv h
  refine ⟨a, c, l, rfl, h1, h2, fun i hi => ?_, fun i => ?_⟩
  · obtain ⟨_, b, off, e1, e2⟩ := h3 i hi
    rw [pnth_eq l i hi]
    exact ⟨b, off, e1, by have := e2 0 (by decide); rwa [Nat.add_zero] at this, e2 1 (by decide), e2 2 (by decide), e2 3 (by decide), e2 4 (by decide)⟩
  · rcases Nat.lt_or_ge i l.length with hi | hi
    · rw [pnth_eq l i hi]; exact (h3 i hi).1
    · have : pnth l i = Prt.zero := by unfold pnth; rw [List.getD_eq_getElem?_getD, List.getElem?_eq_none hi]; rfl
      rw [this]; exact Prt.zero_ok

end Go.Proofs.Ytmcmapcijncblaa
