/- Opening arguments: rows of a weight and a bool; an array of three numbers. -/
import Derived.Test.YtbeppkokkbgddaaChs
import Derived.Test.YtbeppkokkbgddaaOpenN
namespace Go.Proofs.Ytbeppkokkbgddaa
open Go.RowKit Go.ChangeShapes Go.WideShapes Go.ChangeAt Go.Deep
set_option linter.unusedSimpArgs false
set_option linter.unusedVariables false

section
variable {P : Program} {H : Type} {enc : TypeId × Value → H} {w : World}
theorem bool_read {n : Nat} {e : TypeId} {v : Value} {y : DataW H × List MemPlace} (he : P.underlying e = some .bool) (h : DataW.trod enc P w 0 (fun _ => true) true n e [v] = some y) : ∃ b : Bool, v = .bool b := by
  obtain ⟨b, hx, _⟩ := DataW.trod_bool he h
  exact ⟨b, by simpa using hx⟩
theorem nil_cap {t e : TypeId} (ht : P.underlying t = some (.slice e)) {a : Option Addr} {n c : Nat} {d : DataW H} {p : List MemPlace} {r : Reach} {base : Nat} (hv : Value.okWide P w r base t (.slice a n c)) (h : DataW.Trod enc P w 0 (fun _ => true) true t (.slice a n c) d p) : a = none → c = 0 := by
  intro e
  subst e
  obtain ⟨fuel, hf⟩ := h
  rcases open_slice ht hf with ⟨hcs, _⟩ | ⟨a, n, c, m, q, D, Pl, hcs, _⟩
  · simp [Value.cells] at hcs; exact hcs.2
  · simp [Value.cells] at hcs
end

set_option maxRecDepth 100000 in
theorem open_rows {H : Type} {enc : TypeId × Value → H} {w : World} {v : Value} {d : DataW H} {p : List MemPlace} {r : Reach} {base : Nat} (ht : Try.prog.underlying 39 = some (.slice 79)) (hv : Value.okWide Try.prog w r base 39 v) (h : DataW.Trod enc Try.prog w 0 (fun _ => true) true 39 v d p) :
    ∃ a c, ∃ l : List (Int × Bool), v = .slice a (len l) c ∧ len l ≤ c ∧ c ≤ maxLen ∧ RowsB w a l ∧ ∀ i, 0 ≤ (rth l i).1 ∧ (rth l i).1 < 18446744073709551616 := by
  obtain ⟨a, c, l, rfl, h1, h2, h3⟩ := open_elems 2 (fun x : Int × Bool => [Value.int .u64 x.1, Value.bool x.2]) (fun x => 0 ≤ x.1 ∧ x.1 < 18446744073709551616) ht (by kernel_rfl) (by decide) (fun n cs' y hl hy => by
    match cs', hl with
    | [v0, v1], _ =>
      obtain ⟨xs, m, _, _, _, hxl, hx⟩ := DataW.trod_struct Try.underlying79 hy
      have cu : Try.prog.cellsOf 22 = 1 := by kernel_rfl
      have cb : Try.prog.cellsOf 4 = 1 := by kernel_rfl
      have hxl' : xs.length = 2 := hxl
      have h0 : DataW.trod enc Try.prog w 0 (fun _ => true) true m 22 (([v0, v1].drop 0).take (Try.prog.cellsOf 22)) = xs[0]? := hx 0 _ rfl
      have h1 : DataW.trod enc Try.prog w 0 (fun _ => true) true m 4 (([v0, v1].drop 1).take (Try.prog.cellsOf 4)) = xs[1]? := hx 1 _ rfl
      rw [cu] at h0
      rw [cb] at h1
      obtain ⟨x0, rfl, w0⟩ := cell_read Try.underlying22 (h0.trans (List.getElem?_eq_getElem (show 0 < xs.length by omega)))
      obtain ⟨x1, rfl⟩ := bool_read Try.underlying4 (h1.trans (List.getElem?_eq_getElem (show 1 < xs.length by omega)))
      exact ⟨(x0, x1), rfl, (wf_u64 w0).1, (wf_u64 w0).2⟩) hv h
  refine ⟨a, c, l, rfl, h1, h2, fun i hi => ?_, fun i => ?_⟩
  · obtain ⟨_, b, off, e1, e2⟩ := h3 i hi
    rw [rth_eq l i hi]
    exact ⟨b, off, e1, by have := e2 0 (by decide); rwa [Nat.add_zero] at this, e2 1 (by decide)⟩
  · rcases Nat.lt_or_ge i l.length with hi | hi
    · rw [rth_eq l i hi]; exact (h3 i hi).1
    · have : rth l i = (0, false) := by unfold rth; rw [List.getD_eq_getElem?_getD, List.getElem?_eq_none hi]; rfl
      rw [this]; decide

section
variable {P : Program} {H : Type} {enc : TypeId × Value → H} {w : World}
theorem open_arr3 {t e : TypeId} {k : IntKind} (ht : P.underlying t = some (.array 3 e)) (he : P.underlying e = some (.int k)) (hC : P.cellsOf e = 1) (hCt : P.cellsOf t = 3)
    {v : Value} {d : DataW H} {p : List MemPlace} {r : Reach} {base : Nat} (hv : Value.okWide P w r base t v) (h : DataW.Trod enc P w 0 (fun _ => true) true t v d p) :
    ∃ x0 x1 x2, v = .agg #[.int k x0, .int k x1, .int k x2] ∧ (Lit.int k x0).wf = true ∧ (Lit.int k x1).wf = true ∧ (Lit.int k x2).wf = true := by
  have hv' : ∃ cs, v = .agg cs ∧ cs.size = P.cellsOf t := by
    simp only [Value.okWide, ht] at hv
    obtain ⟨cs, h1, h2, _⟩ := hv
    exact ⟨cs, h1, h2⟩
  obtain ⟨cs, rfl, hsz⟩ := hv'
  obtain ⟨fuel, hf⟩ := h
  obtain ⟨xs, m, _, _, _, hxl, hx⟩ := DataW.trod_array ht hf
  obtain ⟨l⟩ := cs
  match l, hsz.trans hCt with
  | [c0, c1, c2], _ =>
    have h0 := hx 0 (by decide)
    have h1 := hx 1 (by decide)
    have h2 := hx 2 (by decide)
    rw [hC] at h0 h1 h2
    obtain ⟨x0, rfl, w0⟩ := cell_read he (h0.trans (List.getElem?_eq_getElem (show 0 < xs.length by omega)))
    obtain ⟨x1, rfl, w1⟩ := cell_read he (h1.trans (List.getElem?_eq_getElem (show 1 < xs.length by omega)))
    obtain ⟨x2, rfl, w2⟩ := cell_read he (h2.trans (List.getElem?_eq_getElem (show 2 < xs.length by omega)))
    exact ⟨x0, x1, x2, rfl, w0, w1, w2⟩
end
end Go.Proofs.Ytbeppkokkbgddaa
