/- Opening arguments: lists of things. -/
import Derived.Test.YtmcmapcijncblaaDoorBackA
import Derived.Test.YtmcmapcijncblaaDoorOpenK
import Derived.Test.YtmcmapcijncblaaDoorOpenN
namespace Go.Proofs.YtmcmapcijncblaaDoor
open Go.RowKit Go.ChangeShapes Go.WideShapes Go.ChangeAt
set_option linter.unusedSimpArgs false
set_option linter.unusedVariables false

theorem wf_u8t {x : Int} (h : (Lit.int .u8 x).wf = true) : 0 ≤ x ∧ x ≤ 255 := by
  simp [Lit.wf, IntKind.min, IntKind.max, IntKind.bits, IntKind.signed] at h; omega
theorem wf_u64t {x : Int} (h : (Lit.int .u64 x).wf = true) : 0 ≤ x ∧ x ≤ 18446744073709551615 := by
  simp [Lit.wf, IntKind.min, IntKind.max, IntKind.bits, IntKind.signed] at h; omega

section
variable {P : Program} {H : Type} {enc : TypeId × Value → H} {w : World}
theorem str_readt {n : Nat} {e : TypeId} {v : Value} {y : DataW H × List MemPlace} (he : P.underlying e = some .string) (h : DataW.trod enc P w 0 (fun _ => true) true n e [v] = some y) : ∃ s : ByteArray, v = .string s ∧ s.size ≤ maxLen := by
  obtain ⟨s, hx, _, hw⟩ := DataW.trod_string he h
  exact ⟨s, by simpa using hx, hw⟩
end

set_option maxRecDepth 100000 in
theorem open_thgs {H : Type} {enc : TypeId × Value → H} {w : World} {v : Value} {d : DataW H} {p : List MemPlace} {r : Reach} {base : Nat} (hv : Value.okWide Tryd.prog w r base 42 v) (h : DataW.Trod enc Tryd.prog w 0 (fun _ => true) true 42 v d p) :
    ∃ a c, ∃ l : List Thg, v = .slice a (len l) c ∧ len l ≤ c ∧ c ≤ maxLen ∧ Thgs w a l ∧ ∀ i, (gnth l i).Ok := by
  obtain ⟨a, c, l, rfl, h1, h2, h3⟩ := open_elems 3 Thg.cells Thg.Ok Tryd.underlying42 (by kernel_rfl) (by decide) (fun n cs' y hl hy => by
    match cs', hl with
    | [v0, v1, v2], _ =>
      obtain ⟨xs, m, _, _, _, hxl, hx⟩ := DataW.trod_struct Tryd.underlying44 hy
      have c8 : Tryd.prog.cellsOf 5 = 1 := by kernel_rfl
      have cu : Tryd.prog.cellsOf 29 = 1 := by kernel_rfl
      have cs : Tryd.prog.cellsOf 9 = 1 := by kernel_rfl
      have hxl' : xs.length = 3 := hxl
      have h0 : DataW.trod enc Tryd.prog w 0 (fun _ => true) true m 5 (([v0, v1, v2].drop 0).take (Tryd.prog.cellsOf 5)) = xs[0]? := hx 0 _ rfl
      have h1 : DataW.trod enc Tryd.prog w 0 (fun _ => true) true m 29 (([v0, v1, v2].drop 1).take (Tryd.prog.cellsOf 29)) = xs[1]? := hx 1 _ rfl
      have h2 : DataW.trod enc Tryd.prog w 0 (fun _ => true) true m 9 (([v0, v1, v2].drop 2).take (Tryd.prog.cellsOf 9)) = xs[2]? := hx 2 _ rfl
      rw [c8] at h0
      rw [cu] at h1
      rw [cs] at h2
      obtain ⟨x0, rfl, w0⟩ := cell_read Tryd.underlying5 (h0.trans (List.getElem?_eq_getElem (show 0 < xs.length by omega)))
      obtain ⟨x1, rfl, w1⟩ := cell_read Tryd.underlying29 (h1.trans (List.getElem?_eq_getElem (show 1 < xs.length by omega)))
      obtain ⟨x2, rfl, w2⟩ := str_readt Tryd.underlying9 (h2.trans (List.getElem?_eq_getElem (show 2 < xs.length by omega)))
      exact ⟨⟨x0, x1, x2⟩, rfl, Thg.Ok.mk (wf_u8t w0).1 (wf_u8t w0).2 (wf_u64t w1).1 (wf_u64t w1).2 (by unfold maxLen at w2; exact w2)⟩) hv h
  refine ⟨a, c, l, rfl, h1, h2, fun i hi => ?_, fun i => ?_⟩
  · obtain ⟨_, b, off, e1, e2⟩ := h3 i hi
    rw [gnth_eq l i hi]
    exact ⟨b, off, e1, by have := e2 0 (by decide); rwa [Nat.add_zero] at this, e2 1 (by decide), e2 2 (by decide)⟩
  · rcases Nat.lt_or_ge i l.length with hi | hi
    · rw [gnth_eq l i hi]; exact (h3 i hi).1
    · have : gnth l i = Thg.zero := by unfold gnth; rw [List.getD_eq_getElem?_getD, List.getElem?_eq_none hi]; rfl
      rw [this]; exact Thg.zero_ok
end Go.Proofs.YtmcmapcijncblaaDoor
