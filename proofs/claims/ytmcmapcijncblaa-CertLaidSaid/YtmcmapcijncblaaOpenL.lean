/- Opening arguments: pairs of uint16, bytes. -/
import Derived.Test.YtmcmapcijncblaaCertO
import Derived.Test.YtmcmapcijncblaaOpens
namespace Go.Proofs.Ytmcmapcijncblaa
open Go.RowKit Go.ChangeShapes Go.WideShapes Go.ChangeAt
section
variable {P : Program} {H : Type} {enc : TypeId × Value → H} {w : World}
theorem wf_u16 {x : Int} (h : (Lit.int .u16 x).wf = true) : 0 ≤ x ∧ x ≤ 65535 := by
  simp [Lit.wf, IntKind.min, IntKind.max, IntKind.bits, IntKind.signed] at h; omega
theorem open_u8s {t e : TypeId} (ht : P.underlying t = some (.slice e)) (he : P.underlying e = some (.int .u8)) (hC : P.cellsOf e = 1)
    {v : Value} {d : DataW H} {p : List MemPlace} {r : Reach} {base : Nat} (hv : Value.okWide P w r base t v) (h : DataW.Trod enc P w 0 (fun _ => true) true t v d p) :
    ∃ a c, ∃ l : List Int, v = .slice a (len l) c ∧ len l ≤ c ∧ c ≤ maxLen ∧ U8s w a l ∧ ∀ i, 0 ≤ nth l i ∧ nth l i ≤ 255 := by
  obtain ⟨a, c, l, rfl, h1, h2, h3⟩ := open_elems 1 (fun x => [Value.int .u8 x]) (fun x => 0 ≤ x ∧ x ≤ 255) ht hC (by decide) (fun n cs' y hl hy => by
    match cs', hl with
    | [v0], _ =>
      obtain ⟨x, rfl, hw⟩ := cell_read he hy
      exact ⟨x, rfl, wf_u8 hw⟩) hv h
  refine ⟨a, c, l, rfl, h1, h2, fun i hi => ?_, fun i => ?_⟩
  · obtain ⟨_, b, off, e1, e2⟩ := h3 i hi
    refine ⟨b, off, e1, ?_⟩
    have := e2 0 (by decide)
    rw [Nat.mul_one, Nat.add_zero] at this
    rw [this, nth_eq l i hi]; rfl
  · rcases Nat.lt_or_ge i l.length with hi | hi
    · rw [nth_eq l i hi]; exact (h3 i hi).1
    · have : nth l i = 0 := by unfold nth; rw [List.getD_eq_getElem?_getD, List.getElem?_eq_none hi]; rfl
      rw [this]; decide
theorem open_gaps {t e k : TypeId} (ht : P.underlying t = some (.slice e)) (he : P.underlying e = some (.array 2 k)) (hk : P.underlying k = some (.int .u16)) (hC : P.cellsOf e = 2) (hCk : P.cellsOf k = 1)
    {v : Value} {d : DataW H} {p : List MemPlace} {r : Reach} {base : Nat} (hv : Value.okWide P w r base t v) (h : DataW.Trod enc P w 0 (fun _ => true) true t v d p) :
    ∃ a c, ∃ l : List (Int × Int), v = .slice a (len l) c ∧ len l ≤ c ∧ c ≤ maxLen ∧ Gaps w a l ∧ ∀ i, 0 ≤ (pth l i).1 ∧ (pth l i).1 ≤ 65535 ∧ 0 ≤ (pth l i).2 ∧ (pth l i).2 ≤ 65535 := by
  obtain ⟨a, c, l, rfl, h1, h2, h3⟩ := open_elems 2 (fun x : Int × Int => [Value.int .u16 x.1, Value.int .u16 x.2]) (fun x => 0 ≤ x.1 ∧ x.1 ≤ 65535 ∧ 0 ≤ x.2 ∧ x.2 ≤ 65535) ht hC (by decide) (fun n cs' y hl hy => by
    match cs', hl with
    | [v0, v1], _ =>
      obtain ⟨xs, m, _, _, _, hxl, hx⟩ := DataW.trod_array he hy
      have h0 := hx 0 (by decide)
      have h1 := hx 1 (by decide)
      rw [hCk] at h0 h1
      obtain ⟨x, rfl, w0⟩ := cell_read hk (h0.trans (List.getElem?_eq_getElem (show 0 < xs.length by omega)))
      obtain ⟨y, rfl, w1⟩ := cell_read hk (h1.trans (List.getElem?_eq_getElem (show 1 < xs.length by omega)))
      exact ⟨(x, y), rfl, (wf_u16 w0).1, (wf_u16 w0).2, (wf_u16 w1).1, (wf_u16 w1).2⟩) hv h
  have pe : ∀ i (hi : i < l.length), pth l i = l[i] := fun i hi => by unfold pth; rw [List.getD_eq_getElem?_getD, List.getElem?_eq_getElem hi]; rfl
  refine ⟨a, c, l, rfl, h1, h2, fun i hi => ?_, fun i => ?_⟩
  · obtain ⟨_, b, off, e1, e2⟩ := h3 i hi
    rw [pe i hi]
    exact ⟨b, off, e1, by have := e2 0 (by decide); rwa [Nat.add_zero] at this, e2 1 (by decide)⟩
  · rcases Nat.lt_or_ge i l.length with hi | hi
    · rw [pe i hi]; exact (h3 i hi).1
    · have : pth l i = (0, 0) := by unfold pth; rw [List.getD_eq_getElem?_getD, List.getElem?_eq_none hi]; rfl
      rw [this]; decide
end
end Go.Proofs.Ytmcmapcijncblaa
