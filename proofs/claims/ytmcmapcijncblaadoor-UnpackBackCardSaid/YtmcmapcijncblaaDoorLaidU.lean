/- What the condition on the package-level variables of unpack and errors gives. -/
import Derived.Test.YtmcmapcijncblaaDoorUnpD
import Derived.Test.YtmcmapcijncblaaDoorErr
import Derived.Test.YtmcmapcijncblaaDoorOpenK
import Derived.LaidMore
import Derived.LaidHandle
import Derived.Stop.Joined
import Derived.ChangeVars
import Derived.JoinedOf
import Derived.RowKitTokens
namespace Go.Proofs.YtmcmapcijncblaaDoor
open Go.RowKit Go.ChangeShapes Go.WideShapes Go.ChangeAt

def rowD (r : URow) : DataW Unit := .agg [.lit (.int .u8 r.lo), .lit (.int .u8 r.hi), .lit (.int .i64 r.size), .lit (.int .u64 r.least)]

set_option maxRecDepth 100000 in
theorem laid_row {w : World} {fuel : Nat} {cs' : List Value} {r : URow} {q : List MemPlace} (hl : cs'.length = 4) (h : DataW.trod (fun _ => ()) Tryd.prog w 0 (fun _ => true) false fuel 96 cs' = some (rowD r, q)) : cs' = r.cells := by
  match cs', hl with
  | [v0, v1, v2, v3], _ =>
    obtain ⟨xs, m, _, e, _, hxl, hx⟩ := DataW.trod_struct Tryd.underlying96 h
    have cu : Tryd.prog.cellsOf 5 = 1 := by kernel_rfl
    have ci : Tryd.prog.cellsOf 3 = 1 := by kernel_rfl
    have cq : Tryd.prog.cellsOf 29 = 1 := by kernel_rfl
    have hxl' : xs.length = 4 := hxl
    have h0 : DataW.trod (fun _ => ()) Tryd.prog w 0 (fun _ => true) false m 5 (([v0, v1, v2, v3].drop 0).take (Tryd.prog.cellsOf 5)) = xs[0]? := hx 0 _ rfl
    have h1 : DataW.trod (fun _ => ()) Tryd.prog w 0 (fun _ => true) false m 5 (([v0, v1, v2, v3].drop 1).take (Tryd.prog.cellsOf 5)) = xs[1]? := hx 1 _ rfl
    have h2 : DataW.trod (fun _ => ()) Tryd.prog w 0 (fun _ => true) false m 3 (([v0, v1, v2, v3].drop 2).take (Tryd.prog.cellsOf 3)) = xs[2]? := hx 2 _ rfl
    have h3 : DataW.trod (fun _ => ()) Tryd.prog w 0 (fun _ => true) false m 29 (([v0, v1, v2, v3].drop 3).take (Tryd.prog.cellsOf 29)) = xs[3]? := hx 3 _ rfl
    rw [cu] at h0 h1
    rw [ci] at h2
    rw [cq] at h3
    match xs, hxl' with
    | [x0, x1, x2, x3], _ =>
      obtain ⟨n0, e0, y0, _⟩ := DataW.trod_int Tryd.underlying5 (show DataW.trod (fun _ => ()) Tryd.prog w 0 (fun _ => true) false m 5 [v0] = some x0 from h0)
      obtain ⟨n1, e1, y1, _⟩ := DataW.trod_int Tryd.underlying5 (show DataW.trod (fun _ => ()) Tryd.prog w 0 (fun _ => true) false m 5 [v1] = some x1 from h1)
      obtain ⟨n2, e2, y2, _⟩ := DataW.trod_int Tryd.underlying3 (show DataW.trod (fun _ => ()) Tryd.prog w 0 (fun _ => true) false m 3 [v2] = some x2 from h2)
      obtain ⟨n3, e3, y3, _⟩ := DataW.trod_int Tryd.underlying29 (show DataW.trod (fun _ => ()) Tryd.prog w 0 (fun _ => true) false m 29 [v3] = some x3 from h3)
      subst y0 y1 y2 y3
      simp [rowD] at e e0 e1 e2 e3
      obtain ⟨⟨a0, a1, a2, a3⟩, _⟩ := e
      subst e0 e1 e2 e3
      unfold URow.cells
      rw [a0, a1, a2, a3]

set_option maxRecDepth 100000 in
theorem laid_rows {w : World} {fuel : Nat} {cs : List Value} {l : List URow} {p : List MemPlace} (h : DataW.trod (fun _ => ()) Tryd.prog w 0 (fun _ => true) false fuel 74 cs = some (.slice (l.map rowD) [], p)) (hl : 0 < len l) :
    ∃ tb tq rc, cs = [.slice (some ⟨tb, tq, none⟩) (len l) rc] ∧ URows w (some ⟨tb, tq, none⟩) l := by
  have hC : Tryd.prog.cellsOf 96 = 4 := by kernel_rfl
  rcases Go.Deep.open_slice Tryd.underlying74 h with ⟨_, hx⟩ | ⟨a, n, c, m, q, D, Pl, hcs, _, hln, hm, hmm, hx, hi⟩
  · simp at hx
  · simp only [Prod.mk.injEq, DataW.slice.injEq] at hx
    obtain ⟨⟨hD, _⟩, _⟩ := hx
    have hn : len l = n := by have := congrArg List.length hD; simpa [len] using this
    have hnm : n ≤ m := by rw [hmm]; simp; exact hln
    have each : ∀ i, i < len l → ∃ b off, a = ⟨b, off, none⟩ ∧ URowAt w b (off + i * 4) (unth l i) := fun i hil => by
      obtain ⟨cs', hc, htr⟩ := hi i (by omega)
      rw [hC] at hc
      obtain ⟨_, hcl, hat⟩ := World.cells?_some hc
      have hDi : D i = rowD (unth l i) := by
        have h1 : (l.map rowD)[i]? = ((List.range n).map D)[i]? := by rw [hD]
        have hil' : i < l.length := hil
        rw [List.getElem?_map, List.getElem?_map, List.getElem?_eq_getElem hil', List.getElem?_range (by omega)] at h1
        rw [unth_eq l i hil]
        exact (Option.some.inj h1).symm
      rw [hDi] at htr
      have hcs' := laid_row hcl htr
      obtain ⟨b, off, spot⟩ := a
      have hat0 := hat 0 (by decide)
      rw [hcs'] at hat
      have hspot : spot = none := by
        obtain ⟨cs0, hc0, htr0⟩ := hi 0 (by omega)
        rw [hC] at hc0
        obtain ⟨_, hcl0, hat0⟩ := World.cells?_some hc0
        have h1 := hat0 0 (by decide)
        have h2 : cs0[0]? = some (cs0[0]'(by omega)) := List.getElem?_eq_getElem (by omega)
        rw [h2] at h1
        simpa [Addr.add] using World.cell?_spot h1
      subst hspot
      have key : ∀ j, j < 4 → w.cell? ⟨b, off + i * 4 + j, none⟩ = (unth l i).cells[j]? := fun j hj => by
        have h1 := hat j hj
        rw [Go.Deep.add_add] at h1
        have e : (⟨b, off, none⟩ : Addr).add (i * 4 + j) = ⟨b, off + i * 4 + j, none⟩ := by
          unfold Addr.add; split
          · rename_i h0; simp <;> omega
          · simp [Nat.add_assoc]
        rw [e] at h1; exact h1
      exact ⟨b, off, rfl, key 0 (by decide), key 1 (by decide), key 2 (by decide), key 3 (by decide)⟩
    obtain ⟨b, off, rfl, _⟩ := each 0 hl
    refine ⟨b, off, c, by rw [hn]; exact hcs, fun i hil => ?_⟩
    obtain ⟨b', off', e, hR⟩ := each i hil
    cases e
    exact ⟨b, off, rfl, hR⟩

theorem tab_of {W : World} {nm : String} {g : Nat} {l : List URow} {cs : Array Value} {fuel : Nat} {p : List MemPlace} (hl : 0 < len l) (hg : Tryd.prog.globalNamed nm = some g) (hv : W.var? Tryd.prog nm = some cs)
    (h : DataW.trod (fun _ => ()) Tryd.prog W 0 (fun _ => true) false fuel 74 cs.toList = some (.slice (l.map rowD) [], p)) : TabAt W.heap.size W g l := by
  obtain ⟨tb, tq, rc, hcs, hr⟩ := laid_rows h hl
  have hc : W.cell? ⟨g, 0, none⟩ = some (.slice (some ⟨tb, tq, none⟩) (len l) rc) := by
    have := World.var?_cell hg hv 0
    rw [Array.eq_one_of_toList hcs] at this
    simpa using this
  obtain ⟨b', off', e, hR⟩ := hr 0 hl
  cases e
  exact ⟨tb, tq, rc, lt_of_cell hc, lt_of_cell hR.c0, Nat.le_refl _, hc, hr⟩

theorem oneRow : ((List.range Tryd.prog.types.size).filter fun t => Tryd.prog.rowNamed t [101, 114, 114, 111, 114]) = [31] := by kernel_rfl

set_option maxRecDepth 100000 in
theorem of_laid {W : World} (h : laidMetH Tryd.prog Rows.unpackReadsRow.laid W) : Tabs W.heap.size W ∧ ErrType W := by
  have h' : laidMet Tryd.prog (Rows.unpackReadsRow.laid.filter fun x => x.2.handleName?.isNone) W ∧ handlesMet Tryd.prog (Rows.unpackReadsRow.laid.filter fun x => x.2.handleName?.isSome) W := h
  constructor
  · obtain ⟨⟨ps, ⟨g0, t0, cs0, f0, p0, q0, hg0, ht0, hv0, hd0, ⟨g1, t1, cs1, f1, p1, q1, hg1, ht1, hv1, hd1, ⟨g2, t2, cs2, f2, p2, q2, hg2, ht2, hv2, hd2, ⟨g3, t3, cs3, f3, p3, q3, hg3, ht3, hv3, hd3, ⟨g4, t4, cs4, f4, p4, q4, hg4, ht4, hv4, hd4, _⟩, _⟩, _⟩, _⟩, _⟩, _, _⟩, _⟩ := h'
    obtain rfl : 0 = g0 := Option.some.inj ((show _ = some 0 by kernel_rfl).symm.trans hg0)
    obtain rfl : 74 = t0 := Option.some.inj ((show _ = some 74 by kernel_rfl).symm.trans ht0)
    obtain rfl : 2 = g1 := Option.some.inj ((show _ = some 2 by kernel_rfl).symm.trans hg1)
    obtain rfl : 74 = t1 := Option.some.inj ((show _ = some 74 by kernel_rfl).symm.trans ht1)
    obtain rfl : 3 = g2 := Option.some.inj ((show _ = some 3 by kernel_rfl).symm.trans hg2)
    obtain rfl : 74 = t2 := Option.some.inj ((show _ = some 74 by kernel_rfl).symm.trans ht2)
    obtain rfl : 1 = g3 := Option.some.inj ((show _ = some 1 by kernel_rfl).symm.trans hg3)
    obtain rfl : 74 = t3 := Option.some.inj ((show _ = some 74 by kernel_rfl).symm.trans ht3)
    obtain rfl : 4 = g4 := Option.some.inj ((show _ = some 4 by kernel_rfl).symm.trans hg4)
    obtain rfl : 74 = t4 := Option.some.inj ((show _ = some 74 by kernel_rfl).symm.trans ht4)
    exact ⟨tab_of (by decide) hg0 hv0 hd0, tab_of (by decide) hg3 hv3 hd3, tab_of (by decide) hg1 hv1 hd1, tab_of (by decide) hg2 hv2 hd2, tab_of (by decide) hg4 hv4 hd4⟩
  · obtain ⟨name, u, ty, e1, e2, e3, e4, e5⟩ := h'.2 Rows.unpackReadsRow.laid[0] (List.mem_singleton.2 rfl)
    have en : name = [101, 114, 114, 111, 114] := (Option.some.inj e1).symm
    subst en
    obtain rfl : 100 = u := Option.some.inj ((show _ = some 100 by kernel_rfl).symm.trans e2)
    have hm : ty ∈ (List.range Tryd.prog.types.size).filter fun t => Tryd.prog.rowNamed t [101, 114, 114, 111, 114] := List.mem_filter.2 ⟨List.mem_range.2 e3, e4⟩
    rw [oneRow] at hm
    obtain rfl := List.mem_singleton.1 hm
    have hg : Tryd.prog.globalNamed Rows.unpackReadsRow.laid[0].1 = some 5 := (by kernel_rfl)
    exact World.var?_cell hg e5 0
end Go.Proofs.YtmcmapcijncblaaDoor
