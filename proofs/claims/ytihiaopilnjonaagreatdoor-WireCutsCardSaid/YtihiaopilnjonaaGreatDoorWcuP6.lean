/- Parts of the proof, one behind the other. -/
import Derived.Test.YtihiaopilnjonaaGreatDoorWcuP5
import Derived.LaidMore
import Derived.LaidHandle
import Derived.Stop.Joined
import Derived.ChangeVars
import Derived.JoinedOf
import Derived.RowKitTokens
import Derived.StillTailTactics
namespace Go.Proofs.YtihiaopilnjonaaGreatDoor
set_option linter.unusedSimpArgs false
set_option linter.unusedVariables false
open Go.RowKit Go.ChangeShapes Go.WideShapes Go.ChangeAt
def rowD5 (r : PRow) : DataW Unit := .agg [.lit (.int .u64 r.below), .lit (.int .u8 r.first), .lit (.int .i64 r.size)]
set_option maxRecDepth 100000 in
theorem laid_prow {w : World} {fuel : Nat} {cs' : List Value} {r : PRow} {q : List MemPlace} (hl : cs'.length = 3) (h : DataW.trod (fun _ => ()) Tryz.prog w 0 (fun _ => true) false fuel 332 cs' = some (rowD5 r, q)) : cs' = r.cells := by
  match cs', hl with
  | [v0, v1, v2], _ =>
    obtain ⟨xs, m, _, e, _, hxl, hx⟩ := DataW.trod_struct Tryz.underlying332 h
    have cu : Tryz.prog.cellsOf 5 = 1 := by kernel_rfl
    have ci : Tryz.prog.cellsOf 3 = 1 := by kernel_rfl
    have cq : Tryz.prog.cellsOf 23 = 1 := by kernel_rfl
    have hxl' : xs.length = 3 := hxl
    have h0 : DataW.trod (fun _ => ()) Tryz.prog w 0 (fun _ => true) false m 23 (([v0, v1, v2].drop 0).take (Tryz.prog.cellsOf 23)) = xs[0]? := hx 0 _ rfl
    have h1 : DataW.trod (fun _ => ()) Tryz.prog w 0 (fun _ => true) false m 5 (([v0, v1, v2].drop 1).take (Tryz.prog.cellsOf 5)) = xs[1]? := hx 1 _ rfl
    have h2 : DataW.trod (fun _ => ()) Tryz.prog w 0 (fun _ => true) false m 3 (([v0, v1, v2].drop 2).take (Tryz.prog.cellsOf 3)) = xs[2]? := hx 2 _ rfl
    rw [cq] at h0
    rw [cu] at h1
    rw [ci] at h2
    match xs, hxl' with
    | [x0, x1, x2], _ =>
      obtain ⟨n0, e0, y0, _⟩ := DataW.trod_int Tryz.underlying23 (show DataW.trod (fun _ => ()) Tryz.prog w 0 (fun _ => true) false m 23 [v0] = some x0 from h0)
      obtain ⟨n1, e1, y1, _⟩ := DataW.trod_int Tryz.underlying5 (show DataW.trod (fun _ => ()) Tryz.prog w 0 (fun _ => true) false m 5 [v1] = some x1 from h1)
      obtain ⟨n2, e2, y2, _⟩ := DataW.trod_int Tryz.underlying3 (show DataW.trod (fun _ => ()) Tryz.prog w 0 (fun _ => true) false m 3 [v2] = some x2 from h2)
      subst y0 y1 y2
      simp [rowD5] at e e0 e1 e2
      obtain ⟨⟨a0, a1, a2⟩, _⟩ := e
      subst e0 e1 e2
      unfold PRow.cells
      rw [a0, a1, a2]
set_option maxRecDepth 100000 in
theorem laid_prows {w : World} {fuel : Nat} {cs : List Value} {l : List PRow} {p : List MemPlace} (h : DataW.trod (fun _ => ()) Tryz.prog w 0 (fun _ => true) false fuel 334 cs = some (.slice (l.map rowD5) [], p)) (hl : 0 < len l) :
    ∃ tb tq rc, cs = [.slice (some ⟨tb, tq, none⟩) (len l) rc] ∧ PRows w (some ⟨tb, tq, none⟩) l := by
  have hC : Tryz.prog.cellsOf 332 = 3 := by kernel_rfl
  rcases Go.Deep.open_slice Tryz.underlying334 h with ⟨_, hx⟩ | ⟨a, n, c, m, q, D, Pl, hcs, _, hln, hm, hmm, hx, hi⟩
  · simp at hx
  · simp only [Prod.mk.injEq, DataW.slice.injEq] at hx
    obtain ⟨⟨hD, _⟩, _⟩ := hx
    have hn : len l = n := by have := congrArg List.length hD; simpa [len] using this
    have hnm : n ≤ m := by rw [hmm]; simp; exact hln
    have each : ∀ i, i < len l → ∃ b off, a = ⟨b, off, none⟩ ∧ PRowAt w b (off + i * 3) (prth l i) := fun i hil => by
      obtain ⟨cs', hc, htr⟩ := hi i (by omega)
      rw [hC] at hc
      obtain ⟨_, hcl, hat⟩ := World.cells?_some hc
      have hDi : D i = rowD5 (prth l i) := by
        have h1 : (l.map rowD5)[i]? = ((List.range n).map D)[i]? := by rw [hD]
        have hil' : i < l.length := hil
        rw [List.getElem?_map, List.getElem?_map, List.getElem?_eq_getElem hil', List.getElem?_range (by omega)] at h1
        rw [prth_eq l i hil]
        exact (Option.some.inj h1).symm
      rw [hDi] at htr
      have hcs' := laid_prow hcl htr
      obtain ⟨b, off, spot⟩ := a
      have hat0 := hat 0 (by decide)
      rw [hcs'] at hat
      have hspot : spot = none := by
        obtain ⟨cs0, hc0, htr0⟩ := hi 0 (by omega)
        rw [hC] at hc0
        obtain ⟨_, hcl0, hat0⟩ := World.cells?_some hc0
        have h1 := hat0 0 (by decide)
        have h2 : cs0[0]? = some (cs0[0]'(by omega)) := List.getElem?_eq_getElem (by omega)
        rw [h2] at h1
        simpa [Addr.add] using World.cell?_spot h1
      subst hspot
      have key : ∀ j, j < 3 → w.cell? ⟨b, off + i * 3 + j, none⟩ = (prth l i).cells[j]? := fun j hj => by
        have h1 := hat j hj
        rw [Go.Deep.add_add] at h1
        have e : (⟨b, off, none⟩ : Addr).add (i * 3 + j) = ⟨b, off + i * 3 + j, none⟩ := by
          unfold Addr.add; split
          · rename_i h0; simp <;> omega
          · simp [Nat.add_assoc]
        rw [e] at h1; exact h1
      exact ⟨b, off, rfl, key 0 (by decide), key 1 (by decide), key 2 (by decide)⟩
    obtain ⟨b, off, rfl, _⟩ := each 0 hl
    refine ⟨b, off, c, by rw [hn]; exact hcs, fun i hil => ?_⟩
    obtain ⟨b', off', e, hR⟩ := each i hil
    cases e
    exact ⟨b, off, rfl, hR⟩
def tabD5 : DataW Unit := .agg ([0, 1, 2, 3, 4].map fun k => .slice ((rowsP k).map rowD5) [])
set_option maxRecDepth 100000 in
theorem ptab_of {W : World} {g : Nat} {cs : Array Value} {fuel : Nat} {p : List MemPlace} (hgg : g = 4) (hg : Tryz.prog.globalNamed "sextant/pack.rows" = some g) (hv : W.var? Tryz.prog "sextant/pack.rows" = some cs)
    (h : DataW.trod (fun _ => ()) Tryz.prog W 0 (fun _ => true) false fuel 335 cs.toList = some (tabD5, p)) : PTab W.heap.size W := by
  obtain ⟨xs, m, _, e, hcl, hxl, hx⟩ := DataW.trod_array Tryz.underlying335 h
  have hC : Tryz.prog.cellsOf 334 = 1 := by kernel_rfl
  have hC5 : Tryz.prog.cellsOf 335 = 5 := by kernel_rfl
  rw [hC5] at hcl
  rw [hC] at hx
  have hd : tabD5 = .agg (xs.map (·.1)) := congrArg Prod.fst e
  unfold tabD5 at hd
  have hd2 : ([0, 1, 2, 3, 4].map fun k => (DataW.slice ((rowsP k).map rowD5) [] : DataW Unit)) = xs.map (·.1) := by injection hd
  subst hgg
  have key : ∀ k, k < 5 → ∃ tb tq rc, cs[k]? = some (.slice (some ⟨tb, tq, none⟩) (len (rowsP k)) rc) ∧ PRows W (some ⟨tb, tq, none⟩) (rowsP k) := fun k hk => by
    have hxk : k < xs.length := by omega
    have h1 := hx k hk
    rw [List.getElem?_eq_getElem hxk] at h1
    have h2 : (xs[k]'hxk).1 = .slice ((rowsP k).map rowD5) [] := by
      have h3 : (xs.map (·.1))[k]? = some (xs[k]'hxk).1 := by rw [List.getElem?_map, List.getElem?_eq_getElem hxk]; rfl
      rw [← hd2, List.getElem?_map] at h3
      have h4 : [0, 1, 2, 3, 4][k]? = some k := by
        have : k = 0 ∨ k = 1 ∨ k = 2 ∨ k = 3 ∨ k = 4 := by omega
        rcases this with rfl | rfl | rfl | rfl | rfl <;> rfl
      rw [h4] at h3
      exact (Option.some.inj h3).symm
    have h5 : DataW.trod (fun _ => ()) Tryz.prog W 0 (fun _ => true) false m 334 ((cs.toList.drop (k * 1)).take 1) = some (.slice ((rowsP k).map rowD5) [], (xs[k]'hxk).2) := by rw [h1, ← h2]
    obtain ⟨tb, tq, rc, hcs, hr⟩ := laid_prows h5 (rowsP_pos k)
    refine ⟨tb, tq, rc, ?_, hr⟩
    have h6 : ((cs.toList.drop (k * 1)).take 1)[0]? = some (.slice (some ⟨tb, tq, none⟩) (len (rowsP k)) rc) := by rw [hcs]; rfl
    rw [List.getElem?_take, if_pos (by decide), List.getElem?_drop] at h6
    simpa using h6
  have hlt : 4 < W.heap.size := by
    obtain ⟨tb, tq, rc, h1, h2⟩ := key 0 (by decide)
    have := World.var?_cell hg hv 0
    exact lt_of_cell (this.trans h1)
  refine ⟨hlt, Nat.le_refl _, fun k hk => ?_⟩
  obtain ⟨tb, tq, rc, h1, h2⟩ := key k hk
  refine ⟨tb, tq, rc, ?_, (World.var?_cell hg hv k).trans h1, h2⟩
  obtain ⟨b, off, e, hR⟩ := h2 0 (rowsP_pos k)
  cases e
  exact lt_of_cell hR.c0
end Go.Proofs.YtihiaopilnjonaaGreatDoor
namespace Go.Proofs.YtihiaopilnjonaaGreatDoor
set_option linter.unusedSimpArgs false
set_option linter.unusedVariables false
open Go.RowKit Go.ChangeShapes Go.WideShapes Go.ChangeAt
set_option maxRecDepth 100000 in
theorem of_laidW {W : World} (h : laidMetH Tryz.prog Rows.wirePartsRow.laid W) : TE7 W.heap.size W := by
  have h' : laidMet Tryz.prog (Rows.wirePartsRow.laid.filter fun x => x.2.handleName?.isNone) W ∧ handlesMet Tryz.prog (Rows.wirePartsRow.laid.filter fun x => x.2.handleName?.isSome) W := h
  obtain ⟨⟨ps, ⟨gp, tp, csp, fp, pp, qp, hgp, htp, hvp, hdp, ⟨g0, t0, cs0, f0, p0, q0, hg0, ht0, hv0, hd0, ⟨g1, t1, cs1, f1, p1, q1, hg1, ht1, hv1, hd1, ⟨g2, t2, cs2, f2, p2, q2, hg2, ht2, hv2, hd2, ⟨g3, t3, cs3, f3, p3, q3, hg3, ht3, hv3, hd3, ⟨g4, t4, cs4, f4, p4, q4, hg4, ht4, hv4, hd4, _⟩, _⟩, _⟩, _⟩, _⟩, _⟩, _, _⟩, hH⟩ := h'
  obtain rfl : 4 = gp := Option.some.inj ((show _ = some 4 by kernel_rfl).symm.trans hgp)
  obtain rfl : 335 = tp := Option.some.inj ((show _ = some 335 by kernel_rfl).symm.trans htp)
  obtain rfl : 1 = g0 := Option.some.inj ((show _ = some 1 by kernel_rfl).symm.trans hg0)
  obtain rfl : 313 = t0 := Option.some.inj ((show _ = some 313 by kernel_rfl).symm.trans ht0)
  obtain rfl : 5 = g1 := Option.some.inj ((show _ = some 5 by kernel_rfl).symm.trans hg1)
  obtain rfl : 313 = t1 := Option.some.inj ((show _ = some 313 by kernel_rfl).symm.trans ht1)
  obtain rfl : 3 = g2 := Option.some.inj ((show _ = some 3 by kernel_rfl).symm.trans hg2)
  obtain rfl : 313 = t2 := Option.some.inj ((show _ = some 313 by kernel_rfl).symm.trans ht2)
  obtain rfl : 6 = g3 := Option.some.inj ((show _ = some 6 by kernel_rfl).symm.trans hg3)
  obtain rfl : 313 = t3 := Option.some.inj ((show _ = some 313 by kernel_rfl).symm.trans ht3)
  obtain rfl : 2 = g4 := Option.some.inj ((show _ = some 2 by kernel_rfl).symm.trans hg4)
  obtain rfl : 313 = t4 := Option.some.inj ((show _ = some 313 by kernel_rfl).symm.trans ht4)
  have hET : ErrType W := by
    obtain ⟨name, u, ty, e1, e2, e3, e4, e5⟩ := hH Rows.wirePartsRow.laid[1] (List.mem_singleton.2 rfl)
    have en : name = [101, 114, 114, 111, 114] := (Option.some.inj e1).symm
    subst en
    obtain rfl : 284 = u := Option.some.inj ((show _ = some 284 by kernel_rfl).symm.trans e2)
    have hm : ty ∈ (List.range Tryz.prog.types.size).filter fun t => Tryz.prog.rowNamed t [101, 114, 114, 111, 114] := List.mem_filter.2 ⟨List.mem_range.2 e3, e4⟩
    rw [oneRow] at hm
    obtain rfl := List.mem_singleton.1 hm
    have hg : Tryz.prog.globalNamed Rows.wirePartsRow.laid[1].1 = some 0 := (by kernel_rfl)
    exact World.var?_cell hg e5 0
  exact ⟨ptab_of rfl hgp hvp hdp, ⟨tab_of (by decide) hg0 hv0 hd0, tab_of (by decide) hg3 hv3 hd3, tab_of (by decide) hg1 hv1 hd1, tab_of (by decide) hg2 hv2 hd2, tab_of (by decide) hg4 hv4 hd4⟩, hET, Nat.le_refl _, lt_of_cell hET⟩
end Go.Proofs.YtihiaopilnjonaaGreatDoor
namespace Go.Proofs.YtihiaopilnjonaaGreatDoor
open Go.RowKit
set_option linter.unusedSimpArgs false
set_option linter.unusedVariables false
def cut40 (x : ByteArray) : ByteArray := x.extract 0 (min x.size 40)
def textsP (l : List ByteArray) (n : Nat) : List ByteArray := (l.take n).map cut40
theorem textsP_len (l : List ByteArray) (n : Nat) : len (textsP l n) = min (len l) n := by unfold textsP; simp only [len, List.length_map, List.length_take]; omega
def CWS (w : World) : CP := fun b o x => w.cell? ⟨b, o, none⟩ = some x ∧ ∃ cs, w.heap[b]? = some (.cells cs 9 (0, 0))
theorem cws_keep {w w' : World} (h : ∀ (b : Nat) (cs : Array Value), w.heap[b]? = some (.cells cs 9 (0, 0)) → w'.heap[b]? = w.heap[b]?) (b o : Nat) (x : Value) (hc : CWS w b o x) : CWS w' b o x := by
  obtain ⟨h1, cs, h2⟩ := hc
  have e := h b cs h2
  refine ⟨?_, cs, e.trans h2⟩
  have : w'.cell? ⟨b, o, none⟩ = w.cell? ⟨b, o, none⟩ := by unfold World.cell?; rw [e]
  rw [this]; exact h1
theorem StrsC.wkeep {w w' : World} {a : Option Addr} {l : List ByteArray} (hs : StrsC (CWS w) a l) (h : ∀ (b : Nat) (cs : Array Value), w.heap[b]? = some (.cells cs 9 (0, 0)) → w'.heap[b]? = w.heap[b]?) : StrsC (CWS w') a l := hs.imp (cws_keep h)
theorem StrsC.wlow {w w' : World} {a : Option Addr} {l : List ByteArray} (hs : StrsC (CWS w) a l) (hb : Below w.heap.size w w') : StrsC (CWS w') a l := hs.wkeep fun b cs h => hb.block b (lt_of_block h)
theorem StrsC.wset {w : World} {t j : Nat} {cs : Array Value} {T : TypeId} {fr : Nat × Nat} {a : Option Addr} {l : List ByteArray} (hs : StrsC (CWS w) a l) (h : w.heap[t]? = some (.cells cs T fr)) (hT : T ≠ 9) (v : Value) : StrsC (CWS (w.setCell ⟨t, j, none⟩ v)) a l := hs.wkeep fun b cs' hb => Below.heap_setCell _ _ _ _ (show b ≠ t from fun e => by subst e; rw [h] at hb; cases hb; exact hT rfl)
theorem strs_of_own {w : World} {base n : Nat} {v : Value} {l : List ByteArray} (h : w.ownsRow base 9 1 v n (l.map Value.string)) : ∃ a c, v = .slice a (len l) c ∧ StrsC (CWS w) a l ∧ ∀ b off, a = some ⟨b, off, none⟩ → base ≤ b := by
  obtain ⟨a, c, rfl, h1⟩ := own_txs h
  refine ⟨a, c, rfl, fun i hi => ?_, fun b off e => (h.lt b (by rw [e]; rfl)).1⟩
  obtain ⟨b, off, rfl, hc⟩ := h1 i hi
  obtain ⟨cs, hcs⟩ := own_type h b rfl
  exact ⟨b, off, rfl, hc, cs, hcs⟩
def TextsIs (l : List ByteArray) (w : World) (e : Ending) (w' : World) : Prop := ∃ a' c', e = .returned (.slice a' (len l) c') ∧ StrsC (CWS w') a' l ∧ (∀ b off, a' = some ⟨b, off, none⟩ → w.heap.size ≤ b) ∧ Below w.heap.size w w'
set_option maxRecDepth 100000 in
set_option maxHeartbeats 4000000 in
theorem texts_any (a : Option Addr) (c : Nat) (l : List ByteArray) (n : Nat) (w : World) (hl : StrsC (CW w) a l) (hn : len l ≤ 9223372036854775807) (hk : n ≤ 1000) :
    Calls Tryz.prog 73 #[.slice a (len l) c, .int .i64 n] w (TextsIs (textsP l n) w) := by
  have HL := Lib.hid hl
  clear hl
  obtain ⟨N, hN⟩ : ∃ N, min (len l) n = N := ⟨_, rfl⟩
  have HTL : Hid (textsP l N = textsP l n) := Lib.hid (by
    unfold textsP
    rw [← hN]
    by_cases h : len l ≤ n
    · rw [Nat.min_eq_left h, List.take_of_length_le (by rw [len_eq]; exact Nat.le_refl _), List.take_of_length_le (by rw [← len_eq]; exact h)]
    · rw [Nat.min_eq_right (by omega)])
  obtain ⟨i0, hi, hz0, hz1, hz2⟩ := info_parts info_str
  have hN1 : N ≤ len l ∧ N ≤ n ∧ (N = len l ∨ N = n) := by omega
  clear hN
  go_enter Tryz.func73, Tryz.ntmps73
  go_wp2
  go_loopg [5, 6] N (fun g lv i wr => ∃ (m : Nat) (acc : List ByteArray), g + m = N ∧ i = .int .i64 m ∧ Hid (acc = textsP l m) ∧ Hid (Below w.heap.size w wr) ∧ Hid (wr.ownsRow w.heap.size 9 1 lv m (acc.map Value.string)))
  case atStart => exact ⟨0, [], rfl, rfl, rfl, Below.refl _ _, World.ownsRow_nil _ _ _ _⟩
  case round =>
    obtain ⟨m, acc, hm, rfl, HA, HB, HO⟩ := hrel
    by_cases hlt : m < N
    · have i1 : (m : Int) < len l := by omega
      have i2 : (m : Int) < n := by omega
      obtain ⟨gb, go, rfl, hc⟩ := HL.out m (by omega)
      have hcx : wr.cell? ⟨gb, go + m, none⟩ = some (.string (sth l m)) := (HB.out.cell (p := ⟨gb, go + m, none⟩) (lt_of_cell hc)).trans hc
      have hgw := lt_of_cell hc
      have hnx : some gb ≠ u5.ownBlock := own_apart_lt HO.out hgw
      have HAN : Hid (textsP l (m + 1) = acc ++ [cut40 (sth l m)]) := Lib.hid (by
        have hml : m < l.length := by have := len_eq l; omega
        rw [HA.out]; unfold textsP
        rw [List.take_succ_eq_append_getElem hml, List.map_append, sth_eq l m hml]; rfl)
      generalize sth l m = x at hcx HAN
      obtain ⟨k, hk2⟩ : ∃ k, min x.size 40 = k := ⟨_, rfl⟩
      have mn : min (x.size : Int) 40 = (k : Int) := by rw [← hk2]; omega
      have sl : k ≤ x.size := by rw [← hk2]; exact Nat.min_le_left _ _
      obtain ⟨y, hy0⟩ : ∃ y, x.extract 0 k = y := ⟨_, rfl⟩
      have HAN : Hid (textsP l (m + 1) = acc ++ [y]) := Lib.hid (by rw [HAN.out, ← hy0, ← hk2]; rfl)
      clear hk2 hc
      have cx := hcx
      clear hcx
      have hwr : w.heap.size ≤ wr.heap.size := HB.out.size
      go_upto_region 5 with fail
      refine wp_region_tail 14 13 (u5.ownBlock) (phis [fun u _ => u = (u5), fun u _ => u = (.slice (some ⟨gb, go, none⟩) (len l) c), fun u _ => u = (.int .i64 m), fun u _ => u = (.pointer (some ⟨gb, go + m, none⟩)), fun u _ => u = (.string x), fun u _ => u = (.slice (some ⟨gb, go, none⟩) (len l) c), fun u _ => u = (.int .i64 m), fun u _ => u = (.pointer (some ⟨gb, go + m, none⟩)), fun u _ => u = (.string x), fun u _ => u = (.int .i64 x.size), fun u _ => u = (.int .i64 k), fun u _ => u = (.string y), fun u w' => ∃ b, u = .slice (some ⟨b, 0, none⟩) 1 1 ∧ some b ≠ u5.ownBlock ∧ w'.heap[b]? = some (.cells #[.string y] 9 (0, 0)), fun u w' => w'.ownsRow w.heap.size 9 1 u (m + 1) ((acc.map Value.string) ++ [.string y])]) rfl (by kernel_rfl) (by kernel_rfl) (mono_of ⟨mono_eq, mono_eq, mono_eq, mono_eq, mono_eq, mono_eq, mono_eq, mono_eq, mono_eq, mono_eq, mono_eq, mono_eq, ?m12, ?m13, trivial⟩) (steps_of 14 ⟨?s0, ?s1, ?s2, ?s3, ?s4, ?s5, ?s6, ?s7, ?s8, ?s9, ?s10, ?s11, ?s12, ?s13, trivial⟩) ?_
      case m12 =>
        exact ⟨fun u w1 w' h ⟨b, h1, hb, hb'⟩ => ⟨b, h1, hb, ext_block h hb'⟩, fun _ u w1 w' h ⟨b, h1, hb, hb'⟩ => ⟨b, h1, hb, extB_block h hb hb'⟩⟩
      case m13 =>
        exact ⟨fun u w1 w' h hu => own_below hu h, fun hn => absurd rfl hn⟩
      case s0 =>
        refine step_val (v := (u5)) (fun av wv hE hS hO hD => ?_) (fun _ => rfl)
        have h5 : av.eval (.tmp 5) = (u5) := hO.2.2 5 rfl
        have f5 := (ev_form av 5).symm.trans h5
        refine ⟨rfl, ?_⟩
        simp [go_sem, f5, i1, mn, sl, hy0]
      case s1 =>
        refine step_val (v := (.slice (some ⟨gb, go, none⟩) (len l) c)) (fun av wv hE hS hO hD => ?_) (fun _ => rfl)
        have h0 : av.eval (.tmp 0) = (.slice (some ⟨gb, go, none⟩) (len l) c) := hO.2.2 0 rfl
        have f0 := (ev_form av 0).symm.trans h0
        refine ⟨rfl, ?_⟩
        simp [go_sem, f0, i1, mn, sl, hy0]
      case s2 =>
        refine step_val (v := (.int .i64 m)) (fun av wv hE hS hO hD => ?_) (fun _ => rfl)
        have h6 : av.eval (.tmp 6) = (.int .i64 m) := hO.2.2 6 rfl
        have f6 := (ev_form av 6).symm.trans h6
        refine ⟨rfl, ?_⟩
        simp [go_sem, f6, i1, mn, sl, hy0]
      case s3 =>
        refine step_val (v := (.pointer (some ⟨gb, go + m, none⟩))) (fun av wv hE hS hO hD => ?_) (fun _ => rfl)
        have d19 : av.eval (.tmp 19) = (.slice (some ⟨gb, go, none⟩) (len l) c) := hD.1 rfl _ rfl
        have f19 := (ev_form av 19).symm.trans d19
        have d20 : av.eval (.tmp 20) = (.int .i64 m) := hD.2.1 rfl _ rfl
        have f20 := (ev_form av 20).symm.trans d20
        refine ⟨rfl, ?_⟩
        simp [go_sem, f19, f20, i1, mn, sl, hy0]
      case s4 =>
        refine step_val (v := (.string x)) (fun av wv hE hS hO hD => ?_) (fun _ => rfl)
        have d21 : av.eval (.tmp 21) = (.pointer (some ⟨gb, go + m, none⟩)) := hD.1 rfl _ rfl
        have f21 := (ev_form av 21).symm.trans d21
        have cx := extB_cell hE hnx cx
        refine ⟨rfl, ?_⟩
        simp [go_sem, f21, cx, i1, mn, sl, hy0]
      case s5 =>
        refine step_val (v := (.slice (some ⟨gb, go, none⟩) (len l) c)) (fun av wv hE hS hO hD => ?_) (fun _ => rfl)
        have h0 : av.eval (.tmp 0) = (.slice (some ⟨gb, go, none⟩) (len l) c) := hO.2.2 0 rfl
        have f0 := (ev_form av 0).symm.trans h0
        refine ⟨rfl, ?_⟩
        simp [go_sem, f0, i1, mn, sl, hy0]
      case s6 =>
        refine step_val (v := (.int .i64 m)) (fun av wv hE hS hO hD => ?_) (fun _ => rfl)
        have h6 : av.eval (.tmp 6) = (.int .i64 m) := hO.2.2 6 rfl
        have f6 := (ev_form av 6).symm.trans h6
        refine ⟨rfl, ?_⟩
        simp [go_sem, f6, i1, mn, sl, hy0]
      case s7 =>
        refine step_val (v := (.pointer (some ⟨gb, go + m, none⟩))) (fun av wv hE hS hO hD => ?_) (fun _ => rfl)
        have d23 : av.eval (.tmp 23) = (.slice (some ⟨gb, go, none⟩) (len l) c) := hD.1 rfl _ rfl
        have f23 := (ev_form av 23).symm.trans d23
        have d24 : av.eval (.tmp 24) = (.int .i64 m) := hD.2.1 rfl _ rfl
        have f24 := (ev_form av 24).symm.trans d24
        refine ⟨rfl, ?_⟩
        simp [go_sem, f23, f24, i1, mn, sl, hy0]
      case s8 =>
        refine step_val (v := (.string x)) (fun av wv hE hS hO hD => ?_) (fun _ => rfl)
        have d25 : av.eval (.tmp 25) = (.pointer (some ⟨gb, go + m, none⟩)) := hD.1 rfl _ rfl
        have f25 := (ev_form av 25).symm.trans d25
        have cx := extB_cell hE hnx cx
        refine ⟨rfl, ?_⟩
        simp [go_sem, f25, cx, i1, mn, sl, hy0]
      case s9 =>
        refine step_val (v := (.int .i64 x.size)) (fun av wv hE hS hO hD => ?_) (fun _ => rfl)
        have d26 : av.eval (.tmp 26) = (.string x) := hD.1 rfl _ rfl
        have f26 := (ev_form av 26).symm.trans d26
        refine ⟨rfl, ?_⟩
        simp [go_sem, f26, i1, mn, sl, hy0]
      case s10 =>
        refine step_val (v := (.int .i64 k)) (fun av wv hE hS hO hD => ?_) (fun _ => rfl)
        have d27 : av.eval (.tmp 27) = (.int .i64 x.size) := hD.1 rfl _ rfl
        have f27 := (ev_form av 27).symm.trans d27
        refine ⟨rfl, ?_⟩
        simp [go_sem, f27, i1, mn, sl, hy0]
      case s11 =>
        refine step_val (v := (.string y)) (fun av wv hE hS hO hD => ?_) (fun _ => rfl)
        have d22 : av.eval (.tmp 22) = (.string x) := hD.1 rfl _ rfl
        have f22 := (ev_form av 22).symm.trans d22
        have d28 : av.eval (.tmp 28) = (.int .i64 k) := hD.2.1 rfl _ rfl
        have f28 := (ev_form av 28).symm.trans d28
        refine ⟨rfl, ?_⟩
        simp [go_sem, f22, f28, i1, mn, sl, hy0]
      case s12 =>
        refine step_wp (fun av wv hE hS hO hD => ?_)
        have d29 : av.eval (.tmp 29) = (.string y) := hD.1 rfl _ rfl
        have f29 := (ev_form av 29).symm.trans d29
        refine ⟨rfl, ?_⟩
        refine wp_of_run (v := .slice (some ⟨wv.heap.size, 0, none⟩) 1 1) (w' := wv.alloc (.cells #[.string y] 9)) (by simp [go_sem, f29]) ⟨_, rfl, es_of_ext (balloc (Ext_refl _) _), wv.heap.size, rfl, ?_, heap_alloc_new _ _⟩
        exact own_apart_ge HO.out (by have := hE.size; simp at this; omega)
      case s13 =>
        refine step_wp (fun av wv hE hS hO hD => ?_)
        have d18 : av.eval (.tmp 18) = (u5) := hD.1 rfl _ rfl
        have f18 := (ev_form av 18).symm.trans d18
        have d30 : (fun u w' => ∃ b, u = .slice (some ⟨b, 0, none⟩) 1 1 ∧ some b ≠ u5.ownBlock ∧ w'.heap[b]? = some (.cells #[.string y] 9 (0, 0))) (av.eval (.tmp 30)) wv := hD.2.1 rfl _ rfl
        refine ⟨rfl, ?_⟩
        obtain ⟨b19, h19, hb19, hc19⟩ := d30
        have hown1 : wv.ownsRow w.heap.size 9 1 u5 m (acc.map Value.string) := own_below (w := wr.drew) HO.out (hS rfl)
        refine wp_append_lies wv _ _ _ rfl w.heap.size 9 i0 (.string ⟨#[]⟩) 1 16 Tryz.underlying26 hi hz0 hz1 hz2 rfl (by decide) u5 m _ d18 hown1 ⟨b19, 0, none⟩ 1 1 [.string y] (by exact h19) rfl (World.news_of_block hc19) (by intro u hu; simp at hu; rcases hu with rfl <;> rfl) (by decide) (by unfold maxLen; omega) (by omega) (by have := hE.size; simp at this; omega) _ rfl ?_
        intro g2 cap2 w2 hown2 hgrow hat hlt2
        exact ⟨_, rfl, es_sp hgrow, hown2⟩
      intro a' w' hE hO hall
      have hA := act_of_outer (ds := [18, 19, 20, 21, 22, 23, 24, 25, 26, 27, 28, 29, 30, 31]) rfl hO (by kernel_rfl)
      have e18 : (fun u _ => u = (u5)) (a'.eval (.tmp 18)) w' := hall.1 _ rfl
      have e19 : (fun u _ => u = (.slice (some ⟨gb, go, none⟩) (len l) c)) (a'.eval (.tmp 19)) w' := hall.2.1 _ rfl
      have e20 : (fun u _ => u = (.int .i64 m)) (a'.eval (.tmp 20)) w' := hall.2.2.1 _ rfl
      have e21 : (fun u _ => u = (.pointer (some ⟨gb, go + m, none⟩))) (a'.eval (.tmp 21)) w' := hall.2.2.2.1 _ rfl
      have e22 : (fun u _ => u = (.string x)) (a'.eval (.tmp 22)) w' := hall.2.2.2.2.1 _ rfl
      have e23 : (fun u _ => u = (.slice (some ⟨gb, go, none⟩) (len l) c)) (a'.eval (.tmp 23)) w' := hall.2.2.2.2.2.1 _ rfl
      have e24 : (fun u _ => u = (.int .i64 m)) (a'.eval (.tmp 24)) w' := hall.2.2.2.2.2.2.1 _ rfl
      have e25 : (fun u _ => u = (.pointer (some ⟨gb, go + m, none⟩))) (a'.eval (.tmp 25)) w' := hall.2.2.2.2.2.2.2.1 _ rfl
      have e26 : (fun u _ => u = (.string x)) (a'.eval (.tmp 26)) w' := hall.2.2.2.2.2.2.2.2.1 _ rfl
      have e27 : (fun u _ => u = (.int .i64 x.size)) (a'.eval (.tmp 27)) w' := hall.2.2.2.2.2.2.2.2.2.1 _ rfl
      have e28 : (fun u _ => u = (.int .i64 k)) (a'.eval (.tmp 28)) w' := hall.2.2.2.2.2.2.2.2.2.2.1 _ rfl
      have e29 : (fun u _ => u = (.string y)) (a'.eval (.tmp 29)) w' := hall.2.2.2.2.2.2.2.2.2.2.2.1 _ rfl
      have e30 : (fun u w' => ∃ b, u = .slice (some ⟨b, 0, none⟩) 1 1 ∧ some b ≠ u5.ownBlock ∧ w'.heap[b]? = some (.cells #[.string y] 9 (0, 0))) (a'.eval (.tmp 30)) w' := hall.2.2.2.2.2.2.2.2.2.2.2.2.1 _ rfl
      have e31 : (fun u w' => w'.ownsRow w.heap.size 9 1 u (m + 1) ((acc.map Value.string) ++ [.string y])) (a'.eval (.tmp 31)) w' := hall.2.2.2.2.2.2.2.2.2.2.2.2.2.1 _ rfl
      obtain ⟨v30, hv30⟩ : ∃ v, a'.eval (.tmp 30) = v := ⟨_, rfl⟩
      rw [hv30] at e30
      obtain ⟨v31, hv31⟩ : ∃ v, a'.eval (.tmp 31) = v := ⟨_, rfl⟩
      rw [hv31] at e31
      simp only [List.foldl_cons, List.foldl_nil, Act.put, List.setIfInBounds_toArray, List.set_cons_succ, List.set_cons_zero, e18, e19, e20, e21, e22, e23, e24, e25, e26, e27, e28, e29, hv30, hv31] at hA
      clear hO hall e18 e19 e20 e21 e22 e23 e24 e25 e26 e27 e28 e29 hv30 hv31
      subst hA
      have HB2 : Hid (Below w.heap.size w w') := Lib.hid (grownBy_below HB.out (of_drewE hE) (fun k hk => by have := (HO.out.lt k hk).1; omega))
      have HO2 : Hid (w'.ownsRow w.heap.size 9 1 v31 (m + 1) ((acc ++ [y]).map Value.string)) := Lib.hid (by rw [List.map_append]; exact e31)
      clear hE e31 e30 cx mn sl hy0
      go_wp2
      go_roundg (N - (m + 1))
      case rel => exact ⟨m + 1, acc ++ [y], by omega, by go_num, HAN.out.symm, HB2.out, HO2.out⟩
      case measure => omega
    · obtain rfl : m = N := by omega
      have HF : Hid (acc = textsP l n) := Lib.hid (by rw [HA.out, HTL.out])
      by_cases hq : m < len l
      · have i1 : (m : Int) < len l := by omega
        have i2 : ¬ (m : Int) < n := by omega
        go_wp2
        go_ret
        obtain ⟨a', c', h1, h2, h3⟩ := strs_of_own HO.out
        rw [HF.out] at h1 h2
        exact ⟨a', c', by rw [h1]; rfl, h2, h3, HB.out⟩
      · have i1 : ¬ (m : Int) < len l := by omega
        go_wp2
        go_ret
        obtain ⟨a', c', h1, h2, h3⟩ := strs_of_own HO.out
        rw [HF.out] at h1 h2
        exact ⟨a', c', by rw [h1]; rfl, h2, h3, HB.out⟩
end Go.Proofs.YtihiaopilnjonaaGreatDoor
namespace Go.Proofs.YtihiaopilnjonaaGreatDoor
open Go.RowKit
set_option linter.unusedSimpArgs false
set_option linter.unusedVariables false
theorem StrsC.low {w w' : World} {a : Option Addr} {l : List ByteArray} (h : StrsC (CW w) a l) (hb : Below w.heap.size w w') : StrsC (CW w') a l := h.imp fun b o x hc => (hb.cell (p := ⟨b, o, none⟩) (lt_of_cell hc)).trans hc
theorem Strs.cw {B : Nat} {w : World} {a : Option Addr} {l : List ByteArray} (h : Strs B w a l) : StrsC (CW w) a l := StrsC.imp (C := CellAt B w) (fun _ _ _ h => h.cell) h
def SlotIs (L : Int) (q : Bool) (idx : Int) (ws ps : List ByteArray) (w : World) (e : Ending) (w' : World) : Prop := ∃ a1 k1 a2 k2, e = .returned (.agg #[.int .u64 L, .bool q, .int .u64 idx, .slice a1 (len ws) k1, .slice a2 (len ps) k2]) ∧ StrsC (CWS w') a1 ws ∧ StrsC (CWS w') a2 ps ∧ Below w.heap.size w w'
set_option maxRecDepth 100000 in
set_option maxHeartbeats 4000000 in
theorem slot_any (L : Int) (q : Bool) (idx : Int) (a1 a2 : Option Addr) (k1 k2 : Nat) (ws ps : List ByteArray) (w : World) (h1 : StrsC (CW w) a1 ws) (h2 : StrsC (CW w) a2 ps) (n1 : len ws ≤ 9223372036854775807) (n2 : len ps ≤ 9223372036854775807) :
    Calls Tryz.prog 33 #[.agg #[.int .u64 L, .bool q, .int .u64 idx, .slice a1 (len ws) k1, .slice a2 (len ps) k2]] w (SlotIs L q idx (textsP ws 70) (textsP ps 20) w) := by
  have H1 := Lib.hid (fun (w' : World) (hb : Below w.heap.size w w') => texts_any a1 k1 ws 70 w' (h1.low hb) n1 (by decide))
  have H2 := Lib.hid (fun (w' : World) (hb : Below w.heap.size w w') => texts_any a2 k2 ps 20 w' (h2.low hb) n2 (by decide))
  clear h1 h2
  generalize textsP ws 70 = ws' at H1
  generalize textsP ps 20 = ps' at H2
  go_enter Tryz.func33, Tryz.ntmps33
  go_upto_region 1 with fail
  obtain ⟨sb, hsb⟩ : ∃ sb, w.heap.size = sb := ⟨_, rfl⟩
  obtain ⟨V, hV⟩ : ∃ V, (w.alloc (.cells #[.int .u64 L, .bool q, .int .u64 idx, .slice a1 (len ws) k1, .slice a2 (len ps) k2] 44)).alloc (.cells #[.int .u64 0, .bool false, .int .u64 0, .slice none 0 0, .slice none 0 0] 44) = V := ⟨_, rfl⟩
  have HB : Hid (Below w.heap.size w V) := Lib.hid (by rw [← hV]; exact balloc (balloc (Below.refl _ _) _) _)
  have HS : Hid (V.heap[sb]? = some (.cells #[.int .u64 L, .bool q, .int .u64 idx, .slice a1 (len ws) k1, .slice a2 (len ps) k2] 44 (0, 0))) := Lib.hid (by rw [← hV, ← hsb]; exact block_alloc (heap_alloc_new _ _) _)
  have HR : Hid (V.heap[sb + 1]? = some (.cells #[.int .u64 0, .bool false, .int .u64 0, .slice none 0 0, .slice none 0 0] 44 (0, 0))) := Lib.hid (by rw [← hV]; exact alloc_new_at _ (by simp [hsb]))
  have HSB := Lib.hid hsb
  try rw [hV]
  try simp only [hsb]
  clear hV hsb
  have cS : ∀ o, V.cell? ⟨sb, o, none⟩ = _ := block_cell HS.out
  go_wp2_with fail
  refine (H1.out V HB.out).mono ?_
  rintro e w1 ⟨b1, c1, rfl, hs, hf, hb⟩
  have HS1 := Lib.hid hs
  have HB1 := Lib.hid (bnext HB.out hb)
  have HSa := Lib.hid ((hb.block _ (lt_of_block HS.out)).trans HS.out)
  have HRa := Lib.hid ((hb.block _ (lt_of_block HR.out)).trans HR.out)
  clear hs hf hb cS HS HR HB
  have cS : ∀ o, w1.cell? ⟨sb, o, none⟩ = _ := block_cell HSa.out
  have fS : ∀ o, w1.frozen? ⟨sb, o, none⟩ = false := block_free HSa.out
  have lS : sb < w1.heap.size := lt_of_block HSa.out
  go_upto_region 2 with fail
  obtain ⟨W1, hW1⟩ : ∃ W1, w1.setCell ⟨sb, 3, none⟩ (.slice b1 (len ws') c1) = W1 := ⟨_, rfl⟩
  have HSb : Hid (W1.heap[sb]? = some (.cells #[.int .u64 L, .bool q, .int .u64 idx, .slice b1 (len ws') c1, .slice a2 (len ps) k2] 44 (0, 0))) := Lib.hid (by rw [← hW1]; exact block_setCell HSa.out _)
  have HRb : Hid (W1.heap[sb + 1]? = some (.cells #[.int .u64 0, .bool false, .int .u64 0, .slice none 0 0, .slice none 0 0] 44 (0, 0))) := Lib.hid (by rw [← hW1]; exact block_setCell_ne HRa.out (show sb + 1 ≠ sb by omega) _)
  have HB2 : Hid (Below w.heap.size w W1) := Lib.hid (by rw [← hW1]; exact bset HB1.out (show w.heap.size ≤ sb by rw [HSB.out]; exact Nat.le_refl _) _)
  have HS2 : Hid (StrsC (CWS W1) b1 ws') := Lib.hid (by rw [← hW1]; exact HS1.out.wset HSa.out (by decide) _)
  clear cS fS lS HSa HRa HB1 HS1
  rw [hW1]
  clear hW1
  have cS : ∀ o, W1.cell? ⟨sb, o, none⟩ = _ := block_cell HSb.out
  go_wp2_with fail
  refine (H2.out W1 HB2.out).mono ?_
  rintro e w2 ⟨b2, c2, rfl, hs, hf, hb⟩
  have HT1 := Lib.hid hs
  have HB3 := Lib.hid (bnext HB2.out hb)
  have HSc := Lib.hid ((hb.block _ (lt_of_block HSb.out)).trans HSb.out)
  have HRc := Lib.hid ((hb.block _ (lt_of_block HRb.out)).trans HRb.out)
  have HS3 : Hid (StrsC (CWS w2) b1 ws') := Lib.hid (HS2.out.wlow hb)
  clear hs hf hb cS HSb HRb HB2 HS2
  have cS : ∀ o, w2.cell? ⟨sb, o, none⟩ = _ := block_cell HSc.out
  have fS : ∀ o, w2.frozen? ⟨sb, o, none⟩ = false := block_free HSc.out
  have lS : sb < w2.heap.size := lt_of_block HSc.out
  go_upto_region 3 with fail
  obtain ⟨W2, hW2⟩ : ∃ W2, w2.setCell ⟨sb, 4, none⟩ (.slice b2 (len ps') c2) = W2 := ⟨_, rfl⟩
  have HSd : Hid (W2.heap[sb]? = some (.cells #[.int .u64 L, .bool q, .int .u64 idx, .slice b1 (len ws') c1, .slice b2 (len ps') c2] 44 (0, 0))) := Lib.hid (by rw [← hW2]; exact block_setCell HSc.out _)
  have HRd : Hid (W2.heap[sb + 1]? = some (.cells #[.int .u64 0, .bool false, .int .u64 0, .slice none 0 0, .slice none 0 0] 44 (0, 0))) := Lib.hid (by rw [← hW2]; exact block_setCell_ne HRc.out (show sb + 1 ≠ sb by omega) _)
  have HB4 : Hid (Below w.heap.size w W2) := Lib.hid (by rw [← hW2]; exact bset HB3.out (show w.heap.size ≤ sb by rw [HSB.out]; exact Nat.le_refl _) _)
  have HS4 : Hid (StrsC (CWS W2) b1 ws') := Lib.hid (by rw [← hW2]; exact HS3.out.wset HSc.out (by decide) _)
  have HT2 : Hid (StrsC (CWS W2) b2 ps') := Lib.hid (by rw [← hW2]; exact HT1.out.wset HSc.out (by decide) _)
  clear cS fS lS HSc HRc HB3 HS3 HT1
  rw [hW2]
  clear hW2
  have cS : ∀ o, W2.cell? ⟨sb, o, none⟩ = _ := block_cell HSd.out
  have g0 : ∀ o, W2.cell? ⟨sb + 1, o, none⟩ = _ := block_cell HRd.out
  have g1 : ∀ o, W2.frozen? ⟨sb + 1, o, none⟩ = false := block_free HRd.out
  have g2 : sb + 1 < W2.heap.size := lt_of_block HRd.out
  go_wp2
  have hb5 := block_setCell (block_setCell (block_setCell (block_setCell (block_setCell HRd.out (o := 0) (.int .u64 L)) (o := 1) (.bool q)) (o := 2) (.int .u64 idx)) (o := 3) (.slice b1 (len ws') c1)) (o := 4) (.slice b2 (len ps') c2)
  have d : ∀ o, _ = _ := block_cell hb5
  have hset : ∀ {a : Option Addr} {l : List ByteArray}, StrsC (CWS W2) a l → StrsC (CWS (((((W2.setCell ⟨sb + 1, 0, none⟩ (.int .u64 L)).setCell ⟨sb + 1, 1, none⟩ (.bool q)).setCell ⟨sb + 1, 2, none⟩ (.int .u64 idx)).setCell ⟨sb + 1, 3, none⟩ (.slice b1 (len ws') c1)).setCell ⟨sb + 1, 4, none⟩ (.slice b2 (len ps') c2))) a l := fun h =>
    ((((h.wset HRd.out (by decide) _).wset (block_setCell HRd.out _) (by decide) _).wset (block_setCell (block_setCell HRd.out _) _) (by decide) _).wset (block_setCell (block_setCell (block_setCell HRd.out _) _) _) (by decide) _).wset (block_setCell (block_setCell (block_setCell (block_setCell HRd.out _) _) _) _) (by decide) _
  have hle : w.heap.size ≤ sb + 1 := by rw [HSB.out]; omega
  refine bodyPost_ret (v := .agg #[.int .u64 L, .bool q, .int .u64 idx, .slice b1 (len ws') c1, .slice b2 (len ps') c2]) ?_ rfl ⟨b1, c1, b2, c2, rfl, hset HS4.out, hset HT2.out, bset (bset (bset (bset (bset HB4.out hle _) hle _) hle _) hle _) hle _⟩
  simp [results, Tryz.results33, go_sem, d]
end Go.Proofs.YtihiaopilnjonaaGreatDoor
namespace Go.Proofs.YtihiaopilnjonaaGreatDoor
open Go.RowKit
set_option linter.unusedSimpArgs false
set_option linter.unusedVariables false
def recV (r : Except Flt Rcd) (x0 : Rcd) : Rcd := match r with | .ok x => x | .error _ => x0
def fltV (r : Except Flt Rcd) : Flt := match r with | .ok _ => (0, 0) | .error f => f
def NeV (r : Except Flt Rcd) : Prop := match r with | .ok _ => True | .error f => f.1 ≠ 0
def Tells (B : Nat) (ev : Value) (r : Except Flt Rcd) (w : World) : Prop := NeV r → ∀ w', Below w.heap.size w w' → TE7 B w' → Calls Tryz.prog 31 #[ev, .agg #[.int .i64 (fltV r).1, .int .i64 (fltV r).2]] w' fun e w'' => e = .returned (.bool true) ∧ Below w'.heap.size w' w''
theorem tells_ok (B : Nat) (x : Rcd) (w : World) : Tells B .nilIface (.ok x) w := fun _ w' _ _ => told_none w'
theorem tells_no {B fb : Nat} {f : Flt} {w : World} (h : FltB w fb f.1 f.2) : Tells B (.iface 127 (.pointer (some ⟨fb, 0, none⟩))) (.error f) w := fun hn w' hb ht =>
  told_fault fb f.1 f.2 w' ht.e (h.below hb) hn (Nat.lt_of_lt_of_le ht.g ht.s)
theorem Tells.below {B : Nat} {ev : Value} {r : Except Flt Rcd} {w w' : World} (h : Tells B ev r w) (hb : Below w.heap.size w w') : Tells B ev r w' := fun hn w'' hb2 ht => h hn w'' (bnext hb hb2) ht
end Go.Proofs.YtihiaopilnjonaaGreatDoor
namespace Go.Proofs.YtihiaopilnjonaaGreatDoor
open Go.RowKit
set_option linter.unusedSimpArgs false
set_option linter.unusedVariables false
theorem textOf_yes {fs : List FSpec} (h : allMay fs = true) : TextOf fs = layP fs := by unfold TextOf; rw [h]; rfl
theorem codeOf_yes {fs : List FSpec} (h : allMay fs = true) : CodeOf fs = 0 := by unfold CodeOf; rw [h]; rfl
theorem codeOf_no {fs : List FSpec} (h : allMay fs = false) : CodeOf fs = 2 := by unfold CodeOf; rw [h]; rfl
def EvOf (r : Except Flt Rcd) (ev : Value) : Prop := match r with
  | .ok _ => ev = .nilIface
  | .error _ => ∃ fb, ev = .iface 127 (.pointer (some ⟨fb, 0, none⟩))
theorem TE7.up {B : Nat} {w : World} (h : TE7 B w) : PTab w.heap.size w := ⟨Nat.lt_of_lt_of_le h.p.glob h.p.size, Nat.le_refl _, fun k hk => by
  obtain ⟨tb, tq, rc, h1, h2, h3⟩ := h.p.tab k hk
  exact ⟨tb, tq, rc, Nat.lt_of_lt_of_le h1 h.p.size, h2, h3⟩⟩
theorem StrsC.at {w : World} {a : Option Addr} {l : List ByteArray} (h : StrsC (CW w) a l) : Strs w.heap.size w a l := h.imp fun b o x hc => CW.at hc
def NmsC (C : CP) (a : Option Addr) (l : List Int) : Prop := ∀ i, i < len l → ∃ b off, a = some ⟨b, off, none⟩ ∧ C b (off + i) (.int .u64 (nth l i))
theorem NmsC.imp {C D : CP} (h : ∀ b o x, C b o x → D b o x) {a : Option Addr} {l : List Int} (hs : NmsC C a l) : NmsC D a l := fun i hi => by
  obtain ⟨b, off, e, hc⟩ := hs i hi; exact ⟨b, off, e, h _ _ _ hc⟩
theorem cw_low {w w' : World} (hb : Below w.heap.size w w') (b o : Nat) (x : Value) (hc : CW w b o x) : CW w' b o x := (hb.cell (p := ⟨b, o, none⟩) (lt_of_cell hc)).trans hc
theorem holds_strs {rb tb : Nat} {w : World} {a : Option Addr} {c n : Nat} {d : DV} (hk : kindD d = 3) (h : HoldsD rb tb w (.slice a n c) d) : StrsC (CW w) a d.l := by
  cases d <;> first | cases hk | skip
  obtain ⟨a', c', e, _, _, ht⟩ := h
  cases e
  exact fun i hi => ht.1 i hi
theorem holds_nums {rb tb : Nat} {w : World} {a : Option Addr} {c n : Nat} {d : DV} (hk : kindD d = 4) (h : HoldsD rb tb w (.slice a n c) d) : NmsC (CW w) a d.ns := by
  cases d <;> first | cases hk | skip
  obtain ⟨a', c', e, _, _, ht⟩ := h
  cases e
  exact fun i hi => ht.1 i hi
theorem holds_revs {rb tb : Nat} {w : World} {a : Option Addr} {c n : Nat} {d : DV} (hk : kindD d = 5) (h : HoldsD rb tb w (.slice a n c) d) : RvsC (CW w) a d.rs := by
  cases d <;> first | cases hk | skip
  obtain ⟨a', c', e, _, _, rs, hl, hr, hi⟩ := h
  cases e
  intro i hi'
  obtain ⟨b, off, e, hc⟩ := hr i (by rw [hl]; exact hi')
  have h := hi i hi'
  refine ⟨b, off, e, ?_⟩
  show RevCl (CW w) b (off + i * 11) (lth _ i)
  have q0 := hc.c0
  rw [h.pos] at q0
  have q1 := hc.c1
  rw [h.L] at q1
  have q2 := hc.c2
  rw [h.signed] at q2
  have q3 := hc.c3
  rw [h.idx] at q3
  have q4 := hc.c4
  rw [h.wn] at q4
  have q5 := hc.c5
  rw [h.pn] at q5
  have q6 := hc.c6
  rw [h.root] at q6
  have q7 := hc.c7
  rw [h.wt] at q7
  have q8 := hc.c8
  rw [h.first] at q8
  have q9 := hc.c9
  rw [h.life] at q9
  have q10 := hc.c10
  rw [h.keys] at q10
  exact ⟨q0, q1, q2, q3, ⟨_, _, q4, fun j hj => h.ws.1 j hj⟩, ⟨_, _, q5, fun j hj => h.ps.1 j hj⟩, q6, q7, q8, q9, q10⟩
theorem strsC_nil (C : CP) (a : Option Addr) : StrsC C a [] := fun i hi => absurd hi (by simp [len])
theorem rqCert_any (B : Nat) (s : ByteArray) (w : World) (h : TE7 B w) (hs : s.size ≤ 9223372036854775807) : Calls Tryz.prog 50 #[.string s] w fun e w' => ∃ ev a2 c2 a3 c3 a4 c4 a5 c5, e = .returned (.tuple #[.agg (cellsCert (recV (readR s (certGs s) cert0) cert0) a2 c2 a3 c3 a4 c4 a5 c5), ev]) ∧ EvOf (readR s (certGs s) cert0) ev ∧ Tells B ev (readR s (certGs s) cert0) w' ∧ RvsC (CW w') a2 (recV (readR s (certGs s) cert0) cert0 2).rs ∧ NmsC (CW w') a3 (recV (readR s (certGs s) cert0) cert0 3).ns ∧ StrsC (CW w') a4 (recV (readR s (certGs s) cert0) cert0 4).l ∧ StrsC (CW w') a5 (recV (readR s (certGs s) cert0) cert0 5).l ∧ Below w.heap.size w w' := by
  refine (reaCert_any B s w h.t h.e h.s h.g hs).mono ?_
  rintro e w' ⟨hb, hh⟩
  cases hr : readR s (certGs s) cert0 with
  | error f =>
    rw [hr] at hh
    obtain ⟨fb, he, hf⟩ := hh
    exact ⟨_, none, 0, none, 0, none, 0, none, 0, he, ⟨fb, rfl⟩, tells_no hf, fun i hi => absurd hi (by simp [len, recV, cert0, DV.rs]), fun i hi => absurd hi (by simp [len, recV, cert0, DV.ns]), strsC_nil _ _, strsC_nil _ _, hb⟩
  | ok y =>
    rw [hr] at hh
    obtain ⟨hk, a2, c2, a3, c3, a4, c4, a5, c5, ⟨rb, tb, hL⟩, he⟩ := hh
    exact ⟨_, a2, c2, a3, c3, a4, c4, a5, c5, he, rfl, tells_ok B y w', holds_revs (hk 2) hL.1, holds_nums (hk 3) hL.2.1, holds_strs (hk 4) hL.2.2.1, holds_strs (hk 5) hL.2.2.2, hb⟩
end Go.Proofs.YtihiaopilnjonaaGreatDoor
namespace Go.Proofs.YtihiaopilnjonaaGreatDoor
open Go.RowKit
set_option linter.unusedSimpArgs false
set_option linter.unusedVariables false
def slotCut (d : RevD) : RevD := { d with ws := textsP d.ws 70, ps := textsP d.ps 20 }
def certRs (l : List RevD) : List RevD := (l.take 8).map slotCut
theorem certRs_len (l : List RevD) : len (certRs l) = min (len l) 8 := by unfold certRs; simp only [len, List.length_map, List.length_take]; omega
theorem certRs_at (l : List RevD) {i : Nat} (hi : i < len (certRs l)) : lth (certRs l) i = slotCut (lth l i) := by
  have hl := certRs_len l
  have h' : i < ((l.take 8).map slotCut).length := hi
  have h2 : i < l.length := by rw [hl, len_eq] at hi; omega
  show lth ((l.take 8).map slotCut) i = _
  rw [lth_eq _ i h', List.getElem_map, List.getElem_take, lth_eq l i h2]
theorem own_rvx {w : World} {base e n : Nat} {v : Value} {l : List RvX} (h : w.ownsRow base e 11 v n (l.flatMap RvX.cells)) : ∃ a c, v = .slice a (len l) c ∧ ∀ i (hi : i < l.length), ∃ b off, a = some ⟨b, off, none⟩ ∧ ∀ j, j < 11 → w.cell? ⟨b, off + i * 11 + j, none⟩ = (l[i].cells)[j]? := by
  have hn : len l = n := by
    have := h.1; rw [flat_length RvX.cells 11 (fun _ => rfl)] at this; rw [len_eq]; omega
  obtain ⟨h1, h2⟩ := h
  rcases h2 with ⟨rfl, h2⟩ | ⟨g, cap, cur, rfl, hg, hh, hc1, hc2, hc3, hc4⟩
  · obtain rfl : l = [] := List.eq_nil_of_length_eq_zero (by rw [← len_eq]; omega)
    exact ⟨none, 0, rfl, fun i hi => by simp at hi⟩
  · refine ⟨some ⟨g, 0, none⟩, cap, by rw [hn], fun i hi => ⟨g, 0, rfl, fun r hr => ?_⟩⟩
    have hown : w.ownsRow base e 11 (.slice (some ⟨g, 0, none⟩) n cap) n (l.flatMap RvX.cells) := ⟨h1, .inr ⟨g, cap, cur, rfl, hg, hh, hc1, hc2, hc3, hc4⟩⟩
    have := hown.cellAt (i * 11 + r) (by rw [← hn, len_eq]; omega)
    rw [Nat.zero_add, this, flat_get RvX.cells 11 (fun _ => rfl) l i r hi hr]
def CertIs (root : ByteArray) (sg : Int) (rs : List RevD) (cs : List Int) (sp pp : List ByteArray) (w : World) (e : Ending) (w' : World) : Prop := ∃ a2 k2 a3 k3 a4 k4 a5 k5, e = .returned (.agg #[.string root, .int .u64 sg, .slice a2 (len rs) k2, .slice a3 (len cs) k3, .slice a4 (len sp) k4, .slice a5 (len pp) k5]) ∧ RvsC (CW w') a2 rs ∧ NmsC (CW w') a3 cs ∧ StrsC (CW w') a4 sp ∧ StrsC (CW w') a5 pp ∧ Below w.heap.size w w'
set_option maxRecDepth 100000 in
theorem slice_to7 {n c k : Nat} (b0 : Option Addr) (hk : k ≤ c) (W : World) : (Instr.slice 25 (.slice b0 n c) none (some (.int .i64 (k : Int))) none).run Tryz.prog W = .ok (.slice b0 k c) W := by
  have hsz : (sizeOf (Tryz.prog.elem 25)).run Tryz.prog W = .ok 1 W := by kernel_rfl
  rw [run_slice_h (P := Tryz.prog) W 25 b0 n c Tryz.underlying25 .i64 (k : Int) (by omega) (by omega), hsz]
  simp only [Result.andThen, sliced, Int.toNat_natCast, Nat.sub_zero, Nat.zero_mul]
  have e : (b0.map (·.add 0)) = b0 := by cases b0 <;> simp [Addr.add]
  rw [e]
  split <;> rfl
theorem CWS.cw {w : World} {b o : Nat} {x : Value} (h : CWS w b o x) : CW w b o x := h.1
def KeepS (w w' : World) : Prop := ∀ (b : Nat) (cs : Array Value), w.heap[b]? = some (.cells cs 9 (0, 0)) → w'.heap[b]? = w.heap[b]?
theorem KeepS.trans {a b c : World} (h : KeepS a b) (k : KeepS b c) : KeepS a c := fun i cs hi => (k i cs ((h i cs hi).trans hi)).trans (h i cs hi)
theorem KeepS.low {w w' : World} (hb : Below w.heap.size w w') : KeepS w w' := fun b cs h => hb.block b (lt_of_block h)
theorem KeepS.set {w : World} {t j : Nat} {cs : Array Value} {T : TypeId} {fr : Nat × Nat} (h : w.heap[t]? = some (.cells cs T fr)) (hT : T ≠ 9) (v : Value) : KeepS w (w.setCell ⟨t, j, none⟩ v) := fun b cs' hb => Below.heap_setCell _ _ _ _ (show b ≠ t from fun e => by subst e; rw [h] at hb; cases hb; exact hT rfl)
theorem KeepS.row {w w' : World} {v : Value} {base n k : Nat} {T : TypeId} {xs : List Value} (ho : w.ownsRow base T k v n xs) (hT : T ≠ 9) (hE : ExtB v.ownBlock w w') : KeepS w w' := fun b cs hb => hE.block b (lt_of_block hb) (fun e => by
  obtain ⟨cs', h⟩ := own_type ho b e.symm
  rw [h] at hb; cases hb; exact hT rfl)
theorem own_but {w w' : World} {base e size n : Nat} {v : Value} {xs : List Value} (h : w.ownsRow base e size v n xs) (hb : ∀ g, v.ownBlock = some g → w'.heap[g]? = w.heap[g]?) : w'.ownsRow base e size v n xs := by
  refine ⟨h.1, ?_⟩
  rcases h.2 with h2 | ⟨g, cap, cur, hv, hg, hh, hr2⟩
  · exact .inl h2
  · exact .inr ⟨g, cap, cur, hv, hg, (hb g (by rw [hv]; rfl)).trans hh, hr2⟩
set_option maxRecDepth 100000 in
set_option maxHeartbeats 8000000 in
theorem cert_any (root : ByteArray) (sg : Int) (rs : List RevD) (cs : List Int) (sp pp : List ByteArray) (a2 a3 a4 a5 : Option Addr) (k2 k3 k4 k5 : Nat) (w : World)
    (h2 : RvsC (CW w) a2 rs) (h3 : NmsC (CW w) a3 cs) (h4 : StrsC (CW w) a4 sp) (h5 : StrsC (CW w) a5 pp) (n2 : len rs ≤ 9223372036854775807) (n3 : len cs ≤ 9223372036854775807) (m3 : len cs ≤ k3) (n4 : len sp ≤ 9223372036854775807) (n5 : len pp ≤ 9223372036854775807)
    (hr : ∀ i, i < len rs → len (lth rs i).ws ≤ 9223372036854775807 ∧ len (lth rs i).ps ≤ 9223372036854775807) :
    Calls Tryz.prog 47 #[.agg #[.string root, .int .u64 sg, .slice a2 (len rs) k2, .slice a3 (len cs) k3, .slice a4 (len sp) k4, .slice a5 (len pp) k5]] w (CertIs root sg (certRs rs) (cs.take 650) (textsP sp 20) (textsP pp 20) w) := by
  have HR := Lib.hid h2
  have HC := Lib.hid h3
  have HRL := Lib.hid hr
  have H4 := Lib.hid (fun (w' : World) (hb : Below w.heap.size w w') => texts_any a4 k4 sp 20 w' (h4.low hb) n4 (by decide))
  have H5 := Lib.hid (fun (w' : World) (hb : Below w.heap.size w w') => texts_any a5 k5 pp 20 w' (h5.low hb) n5 (by decide))
  obtain ⟨nc, hnc⟩ : ∃ n, min (len cs) 650 = n := ⟨_, rfl⟩
  have hcn : len (cs.take 650) = nc := by rw [← hnc]; simp only [len, List.length_take]; omega
  have HCN := Lib.hid hcn
  have mn : min (len cs : Int) 650 = (nc : Int) := by rw [← hnc]; omega
  have hs1 : ∀ W, (Instr.slice 25 (.slice a3 (len cs) k3) none (some (.int .i64 (nc : Int))) none).run Tryz.prog W = .ok (.slice a3 nc k3) W := fun W => slice_to7 a3 (by omega) W
  clear h2 h3 h4 h5 hr hcn
  generalize textsP sp 20 = sp' at H4
  generalize textsP pp 20 = pp' at H5
  generalize len sp = n4' at H4 ⊢
  generalize len pp = n5' at H5 ⊢
  clear hnc
  go_enter Tryz.func47, Tryz.ntmps47
  go_upto_region 1 with fail
  obtain ⟨cb, hcb⟩ : ∃ cb, w.heap.size = cb := ⟨_, rfl⟩
  obtain ⟨V, hV⟩ : ∃ V, (w.alloc (.cells #[.string root, .int .u64 sg, .slice a2 (len rs) k2, .slice a3 (len cs) k3, .slice a4 n4' k4, .slice a5 n5' k5] 28)).alloc (.cells #[.string ⟨#[]⟩, .int .u64 0, .slice none 0 0, .slice none 0 0, .slice none 0 0, .slice none 0 0] 28) = V := ⟨_, rfl⟩
  have HB : Hid (Below w.heap.size w V) := Lib.hid (by rw [← hV]; exact balloc (balloc (Below.refl _ _) _) _)
  have HS : Hid (V.heap[cb]? = some (.cells #[.string root, .int .u64 sg, .slice a2 (len rs) k2, .slice a3 (len cs) k3, .slice a4 n4' k4, .slice a5 n5' k5] 28 (0, 0))) := Lib.hid (by rw [← hV, ← hcb]; exact block_alloc (heap_alloc_new _ _) _)
  have HZ : Hid (V.heap[cb + 1]? = some (.cells #[.string ⟨#[]⟩, .int .u64 0, .slice none 0 0, .slice none 0 0, .slice none 0 0, .slice none 0 0] 28 (0, 0))) := Lib.hid (by rw [← hV]; exact alloc_new_at _ (by simp [hcb]))
  have HCB : Hid (w.heap.size ≤ cb) := Lib.hid (Nat.le_of_eq hcb)
  try rw [hV]
  try simp only [hcb]
  clear hV hcb
  have cS : ∀ o, V.cell? ⟨cb, o, none⟩ = _ := block_cell HS.out
  go_wp2_with fail
  refine (H4.out V HB.out).mono ?_
  rintro e w1 ⟨b4, c4, rfl, hs, _, hb⟩
  have T4 := Lib.hid hs
  have HBa := Lib.hid (bnext HB.out hb)
  have HSa := Lib.hid ((hb.block _ (lt_of_block HS.out)).trans HS.out)
  have HZa := Lib.hid ((hb.block _ (lt_of_block HZ.out)).trans HZ.out)
  clear hs hb cS HS HZ HB
  have cS : ∀ o, w1.cell? ⟨cb, o, none⟩ = _ := block_cell HSa.out
  have fS : ∀ o, w1.frozen? ⟨cb, o, none⟩ = false := block_free HSa.out
  have lS : cb < w1.heap.size := lt_of_block HSa.out
  go_upto_region 2 with fail
  obtain ⟨W1, hW1⟩ : ∃ W1, w1.setCell ⟨cb, 4, none⟩ (.slice b4 (len sp') c4) = W1 := ⟨_, rfl⟩
  have HSb : Hid (W1.heap[cb]? = some (.cells #[.string root, .int .u64 sg, .slice a2 (len rs) k2, .slice a3 (len cs) k3, .slice b4 (len sp') c4, .slice a5 n5' k5] 28 (0, 0))) := Lib.hid (by rw [← hW1]; exact block_setCell HSa.out _)
  have HZb : Hid (W1.heap[cb + 1]? = some (.cells #[.string ⟨#[]⟩, .int .u64 0, .slice none 0 0, .slice none 0 0, .slice none 0 0, .slice none 0 0] 28 (0, 0))) := Lib.hid (by rw [← hW1]; exact block_setCell_ne HZa.out (show cb + 1 ≠ cb by omega) _)
  have HBb : Hid (Below w.heap.size w W1) := Lib.hid (by rw [← hW1]; exact bset HBa.out HCB.out _)
  have T4b : Hid (StrsC (CWS W1) b4 sp') := Lib.hid (by rw [← hW1]; exact T4.out.wset HSa.out (by decide) _)
  rw [hW1]
  clear hW1 cS fS lS HSa HZa HBa T4
  have cS : ∀ o, W1.cell? ⟨cb, o, none⟩ = _ := block_cell HSb.out
  go_wp2_with fail
  refine (H5.out W1 HBb.out).mono ?_
  rintro e w2 ⟨b5, c5, rfl, hs, _, hb⟩
  have T5 := Lib.hid hs
  have T4c := Lib.hid (T4b.out.wlow hb)
  have HBc := Lib.hid (bnext HBb.out hb)
  have HSc := Lib.hid ((hb.block _ (lt_of_block HSb.out)).trans HSb.out)
  have HZc := Lib.hid ((hb.block _ (lt_of_block HZb.out)).trans HZb.out)
  clear hs hb cS HSb HZb HBb T4b
  have cS : ∀ o, w2.cell? ⟨cb, o, none⟩ = _ := block_cell HSc.out
  have fS : ∀ o, w2.frozen? ⟨cb, o, none⟩ = false := block_free HSc.out
  have lS : cb < w2.heap.size := lt_of_block HSc.out
  go_upto_region 3 with fail
  obtain ⟨W2, hW2⟩ : ∃ W2, w2.setCell ⟨cb, 5, none⟩ (.slice b5 (len pp') c5) = W2 := ⟨_, rfl⟩
  have HSd : Hid (W2.heap[cb]? = some (.cells #[.string root, .int .u64 sg, .slice a2 (len rs) k2, .slice a3 (len cs) k3, .slice b4 (len sp') c4, .slice b5 (len pp') c5] 28 (0, 0))) := Lib.hid (by rw [← hW2]; exact block_setCell HSc.out _)
  have HZd : Hid (W2.heap[cb + 1]? = some (.cells #[.string ⟨#[]⟩, .int .u64 0, .slice none 0 0, .slice none 0 0, .slice none 0 0, .slice none 0 0] 28 (0, 0))) := Lib.hid (by rw [← hW2]; exact block_setCell_ne HZc.out (show cb + 1 ≠ cb by omega) _)
  have HBd : Hid (Below w.heap.size w W2) := Lib.hid (by rw [← hW2]; exact bset HBc.out HCB.out _)
  have T4d : Hid (StrsC (CWS W2) b4 sp') := Lib.hid (by rw [← hW2]; exact T4c.out.wset HSc.out (by decide) _)
  have T5d : Hid (StrsC (CWS W2) b5 pp') := Lib.hid (by rw [← hW2]; exact T5.out.wset HSc.out (by decide) _)
  rw [hW2]
  clear hW2 cS fS lS HSc HZc HBc T4c T5
  have cS : ∀ o, W2.cell? ⟨cb, o, none⟩ = _ := block_cell HSd.out
  have fS : ∀ o, W2.frozen? ⟨cb, o, none⟩ = false := block_free HSd.out
  have lS : cb < W2.heap.size := lt_of_block HSd.out
  go_upto_region 4 with fail
  obtain ⟨W3, hW3⟩ : ∃ W3, W2.setCell ⟨cb, 3, none⟩ (.slice a3 nc k3) = W3 := ⟨_, rfl⟩
  have HSe : Hid (W3.heap[cb]? = some (.cells #[.string root, .int .u64 sg, .slice a2 (len rs) k2, .slice a3 nc k3, .slice b4 (len sp') c4, .slice b5 (len pp') c5] 28 (0, 0))) := Lib.hid (by rw [← hW3]; exact block_setCell HSd.out _)
  have HZe : Hid (W3.heap[cb + 1]? = some (.cells #[.string ⟨#[]⟩, .int .u64 0, .slice none 0 0, .slice none 0 0, .slice none 0 0, .slice none 0 0] 28 (0, 0))) := Lib.hid (by rw [← hW3]; exact block_setCell_ne HZd.out (show cb + 1 ≠ cb by omega) _)
  have HBe : Hid (Below w.heap.size w W3) := Lib.hid (by rw [← hW3]; exact bset HBd.out HCB.out _)
  have T4e : Hid (StrsC (CWS W3) b4 sp') := Lib.hid (by rw [← hW3]; exact T4d.out.wset HSd.out (by decide) _)
  have T5e : Hid (StrsC (CWS W3) b5 pp') := Lib.hid (by rw [← hW3]; exact T5d.out.wset HSd.out (by decide) _)
  rw [hW3]
  clear hW3 cS fS lS HSd HZd HBd T4d T5d hs1 mn
  obtain ⟨N, hN⟩ : ∃ N, min (len rs) 8 = N := ⟨_, rfl⟩
  have hN1 : N ≤ len rs ∧ N ≤ 8 ∧ (N = len rs ∨ N = 8) := by omega
  obtain ⟨i0, hi, hz0, hz1, hz2⟩ := info_parts info_rev
  go_wp2
  go_loopg [3, 4, 5] N (fun g lv i x5 wr => ∃ (m : Nat) (acc : List RvX), g + m = N ∧ i = .int .i64 m ∧ Hid (acc.map (fun x => x.d) = (rs.take m).map slotCut) ∧ Hid (Below W3.heap.size W3 wr) ∧ Hid (wr.ownsRow W3.heap.size 48 11 lv m (acc.flatMap RvX.cells)) ∧ Hid (∀ x ∈ acc, StrsC (CWS wr) x.wa x.d.ws ∧ StrsC (CWS wr) x.pa x.d.ps))
  case atStart => exact ⟨0, [], rfl, rfl, rfl, Below.refl _ _, World.ownsRow_nil _ _ _ _, fun x hx => by cases hx⟩
  case round =>
    obtain ⟨m, acc, hm, rfl, HA, HW, HO, HT⟩ := hrel
    by_cases hlt : m < N
    · have i1 : (m : Int) < len rs := by omega
      have i2 : (m : Int) < 8 := by omega
      have hbw : Below w.heap.size w wr := bnext HBe.out HW.out
      have hcl : cb < wr.heap.size := Nat.lt_of_lt_of_le (lt_of_block HSe.out) HW.out.size
      obtain ⟨gb, go, ha2, hc⟩ := HR.out m (by omega)
      have hrl := HRL.out m (by omega)
      have hml : m < rs.length := by have := len_eq rs; omega
      have HTK : Hid ((rs.take (m + 1)).map slotCut = acc.map (fun x => x.d) ++ [slotCut (lth rs m)]) := Lib.hid (by
        rw [HA.out, List.take_succ_eq_append_getElem hml, List.map_append, lth_eq rs m hml]; rfl)
      generalize lth rs m = d at hc hrl HTK
      have HSw := Lib.hid ((HW.out.block _ (lt_of_block HSe.out)).trans HSe.out)
      have cS : ∀ o, wr.cell? ⟨cb, o, none⟩ = _ := block_cell HSw.out
      obtain ⟨wa, wk, q4, s4⟩ := hc.c4
      obtain ⟨pa, pk, q5, s5⟩ := hc.c5
      have e0 : wr.cell? ⟨gb, go + m * 11, none⟩ = some _ := cw_low hbw _ _ _ hc.c0
      have e1 : wr.cell? ⟨gb, go + m * 11 + 1, none⟩ = some _ := cw_low hbw _ _ _ hc.c1
      have e2 : wr.cell? ⟨gb, go + m * 11 + 2, none⟩ = some _ := cw_low hbw _ _ _ hc.c2
      have e3 : wr.cell? ⟨gb, go + m * 11 + 3, none⟩ = some _ := cw_low hbw _ _ _ hc.c3
      have e4 : wr.cell? ⟨gb, go + m * 11 + 4, none⟩ = some _ := cw_low hbw _ _ _ q4
      have e5 : wr.cell? ⟨gb, go + m * 11 + 5, none⟩ = some _ := cw_low hbw _ _ _ q5
      have e6 : wr.cell? ⟨gb, go + m * 11 + 6, none⟩ = some _ := cw_low hbw _ _ _ hc.c6
      have e7 : wr.cell? ⟨gb, go + m * 11 + 7, none⟩ = some _ := cw_low hbw _ _ _ hc.c7
      have e8 : wr.cell? ⟨gb, go + m * 11 + 8, none⟩ = some _ := cw_low hbw _ _ _ hc.c8
      have e9 : wr.cell? ⟨gb, go + m * 11 + 9, none⟩ = some _ := cw_low hbw _ _ _ hc.c9
      have e10 : wr.cell? ⟨gb, go + m * 11 + 10, none⟩ = some _ := cw_low hbw _ _ _ hc.c10
      have HSL := Lib.hid (fun (w' : World) (hb : Below w.heap.size w w') => slot_any d.L d.signed d.idx wa pa wk pk d.ws d.ps w' (s4.imp (cw_low hb)) (s5.imp (cw_low hb)) hrl.1 hrl.2)
      subst ha2
      clear hc q4 q5 s4 s5 hrl
      go_upto_region 9 with fail
      obtain ⟨xb, hxb⟩ : ∃ xb, wr.heap.size = xb := ⟨_, rfl⟩
      obtain ⟨W4, hW4⟩ : ∃ W4, wr.alloc (.cells #[.int .u64 d.pos, .int .u64 d.L, .bool d.signed, .int .u64 d.idx, .slice wa (len d.ws) wk, .slice pa (len d.ps) pk, .string d.root, .int .u64 d.wt, .int .u64 d.first, .int .u64 d.life, .int .u64 d.keys] 48) = W4 := ⟨_, rfl⟩
      have hb4 : Below wr.heap.size wr W4 := by rw [← hW4]; exact balloc (Below.refl _ _) _
      have HX4 : Hid (W4.heap[xb]? = some (.cells #[.int .u64 d.pos, .int .u64 d.L, .bool d.signed, .int .u64 d.idx, .slice wa (len d.ws) wk, .slice pa (len d.ps) pk, .string d.root, .int .u64 d.wt, .int .u64 d.first, .int .u64 d.life, .int .u64 d.keys] 48 (0, 0))) := Lib.hid (by rw [← hW4, ← hxb]; exact heap_alloc_new _ _)
      have HO4 := Lib.hid (own_below HO.out hb4)
      have HT4 : Hid (KeepS wr W4) := Lib.hid (KeepS.low hb4)
      have HW4 := Lib.hid (bnext HW.out hb4)
      have HXB : Hid (W3.heap.size ≤ xb ∧ ∀ g, u3.ownBlock = some g → g ≠ xb) := Lib.hid ⟨by rw [← hxb]; exact HW.out.size, fun g hg => by have := (HO.out.lt g hg).2; omega⟩
      simp only [hW4, hxb]
      clear hW4 hxb hb4 cS e0 e1 e2 e3 e4 e5 e6 e7 e8 e9 e10
      have cX : ∀ o, W4.cell? ⟨xb, o, none⟩ = _ := block_cell HX4.out
      go_wp2_with fail
      refine (HSL.out W4 (bnext HBe.out HW4.out)).mono ?_
      rintro e w5 ⟨x1, y1, x2, y2, rfl, hx1, hx2, hb⟩
      have HX1 := Lib.hid hx1
      have HX2 := Lib.hid hx2
      have HX5 := Lib.hid ((hb.block _ (lt_of_block HX4.out)).trans HX4.out)
      have HO5 := Lib.hid (own_below HO4.out hb)
      have HT5 : Hid (KeepS wr w5) := Lib.hid (HT4.out.trans (KeepS.low hb))
      have HW5 := Lib.hid (bnext HW4.out hb)
      clear hx1 hx2 hb cX HX4 HO4 HT4 HW4 HSL
      have cX : ∀ o, w5.cell? ⟨xb, o, none⟩ = _ := block_cell HX5.out
      have fX : ∀ o, w5.frozen? ⟨xb, o, none⟩ = false := block_free HX5.out
      have lX : xb < w5.heap.size := lt_of_block HX5.out
      go_upto_region 10 with fail
      obtain ⟨W6, hW6⟩ : ∃ W6, ((((w5.setCell ⟨xb, 1, none⟩ (.int .u64 d.L)).setCell ⟨xb, 2, none⟩ (.bool d.signed)).setCell ⟨xb, 3, none⟩ (.int .u64 d.idx)).setCell ⟨xb, 4, none⟩ (.slice x1 (len (textsP d.ws 70)) y1)).setCell ⟨xb, 5, none⟩ (.slice x2 (len (textsP d.ps 20)) y2) = W6 := ⟨_, rfl⟩
      have HX6 : Hid (W6.heap[xb]? = some (.cells #[.int .u64 d.pos, .int .u64 d.L, .bool d.signed, .int .u64 d.idx, .slice x1 (len (textsP d.ws 70)) y1, .slice x2 (len (textsP d.ps 20)) y2, .string d.root, .int .u64 d.wt, .int .u64 d.first, .int .u64 d.life, .int .u64 d.keys] 48 (0, 0))) := Lib.hid (by rw [← hW6]; exact block_setCell (block_setCell (block_setCell (block_setCell (block_setCell HX5.out _) _) _) _) _)
      have HK6 : Hid (KeepS w5 W6) := Lib.hid (by
        rw [← hW6]
        exact ((((KeepS.set HX5.out (by decide) _).trans (KeepS.set (block_setCell HX5.out _) (by decide) _)).trans (KeepS.set (block_setCell (block_setCell HX5.out _) _) (by decide) _)).trans (KeepS.set (block_setCell (block_setCell (block_setCell HX5.out _) _) _) (by decide) _)).trans (KeepS.set (block_setCell (block_setCell (block_setCell (block_setCell HX5.out _) _) _) _) (by decide) _))
      have HO6 : Hid (W6.ownsRow W3.heap.size 48 11 u3 m (acc.flatMap RvX.cells)) := Lib.hid (own_but HO5.out fun g hg => by
        have hne := HXB.out.2 g hg
        rw [← hW6, Below.heap_setCell _ _ _ _ hne, Below.heap_setCell _ _ _ _ hne, Below.heap_setCell _ _ _ _ hne, Below.heap_setCell _ _ _ _ hne, Below.heap_setCell _ _ _ _ hne])
      have HW6 : Hid (Below W3.heap.size W3 W6) := Lib.hid (by
        rw [← hW6]
        have h := HXB.out.1
        exact bset (bset (bset (bset (bset HW5.out h _) h _) h _) h _) h _)
      have HX1 : Hid (StrsC (CWS W6) x1 (textsP d.ws 70)) := Lib.hid (HX1.out.wkeep HK6.out)
      have HX2 : Hid (StrsC (CWS W6) x2 (textsP d.ps 20)) := Lib.hid (HX2.out.wkeep HK6.out)
      have HT6 : Hid (KeepS wr W6) := Lib.hid (HT5.out.trans HK6.out)
      rw [hW6]
      clear hW6 cX fX lX HX5 HO5 HT5 HW5 HK6
      have cX : ∀ o, W6.cell? ⟨xb, o, none⟩ = _ := block_cell HX6.out
      have hws : W3.heap.size ≤ W6.heap.size := HW6.out.size
      go_wp2_with (at_builtin; refine wpList_append_own _ rfl _ _ 24 rfl W3.heap.size 48 i0 (.agg Rev.zero.cells.toArray) 11 128 Tryz.underlying24 hi hz0 hz1 hz2 rfl (by decide) _ _ _ rfl (HO6.out.alloc _) ⟨W6.heap.size, 0, none⟩ 1 1 [.int .u64 d.pos, .int .u64 d.L, .bool d.signed, .int .u64 d.idx, .slice x1 (len (textsP d.ws 70)) y1, .slice x2 (len (textsP d.ps 20)) y2, .string d.root, .int .u64 d.wt, .int .u64 d.first, .int .u64 d.life, .int .u64 d.keys] rfl rfl ?c1 ?c2 ?c3 ?c4 ?c5 ?_)
      case c1 => exact World.news_of_block (heap_alloc_new _ _)
      case c2 => intro u hu; simp at hu; rcases hu with rfl | rfl | rfl | rfl | rfl | rfl | rfl | rfl | rfl | rfl | rfl <;> rfl
      case c3 => unfold maxLen; omega
      case c4 => omega
      case c5 => simp; omega
      intro v' w7 hown' hgrow hnil
      have HO7 : Hid (w7.ownsRow W3.heap.size 48 11 v' (m + 1) ((acc ++ [(⟨slotCut d, x1, y1, x2, y2⟩ : RvX)]).flatMap RvX.cells)) := Lib.hid (by rw [List.flatMap_append]; exact hown')
      have HK7 : Hid (KeepS wr w7) := Lib.hid (HT6.out.trans ((KeepS.low (balloc (Below.refl _ _) _)).trans (KeepS.row (HO6.out.alloc _) (by decide) hgrow)))
      have HX1 : Hid (StrsC (CWS w7) x1 (textsP d.ws 70)) := Lib.hid (HX1.out.wkeep ((KeepS.low (balloc (Below.refl _ _) _)).trans (KeepS.row (HO6.out.alloc _) (by decide) hgrow)))
      have HX2 : Hid (StrsC (CWS w7) x2 (textsP d.ps 20)) := Lib.hid (HX2.out.wkeep ((KeepS.low (balloc (Below.refl _ _) _)).trans (KeepS.row (HO6.out.alloc _) (by decide) hgrow)))
      have HT7 : Hid (∀ x ∈ acc ++ [(⟨slotCut d, x1, y1, x2, y2⟩ : RvX)], StrsC (CWS w7) x.wa x.d.ws ∧ StrsC (CWS w7) x.pa x.d.ps) := Lib.hid (fun x hx => by
        rcases List.mem_append.1 hx with h | h
        · exact ⟨(HT.out x h).1.wkeep HK7.out, (HT.out x h).2.wkeep HK7.out⟩
        · rw [List.mem_singleton] at h; subst h; exact ⟨HX1.out, HX2.out⟩)
      have HW7 : Hid (Below W3.heap.size W3 w7) := Lib.hid (by
        have h9 := HO6.out.lt
        have hb : Below W3.heap.size W6 w7 := by
          refine ⟨hgrow.os, hgrow.tape, hgrow.output, by have := hgrow.size; simp at this; omega, fun i hi => ?_⟩
          rw [hgrow.block i (by simp; omega) (fun e => by have := (h9 i e.symm).1; omega)]
          exact Below.heap_alloc _ _ _ (by omega)
        exact HW6.out.trans hb)
      have HA7 : Hid ((acc ++ [(⟨slotCut d, x1, y1, x2, y2⟩ : RvX)]).map (fun x => x.d) = (rs.take (m + 1)).map slotCut) := Lib.hid (by rw [HTK.out, List.map_append]; rfl)
      clear hown' hgrow hnil cX hws
      go_wp2
      go_roundg (N - (m + 1))
      case rel => exact ⟨m + 1, _, by omega, by go_num, HA7.out, HW7.out, HO7.out, HT7.out⟩
      case measure => omega
    · obtain rfl : m = N := by omega
      have HF : Hid (acc.map (fun x => x.d) = certRs rs) := Lib.hid (by
        rw [HA.out]; unfold certRs
        rcases hN1.2.2 with h | h
        · rw [h, List.take_of_length_le (by rw [len_eq]; exact Nat.le_refl _), List.take_of_length_le (by rw [← len_eq]; omega)]
        · rw [h])
      obtain ⟨la, lc, hlv, hcell⟩ := own_rvx HO.out
      have HOL := Lib.hid HO.out.lt
      have HCE := Lib.hid hcell
      have HSw := Lib.hid ((HW.out.block _ (lt_of_block HSe.out)).trans HSe.out)
      have HZw := Lib.hid ((HW.out.block _ (lt_of_block HZe.out)).trans HZe.out)
      have T4w := Lib.hid (T4e.out.wlow HW.out)
      have T5w := Lib.hid (T5e.out.wlow HW.out)
      have cS : ∀ o, wr.cell? ⟨cb, o, none⟩ = _ := block_cell HSw.out
      have fS : ∀ o, wr.frozen? ⟨cb, o, none⟩ = false := block_free HSw.out
      have lS : cb < wr.heap.size := lt_of_block HSw.out
      have HAL : Hid (len acc = len (certRs rs)) := Lib.hid (by rw [← HF.out]; simp only [len, List.length_map])
      subst hlv
      clear hcell
      have hcases : ((m : Int) < len rs ∧ ¬ (m : Int) < 8) ∨ ¬ (m : Int) < len rs := by omega
      rcases hcases with ⟨i1, i2⟩ | i1
      all_goals
        go_upto_region 12 with fail
        obtain ⟨W8, hW8⟩ : ∃ W8, wr.setCell ⟨cb, 2, none⟩ (.slice la (len acc) lc) = W8 := ⟨_, rfl⟩
        have HS8 : Hid (W8.heap[cb]? = some (.cells #[.string root, .int .u64 sg, .slice la (len acc) lc, .slice a3 nc k3, .slice b4 (len sp') c4, .slice b5 (len pp') c5] 28 (0, 0))) := Lib.hid (by rw [← hW8]; exact block_setCell HSw.out _)
        have HZ8 : Hid (W8.heap[cb + 1]? = some (.cells #[.string ⟨#[]⟩, .int .u64 0, .slice none 0 0, .slice none 0 0, .slice none 0 0, .slice none 0 0] 28 (0, 0))) := Lib.hid (by rw [← hW8]; exact block_setCell_ne HZw.out (show cb + 1 ≠ cb by omega) _)
        have HB8 : Hid (Below w.heap.size w W8) := Lib.hid (by rw [← hW8]; exact bset (bnext HBe.out HW.out) HCB.out _)
        have hbut8 : Hid (∀ k : Nat, k ≠ cb → W8.heap[k]? = wr.heap[k]?) := Lib.hid (fun k hk => by rw [← hW8, Below.heap_setCell _ _ _ _ hk])
        rw [hW8]
        clear hW8 cS fS lS
        have cS : ∀ o, W8.cell? ⟨cb, o, none⟩ = _ := block_cell HS8.out
        have g0 : ∀ o, W8.cell? ⟨cb + 1, o, none⟩ = _ := block_cell HZ8.out
        have g1 : ∀ o, W8.frozen? ⟨cb + 1, o, none⟩ = false := block_free HZ8.out
        have g2 : cb + 1 < W8.heap.size := lt_of_block HZ8.out
        go_wp2
        have hb9 := block_setCell (block_setCell (block_setCell (block_setCell (block_setCell (block_setCell HZ8.out (o := 0) (.string root)) (o := 1) (.int .u64 sg)) (o := 2) (.slice la (len acc) lc)) (o := 3) (.slice a3 nc k3)) (o := 4) (.slice b4 (len sp') c4)) (o := 5) (.slice b5 (len pp') c5)
        have dd : ∀ o, _ = _ := block_cell hb9
        have hle : w.heap.size ≤ cb + 1 := Nat.le_trans HCB.out (Nat.le_succ _)
        obtain ⟨F, hF⟩ : ∃ F, (((((W8.setCell ⟨cb + 1, 0, none⟩ (.string root)).setCell ⟨cb + 1, 1, none⟩ (.int .u64 sg)).setCell ⟨cb + 1, 2, none⟩ (.slice la (len acc) lc)).setCell ⟨cb + 1, 3, none⟩ (.slice a3 nc k3)).setCell ⟨cb + 1, 4, none⟩ (.slice b4 (len sp') c4)).setCell ⟨cb + 1, 5, none⟩ (.slice b5 (len pp') c5) = F := ⟨_, rfl⟩
        have hbut : ∀ k : Nat, k ≠ cb → k ≠ cb + 1 → F.heap[k]? = wr.heap[k]? := fun k h1 h2 => by
          rw [← hF, Below.heap_setCell _ _ _ _ h2, Below.heap_setCell _ _ _ _ h2, Below.heap_setCell _ _ _ _ h2, Below.heap_setCell _ _ _ _ h2, Below.heap_setCell _ _ _ _ h2, Below.heap_setCell _ _ _ _ h2]
          exact hbut8.out k h1
        have hFB : Below w.heap.size w F := by
          rw [← hF]
          exact bset (bset (bset (bset (bset (bset HB8.out hle _) hle _) hle _) hle _) hle _) hle _
        have hKS : KeepS wr F := fun b cs hb => hbut b (fun e => by subst e; rw [HSw.out] at hb; cases hb) (fun e => by subst e; rw [HZw.out] at hb; cases hb)
        rw [hF] at dd ⊢
        refine bodyPost_ret (v := .agg #[.string root, .int .u64 sg, .slice la (len acc) lc, .slice a3 nc k3, .slice b4 (len sp') c4, .slice b5 (len pp') c5]) ?_ rfl ⟨la, lc, a3, k3, b4, c4, b5, c5, by rw [HAL.out, HCN.out], fun i hi => ?_, fun i hi => ?_, (T4w.out.wkeep hKS).imp fun _ _ _ h => h.cw, (T5w.out.wkeep hKS).imp fun _ _ _ h => h.cw, hFB⟩
        · simp [results, Tryz.results47, go_sem, dd]
        · have hia : i < acc.length := by rw [← HAL.out, len_eq] at hi; exact hi
          obtain ⟨b, off, hla, hce⟩ := HCE.out i hia
          have hbl := HOL.out b (by rw [hla]; rfl)
          have hz := lt_of_block HZe.out
          have hFc : ∀ j, j < 11 → F.cell? ⟨b, off + i * 11 + j, none⟩ = (acc[i].cells)[j]? := fun j hj => by
            rw [World.cell?_of_block (w := wr) (hbut b (by omega) (by omega))]; exact hce j hj
          have hd : lth (certRs rs) i = acc[i].d := by
            rw [← HF.out, lth_eq _ i (by simpa using hia), List.getElem_map]
          have ht := HT.out acc[i] (List.getElem_mem _)
          have e0 := hFc 0 (by decide)
          rw [Nat.add_zero] at e0
          rw [hd]
          exact ⟨b, off, hla, e0, hFc 1 (by decide), hFc 2 (by decide), hFc 3 (by decide), ⟨_, _, hFc 4 (by decide), (ht.1.wkeep hKS).imp fun _ _ _ h => h.cw⟩, ⟨_, _, hFc 5 (by decide), (ht.2.wkeep hKS).imp fun _ _ _ h => h.cw⟩, hFc 6 (by decide), hFc 7 (by decide), hFc 8 (by decide), hFc 9 (by decide), hFc 10 (by decide)⟩
        · have hil : i < cs.length := by rw [HCN.out] at hi; have := HCN.out; simp only [len, List.length_take] at this; omega
          obtain ⟨b, off, e, hc⟩ := HC.out i (by rw [len_eq]; exact hil)
          have hn : nth (cs.take 650) i = nth cs i := by
            have hi' : i < (cs.take 650).length := hi
            rw [nth_eq _ i hi', nth_eq cs i hil, List.getElem_take]
          rw [hn]
          exact ⟨b, off, e, cw_low hFB _ _ _ hc⟩
end Go.Proofs.YtihiaopilnjonaaGreatDoor
namespace Go.Proofs.YtihiaopilnjonaaGreatDoor
open Go.RowKit
set_option linter.unusedSimpArgs false
set_option linter.unusedVariables false
structure CertArg (w : World) (root : ByteArray) (sg : Int) (a2 : Option Addr) (rs : List RevD) (a3 : Option Addr) (k3 : Nat) (cs : List Int) (a4 : Option Addr) (sp : List ByteArray) (a5 : Option Addr) (pp : List ByteArray) : Prop where
  root : root.size ≤ maxLen
  sg : U64i sg
  r : RvsC (CW w) a2 rs
  rn : len rs ≤ maxLen
  ro : ∀ i, i < len rs → RvOp (lth rs i)
  c : NmsC (CW w) a3 cs
  cn : len cs ≤ k3
  ck : k3 ≤ maxLen
  cu : ∀ i, i < len cs → U64i (nth cs i)
  s : StrsC (CW w) a4 sp
  sn : len sp ≤ maxLen
  p : StrsC (CW w) a5 pp
  pn : len pp ≤ maxLen
theorem maxLen_le {n : Nat} (h : n ≤ maxLen) : n ≤ 9223372036854775807 := by unfold maxLen at h; omega
theorem certArg_cut {w : World} {root : ByteArray} {sg : Int} {a2 : Option Addr} {rs : List RevD} {a3 : Option Addr} {k3 : Nat} {cs : List Int} {a4 : Option Addr} {sp : List ByteArray} {a5 : Option Addr} {pp : List ByteArray} (h : CertArg w root sg a2 rs a3 k3 cs a4 sp a5 pp) (k2 k4 k5 : Nat) :
    Calls Tryz.prog 47 #[.agg #[.string root, .int .u64 sg, .slice a2 (len rs) k2, .slice a3 (len cs) k3, .slice a4 (len sp) k4, .slice a5 (len pp) k5]] w (CertIs root sg (certRs rs) (cs.take 650) (textsP sp 20) (textsP pp 20) w) :=
  cert_any root sg rs cs sp pp a2 a3 a4 a5 k2 k3 k4 k5 w h.r h.c h.s h.p (maxLen_le h.rn) (maxLen_le (Nat.le_trans h.cn h.ck)) h.cn (maxLen_le h.sn) (maxLen_le h.pn) (fun i hi => ⟨maxLen_le (h.ro i hi).ws, maxLen_le (h.ro i hi).ps⟩)
theorem CertArg.low {w w' : World} {root : ByteArray} {sg : Int} {a2 : Option Addr} {rs : List RevD} {a3 : Option Addr} {k3 : Nat} {cs : List Int} {a4 : Option Addr} {sp : List ByteArray} {a5 : Option Addr} {pp : List ByteArray} (h : CertArg w root sg a2 rs a3 k3 cs a4 sp a5 pp) (hb : Below w.heap.size w w') : CertArg w' root sg a2 rs a3 k3 cs a4 sp a5 pp :=
  ⟨h.root, h.sg, h.r.imp (cw_low hb), h.rn, h.ro, h.c.imp (cw_low hb), h.cn, h.ck, h.cu, h.s.imp (cw_low hb), h.sn, h.p.imp (cw_low hb), h.pn⟩
structure CertFit (root : ByteArray) (sg : Int) (rs : List RevD) (cs : List Int) (sp pp : List ByteArray) : Prop where
  bd : CtBd root sg rs cs sp pp
  ok : CertOkD sg rs cs
theorem textsP_le (l : List ByteArray) (n : Nat) (hn : n ≤ 100000) : len (textsP l n) ≤ 100000 := by rw [textsP_len]; omega
theorem rvbd_cut {d : RevD} (h : RvOp d) : RvBd (slotCut d) := ⟨h.pos, h.L, h.idx, h.wt, h.first, h.life, h.keys, textsP_le _ _ (by decide), textsP_le _ _ (by decide), maxLen_le h.root⟩
theorem rvok_of {d : RevD} (h : RvBd d) : RvOk d := fun o => by
  unfold revC
  split <;> first | exact h.pos | exact h.L | trivial | exact h.idx | exact h.wt | exact h.first | exact h.life | exact h.keys
theorem fit_of {root : ByteArray} {sg : Int} {rs : List RevD} {cs : List Int} {sp pp : List ByteArray} (h : CtBd root sg rs cs sp pp) : CertFit root sg rs cs sp pp := by
  refine ⟨h, h.sg, fun n hn => ?_, fun r hr => ?_⟩
  · obtain ⟨i, hi, rfl⟩ := List.getElem_of_mem hn
    rw [← nth_eq cs i hi]; exact h.cs i hi
  · obtain ⟨i, hi, rfl⟩ := List.getElem_of_mem hr
    rw [← lth_eq rs i hi]; exact rvok_of (h.rs i hi)
theorem CertArg.fit {w : World} {root : ByteArray} {sg : Int} {a2 : Option Addr} {rs : List RevD} {a3 : Option Addr} {k3 : Nat} {cs : List Int} {a4 : Option Addr} {sp : List ByteArray} {a5 : Option Addr} {pp : List ByteArray} (h : CertArg w root sg a2 rs a3 k3 cs a4 sp a5 pp) : CertFit root sg (certRs rs) (cs.take 650) (textsP sp 20) (textsP pp 20) := by
  refine fit_of ⟨maxLen_le h.root, h.sg, by rw [certRs_len]; omega, fun i hi => ?_, ?_, fun i hi => ?_, textsP_le _ _ (by decide), textsP_le _ _ (by decide)⟩
  · rw [certRs_at rs hi]
    exact rvbd_cut (h.ro i (by rw [certRs_len] at hi; omega))
  · simp only [len, List.length_take]; omega
  · have hi' : i < (cs.take 650).length := hi
    have hil : i < cs.length := by rw [List.length_take] at hi'; omega
    rw [nth_eq _ i hi', List.getElem_take, ← nth_eq cs i hil]
    exact h.cu i (by rw [len_eq]; exact hil)
theorem wcert_now (B : Nat) {root : ByteArray} {sg : Int} {rs : List RevD} {cs : List Int} {sp pp : List ByteArray} (hf : CertFit root sg rs cs sp pp) (a2 a3 a4 a5 : Option Addr) (k2 k3 k4 k5 : Nat) (w : World) (h : TE7 B w) (s2 : RvsC (CW w) a2 rs) (s3 : NmsC (CW w) a3 cs) (s4 : StrsC (CW w) a4 sp) (s5 : StrsC (CW w) a5 pp) :
    Calls Tryz.prog 48 #[.agg #[.string root, .int .u64 sg, .slice a2 (len rs) k2, .slice a3 (len cs) k3, .slice a4 (len sp) k4, .slice a5 (len pp) k5]] w (LaidIs (certSpecs root sg rs cs sp pp) w) :=
  wcert2_any w.heap.size root sg rs cs sp pp a2 a3 a4 a5 k2 k3 k4 k5 w h.up (s2.imp fun _ _ _ h => CW.at h) (s3.imp fun _ _ _ h => CW.at h) s4.at s5.at hf.bd (fun h => Nat.le_trans (certSz h) (by decide))
theorem layP_pos (fs : List FSpec) (hn : fs.length < 65536) : 0 < (layP fs).size := by
  unfold layP
  rw [ByteArray.size_append]
  have h := laid_pos 4 (keptF fs).length ByteArray.empty (by decide) (fun _ => by have := kept_le fs; omega)
  have e : (mapP (keptF fs).length).size = (laidP 4 ((keptF fs).length : Nat) ByteArray.empty).size := rfl
  omega
theorem split_at (s : ByteArray) {k : Nat} (h : k ≤ s.size) : s = s.extract 0 k ++ s.extract k s.size := ba_ext (by
  rw [ByteArray.data_append, Array.toList_append, Lib.extract_data, Lib.extract_data, List.drop_zero, Nat.sub_zero, List.take_of_length_le (l := s.data.toList.drop k) (by rw [List.length_drop, ba_len]; exact Nat.le_refl _), List.take_append_drop])
set_option maxRecDepth 100000 in
set_option maxHeartbeats 8000000 in
theorem cuts7_law (B : Nat) (root : ByteArray) (sg : Int) (a2 a3 a4 a5 : Option Addr) (k2 k3 k4 k5 : Nat) (rs : List RevD) (cs : List Int) (sp pp : List ByteArray) (ta : Int) (more : ByteArray) (w : World) (h : TE7 B w) (hA : CertArg w root sg a2 rs a3 k3 cs a4 sp a5 pp) (ha : 0 ≤ ta ∧ ta ≤ 65535) (hmr : more.size ≤ 9223372036854775807) :
    Calls Tryz.prog 11 #[.agg #[.string root, .int .u64 sg, .slice a2 (len rs) k2, .slice a3 (len cs) k3, .slice a4 (len sp) k4, .slice a5 (len pp) k5], .int .u16 ta, .string more] w fun e w' => e = .returned (.bool true) ∧ Below w.heap.size w w' := by
  have HE := Lib.hid h
  have HCC := Lib.hid (fun (w' : World) (hb : Below w.heap.size w w') => certArg_cut (hA.low hb) k2 k4 k5)
  have HFIT := Lib.hid hA.fit
  clear h hA
  generalize certRs rs = rs' at HCC HFIT
  generalize cs.take 650 = cs' at HCC HFIT
  generalize textsP sp 20 = sp' at HCC HFIT
  generalize textsP pp 20 = pp' at HCC HFIT
  generalize len rs = l2 at HCC ⊢
  generalize len cs = l3 at HCC ⊢
  generalize len sp = l4 at HCC ⊢
  generalize len pp = l5 at HCC ⊢
  obtain ⟨j, hj⟩ : ∃ k, min more.size 100 = k := ⟨_, rfl⟩
  have mn : min (more.size : Int) 100 = (j : Int) := by rw [← hj]; omega
  have sl : j ≤ more.size := by rw [← hj]; exact Nat.min_le_left _ _
  obtain ⟨v0, hv0⟩ : ∃ v, more.extract 0 j = v := ⟨_, rfl⟩
  have HV0 : Hid (v0.size ≤ 100) := Lib.hid (by rw [← hv0, ByteArray.size_extract]; omega)
  clear hj
  go_enter Tryz.func11, Tryz.ntmps11
  go_upto_region 1 with fail
  obtain ⟨cb, hcb⟩ : ∃ cb, w.heap.size = cb := ⟨_, rfl⟩
  obtain ⟨V, hV⟩ : ∃ V, w.alloc (.cells #[.string root, .int .u64 sg, .slice a2 l2 k2, .slice a3 l3 k3, .slice a4 l4 k4, .slice a5 l5 k5] 28) = V := ⟨_, rfl⟩
  have HB : Hid (Below w.heap.size w V) := Lib.hid (by rw [← hV]; exact balloc (Below.refl _ _) _)
  have HS : Hid (V.heap[cb]? = some (.cells #[.string root, .int .u64 sg, .slice a2 l2 k2, .slice a3 l3 k3, .slice a4 l4 k4, .slice a5 l5 k5] 28 (0, 0))) := Lib.hid (by rw [← hV, ← hcb]; exact heap_alloc_new _ _)
  have HE := Lib.hid (HE.out.below HB.out)
  simp only [hV, hcb]
  clear hV hcb
  go_wp2_with fail
  refine (works7_any B V HE.out).mono ?_
  rintro e u0 ⟨rfl, hb⟩
  have HB := Lib.hid (bnext HB.out hb)
  have HE := Lib.hid (HE.out.below hb)
  have HS := Lib.hid ((hb.block _ (lt_of_block HS.out)).trans HS.out)
  clear hb
  have cS : ∀ o, u0.cell? ⟨cb, o, none⟩ = _ := block_cell HS.out
  go_wp2_with fail
  refine (HCC.out u0 HB.out).mono ?_
  rintro e u1 ⟨b2, c2, b3, c3, b4, c4, b5, c5, rfl, hr2, hr3, hr4, hr5, hb⟩
  have HB := Lib.hid (bnext HB.out hb)
  have HE := Lib.hid (HE.out.below hb)
  have HWC := Lib.hid (wcert_now B HFIT.out b2 b3 b4 b5 c2 c3 c4 c5 u1 HE.out hr2 hr3 hr4 hr5)
  clear hb cS hr2 hr3 hr4 hr5 HS
  obtain ⟨fs, hfs⟩ : ∃ fs, certSpecs root sg rs' cs' sp' pp' = fs := ⟨_, rfl⟩
  rw [hfs] at HWC
  have HFS := Lib.hid hfs
  clear hfs
  go_wp2_with fail
  refine HWC.out.mono ?_
  rintro e u2 hh
  obtain ⟨rfl, hb⟩ := hh.both
  have HB := Lib.hid (bnext HB.out hb)
  have HE := Lib.hid (HE.out.below hb)
  clear hh hb
  cases hm : allMay fs with
  | false =>
    rw [codeOf_no hm]
    clear hm
    go_wp2
    go_ret
    exact ⟨rfl, HB.out⟩
  | true =>
    rw [codeOf_yes hm, textOf_yes hm]
    have hsz := layP_pos fs (by rw [← HFS.out]; show 6 < 65536; decide)
    have hsz2 : (layP fs).size ≤ 400000000 := by rw [← HFS.out] at hm ⊢; exact certSz hm
    have HFO : Hid (∀ s : ByteArray, s = layP fs → ∃ y, readR s (certGs s) cert0 = .ok y) := Lib.hid (fun s hs => by
      rw [← HFS.out] at hm hs
      obtain ⟨y, hy, _⟩ := cert_forth HFIT.out.ok hm hs
      exact ⟨y, hy⟩)
    have HMO : Hid (∀ s t : ByteArray, t.size ≠ 0 → s = layP fs ++ t → ∃ f, readR s (certGs s) cert0 = .error f) := Lib.hid (fun s t ht hs => by
      rw [← HFS.out] at hm hs
      exact cert_more HFIT.out.ok hm ht hs)
    have HCU : Hid (∀ s t u : ByteArray, s = layP fs → s = u ++ t → t.size ≠ 0 → ∃ f, readR u (certGs u) cert0 = .error f) := Lib.hid (fun s t u hs hu ht => by
      rw [← HFS.out] at hm hs
      exact cert_cut HFIT.out.ok hm hs hu ht)
    clear hm
    obtain ⟨S, hS⟩ : ∃ S, layP fs = S := ⟨_, rfl⟩
    rw [hS] at hsz hsz2 HFO HMO HCU ⊢
    clear hS
    have HSZ := Lib.hid hsz2
    have hne : S.toList.isEmpty = false := full_of (by omega)
    obtain ⟨k, hk⟩ : ∃ k, ta.toNat % S.size = k := ⟨_, rfl⟩
    have hkl : k < S.size := by rw [← hk]; exact Nat.mod_lt _ hsz
    have hr1 : ta % (S.size : Int) = (k : Int) := by rw [← hk]; have : ta = (ta.toNat : Int) := by omega
                                                     rw [this]; simp
    have hr2 : Int.tmod ta (S.size : Int) = (k : Int) := by rw [Int.tmod_eq_emod_of_nonneg ha.1]; exact hr1
    have hz : ¬ (S.size : Int) = 0 := by omega
    have hkl2 : k ≤ S.size := Nat.le_of_lt hkl
    obtain ⟨u, hu⟩ : ∃ u, S.extract 0 k = u := ⟨_, rfl⟩
    have HCR : Hid (∃ f, readR u (certGs u) cert0 = .error f) := Lib.hid (HCU.out S (S.extract k S.size) u rfl (by rw [← hu]; exact split_at S hkl2) (by rw [ByteArray.size_extract]; omega))
    have HUZ : Hid (u.size ≤ 9223372036854775807) := Lib.hid (by rw [← hu, ByteArray.size_extract]; omega)
    clear hk hsz hsz2
    go_wp2_with fail
    refine (rqCert_any B u u2 HE.out HUZ.out).mono ?_
    rintro e u3 ⟨ev, d2, e2, d3, e3, d4, e4, d5, e5, rfl, hev, _, _, _, _, _, hb⟩
    obtain ⟨f, hf⟩ := HCR.out
    rw [hf] at hev
    obtain ⟨fb, rfl⟩ := hev
    rw [hf]
    have HB := Lib.hid (bnext HB.out hb)
    have HE := Lib.hid (HE.out.below hb)
    clear hb hf
    unfold cellsCert
    generalize (recV (Except.error f) cert0 0).s = y0
    generalize (recV (Except.error f) cert0 1).n = y1
    generalize len (recV (Except.error f) cert0 2).rs = y2
    generalize len (recV (Except.error f) cert0 3).ns = y3
    generalize len (recV (Except.error f) cert0 4).l = y4
    generalize len (recV (Except.error f) cert0 5).l = y5
    obtain ⟨t, ht⟩ : ∃ t, S ++ v0 = t := ⟨_, rfl⟩
    have HTZ : Hid (t.size ≤ 9223372036854775807) := Lib.hid (by rw [← ht, ByteArray.size_append]; have := HSZ.out; have := HV0.out; omega)
    have hlen : S.size + v0.size ≤ 9223372036854775807 := by have := HSZ.out; have := HV0.out; omega
    by_cases hq : v0.size = 0
    · have hemp : v0.toList.isEmpty = true := empty_of hq
      have HOK : Hid (∃ y, readR t (certGs t) cert0 = .ok y) := Lib.hid (HFO.out t (by
        rw [← ht]
        refine ba_ext ?_
        rw [ByteArray.data_append, Array.toList_append, List.eq_nil_of_length_eq_zero (l := v0.data.toList) (by rw [ba_len]; exact hq), List.append_nil]))
      clear hq
      go_wp2_with fail
      refine (rqCert_any B t _ (HE.out.below (balloc (Below.refl _ _) _)) HTZ.out).mono ?_
      rintro e u4 ⟨ev, d2, e2, d3, e3, d4, e4, d5, e5, rfl, hev, _, _, _, _, _, hb⟩
      obtain ⟨y, hy⟩ := HOK.out
      rw [hy] at hev ⊢
      obtain rfl : ev = .nilIface := hev
      have HB := Lib.hid (bnext HB.out (bnext (balloc (Below.refl _ _) _) hb))
      clear hb hy
      unfold cellsCert
      generalize (recV (Except.ok y) cert0 0).s = y0
      generalize (recV (Except.ok y) cert0 1).n = y1
      generalize len (recV (Except.ok y) cert0 2).rs = y2
      generalize len (recV (Except.ok y) cert0 3).ns = y3
      generalize len (recV (Except.ok y) cert0 4).l = y4
      generalize len (recV (Except.ok y) cert0 5).l = y5
      go_wp2
      go_ret
      exact ⟨rfl, by (repeat (first | exact Below.refl _ _ | assumption | (refine bdrew ?_) | (refine bdrewN ?_ _) | (refine balloc ?_ _) | (refine bset ?_ (by first | omega | (simp; done) | (simp; omega)) _) | (refine bnext ?_ (by assumption))))⟩
    · have hemp : v0.toList.isEmpty = false := full_of hq
      have HNO : Hid (∃ f, readR t (certGs t) cert0 = .error f) := Lib.hid (HMO.out t v0 hq ht.symm)
      clear hq
      go_wp2_with fail
      refine (rqCert_any B t _ (HE.out.below (balloc (Below.refl _ _) _)) HTZ.out).mono ?_
      rintro e u4 ⟨ev, d2, e2, d3, e3, d4, e4, d5, e5, rfl, hev, _, _, _, _, _, hb⟩
      obtain ⟨f2, hf2⟩ := HNO.out
      rw [hf2] at hev ⊢
      obtain ⟨fb2, rfl⟩ := hev
      have HB := Lib.hid (bnext HB.out (bnext (balloc (Below.refl _ _) _) hb))
      clear hb hf2
      unfold cellsCert
      generalize (recV (Except.error f2) cert0 0).s = y0
      generalize (recV (Except.error f2) cert0 1).n = y1
      generalize len (recV (Except.error f2) cert0 2).rs = y2
      generalize len (recV (Except.error f2) cert0 3).ns = y3
      generalize len (recV (Except.error f2) cert0 4).l = y4
      generalize len (recV (Except.error f2) cert0 5).l = y5
      go_wp2
      go_ret
      exact ⟨rfl, by (repeat (first | exact Below.refl _ _ | assumption | (refine bdrew ?_) | (refine bdrewN ?_ _) | (refine balloc ?_ _) | (refine bset ?_ (by first | omega | (simp; done) | (simp; omega)) _) | (refine bnext ?_ (by assumption))))⟩
end Go.Proofs.YtihiaopilnjonaaGreatDoor
