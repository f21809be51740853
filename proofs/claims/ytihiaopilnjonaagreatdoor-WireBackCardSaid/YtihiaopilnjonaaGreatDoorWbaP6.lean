/- Parts of the proof, one behind the other. -/
import Derived.Test.YtihiaopilnjonaaGreatDoorWbaP5
import Derived.LaidMore
import Derived.LaidHandle
import Derived.Stop.Joined
import Derived.ChangeVars
import Derived.JoinedOf
import Derived.RowKitTokens
import Derived.StillTailTactics
import Derived.BigRegion
namespace Go.Proofs.YtihiaopilnjonaaGreatDoor
open Go.RowKit Go.ChangeShapes Go.WideShapes Go.ChangeAt Go.Deep
set_option linter.unusedSimpArgs false
set_option linter.unusedVariables false
def CW (w : World) : CP := fun b o x => w.cell? ⟨b, o, none⟩ = some x
theorem CW.at {w : World} {b o : Nat} {x : Value} (h : CW w b o x) : CellAt w.heap.size w b o x := ⟨h, .inl (lt_of_cell h)⟩
section
variable {H : Type} {enc : TypeId × Value → H} {P : Program} {w : World}
theorem slice_read {α : Type} {t e : TypeId} (k : Nat) (cells : α → List Value) (ok : α → Prop) (ht : P.underlying t = some (.slice e)) (hC : P.cellsOf e = k) (hk : 0 < k)
    (hel : ∀ n cs' y, cs'.length = k → DataW.trod enc P w 0 (fun _ => true) true n e cs' = some y → ∃ x, cs' = cells x ∧ ok x)
    {n : Nat} {v : Value} {y : DataW H × List MemPlace} (h : DataW.trod enc P w 0 (fun _ => true) true n t [v] = some y) :
    ∃ a c, ∃ l : List α, v = .slice a (len l) c ∧ len l ≤ c ∧ c ≤ maxLen ∧ ∀ i (hi : i < l.length), ok l[i] ∧ ∃ b off, a = some ⟨b, off, none⟩ ∧ ∀ j, j < k → w.cell? ⟨b, off + i * k + j, none⟩ = (cells l[i])[j]? := by
  rcases open_slice ht h with ⟨hcs, _⟩ | ⟨a, n0, c0, m, q, D, Pl, hcs, _, hl, hm, hmm, _, hi⟩
  · simp at hcs
    subst hcs
    exact ⟨none, 0, [], rfl, Nat.le_refl _, Nat.zero_le _, fun i hi => by simp at hi⟩
  · simp at hcs
    subst hcs
    have hnm : n0 ≤ m := by rw [hmm]; simp; exact hl
    have each : ∀ i, i < n0 → ∃ x, ok x ∧ ∃ b off, some a = some ⟨b, off, none⟩ ∧ ∀ j, j < k → w.cell? ⟨b, off + i * k + j, none⟩ = (cells x)[j]? := by
      intro i hin
      obtain ⟨cs', hc, htr⟩ := hi i (by omega)
      rw [hC] at hc
      obtain ⟨_, hcl, hat⟩ := World.cells?_some hc
      obtain ⟨x, rfl, hx⟩ := hel q cs' _ hcl htr
      obtain ⟨b, off, spot⟩ := a
      have hspot : spot = none := by
        obtain ⟨cs0, hc0, htr0⟩ := hi 0 (by omega)
        rw [hC] at hc0
        obtain ⟨_, hcl0, hat0⟩ := World.cells?_some hc0
        have h1 := hat0 0 hk
        have h2 : cs0[0]? = some (cs0[0]'(by omega)) := List.getElem?_eq_getElem (by omega)
        rw [h2] at h1
        simpa [Addr.add] using World.cell?_spot h1
      subst hspot
      refine ⟨x, hx, b, off, rfl, fun j hj => ?_⟩
      have h1 := hat j hj
      rw [Go.Deep.add_add] at h1
      have e : (⟨b, off, none⟩ : Addr).add (i * k + j) = ⟨b, off + i * k + j, none⟩ := by
        unfold Addr.add; split
        · rename_i h0; simp <;> omega
        · simp [Nat.add_assoc]
      rw [e] at h1; exact h1
    obtain ⟨l, hll, hp⟩ := list_of each
    subst hll
    exact ⟨some a, c0, l, rfl, hl, hm, hp⟩
theorem strs_read {t e : TypeId} (ht : P.underlying t = some (.slice e)) (he : P.underlying e = some .string) (hC : P.cellsOf e = 1) {n : Nat} {v : Value} {y : DataW H × List MemPlace} (h : DataW.trod enc P w 0 (fun _ => true) true n t [v] = some y) :
    ∃ a c, ∃ l : List ByteArray, v = .slice a (len l) c ∧ len l ≤ c ∧ c ≤ maxLen ∧ StrsC (CW w) a l ∧ ∀ i, i < len l → (sth l i).size ≤ maxLen := by
  obtain ⟨a, c, l, rfl, h1, h2, h3⟩ := slice_read 1 (fun x => [Value.string x]) (fun x : ByteArray => x.size ≤ maxLen) ht hC (by decide) (fun n cs' y hl hy => by
    match cs', hl with
    | [v0], _ =>
      obtain ⟨x, rfl, hw⟩ := str_readw he hy
      exact ⟨x, rfl, hw⟩) h
  refine ⟨a, c, l, rfl, h1, h2, fun i hi => ?_, fun i hi => ?_⟩
  · obtain ⟨_, b, off, e1, e2⟩ := h3 i hi
    refine ⟨b, off, e1, ?_⟩
    have := e2 0 (by decide)
    rw [Nat.mul_one, Nat.add_zero] at this
    show w.cell? ⟨b, off + i, none⟩ = _
    rw [this, sth_eq l i hi]; rfl
  · rw [sth_eq l i hi]; exact (h3 i hi).1
theorem nums_read {t e : TypeId} (ht : P.underlying t = some (.slice e)) (he : P.underlying e = some (.int .u64)) (hC : P.cellsOf e = 1) {n : Nat} {v : Value} {y : DataW H × List MemPlace} (h : DataW.trod enc P w 0 (fun _ => true) true n t [v] = some y) :
    ∃ a c, ∃ l : List Int, v = .slice a (len l) c ∧ len l ≤ c ∧ c ≤ maxLen ∧ (∀ i, i < len l → ∃ b off, a = some ⟨b, off, none⟩ ∧ CW w b (off + i) (.int .u64 (nth l i))) ∧ ∀ i, i < len l → U64i (nth l i) := by
  obtain ⟨a, c, l, rfl, h1, h2, h3⟩ := slice_read 1 (fun x => [Value.int .u64 x]) U64i ht hC (by decide) (fun n cs' y hl hy => by
    match cs', hl with
    | [v0], _ =>
      obtain ⟨x, rfl, hw⟩ := cell_read he hy
      exact ⟨x, rfl, wfi_u64 hw⟩) h
  refine ⟨a, c, l, rfl, h1, h2, fun i hi => ?_, fun i hi => ?_⟩
  · obtain ⟨_, b, off, e1, e2⟩ := h3 i hi
    refine ⟨b, off, e1, ?_⟩
    have := e2 0 (by decide)
    rw [Nat.mul_one, Nat.add_zero] at this
    show w.cell? ⟨b, off + i, none⟩ = _
    rw [this, nth_eq l i hi]; rfl
  · rw [nth_eq l i hi]; exact (h3 i hi).1
theorem bool_readw {n : Nat} {e : TypeId} {v : Value} {y : DataW H × List MemPlace} (he : P.underlying e = some .bool) (h : DataW.trod enc P w 0 (fun _ => true) true n e [v] = some y) : ∃ b, v = .bool b := by
  obtain ⟨b, hx, _⟩ := DataW.trod_bool he h
  exact ⟨b, by simpa using hx⟩
end
section
variable {H : Type} {enc : TypeId × Value → H} {w : World}
set_option maxRecDepth 100000 in
theorem cells_part {n : Nat} {v0 v1 v2 v3 v4 : Value} {y : DataW H × List MemPlace} (h : DataW.trod enc Tryz.prog w 0 (fun _ => true) true n 46 [v0, v1, v2, v3, v4] = some y) :
    ∃ (x0 : ByteArray) (x1 : Int) (x2 : Int) (x3 : Int) (x4 : Int), v0 = .string x0 ∧ v1 = .int .u64 x1 ∧ v2 = .int .u64 x2 ∧ v3 = .int .u64 x3 ∧ v4 = .int .u64 x4 ∧ x0.size ≤ maxLen ∧ U64i x1 ∧ U64i x2 ∧ U64i x3 ∧ U64i x4 := by
  obtain ⟨xs, m, _, _, _, hxl, hx⟩ := DataW.trod_struct Tryz.underlying46 h
  have hxl' : xs.length = 5 := hxl
  have h0 : DataW.trod enc Tryz.prog w 0 (fun _ => true) true m 9 (([v0, v1, v2, v3, v4].drop 0).take (Tryz.prog.cellsOf 9)) = xs[0]? := hx 0 _ rfl
  rw [show Tryz.prog.cellsOf 9 = 1 by kernel_rfl] at h0
  have h1 : DataW.trod enc Tryz.prog w 0 (fun _ => true) true m 23 (([v0, v1, v2, v3, v4].drop 1).take (Tryz.prog.cellsOf 23)) = xs[1]? := hx 1 _ rfl
  rw [show Tryz.prog.cellsOf 23 = 1 by kernel_rfl] at h1
  have h2 : DataW.trod enc Tryz.prog w 0 (fun _ => true) true m 23 (([v0, v1, v2, v3, v4].drop 2).take (Tryz.prog.cellsOf 23)) = xs[2]? := hx 2 _ rfl
  rw [show Tryz.prog.cellsOf 23 = 1 by kernel_rfl] at h2
  have h3 : DataW.trod enc Tryz.prog w 0 (fun _ => true) true m 23 (([v0, v1, v2, v3, v4].drop 3).take (Tryz.prog.cellsOf 23)) = xs[3]? := hx 3 _ rfl
  rw [show Tryz.prog.cellsOf 23 = 1 by kernel_rfl] at h3
  have h4 : DataW.trod enc Tryz.prog w 0 (fun _ => true) true m 23 (([v0, v1, v2, v3, v4].drop 4).take (Tryz.prog.cellsOf 23)) = xs[4]? := hx 4 _ rfl
  rw [show Tryz.prog.cellsOf 23 = 1 by kernel_rfl] at h4
  obtain ⟨z0, rfl, w0⟩ := str_readw Tryz.underlying9 (h0.trans (List.getElem?_eq_getElem (show 0 < xs.length by omega)))
  obtain ⟨z1, rfl, w1⟩ := cell_read Tryz.underlying23 (h1.trans (List.getElem?_eq_getElem (show 1 < xs.length by omega)))
  obtain ⟨z2, rfl, w2⟩ := cell_read Tryz.underlying23 (h2.trans (List.getElem?_eq_getElem (show 2 < xs.length by omega)))
  obtain ⟨z3, rfl, w3⟩ := cell_read Tryz.underlying23 (h3.trans (List.getElem?_eq_getElem (show 3 < xs.length by omega)))
  obtain ⟨z4, rfl, w4⟩ := cell_read Tryz.underlying23 (h4.trans (List.getElem?_eq_getElem (show 4 < xs.length by omega)))
  exact ⟨z0, z1, z2, z3, z4, rfl, rfl, rfl, rfl, rfl, w0, wfi_u64 w1, wfi_u64 w2, wfi_u64 w3, wfi_u64 w4⟩
set_option maxRecDepth 100000 in
theorem cells_sig {n : Nat} {v0 v1 v2 : Value} {y : DataW H × List MemPlace} (h : DataW.trod enc Tryz.prog w 0 (fun _ => true) true n 42 [v0, v1, v2] = some y) :
    ∃ (x0 : Int) (x1a : Option Addr) (x1c : Nat) (x1 : List ByteArray) (x2a : Option Addr) (x2c : Nat) (x2 : List ByteArray), v0 = .int .u64 x0 ∧ v1 = .slice x1a (len x1) x1c ∧ v2 = .slice x2a (len x2) x2c ∧ U64i x0 ∧ (len x1 ≤ maxLen ∧ StrsC (CW w) x1a x1 ∧ ∀ i, i < len x1 → (sth x1 i).size ≤ maxLen) ∧ (len x2 ≤ maxLen ∧ StrsC (CW w) x2a x2 ∧ ∀ i, i < len x2 → (sth x2 i).size ≤ maxLen) := by
  obtain ⟨xs, m, _, _, _, hxl, hx⟩ := DataW.trod_struct Tryz.underlying42 h
  have hxl' : xs.length = 3 := hxl
  have h0 : DataW.trod enc Tryz.prog w 0 (fun _ => true) true m 23 (([v0, v1, v2].drop 0).take (Tryz.prog.cellsOf 23)) = xs[0]? := hx 0 _ rfl
  rw [show Tryz.prog.cellsOf 23 = 1 by kernel_rfl] at h0
  have h1 : DataW.trod enc Tryz.prog w 0 (fun _ => true) true m 26 (([v0, v1, v2].drop 1).take (Tryz.prog.cellsOf 26)) = xs[1]? := hx 1 _ rfl
  rw [show Tryz.prog.cellsOf 26 = 1 by kernel_rfl] at h1
  have h2 : DataW.trod enc Tryz.prog w 0 (fun _ => true) true m 26 (([v0, v1, v2].drop 2).take (Tryz.prog.cellsOf 26)) = xs[2]? := hx 2 _ rfl
  rw [show Tryz.prog.cellsOf 26 = 1 by kernel_rfl] at h2
  obtain ⟨z0, rfl, w0⟩ := cell_read Tryz.underlying23 (h0.trans (List.getElem?_eq_getElem (show 0 < xs.length by omega)))
  obtain ⟨z1a, z1c, z1, rfl, w1, w1', w1S, w1Z⟩ := strs_read Tryz.underlying26 Tryz.underlying9 (by kernel_rfl) (h1.trans (List.getElem?_eq_getElem (show 1 < xs.length by omega)))
  obtain ⟨z2a, z2c, z2, rfl, w2, w2', w2S, w2Z⟩ := strs_read Tryz.underlying26 Tryz.underlying9 (by kernel_rfl) (h2.trans (List.getElem?_eq_getElem (show 2 < xs.length by omega)))
  exact ⟨z0, z1a, z1c, z1, z2a, z2c, z2, rfl, rfl, rfl, wfi_u64 w0, ⟨Nat.le_trans w1 w1', w1S, w1Z⟩, ⟨Nat.le_trans w2 w2', w2S, w2Z⟩⟩
set_option maxRecDepth 100000 in
theorem cells_slot {n : Nat} {v0 v1 v2 v3 v4 : Value} {y : DataW H × List MemPlace} (h : DataW.trod enc Tryz.prog w 0 (fun _ => true) true n 44 [v0, v1, v2, v3, v4] = some y) :
    ∃ (x0 : Int) (x1 : Bool) (x2 : Int) (x3a : Option Addr) (x3c : Nat) (x3 : List ByteArray) (x4a : Option Addr) (x4c : Nat) (x4 : List ByteArray), v0 = .int .u64 x0 ∧ v1 = .bool x1 ∧ v2 = .int .u64 x2 ∧ v3 = .slice x3a (len x3) x3c ∧ v4 = .slice x4a (len x4) x4c ∧ U64i x0 ∧ True ∧ U64i x2 ∧ (len x3 ≤ maxLen ∧ StrsC (CW w) x3a x3 ∧ ∀ i, i < len x3 → (sth x3 i).size ≤ maxLen) ∧ (len x4 ≤ maxLen ∧ StrsC (CW w) x4a x4 ∧ ∀ i, i < len x4 → (sth x4 i).size ≤ maxLen) := by
  obtain ⟨xs, m, _, _, _, hxl, hx⟩ := DataW.trod_struct Tryz.underlying44 h
  have hxl' : xs.length = 3 := hxl
  have h0 : DataW.trod enc Tryz.prog w 0 (fun _ => true) true m 23 (([v0, v1, v2, v3, v4].drop 0).take (Tryz.prog.cellsOf 23)) = xs[0]? := hx 0 _ rfl
  rw [show Tryz.prog.cellsOf 23 = 1 by kernel_rfl] at h0
  have h1 : DataW.trod enc Tryz.prog w 0 (fun _ => true) true m 4 (([v0, v1, v2, v3, v4].drop 1).take (Tryz.prog.cellsOf 4)) = xs[1]? := hx 1 _ rfl
  rw [show Tryz.prog.cellsOf 4 = 1 by kernel_rfl] at h1
  have h2 : DataW.trod enc Tryz.prog w 0 (fun _ => true) true m 42 (([v0, v1, v2, v3, v4].drop 2).take (Tryz.prog.cellsOf 42)) = xs[2]? := hx 2 _ rfl
  rw [show Tryz.prog.cellsOf 42 = 3 by kernel_rfl] at h2
  obtain ⟨z0, rfl, w0⟩ := cell_read Tryz.underlying23 (h0.trans (List.getElem?_eq_getElem (show 0 < xs.length by omega)))
  obtain ⟨z1, rfl⟩ := bool_readw Tryz.underlying4 (h1.trans (List.getElem?_eq_getElem (show 1 < xs.length by omega)))
  obtain ⟨z2_0, z2_1a, z2_1c, z2_1, z2_2a, z2_2c, z2_2, rfl, rfl, rfl, w2_0, w2_1, w2_2⟩ := cells_sig (h2.trans (List.getElem?_eq_getElem (show 2 < xs.length by omega)))
  exact ⟨z0, z1, z2_0, z2_1a, z2_1c, z2_1, z2_2a, z2_2c, z2_2, rfl, rfl, rfl, rfl, rfl, wfi_u64 w0, trivial, w2_0, w2_1, w2_2⟩
set_option maxRecDepth 100000 in
theorem cells_reveal {n : Nat} {v0 v1 v2 v3 v4 v5 v6 v7 v8 v9 v10 : Value} {y : DataW H × List MemPlace} (h : DataW.trod enc Tryz.prog w 0 (fun _ => true) true n 48 [v0, v1, v2, v3, v4, v5, v6, v7, v8, v9, v10] = some y) :
    ∃ (x0 : Int) (x1 : Int) (x2 : Bool) (x3 : Int) (x4a : Option Addr) (x4c : Nat) (x4 : List ByteArray) (x5a : Option Addr) (x5c : Nat) (x5 : List ByteArray) (x6 : ByteArray) (x7 : Int) (x8 : Int) (x9 : Int) (x10 : Int), v0 = .int .u64 x0 ∧ v1 = .int .u64 x1 ∧ v2 = .bool x2 ∧ v3 = .int .u64 x3 ∧ v4 = .slice x4a (len x4) x4c ∧ v5 = .slice x5a (len x5) x5c ∧ v6 = .string x6 ∧ v7 = .int .u64 x7 ∧ v8 = .int .u64 x8 ∧ v9 = .int .u64 x9 ∧ v10 = .int .u64 x10 ∧ U64i x0 ∧ U64i x1 ∧ True ∧ U64i x3 ∧ (len x4 ≤ maxLen ∧ StrsC (CW w) x4a x4 ∧ ∀ i, i < len x4 → (sth x4 i).size ≤ maxLen) ∧ (len x5 ≤ maxLen ∧ StrsC (CW w) x5a x5 ∧ ∀ i, i < len x5 → (sth x5 i).size ≤ maxLen) ∧ x6.size ≤ maxLen ∧ U64i x7 ∧ U64i x8 ∧ U64i x9 ∧ U64i x10 := by
  obtain ⟨xs, m, _, _, _, hxl, hx⟩ := DataW.trod_struct Tryz.underlying48 h
  have hxl' : xs.length = 3 := hxl
  have h0 : DataW.trod enc Tryz.prog w 0 (fun _ => true) true m 23 (([v0, v1, v2, v3, v4, v5, v6, v7, v8, v9, v10].drop 0).take (Tryz.prog.cellsOf 23)) = xs[0]? := hx 0 _ rfl
  rw [show Tryz.prog.cellsOf 23 = 1 by kernel_rfl] at h0
  have h1 : DataW.trod enc Tryz.prog w 0 (fun _ => true) true m 44 (([v0, v1, v2, v3, v4, v5, v6, v7, v8, v9, v10].drop 1).take (Tryz.prog.cellsOf 44)) = xs[1]? := hx 1 _ rfl
  rw [show Tryz.prog.cellsOf 44 = 5 by kernel_rfl] at h1
  have h2 : DataW.trod enc Tryz.prog w 0 (fun _ => true) true m 46 (([v0, v1, v2, v3, v4, v5, v6, v7, v8, v9, v10].drop 6).take (Tryz.prog.cellsOf 46)) = xs[2]? := hx 2 _ rfl
  rw [show Tryz.prog.cellsOf 46 = 5 by kernel_rfl] at h2
  obtain ⟨z0, rfl, w0⟩ := cell_read Tryz.underlying23 (h0.trans (List.getElem?_eq_getElem (show 0 < xs.length by omega)))
  obtain ⟨z1_0, z1_1, z1_2, z1_3a, z1_3c, z1_3, z1_4a, z1_4c, z1_4, rfl, rfl, rfl, rfl, rfl, w1_0, w1_1, w1_2, w1_3, w1_4⟩ := cells_slot (h1.trans (List.getElem?_eq_getElem (show 1 < xs.length by omega)))
  obtain ⟨z2_0, z2_1, z2_2, z2_3, z2_4, rfl, rfl, rfl, rfl, rfl, w2_0, w2_1, w2_2, w2_3, w2_4⟩ := cells_part (h2.trans (List.getElem?_eq_getElem (show 2 < xs.length by omega)))
  exact ⟨z0, z1_0, z1_1, z1_2, z1_3a, z1_3c, z1_3, z1_4a, z1_4c, z1_4, z2_0, z2_1, z2_2, z2_3, z2_4, rfl, rfl, rfl, rfl, rfl, rfl, rfl, rfl, rfl, rfl, rfl, wfi_u64 w0, w1_0, w1_1, w1_2, w1_3, w1_4, w2_0, w2_1, w2_2, w2_3, w2_4⟩
structure RvOp (d : RevD) : Prop where
  pos : U64i d.pos
  L : U64i d.L
  idx : U64i d.idx
  wt : U64i d.wt
  first : U64i d.first
  life : U64i d.life
  keys : U64i d.keys
  ws : len d.ws ≤ maxLen
  wz : ∀ i, i < len d.ws → (sth d.ws i).size ≤ maxLen
  ps : len d.ps ≤ maxLen
  pz : ∀ i, i < len d.ps → (sth d.ps i).size ≤ maxLen
  root : d.root.size ≤ maxLen
structure RvX where
  d : RevD
  wa : Option Addr
  wc : Nat
  pa : Option Addr
  pc : Nat
def RvX.cells (x : RvX) : List Value := [.int .u64 x.d.pos, .int .u64 x.d.L, .bool x.d.signed, .int .u64 x.d.idx, .slice x.wa (len x.d.ws) x.wc, .slice x.pa (len x.d.ps) x.pc, .string x.d.root, .int .u64 x.d.wt, .int .u64 x.d.first, .int .u64 x.d.life, .int .u64 x.d.keys]
set_option maxRecDepth 100000 in
theorem revs_read {n : Nat} {v : Value} {y : DataW H × List MemPlace} (h : DataW.trod enc Tryz.prog w 0 (fun _ => true) true n 24 [v] = some y) :
    ∃ a c, ∃ l : List RevD, v = .slice a (len l) c ∧ len l ≤ maxLen ∧ RvsC (CW w) a l ∧ ∀ i, i < len l → RvOp (lth l i) := by
  obtain ⟨a, c, l, rfl, h1, h2, h3⟩ := slice_read 11 RvX.cells (fun x => RvOp x.d ∧ StrsC (CW w) x.wa x.d.ws ∧ StrsC (CW w) x.pa x.d.ps) Tryz.underlying24 (by kernel_rfl) (by decide) (fun n cs' y hl hy => by
    match cs', hl with
    | [v0, v1, v2, v3, v4, v5, v6, v7, v8, v9, v10], _ =>
      obtain ⟨x0, x1, x2, x3, x4a, x4c, x4, x5a, x5c, x5, x6, x7, x8, x9, x10, rfl, rfl, rfl, rfl, rfl, rfl, rfl, rfl, rfl, rfl, rfl, w0, w1, w2, w3, w4, w5, w6, w7, w8, w9, w10⟩ := cells_reveal hy
      exact ⟨⟨⟨x0, x1, x2, x3, x4, x5, x6, x7, x8, x9, x10⟩, x4a, x4c, x5a, x5c⟩, rfl, ⟨w0, w1, w3, w7, w8, w9, w10, w4.1, w4.2.2, w5.1, w5.2.2, w6⟩, w4.2.1, w5.2.1⟩) h
  have hll : len (l.map fun x => x.d) = len l := by simp [len]
  have hat : ∀ i (hi : i < l.length), lth (l.map fun x => x.d) i = l[i].d := fun i hi => by rw [lth_eq _ i (by simpa using hi), List.getElem_map]
  refine ⟨a, c, l.map fun x => x.d, by rw [hll], by rw [hll]; exact Nat.le_trans h1 h2, fun i hi => ?_, fun i hi => ?_⟩
  · have hi' : i < l.length := by rw [hll] at hi; exact hi
    obtain ⟨⟨_, s4, s5⟩, b, off, e1, e2⟩ := h3 i hi'
    rw [hat i hi']
    refine ⟨b, off, e1, ?_⟩
    have e0 := e2 0 (by decide)
    rw [Nat.add_zero] at e0
    exact ⟨e0, e2 1 (by decide), e2 2 (by decide), e2 3 (by decide), ⟨_, _, e2 4 (by decide), s4⟩, ⟨_, _, e2 5 (by decide), s5⟩, e2 6 (by decide), e2 7 (by decide), e2 8 (by decide), e2 9 (by decide), e2 10 (by decide)⟩
  · have hi' : i < l.length := by rw [hll] at hi; exact hi
    rw [hat i hi']; exact (h3 i hi').1.1
set_option maxRecDepth 100000 in
theorem cells_cert {n : Nat} {v0 v1 v2 v3 v4 v5 : Value} {y : DataW H × List MemPlace} (h : DataW.trod enc Tryz.prog w 0 (fun _ => true) true n 28 [v0, v1, v2, v3, v4, v5] = some y) :
    ∃ (x0 : ByteArray) (x1 : Int) (x2a : Option Addr) (x2c : Nat) (x2 : List RevD) (x3a : Option Addr) (x3c : Nat) (x3 : List Int) (x4a : Option Addr) (x4c : Nat) (x4 : List ByteArray) (x5a : Option Addr) (x5c : Nat) (x5 : List ByteArray), v0 = .string x0 ∧ v1 = .int .u64 x1 ∧ v2 = .slice x2a (len x2) x2c ∧ v3 = .slice x3a (len x3) x3c ∧ v4 = .slice x4a (len x4) x4c ∧ v5 = .slice x5a (len x5) x5c ∧ x0.size ≤ maxLen ∧ U64i x1 ∧ (len x2 ≤ maxLen ∧ RvsC (CW w) x2a x2 ∧ ∀ i, i < len x2 → RvOp (lth x2 i)) ∧ (len x3 ≤ x3c ∧ x3c ≤ maxLen ∧ (∀ i, i < len x3 → ∃ b off, x3a = some ⟨b, off, none⟩ ∧ CW w b (off + i) (.int .u64 (nth x3 i))) ∧ ∀ i, i < len x3 → U64i (nth x3 i)) ∧ (len x4 ≤ maxLen ∧ StrsC (CW w) x4a x4 ∧ ∀ i, i < len x4 → (sth x4 i).size ≤ maxLen) ∧ (len x5 ≤ maxLen ∧ StrsC (CW w) x5a x5 ∧ ∀ i, i < len x5 → (sth x5 i).size ≤ maxLen) := by
  obtain ⟨xs, m, _, _, _, hxl, hx⟩ := DataW.trod_struct Tryz.underlying28 h
  have hxl' : xs.length = 6 := hxl
  have h0 : DataW.trod enc Tryz.prog w 0 (fun _ => true) true m 9 (([v0, v1, v2, v3, v4, v5].drop 0).take (Tryz.prog.cellsOf 9)) = xs[0]? := hx 0 _ rfl
  rw [show Tryz.prog.cellsOf 9 = 1 by kernel_rfl] at h0
  have h1 : DataW.trod enc Tryz.prog w 0 (fun _ => true) true m 23 (([v0, v1, v2, v3, v4, v5].drop 1).take (Tryz.prog.cellsOf 23)) = xs[1]? := hx 1 _ rfl
  rw [show Tryz.prog.cellsOf 23 = 1 by kernel_rfl] at h1
  have h2 : DataW.trod enc Tryz.prog w 0 (fun _ => true) true m 24 (([v0, v1, v2, v3, v4, v5].drop 2).take (Tryz.prog.cellsOf 24)) = xs[2]? := hx 2 _ rfl
  rw [show Tryz.prog.cellsOf 24 = 1 by kernel_rfl] at h2
  have h3 : DataW.trod enc Tryz.prog w 0 (fun _ => true) true m 25 (([v0, v1, v2, v3, v4, v5].drop 3).take (Tryz.prog.cellsOf 25)) = xs[3]? := hx 3 _ rfl
  rw [show Tryz.prog.cellsOf 25 = 1 by kernel_rfl] at h3
  have h4 : DataW.trod enc Tryz.prog w 0 (fun _ => true) true m 26 (([v0, v1, v2, v3, v4, v5].drop 4).take (Tryz.prog.cellsOf 26)) = xs[4]? := hx 4 _ rfl
  rw [show Tryz.prog.cellsOf 26 = 1 by kernel_rfl] at h4
  have h5 : DataW.trod enc Tryz.prog w 0 (fun _ => true) true m 26 (([v0, v1, v2, v3, v4, v5].drop 5).take (Tryz.prog.cellsOf 26)) = xs[5]? := hx 5 _ rfl
  rw [show Tryz.prog.cellsOf 26 = 1 by kernel_rfl] at h5
  obtain ⟨z0, rfl, w0⟩ := str_readw Tryz.underlying9 (h0.trans (List.getElem?_eq_getElem (show 0 < xs.length by omega)))
  obtain ⟨z1, rfl, w1⟩ := cell_read Tryz.underlying23 (h1.trans (List.getElem?_eq_getElem (show 1 < xs.length by omega)))
  obtain ⟨z2a, z2c, z2, rfl, w2, w2S, w2Z⟩ := revs_read (h2.trans (List.getElem?_eq_getElem (show 2 < xs.length by omega)))
  obtain ⟨z3a, z3c, z3, rfl, w3, w3', w3S, w3Z⟩ := nums_read Tryz.underlying25 Tryz.underlying23 (by kernel_rfl) (h3.trans (List.getElem?_eq_getElem (show 3 < xs.length by omega)))
  obtain ⟨z4a, z4c, z4, rfl, w4, w4', w4S, w4Z⟩ := strs_read Tryz.underlying26 Tryz.underlying9 (by kernel_rfl) (h4.trans (List.getElem?_eq_getElem (show 4 < xs.length by omega)))
  obtain ⟨z5a, z5c, z5, rfl, w5, w5', w5S, w5Z⟩ := strs_read Tryz.underlying26 Tryz.underlying9 (by kernel_rfl) (h5.trans (List.getElem?_eq_getElem (show 5 < xs.length by omega)))
  exact ⟨z0, z1, z2a, z2c, z2, z3a, z3c, z3, z4a, z4c, z4, z5a, z5c, z5, rfl, rfl, rfl, rfl, rfl, rfl, w0, wfi_u64 w1, ⟨w2, w2S, w2Z⟩, ⟨w3, w3', w3S, w3Z⟩, ⟨Nat.le_trans w4 w4', w4S, w4Z⟩, ⟨Nat.le_trans w5 w5', w5S, w5Z⟩⟩
set_option maxRecDepth 100000 in
theorem open_cert {v : Value} {d : DataW H} {p : List MemPlace} {r : Reach} {base : Nat} (hv : Value.okWide Tryz.prog w r base 28 v) (h : DataW.Trod enc Tryz.prog w 0 (fun _ => true) true 28 v d p) :
    ∃ (x0 : ByteArray) (x1 : Int) (x2a : Option Addr) (x2c : Nat) (x2 : List RevD) (x3a : Option Addr) (x3c : Nat) (x3 : List Int) (x4a : Option Addr) (x4c : Nat) (x4 : List ByteArray) (x5a : Option Addr) (x5c : Nat) (x5 : List ByteArray), v = .agg #[.string x0, .int .u64 x1, .slice x2a (len x2) x2c, .slice x3a (len x3) x3c, .slice x4a (len x4) x4c, .slice x5a (len x5) x5c] ∧ x0.size ≤ maxLen ∧ U64i x1 ∧ (len x2 ≤ maxLen ∧ RvsC (CW w) x2a x2 ∧ ∀ i, i < len x2 → RvOp (lth x2 i)) ∧ (len x3 ≤ x3c ∧ x3c ≤ maxLen ∧ (∀ i, i < len x3 → ∃ b off, x3a = some ⟨b, off, none⟩ ∧ CW w b (off + i) (.int .u64 (nth x3 i))) ∧ ∀ i, i < len x3 → U64i (nth x3 i)) ∧ (len x4 ≤ maxLen ∧ StrsC (CW w) x4a x4 ∧ ∀ i, i < len x4 → (sth x4 i).size ≤ maxLen) ∧ (len x5 ≤ maxLen ∧ StrsC (CW w) x5a x5 ∧ ∀ i, i < len x5 → (sth x5 i).size ≤ maxLen) := by
  obtain ⟨cs', rfl, hsz⟩ := okWide_struct Tryz.underlying28 hv
  have hsz' : cs'.size = 6 := hsz.trans (by kernel_rfl)
  obtain ⟨l⟩ := cs'
  match l, hsz' with
  | [v0, v1, v2, v3, v4, v5], _ =>
    obtain ⟨fuel, hf⟩ := h
    simp only [Value.cells] at hf
    obtain ⟨x0, x1, x2a, x2c, x2, x3a, x3c, x3, x4a, x4c, x4, x5a, x5c, x5, rfl, rfl, rfl, rfl, rfl, rfl, w0, w1, w2, w3, w4, w5⟩ := cells_cert hf
    exact ⟨x0, x1, x2a, x2c, x2, x3a, x3c, x3, x4a, x4c, x4, x5a, x5c, x5, rfl, w0, w1, w2, w3, w4, w5⟩
end
end Go.Proofs.YtihiaopilnjonaaGreatDoor
namespace Go.Proofs.YtihiaopilnjonaaGreatDoor
set_option linter.unusedSimpArgs false
set_option linter.unusedVariables false
open Go.RowKit Go.ChangeShapes Go.WideShapes Go.ChangeAt
def rowD (r : URow) : DataW Unit := .agg [.lit (.int .u8 r.lo), .lit (.int .u8 r.hi), .lit (.int .i64 r.size), .lit (.int .u64 r.least)]
set_option maxRecDepth 100000 in
theorem laid_row {w : World} {fuel : Nat} {cs' : List Value} {r : URow} {q : List MemPlace} (hl : cs'.length = 4) (h : DataW.trod (fun _ => ()) Tryz.prog w 0 (fun _ => true) false fuel 338 cs' = some (rowD r, q)) : cs' = r.cells := by
  match cs', hl with
  | [v0, v1, v2, v3], _ =>
    obtain ⟨xs, m, _, e, _, hxl, hx⟩ := DataW.trod_struct Tryz.underlying338 h
    have cu : Tryz.prog.cellsOf 5 = 1 := by kernel_rfl
    have ci : Tryz.prog.cellsOf 3 = 1 := by kernel_rfl
    have cq : Tryz.prog.cellsOf 23 = 1 := by kernel_rfl
    have hxl' : xs.length = 4 := hxl
    have h0 : DataW.trod (fun _ => ()) Tryz.prog w 0 (fun _ => true) false m 5 (([v0, v1, v2, v3].drop 0).take (Tryz.prog.cellsOf 5)) = xs[0]? := hx 0 _ rfl
    have h1 : DataW.trod (fun _ => ()) Tryz.prog w 0 (fun _ => true) false m 5 (([v0, v1, v2, v3].drop 1).take (Tryz.prog.cellsOf 5)) = xs[1]? := hx 1 _ rfl
    have h2 : DataW.trod (fun _ => ()) Tryz.prog w 0 (fun _ => true) false m 3 (([v0, v1, v2, v3].drop 2).take (Tryz.prog.cellsOf 3)) = xs[2]? := hx 2 _ rfl
    have h3 : DataW.trod (fun _ => ()) Tryz.prog w 0 (fun _ => true) false m 23 (([v0, v1, v2, v3].drop 3).take (Tryz.prog.cellsOf 23)) = xs[3]? := hx 3 _ rfl
    rw [cu] at h0 h1
    rw [ci] at h2
    rw [cq] at h3
    match xs, hxl' with
    | [x0, x1, x2, x3], _ =>
      obtain ⟨n0, e0, y0, _⟩ := DataW.trod_int Tryz.underlying5 (show DataW.trod (fun _ => ()) Tryz.prog w 0 (fun _ => true) false m 5 [v0] = some x0 from h0)
      obtain ⟨n1, e1, y1, _⟩ := DataW.trod_int Tryz.underlying5 (show DataW.trod (fun _ => ()) Tryz.prog w 0 (fun _ => true) false m 5 [v1] = some x1 from h1)
      obtain ⟨n2, e2, y2, _⟩ := DataW.trod_int Tryz.underlying3 (show DataW.trod (fun _ => ()) Tryz.prog w 0 (fun _ => true) false m 3 [v2] = some x2 from h2)
      obtain ⟨n3, e3, y3, _⟩ := DataW.trod_int Tryz.underlying23 (show DataW.trod (fun _ => ()) Tryz.prog w 0 (fun _ => true) false m 23 [v3] = some x3 from h3)
      subst y0 y1 y2 y3
      simp [rowD] at e e0 e1 e2 e3
      obtain ⟨⟨a0, a1, a2, a3⟩, _⟩ := e
      subst e0 e1 e2 e3
      unfold URow.cells
      rw [a0, a1, a2, a3]
set_option maxRecDepth 100000 in
theorem laid_rows {w : World} {fuel : Nat} {cs : List Value} {l : List URow} {p : List MemPlace} (h : DataW.trod (fun _ => ()) Tryz.prog w 0 (fun _ => true) false fuel 313 cs = some (.slice (l.map rowD) [], p)) (hl : 0 < len l) :
    ∃ tb tq rc, cs = [.slice (some ⟨tb, tq, none⟩) (len l) rc] ∧ URows w (some ⟨tb, tq, none⟩) l := by
  have hC : Tryz.prog.cellsOf 338 = 4 := by kernel_rfl
  rcases Go.Deep.open_slice Tryz.underlying313 h with ⟨_, hx⟩ | ⟨a, n, c, m, q, D, Pl, hcs, _, hln, hm, hmm, hx, hi⟩
  · simp at hx
  · simp only [Prod.mk.injEq, DataW.slice.injEq] at hx
    obtain ⟨⟨hD, _⟩, _⟩ := hx
    have hn : len l = n := by have := congrArg List.length hD; simpa [len] using this
    have hnm : n ≤ m := by rw [hmm]; simp; exact hln
    have each : ∀ i, i < len l → ∃ b off, a = ⟨b, off, none⟩ ∧ URowAt w b (off + i * 4) (unth l i) := fun i hil => by
      obtain ⟨cs', hc, htr⟩ := hi i (by omega)
      rw [hC] at hc
      obtain ⟨_, hcl, hat⟩ := World.cells?_some hc
      have hDi : D i = rowD (unth l i) := by
        have h1 : (l.map rowD)[i]? = ((List.range n).map D)[i]? := by rw [hD]
        have hil' : i < l.length := hil
        rw [List.getElem?_map, List.getElem?_map, List.getElem?_eq_getElem hil', List.getElem?_range (by omega)] at h1
        rw [unth_eq l i hil]
        exact (Option.some.inj h1).symm
      rw [hDi] at htr
      have hcs' := laid_row hcl htr
      obtain ⟨b, off, spot⟩ := a
      have hat0 := hat 0 (by decide)
      rw [hcs'] at hat
      have hspot : spot = none := by
        obtain ⟨cs0, hc0, htr0⟩ := hi 0 (by omega)
        rw [hC] at hc0
        obtain ⟨_, hcl0, hat0⟩ := World.cells?_some hc0
        have h1 := hat0 0 (by decide)
        have h2 : cs0[0]? = some (cs0[0]'(by omega)) := List.getElem?_eq_getElem (by omega)
        rw [h2] at h1
        simpa [Addr.add] using World.cell?_spot h1
      subst hspot
      have key : ∀ j, j < 4 → w.cell? ⟨b, off + i * 4 + j, none⟩ = (unth l i).cells[j]? := fun j hj => by
        have h1 := hat j hj
        rw [Go.Deep.add_add] at h1
        have e : (⟨b, off, none⟩ : Addr).add (i * 4 + j) = ⟨b, off + i * 4 + j, none⟩ := by
          unfold Addr.add; split
          · rename_i h0; simp <;> omega
          · simp [Nat.add_assoc]
        rw [e] at h1; exact h1
      exact ⟨b, off, rfl, key 0 (by decide), key 1 (by decide), key 2 (by decide), key 3 (by decide)⟩
    obtain ⟨b, off, rfl, _⟩ := each 0 hl
    refine ⟨b, off, c, by rw [hn]; exact hcs, fun i hil => ?_⟩
    obtain ⟨b', off', e, hR⟩ := each i hil
    cases e
    exact ⟨b, off, rfl, hR⟩
theorem tab_of {W : World} {nm : String} {g : Nat} {l : List URow} {cs : Array Value} {fuel : Nat} {p : List MemPlace} (hl : 0 < len l) (hg : Tryz.prog.globalNamed nm = some g) (hv : W.var? Tryz.prog nm = some cs)
    (h : DataW.trod (fun _ => ()) Tryz.prog W 0 (fun _ => true) false fuel 313 cs.toList = some (.slice (l.map rowD) [], p)) : TabAt W.heap.size W g l := by
  obtain ⟨tb, tq, rc, hcs, hr⟩ := laid_rows h hl
  have hc : W.cell? ⟨g, 0, none⟩ = some (.slice (some ⟨tb, tq, none⟩) (len l) rc) := by
    have := World.var?_cell hg hv 0
    rw [Array.eq_one_of_toList hcs] at this
    simpa using this
  obtain ⟨b', off', e, hR⟩ := hr 0 hl
  cases e
  exact ⟨tb, tq, rc, lt_of_cell hc, lt_of_cell hR.c0, Nat.le_refl _, hc, hr⟩
theorem oneRow : ((List.range Tryz.prog.types.size).filter fun t => Tryz.prog.rowNamed t [101, 114, 114, 111, 114]) = [59] := by kernel_rfl
end Go.Proofs.YtihiaopilnjonaaGreatDoor
namespace Go.Proofs.YtihiaopilnjonaaGreatDoor
set_option linter.unusedSimpArgs false
set_option linter.unusedVariables false
open Go.RowKit Go.ChangeShapes Go.WideShapes Go.ChangeAt
def rowD5 (r : PRow) : DataW Unit := .agg [.lit (.int .u64 r.below), .lit (.int .u8 r.first), .lit (.int .i64 r.size)]
set_option maxRecDepth 100000 in
theorem laid_prow {w : World} {fuel : Nat} {cs' : List Value} {r : PRow} {q : List MemPlace} (hl : cs'.length = 3) (h : DataW.trod (fun _ => ()) Tryz.prog w 0 (fun _ => true) false fuel 332 cs' = some (rowD5 r, q)) : cs' = r.cells := by
  match cs', hl with
  | [v0, v1, v2], _ =>
    obtain ⟨xs, m, _, e, _, hxl, hx⟩ := DataW.trod_struct Tryz.underlying332 h
    have cu : Tryz.prog.cellsOf 5 = 1 := by kernel_rfl
    have ci : Tryz.prog.cellsOf 3 = 1 := by kernel_rfl
    have cq : Tryz.prog.cellsOf 23 = 1 := by kernel_rfl
    have hxl' : xs.length = 3 := hxl
    have h0 : DataW.trod (fun _ => ()) Tryz.prog w 0 (fun _ => true) false m 23 (([v0, v1, v2].drop 0).take (Tryz.prog.cellsOf 23)) = xs[0]? := hx 0 _ rfl
    have h1 : DataW.trod (fun _ => ()) Tryz.prog w 0 (fun _ => true) false m 5 (([v0, v1, v2].drop 1).take (Tryz.prog.cellsOf 5)) = xs[1]? := hx 1 _ rfl
    have h2 : DataW.trod (fun _ => ()) Tryz.prog w 0 (fun _ => true) false m 3 (([v0, v1, v2].drop 2).take (Tryz.prog.cellsOf 3)) = xs[2]? := hx 2 _ rfl
    rw [cq] at h0
    rw [cu] at h1
    rw [ci] at h2
    match xs, hxl' with
    | [x0, x1, x2], _ =>
      obtain ⟨n0, e0, y0, _⟩ := DataW.trod_int Tryz.underlying23 (show DataW.trod (fun _ => ()) Tryz.prog w 0 (fun _ => true) false m 23 [v0] = some x0 from h0)
      obtain ⟨n1, e1, y1, _⟩ := DataW.trod_int Tryz.underlying5 (show DataW.trod (fun _ => ()) Tryz.prog w 0 (fun _ => true) false m 5 [v1] = some x1 from h1)
      obtain ⟨n2, e2, y2, _⟩ := DataW.trod_int Tryz.underlying3 (show DataW.trod (fun _ => ()) Tryz.prog w 0 (fun _ => true) false m 3 [v2] = some x2 from h2)
      subst y0 y1 y2
      simp [rowD5] at e e0 e1 e2
      obtain ⟨⟨a0, a1, a2⟩, _⟩ := e
      subst e0 e1 e2
      unfold PRow.cells
      rw [a0, a1, a2]
set_option maxRecDepth 100000 in
theorem laid_prows {w : World} {fuel : Nat} {cs : List Value} {l : List PRow} {p : List MemPlace} (h : DataW.trod (fun _ => ()) Tryz.prog w 0 (fun _ => true) false fuel 334 cs = some (.slice (l.map rowD5) [], p)) (hl : 0 < len l) :
    ∃ tb tq rc, cs = [.slice (some ⟨tb, tq, none⟩) (len l) rc] ∧ PRows w (some ⟨tb, tq, none⟩) l := by
  have hC : Tryz.prog.cellsOf 332 = 3 := by kernel_rfl
  rcases Go.Deep.open_slice Tryz.underlying334 h with ⟨_, hx⟩ | ⟨a, n, c, m, q, D, Pl, hcs, _, hln, hm, hmm, hx, hi⟩
  · simp at hx
  · simp only [Prod.mk.injEq, DataW.slice.injEq] at hx
    obtain ⟨⟨hD, _⟩, _⟩ := hx
    have hn : len l = n := by have := congrArg List.length hD; simpa [len] using this
    have hnm : n ≤ m := by rw [hmm]; simp; exact hln
    have each : ∀ i, i < len l → ∃ b off, a = ⟨b, off, none⟩ ∧ PRowAt w b (off + i * 3) (prth l i) := fun i hil => by
      obtain ⟨cs', hc, htr⟩ := hi i (by omega)
      rw [hC] at hc
      obtain ⟨_, hcl, hat⟩ := World.cells?_some hc
      have hDi : D i = rowD5 (prth l i) := by
        have h1 : (l.map rowD5)[i]? = ((List.range n).map D)[i]? := by rw [hD]
        have hil' : i < l.length := hil
        rw [List.getElem?_map, List.getElem?_map, List.getElem?_eq_getElem hil', List.getElem?_range (by omega)] at h1
        rw [prth_eq l i hil]
        exact (Option.some.inj h1).symm
      rw [hDi] at htr
      have hcs' := laid_prow hcl htr
      obtain ⟨b, off, spot⟩ := a
      have hat0 := hat 0 (by decide)
      rw [hcs'] at hat
      have hspot : spot = none := by
        obtain ⟨cs0, hc0, htr0⟩ := hi 0 (by omega)
        rw [hC] at hc0
        obtain ⟨_, hcl0, hat0⟩ := World.cells?_some hc0
        have h1 := hat0 0 (by decide)
        have h2 : cs0[0]? = some (cs0[0]'(by omega)) := List.getElem?_eq_getElem (by omega)
        rw [h2] at h1
        simpa [Addr.add] using World.cell?_spot h1
      subst hspot
      have key : ∀ j, j < 3 → w.cell? ⟨b, off + i * 3 + j, none⟩ = (prth l i).cells[j]? := fun j hj => by
        have h1 := hat j hj
        rw [Go.Deep.add_add] at h1
        have e : (⟨b, off, none⟩ : Addr).add (i * 3 + j) = ⟨b, off + i * 3 + j, none⟩ := by
          unfold Addr.add; split
          · rename_i h0; simp <;> omega
          · simp [Nat.add_assoc]
        rw [e] at h1; exact h1
      exact ⟨b, off, rfl, key 0 (by decide), key 1 (by decide), key 2 (by decide)⟩
    obtain ⟨b, off, rfl, _⟩ := each 0 hl
    refine ⟨b, off, c, by rw [hn]; exact hcs, fun i hil => ?_⟩
    obtain ⟨b', off', e, hR⟩ := each i hil
    cases e
    exact ⟨b, off, rfl, hR⟩
def tabD5 : DataW Unit := .agg ([0, 1, 2, 3, 4].map fun k => .slice ((rowsP k).map rowD5) [])
set_option maxRecDepth 100000 in
theorem ptab_of {W : World} {g : Nat} {cs : Array Value} {fuel : Nat} {p : List MemPlace} (hgg : g = 4) (hg : Tryz.prog.globalNamed "sextant/pack.rows" = some g) (hv : W.var? Tryz.prog "sextant/pack.rows" = some cs)
    (h : DataW.trod (fun _ => ()) Tryz.prog W 0 (fun _ => true) false fuel 335 cs.toList = some (tabD5, p)) : PTab W.heap.size W := by
  obtain ⟨xs, m, _, e, hcl, hxl, hx⟩ := DataW.trod_array Tryz.underlying335 h
  have hC : Tryz.prog.cellsOf 334 = 1 := by kernel_rfl
  have hC5 : Tryz.prog.cellsOf 335 = 5 := by kernel_rfl
  rw [hC5] at hcl
  rw [hC] at hx
  have hd : tabD5 = .agg (xs.map (·.1)) := congrArg Prod.fst e
  unfold tabD5 at hd
  have hd2 : ([0, 1, 2, 3, 4].map fun k => (DataW.slice ((rowsP k).map rowD5) [] : DataW Unit)) = xs.map (·.1) := by injection hd
  subst hgg
  have key : ∀ k, k < 5 → ∃ tb tq rc, cs[k]? = some (.slice (some ⟨tb, tq, none⟩) (len (rowsP k)) rc) ∧ PRows W (some ⟨tb, tq, none⟩) (rowsP k) := fun k hk => by
    have hxk : k < xs.length := by omega
    have h1 := hx k hk
    rw [List.getElem?_eq_getElem hxk] at h1
    have h2 : (xs[k]'hxk).1 = .slice ((rowsP k).map rowD5) [] := by
      have h3 : (xs.map (·.1))[k]? = some (xs[k]'hxk).1 := by rw [List.getElem?_map, List.getElem?_eq_getElem hxk]; rfl
      rw [← hd2, List.getElem?_map] at h3
      have h4 : [0, 1, 2, 3, 4][k]? = some k := by
        have : k = 0 ∨ k = 1 ∨ k = 2 ∨ k = 3 ∨ k = 4 := by omega
        rcases this with rfl | rfl | rfl | rfl | rfl <;> rfl
      rw [h4] at h3
      exact (Option.some.inj h3).symm
    have h5 : DataW.trod (fun _ => ()) Tryz.prog W 0 (fun _ => true) false m 334 ((cs.toList.drop (k * 1)).take 1) = some (.slice ((rowsP k).map rowD5) [], (xs[k]'hxk).2) := by rw [h1, ← h2]
    obtain ⟨tb, tq, rc, hcs, hr⟩ := laid_prows h5 (rowsP_pos k)
    refine ⟨tb, tq, rc, ?_, hr⟩
    have h6 : ((cs.toList.drop (k * 1)).take 1)[0]? = some (.slice (some ⟨tb, tq, none⟩) (len (rowsP k)) rc) := by rw [hcs]; rfl
    rw [List.getElem?_take, if_pos (by decide), List.getElem?_drop] at h6
    simpa using h6
  have hlt : 4 < W.heap.size := by
    obtain ⟨tb, tq, rc, h1, h2⟩ := key 0 (by decide)
    have := World.var?_cell hg hv 0
    exact lt_of_cell (this.trans h1)
  refine ⟨hlt, Nat.le_refl _, fun k hk => ?_⟩
  obtain ⟨tb, tq, rc, h1, h2⟩ := key k hk
  refine ⟨tb, tq, rc, ?_, (World.var?_cell hg hv k).trans h1, h2⟩
  obtain ⟨b, off, e, hR⟩ := h2 0 (rowsP_pos k)
  cases e
  exact lt_of_cell hR.c0
end Go.Proofs.YtihiaopilnjonaaGreatDoor
namespace Go.Proofs.YtihiaopilnjonaaGreatDoor
set_option linter.unusedSimpArgs false
set_option linter.unusedVariables false
open Go.RowKit Go.ChangeShapes Go.WideShapes Go.ChangeAt
set_option maxRecDepth 100000 in
theorem of_laidW {W : World} (h : laidMetH Tryz.prog Rows.wirePartsRow.laid W) : TE7 W.heap.size W := by
  have h' : laidMet Tryz.prog (Rows.wirePartsRow.laid.filter fun x => x.2.handleName?.isNone) W ∧ handlesMet Tryz.prog (Rows.wirePartsRow.laid.filter fun x => x.2.handleName?.isSome) W := h
  obtain ⟨⟨ps, ⟨gp, tp, csp, fp, pp, qp, hgp, htp, hvp, hdp, ⟨g0, t0, cs0, f0, p0, q0, hg0, ht0, hv0, hd0, ⟨g1, t1, cs1, f1, p1, q1, hg1, ht1, hv1, hd1, ⟨g2, t2, cs2, f2, p2, q2, hg2, ht2, hv2, hd2, ⟨g3, t3, cs3, f3, p3, q3, hg3, ht3, hv3, hd3, ⟨g4, t4, cs4, f4, p4, q4, hg4, ht4, hv4, hd4, _⟩, _⟩, _⟩, _⟩, _⟩, _⟩, _, _⟩, hH⟩ := h'
  obtain rfl : 4 = gp := Option.some.inj ((show _ = some 4 by kernel_rfl).symm.trans hgp)
  obtain rfl : 335 = tp := Option.some.inj ((show _ = some 335 by kernel_rfl).symm.trans htp)
  obtain rfl : 1 = g0 := Option.some.inj ((show _ = some 1 by kernel_rfl).symm.trans hg0)
  obtain rfl : 313 = t0 := Option.some.inj ((show _ = some 313 by kernel_rfl).symm.trans ht0)
  obtain rfl : 5 = g1 := Option.some.inj ((show _ = some 5 by kernel_rfl).symm.trans hg1)
  obtain rfl : 313 = t1 := Option.some.inj ((show _ = some 313 by kernel_rfl).symm.trans ht1)
  obtain rfl : 3 = g2 := Option.some.inj ((show _ = some 3 by kernel_rfl).symm.trans hg2)
  obtain rfl : 313 = t2 := Option.some.inj ((show _ = some 313 by kernel_rfl).symm.trans ht2)
  obtain rfl : 6 = g3 := Option.some.inj ((show _ = some 6 by kernel_rfl).symm.trans hg3)
  obtain rfl : 313 = t3 := Option.some.inj ((show _ = some 313 by kernel_rfl).symm.trans ht3)
  obtain rfl : 2 = g4 := Option.some.inj ((show _ = some 2 by kernel_rfl).symm.trans hg4)
  obtain rfl : 313 = t4 := Option.some.inj ((show _ = some 313 by kernel_rfl).symm.trans ht4)
  have hET : ErrType W := by
    obtain ⟨name, u, ty, e1, e2, e3, e4, e5⟩ := hH Rows.wirePartsRow.laid[1] (List.mem_singleton.2 rfl)
    have en : name = [101, 114, 114, 111, 114] := (Option.some.inj e1).symm
    subst en
    obtain rfl : 284 = u := Option.some.inj ((show _ = some 284 by kernel_rfl).symm.trans e2)
    have hm : ty ∈ (List.range Tryz.prog.types.size).filter fun t => Tryz.prog.rowNamed t [101, 114, 114, 111, 114] := List.mem_filter.2 ⟨List.mem_range.2 e3, e4⟩
    rw [oneRow] at hm
    obtain rfl := List.mem_singleton.1 hm
    have hg : Tryz.prog.globalNamed Rows.wirePartsRow.laid[1].1 = some 0 := (by kernel_rfl)
    exact World.var?_cell hg e5 0
  exact ⟨ptab_of rfl hgp hvp hdp, ⟨tab_of (by decide) hg0 hv0 hd0, tab_of (by decide) hg3 hv3 hd3, tab_of (by decide) hg1 hv1 hd1, tab_of (by decide) hg2 hv2 hd2, tab_of (by decide) hg4 hv4 hd4⟩, hET, Nat.le_refl _, lt_of_cell hET⟩
end Go.Proofs.YtihiaopilnjonaaGreatDoor
namespace Go.Proofs.YtihiaopilnjonaaGreatDoor
open Go.RowKit
set_option linter.unusedSimpArgs false
set_option linter.unusedVariables false
def cut40 (x : ByteArray) : ByteArray := x.extract 0 (min x.size 40)
def textsP (l : List ByteArray) (n : Nat) : List ByteArray := (l.take n).map cut40
theorem textsP_len (l : List ByteArray) (n : Nat) : len (textsP l n) = min (len l) n := by unfold textsP; simp only [len, List.length_map, List.length_take]; omega
def CWS (w : World) : CP := fun b o x => w.cell? ⟨b, o, none⟩ = some x ∧ ∃ cs, w.heap[b]? = some (.cells cs 9 (0, 0))
theorem cws_keep {w w' : World} (h : ∀ (b : Nat) (cs : Array Value), w.heap[b]? = some (.cells cs 9 (0, 0)) → w'.heap[b]? = w.heap[b]?) (b o : Nat) (x : Value) (hc : CWS w b o x) : CWS w' b o x := by
  obtain ⟨h1, cs, h2⟩ := hc
  have e := h b cs h2
  refine ⟨?_, cs, e.trans h2⟩
  have : w'.cell? ⟨b, o, none⟩ = w.cell? ⟨b, o, none⟩ := by unfold World.cell?; rw [e]
  rw [this]; exact h1
theorem StrsC.wkeep {w w' : World} {a : Option Addr} {l : List ByteArray} (hs : StrsC (CWS w) a l) (h : ∀ (b : Nat) (cs : Array Value), w.heap[b]? = some (.cells cs 9 (0, 0)) → w'.heap[b]? = w.heap[b]?) : StrsC (CWS w') a l := hs.imp (cws_keep h)
theorem StrsC.wlow {w w' : World} {a : Option Addr} {l : List ByteArray} (hs : StrsC (CWS w) a l) (hb : Below w.heap.size w w') : StrsC (CWS w') a l := hs.wkeep fun b cs h => hb.block b (lt_of_block h)
theorem StrsC.wset {w : World} {t j : Nat} {cs : Array Value} {T : TypeId} {fr : Nat × Nat} {a : Option Addr} {l : List ByteArray} (hs : StrsC (CWS w) a l) (h : w.heap[t]? = some (.cells cs T fr)) (hT : T ≠ 9) (v : Value) : StrsC (CWS (w.setCell ⟨t, j, none⟩ v)) a l := hs.wkeep fun b cs' hb => Below.heap_setCell _ _ _ _ (show b ≠ t from fun e => by subst e; rw [h] at hb; cases hb; exact hT rfl)
theorem strs_of_own {w : World} {base n : Nat} {v : Value} {l : List ByteArray} (h : w.ownsRow base 9 1 v n (l.map Value.string)) : ∃ a c, v = .slice a (len l) c ∧ StrsC (CWS w) a l ∧ ∀ b off, a = some ⟨b, off, none⟩ → base ≤ b := by
  obtain ⟨a, c, rfl, h1⟩ := own_txs h
  refine ⟨a, c, rfl, fun i hi => ?_, fun b off e => (h.lt b (by rw [e]; rfl)).1⟩
  obtain ⟨b, off, rfl, hc⟩ := h1 i hi
  obtain ⟨cs, hcs⟩ := own_type h b rfl
  exact ⟨b, off, rfl, hc, cs, hcs⟩
def TextsIs (l : List ByteArray) (w : World) (e : Ending) (w' : World) : Prop := ∃ a' c', e = .returned (.slice a' (len l) c') ∧ StrsC (CWS w') a' l ∧ (∀ b off, a' = some ⟨b, off, none⟩ → w.heap.size ≤ b) ∧ Below w.heap.size w w'
set_option maxRecDepth 100000 in
set_option maxHeartbeats 4000000 in
theorem texts_any (a : Option Addr) (c : Nat) (l : List ByteArray) (n : Nat) (w : World) (hl : StrsC (CW w) a l) (hn : len l ≤ 9223372036854775807) (hk : n ≤ 1000) :
    Calls Tryz.prog 73 #[.slice a (len l) c, .int .i64 n] w (TextsIs (textsP l n) w) := by
  have HL := Lib.hid hl
  clear hl
  obtain ⟨N, hN⟩ : ∃ N, min (len l) n = N := ⟨_, rfl⟩
  have HTL : Hid (textsP l N = textsP l n) := Lib.hid (by
    unfold textsP
    rw [← hN]
    by_cases h : len l ≤ n
    · rw [Nat.min_eq_left h, List.take_of_length_le (by rw [len_eq]; exact Nat.le_refl _), List.take_of_length_le (by rw [← len_eq]; exact h)]
    · rw [Nat.min_eq_right (by omega)])
  obtain ⟨i0, hi, hz0, hz1, hz2⟩ := info_parts info_str
  have hN1 : N ≤ len l ∧ N ≤ n ∧ (N = len l ∨ N = n) := by omega
  clear hN
  go_enter Tryz.func73, Tryz.ntmps73
  go_wp2
  go_loopg [5, 6] N (fun g lv i wr => ∃ (m : Nat) (acc : List ByteArray), g + m = N ∧ i = .int .i64 m ∧ Hid (acc = textsP l m) ∧ Hid (Below w.heap.size w wr) ∧ Hid (wr.ownsRow w.heap.size 9 1 lv m (acc.map Value.string)))
  case atStart => exact ⟨0, [], rfl, rfl, rfl, Below.refl _ _, World.ownsRow_nil _ _ _ _⟩
  case round =>
    obtain ⟨m, acc, hm, rfl, HA, HB, HO⟩ := hrel
    by_cases hlt : m < N
    · have i1 : (m : Int) < len l := by omega
      have i2 : (m : Int) < n := by omega
      obtain ⟨gb, go, rfl, hc⟩ := HL.out m (by omega)
      have hcx : wr.cell? ⟨gb, go + m, none⟩ = some (.string (sth l m)) := (HB.out.cell (p := ⟨gb, go + m, none⟩) (lt_of_cell hc)).trans hc
      have hgw := lt_of_cell hc
      have hnx : some gb ≠ u5.ownBlock := own_apart_lt HO.out hgw
      have HAN : Hid (textsP l (m + 1) = acc ++ [cut40 (sth l m)]) := Lib.hid (by
        have hml : m < l.length := by have := len_eq l; omega
        rw [HA.out]; unfold textsP
        rw [List.take_succ_eq_append_getElem hml, List.map_append, sth_eq l m hml]; rfl)
      generalize sth l m = x at hcx HAN
      obtain ⟨k, hk2⟩ : ∃ k, min x.size 40 = k := ⟨_, rfl⟩
      have mn : min (x.size : Int) 40 = (k : Int) := by rw [← hk2]; omega
      have sl : k ≤ x.size := by rw [← hk2]; exact Nat.min_le_left _ _
      obtain ⟨y, hy0⟩ : ∃ y, x.extract 0 k = y := ⟨_, rfl⟩
      have HAN : Hid (textsP l (m + 1) = acc ++ [y]) := Lib.hid (by rw [HAN.out, ← hy0, ← hk2]; rfl)
      clear hk2 hc
      have cx := hcx
      clear hcx
      have hwr : w.heap.size ≤ wr.heap.size := HB.out.size
      go_upto_region 5 with fail
      refine wp_region_tail 14 13 (u5.ownBlock) (phis [fun u _ => u = (u5), fun u _ => u = (.slice (some ⟨gb, go, none⟩) (len l) c), fun u _ => u = (.int .i64 m), fun u _ => u = (.pointer (some ⟨gb, go + m, none⟩)), fun u _ => u = (.string x), fun u _ => u = (.slice (some ⟨gb, go, none⟩) (len l) c), fun u _ => u = (.int .i64 m), fun u _ => u = (.pointer (some ⟨gb, go + m, none⟩)), fun u _ => u = (.string x), fun u _ => u = (.int .i64 x.size), fun u _ => u = (.int .i64 k), fun u _ => u = (.string y), fun u w' => ∃ b, u = .slice (some ⟨b, 0, none⟩) 1 1 ∧ some b ≠ u5.ownBlock ∧ w'.heap[b]? = some (.cells #[.string y] 9 (0, 0)), fun u w' => w'.ownsRow w.heap.size 9 1 u (m + 1) ((acc.map Value.string) ++ [.string y])]) rfl (by kernel_rfl) (by kernel_rfl) (mono_of ⟨mono_eq, mono_eq, mono_eq, mono_eq, mono_eq, mono_eq, mono_eq, mono_eq, mono_eq, mono_eq, mono_eq, mono_eq, ?m12, ?m13, trivial⟩) (steps_of 14 ⟨?s0, ?s1, ?s2, ?s3, ?s4, ?s5, ?s6, ?s7, ?s8, ?s9, ?s10, ?s11, ?s12, ?s13, trivial⟩) ?_
      case m12 =>
        exact ⟨fun u w1 w' h ⟨b, h1, hb, hb'⟩ => ⟨b, h1, hb, ext_block h hb'⟩, fun _ u w1 w' h ⟨b, h1, hb, hb'⟩ => ⟨b, h1, hb, extB_block h hb hb'⟩⟩
      case m13 =>
        exact ⟨fun u w1 w' h hu => own_below hu h, fun hn => absurd rfl hn⟩
      case s0 =>
        refine step_val (v := (u5)) (fun av wv hE hS hO hD => ?_) (fun _ => rfl)
        have h5 : av.eval (.tmp 5) = (u5) := hO.2.2 5 rfl
        have f5 := (ev_form av 5).symm.trans h5
        refine ⟨rfl, ?_⟩
        simp [go_sem, f5, i1, mn, sl, hy0]
      case s1 =>
        refine step_val (v := (.slice (some ⟨gb, go, none⟩) (len l) c)) (fun av wv hE hS hO hD => ?_) (fun _ => rfl)
        have h0 : av.eval (.tmp 0) = (.slice (some ⟨gb, go, none⟩) (len l) c) := hO.2.2 0 rfl
        have f0 := (ev_form av 0).symm.trans h0
        refine ⟨rfl, ?_⟩
        simp [go_sem, f0, i1, mn, sl, hy0]
      case s2 =>
        refine step_val (v := (.int .i64 m)) (fun av wv hE hS hO hD => ?_) (fun _ => rfl)
        have h6 : av.eval (.tmp 6) = (.int .i64 m) := hO.2.2 6 rfl
        have f6 := (ev_form av 6).symm.trans h6
        refine ⟨rfl, ?_⟩
        simp [go_sem, f6, i1, mn, sl, hy0]
      case s3 =>
        refine step_val (v := (.pointer (some ⟨gb, go + m, none⟩))) (fun av wv hE hS hO hD => ?_) (fun _ => rfl)
        have d19 : av.eval (.tmp 19) = (.slice (some ⟨gb, go, none⟩) (len l) c) := hD.1 rfl _ rfl
        have f19 := (ev_form av 19).symm.trans d19
        have d20 : av.eval (.tmp 20) = (.int .i64 m) := hD.2.1 rfl _ rfl
        have f20 := (ev_form av 20).symm.trans d20
        refine ⟨rfl, ?_⟩
        simp [go_sem, f19, f20, i1, mn, sl, hy0]
      case s4 =>
        refine step_val (v := (.string x)) (fun av wv hE hS hO hD => ?_) (fun _ => rfl)
        have d21 : av.eval (.tmp 21) = (.pointer (some ⟨gb, go + m, none⟩)) := hD.1 rfl _ rfl
        have f21 := (ev_form av 21).symm.trans d21
        have cx := extB_cell hE hnx cx
        refine ⟨rfl, ?_⟩
        simp [go_sem, f21, cx, i1, mn, sl, hy0]
      case s5 =>
        refine step_val (v := (.slice (some ⟨gb, go, none⟩) (len l) c)) (fun av wv hE hS hO hD => ?_) (fun _ => rfl)
        have h0 : av.eval (.tmp 0) = (.slice (some ⟨gb, go, none⟩) (len l) c) := hO.2.2 0 rfl
        have f0 := (ev_form av 0).symm.trans h0
        refine ⟨rfl, ?_⟩
        simp [go_sem, f0, i1, mn, sl, hy0]
      case s6 =>
        refine step_val (v := (.int .i64 m)) (fun av wv hE hS hO hD => ?_) (fun _ => rfl)
        have h6 : av.eval (.tmp 6) = (.int .i64 m) := hO.2.2 6 rfl
        have f6 := (ev_form av 6).symm.trans h6
        refine ⟨rfl, ?_⟩
        simp [go_sem, f6, i1, mn, sl, hy0]
      case s7 =>
        refine step_val (v := (.pointer (some ⟨gb, go + m, none⟩))) (fun av wv hE hS hO hD => ?_) (fun _ => rfl)
        have d23 : av.eval (.tmp 23) = (.slice (some ⟨gb, go, none⟩) (len l) c) := hD.1 rfl _ rfl
        have f23 := (ev_form av 23).symm.trans d23
        have d24 : av.eval (.tmp 24) = (.int .i64 m) := hD.2.1 rfl _ rfl
        have f24 := (ev_form av 24).symm.trans d24
        refine ⟨rfl, ?_⟩
        simp [go_sem, f23, f24, i1, mn, sl, hy0]
      case s8 =>
        refine step_val (v := (.string x)) (fun av wv hE hS hO hD => ?_) (fun _ => rfl)
        have d25 : av.eval (.tmp 25) = (.pointer (some ⟨gb, go + m, none⟩)) := hD.1 rfl _ rfl
        have f25 := (ev_form av 25).symm.trans d25
        have cx := extB_cell hE hnx cx
        refine ⟨rfl, ?_⟩
        simp [go_sem, f25, cx, i1, mn, sl, hy0]
      case s9 =>
        refine step_val (v := (.int .i64 x.size)) (fun av wv hE hS hO hD => ?_) (fun _ => rfl)
        have d26 : av.eval (.tmp 26) = (.string x) := hD.1 rfl _ rfl
        have f26 := (ev_form av 26).symm.trans d26
        refine ⟨rfl, ?_⟩
        simp [go_sem, f26, i1, mn, sl, hy0]
      case s10 =>
        refine step_val (v := (.int .i64 k)) (fun av wv hE hS hO hD => ?_) (fun _ => rfl)
        have d27 : av.eval (.tmp 27) = (.int .i64 x.size) := hD.1 rfl _ rfl
        have f27 := (ev_form av 27).symm.trans d27
        refine ⟨rfl, ?_⟩
        simp [go_sem, f27, i1, mn, sl, hy0]
      case s11 =>
        refine step_val (v := (.string y)) (fun av wv hE hS hO hD => ?_) (fun _ => rfl)
        have d22 : av.eval (.tmp 22) = (.string x) := hD.1 rfl _ rfl
        have f22 := (ev_form av 22).symm.trans d22
        have d28 : av.eval (.tmp 28) = (.int .i64 k) := hD.2.1 rfl _ rfl
        have f28 := (ev_form av 28).symm.trans d28
        refine ⟨rfl, ?_⟩
        simp [go_sem, f22, f28, i1, mn, sl, hy0]
      case s12 =>
        refine step_wp (fun av wv hE hS hO hD => ?_)
        have d29 : av.eval (.tmp 29) = (.string y) := hD.1 rfl _ rfl
        have f29 := (ev_form av 29).symm.trans d29
        refine ⟨rfl, ?_⟩
        refine wp_of_run (v := .slice (some ⟨wv.heap.size, 0, none⟩) 1 1) (w' := wv.alloc (.cells #[.string y] 9)) (by simp [go_sem, f29]) ⟨_, rfl, es_of_ext (balloc (Ext_refl _) _), wv.heap.size, rfl, ?_, heap_alloc_new _ _⟩
        exact own_apart_ge HO.out (by have := hE.size; simp at this; omega)
      case s13 =>
        refine step_wp (fun av wv hE hS hO hD => ?_)
        have d18 : av.eval (.tmp 18) = (u5) := hD.1 rfl _ rfl
        have f18 := (ev_form av 18).symm.trans d18
        have d30 : (fun u w' => ∃ b, u = .slice (some ⟨b, 0, none⟩) 1 1 ∧ some b ≠ u5.ownBlock ∧ w'.heap[b]? = some (.cells #[.string y] 9 (0, 0))) (av.eval (.tmp 30)) wv := hD.2.1 rfl _ rfl
        refine ⟨rfl, ?_⟩
        obtain ⟨b19, h19, hb19, hc19⟩ := d30
        have hown1 : wv.ownsRow w.heap.size 9 1 u5 m (acc.map Value.string) := own_below (w := wr.drew) HO.out (hS rfl)
        refine wp_append_lies wv _ _ _ rfl w.heap.size 9 i0 (.string ⟨#[]⟩) 1 16 Tryz.underlying26 hi hz0 hz1 hz2 rfl (by decide) u5 m _ d18 hown1 ⟨b19, 0, none⟩ 1 1 [.string y] (by exact h19) rfl (World.news_of_block hc19) (by intro u hu; simp at hu; rcases hu with rfl <;> rfl) (by decide) (by unfold maxLen; omega) (by omega) (by have := hE.size; simp at this; omega) _ rfl ?_
        intro g2 cap2 w2 hown2 hgrow hat hlt2
        exact ⟨_, rfl, es_sp hgrow, hown2⟩
      intro a' w' hE hO hall
      have hA := act_of_outer (ds := [18, 19, 20, 21, 22, 23, 24, 25, 26, 27, 28, 29, 30, 31]) rfl hO (by kernel_rfl)
      have e18 : (fun u _ => u = (u5)) (a'.eval (.tmp 18)) w' := hall.1 _ rfl
      have e19 : (fun u _ => u = (.slice (some ⟨gb, go, none⟩) (len l) c)) (a'.eval (.tmp 19)) w' := hall.2.1 _ rfl
      have e20 : (fun u _ => u = (.int .i64 m)) (a'.eval (.tmp 20)) w' := hall.2.2.1 _ rfl
      have e21 : (fun u _ => u = (.pointer (some ⟨gb, go + m, none⟩))) (a'.eval (.tmp 21)) w' := hall.2.2.2.1 _ rfl
      have e22 : (fun u _ => u = (.string x)) (a'.eval (.tmp 22)) w' := hall.2.2.2.2.1 _ rfl
      have e23 : (fun u _ => u = (.slice (some ⟨gb, go, none⟩) (len l) c)) (a'.eval (.tmp 23)) w' := hall.2.2.2.2.2.1 _ rfl
      have e24 : (fun u _ => u = (.int .i64 m)) (a'.eval (.tmp 24)) w' := hall.2.2.2.2.2.2.1 _ rfl
      have e25 : (fun u _ => u = (.pointer (some ⟨gb, go + m, none⟩))) (a'.eval (.tmp 25)) w' := hall.2.2.2.2.2.2.2.1 _ rfl
      have e26 : (fun u _ => u = (.string x)) (a'.eval (.tmp 26)) w' := hall.2.2.2.2.2.2.2.2.1 _ rfl
      have e27 : (fun u _ => u = (.int .i64 x.size)) (a'.eval (.tmp 27)) w' := hall.2.2.2.2.2.2.2.2.2.1 _ rfl
      have e28 : (fun u _ => u = (.int .i64 k)) (a'.eval (.tmp 28)) w' := hall.2.2.2.2.2.2.2.2.2.2.1 _ rfl
      have e29 : (fun u _ => u = (.string y)) (a'.eval (.tmp 29)) w' := hall.2.2.2.2.2.2.2.2.2.2.2.1 _ rfl
      have e30 : (fun u w' => ∃ b, u = .slice (some ⟨b, 0, none⟩) 1 1 ∧ some b ≠ u5.ownBlock ∧ w'.heap[b]? = some (.cells #[.string y] 9 (0, 0))) (a'.eval (.tmp 30)) w' := hall.2.2.2.2.2.2.2.2.2.2.2.2.1 _ rfl
      have e31 : (fun u w' => w'.ownsRow w.heap.size 9 1 u (m + 1) ((acc.map Value.string) ++ [.string y])) (a'.eval (.tmp 31)) w' := hall.2.2.2.2.2.2.2.2.2.2.2.2.2.1 _ rfl
      obtain ⟨v30, hv30⟩ : ∃ v, a'.eval (.tmp 30) = v := ⟨_, rfl⟩
      rw [hv30] at e30
      obtain ⟨v31, hv31⟩ : ∃ v, a'.eval (.tmp 31) = v := ⟨_, rfl⟩
      rw [hv31] at e31
      simp only [List.foldl_cons, List.foldl_nil, Act.put, List.setIfInBounds_toArray, List.set_cons_succ, List.set_cons_zero, e18, e19, e20, e21, e22, e23, e24, e25, e26, e27, e28, e29, hv30, hv31] at hA
      clear hO hall e18 e19 e20 e21 e22 e23 e24 e25 e26 e27 e28 e29 hv30 hv31
      subst hA
      have HB2 : Hid (Below w.heap.size w w') := Lib.hid (grownBy_below HB.out (of_drewE hE) (fun k hk => by have := (HO.out.lt k hk).1; omega))
      have HO2 : Hid (w'.ownsRow w.heap.size 9 1 v31 (m + 1) ((acc ++ [y]).map Value.string)) := Lib.hid (by rw [List.map_append]; exact e31)
      clear hE e31 e30 cx mn sl hy0
      go_wp2
      go_roundg (N - (m + 1))
      case rel => exact ⟨m + 1, acc ++ [y], by omega, by go_num, HAN.out.symm, HB2.out, HO2.out⟩
      case measure => omega
    · obtain rfl : m = N := by omega
      have HF : Hid (acc = textsP l n) := Lib.hid (by rw [HA.out, HTL.out])
      by_cases hq : m < len l
      · have i1 : (m : Int) < len l := by omega
        have i2 : ¬ (m : Int) < n := by omega
        go_wp2
        go_ret
        obtain ⟨a', c', h1, h2, h3⟩ := strs_of_own HO.out
        rw [HF.out] at h1 h2
        exact ⟨a', c', by rw [h1]; rfl, h2, h3, HB.out⟩
      · have i1 : ¬ (m : Int) < len l := by omega
        go_wp2
        go_ret
        obtain ⟨a', c', h1, h2, h3⟩ := strs_of_own HO.out
        rw [HF.out] at h1 h2
        exact ⟨a', c', by rw [h1]; rfl, h2, h3, HB.out⟩
end Go.Proofs.YtihiaopilnjonaaGreatDoor
namespace Go.Proofs.YtihiaopilnjonaaGreatDoor
open Go.RowKit
set_option linter.unusedSimpArgs false
set_option linter.unusedVariables false
theorem StrsC.low {w w' : World} {a : Option Addr} {l : List ByteArray} (h : StrsC (CW w) a l) (hb : Below w.heap.size w w') : StrsC (CW w') a l := h.imp fun b o x hc => (hb.cell (p := ⟨b, o, none⟩) (lt_of_cell hc)).trans hc
theorem Strs.cw {B : Nat} {w : World} {a : Option Addr} {l : List ByteArray} (h : Strs B w a l) : StrsC (CW w) a l := StrsC.imp (C := CellAt B w) (fun _ _ _ h => h.cell) h
def SlotIs (L : Int) (q : Bool) (idx : Int) (ws ps : List ByteArray) (w : World) (e : Ending) (w' : World) : Prop := ∃ a1 k1 a2 k2, e = .returned (.agg #[.int .u64 L, .bool q, .int .u64 idx, .slice a1 (len ws) k1, .slice a2 (len ps) k2]) ∧ StrsC (CWS w') a1 ws ∧ StrsC (CWS w') a2 ps ∧ Below w.heap.size w w'
set_option maxRecDepth 100000 in
set_option maxHeartbeats 4000000 in
theorem slot_any (L : Int) (q : Bool) (idx : Int) (a1 a2 : Option Addr) (k1 k2 : Nat) (ws ps : List ByteArray) (w : World) (h1 : StrsC (CW w) a1 ws) (h2 : StrsC (CW w) a2 ps) (n1 : len ws ≤ 9223372036854775807) (n2 : len ps ≤ 9223372036854775807) :
    Calls Tryz.prog 33 #[.agg #[.int .u64 L, .bool q, .int .u64 idx, .slice a1 (len ws) k1, .slice a2 (len ps) k2]] w (SlotIs L q idx (textsP ws 70) (textsP ps 20) w) := by
  have H1 := Lib.hid (fun (w' : World) (hb : Below w.heap.size w w') => texts_any a1 k1 ws 70 w' (h1.low hb) n1 (by decide))
  have H2 := Lib.hid (fun (w' : World) (hb : Below w.heap.size w w') => texts_any a2 k2 ps 20 w' (h2.low hb) n2 (by decide))
  clear h1 h2
  generalize textsP ws 70 = ws' at H1
  generalize textsP ps 20 = ps' at H2
  go_enter Tryz.func33, Tryz.ntmps33
  go_upto_region 1 with fail
  obtain ⟨sb, hsb⟩ : ∃ sb, w.heap.size = sb := ⟨_, rfl⟩
  obtain ⟨V, hV⟩ : ∃ V, (w.alloc (.cells #[.int .u64 L, .bool q, .int .u64 idx, .slice a1 (len ws) k1, .slice a2 (len ps) k2] 44)).alloc (.cells #[.int .u64 0, .bool false, .int .u64 0, .slice none 0 0, .slice none 0 0] 44) = V := ⟨_, rfl⟩
  have HB : Hid (Below w.heap.size w V) := Lib.hid (by rw [← hV]; exact balloc (balloc (Below.refl _ _) _) _)
  have HS : Hid (V.heap[sb]? = some (.cells #[.int .u64 L, .bool q, .int .u64 idx, .slice a1 (len ws) k1, .slice a2 (len ps) k2] 44 (0, 0))) := Lib.hid (by rw [← hV, ← hsb]; exact block_alloc (heap_alloc_new _ _) _)
  have HR : Hid (V.heap[sb + 1]? = some (.cells #[.int .u64 0, .bool false, .int .u64 0, .slice none 0 0, .slice none 0 0] 44 (0, 0))) := Lib.hid (by rw [← hV]; exact alloc_new_at _ (by simp [hsb]))
  have HSB := Lib.hid hsb
  try rw [hV]
  try simp only [hsb]
  clear hV hsb
  have cS : ∀ o, V.cell? ⟨sb, o, none⟩ = _ := block_cell HS.out
  go_wp2_with fail
  refine (H1.out V HB.out).mono ?_
  rintro e w1 ⟨b1, c1, rfl, hs, hf, hb⟩
  have HS1 := Lib.hid hs
  have HB1 := Lib.hid (bnext HB.out hb)
  have HSa := Lib.hid ((hb.block _ (lt_of_block HS.out)).trans HS.out)
  have HRa := Lib.hid ((hb.block _ (lt_of_block HR.out)).trans HR.out)
  clear hs hf hb cS HS HR HB
  have cS : ∀ o, w1.cell? ⟨sb, o, none⟩ = _ := block_cell HSa.out
  have fS : ∀ o, w1.frozen? ⟨sb, o, none⟩ = false := block_free HSa.out
  have lS : sb < w1.heap.size := lt_of_block HSa.out
  go_upto_region 2 with fail
  obtain ⟨W1, hW1⟩ : ∃ W1, w1.setCell ⟨sb, 3, none⟩ (.slice b1 (len ws') c1) = W1 := ⟨_, rfl⟩
  have HSb : Hid (W1.heap[sb]? = some (.cells #[.int .u64 L, .bool q, .int .u64 idx, .slice b1 (len ws') c1, .slice a2 (len ps) k2] 44 (0, 0))) := Lib.hid (by rw [← hW1]; exact block_setCell HSa.out _)
  have HRb : Hid (W1.heap[sb + 1]? = some (.cells #[.int .u64 0, .bool false, .int .u64 0, .slice none 0 0, .slice none 0 0] 44 (0, 0))) := Lib.hid (by rw [← hW1]; exact block_setCell_ne HRa.out (show sb + 1 ≠ sb by omega) _)
  have HB2 : Hid (Below w.heap.size w W1) := Lib.hid (by rw [← hW1]; exact bset HB1.out (show w.heap.size ≤ sb by rw [HSB.out]; exact Nat.le_refl _) _)
  have HS2 : Hid (StrsC (CWS W1) b1 ws') := Lib.hid (by rw [← hW1]; exact HS1.out.wset HSa.out (by decide) _)
  clear cS fS lS HSa HRa HB1 HS1
  rw [hW1]
  clear hW1
  have cS : ∀ o, W1.cell? ⟨sb, o, none⟩ = _ := block_cell HSb.out
  go_wp2_with fail
  refine (H2.out W1 HB2.out).mono ?_
  rintro e w2 ⟨b2, c2, rfl, hs, hf, hb⟩
  have HT1 := Lib.hid hs
  have HB3 := Lib.hid (bnext HB2.out hb)
  have HSc := Lib.hid ((hb.block _ (lt_of_block HSb.out)).trans HSb.out)
  have HRc := Lib.hid ((hb.block _ (lt_of_block HRb.out)).trans HRb.out)
  have HS3 : Hid (StrsC (CWS w2) b1 ws') := Lib.hid (HS2.out.wlow hb)
  clear hs hf hb cS HSb HRb HB2 HS2
  have cS : ∀ o, w2.cell? ⟨sb, o, none⟩ = _ := block_cell HSc.out
  have fS : ∀ o, w2.frozen? ⟨sb, o, none⟩ = false := block_free HSc.out
  have lS : sb < w2.heap.size := lt_of_block HSc.out
  go_upto_region 3 with fail
  obtain ⟨W2, hW2⟩ : ∃ W2, w2.setCell ⟨sb, 4, none⟩ (.slice b2 (len ps') c2) = W2 := ⟨_, rfl⟩
  have HSd : Hid (W2.heap[sb]? = some (.cells #[.int .u64 L, .bool q, .int .u64 idx, .slice b1 (len ws') c1, .slice b2 (len ps') c2] 44 (0, 0))) := Lib.hid (by rw [← hW2]; exact block_setCell HSc.out _)
  have HRd : Hid (W2.heap[sb + 1]? = some (.cells #[.int .u64 0, .bool false, .int .u64 0, .slice none 0 0, .slice none 0 0] 44 (0, 0))) := Lib.hid (by rw [← hW2]; exact block_setCell_ne HRc.out (show sb + 1 ≠ sb by omega) _)
  have HB4 : Hid (Below w.heap.size w W2) := Lib.hid (by rw [← hW2]; exact bset HB3.out (show w.heap.size ≤ sb by rw [HSB.out]; exact Nat.le_refl _) _)
  have HS4 : Hid (StrsC (CWS W2) b1 ws') := Lib.hid (by rw [← hW2]; exact HS3.out.wset HSc.out (by decide) _)
  have HT2 : Hid (StrsC (CWS W2) b2 ps') := Lib.hid (by rw [← hW2]; exact HT1.out.wset HSc.out (by decide) _)
  clear cS fS lS HSc HRc HB3 HS3 HT1
  rw [hW2]
  clear hW2
  have cS : ∀ o, W2.cell? ⟨sb, o, none⟩ = _ := block_cell HSd.out
  have g0 : ∀ o, W2.cell? ⟨sb + 1, o, none⟩ = _ := block_cell HRd.out
  have g1 : ∀ o, W2.frozen? ⟨sb + 1, o, none⟩ = false := block_free HRd.out
  have g2 : sb + 1 < W2.heap.size := lt_of_block HRd.out
  go_wp2
  have hb5 := block_setCell (block_setCell (block_setCell (block_setCell (block_setCell HRd.out (o := 0) (.int .u64 L)) (o := 1) (.bool q)) (o := 2) (.int .u64 idx)) (o := 3) (.slice b1 (len ws') c1)) (o := 4) (.slice b2 (len ps') c2)
  have d : ∀ o, _ = _ := block_cell hb5
  have hset : ∀ {a : Option Addr} {l : List ByteArray}, StrsC (CWS W2) a l → StrsC (CWS (((((W2.setCell ⟨sb + 1, 0, none⟩ (.int .u64 L)).setCell ⟨sb + 1, 1, none⟩ (.bool q)).setCell ⟨sb + 1, 2, none⟩ (.int .u64 idx)).setCell ⟨sb + 1, 3, none⟩ (.slice b1 (len ws') c1)).setCell ⟨sb + 1, 4, none⟩ (.slice b2 (len ps') c2))) a l := fun h =>
    ((((h.wset HRd.out (by decide) _).wset (block_setCell HRd.out _) (by decide) _).wset (block_setCell (block_setCell HRd.out _) _) (by decide) _).wset (block_setCell (block_setCell (block_setCell HRd.out _) _) _) (by decide) _).wset (block_setCell (block_setCell (block_setCell (block_setCell HRd.out _) _) _) _) (by decide) _
  have hle : w.heap.size ≤ sb + 1 := by rw [HSB.out]; omega
  refine bodyPost_ret (v := .agg #[.int .u64 L, .bool q, .int .u64 idx, .slice b1 (len ws') c1, .slice b2 (len ps') c2]) ?_ rfl ⟨b1, c1, b2, c2, rfl, hset HS4.out, hset HT2.out, bset (bset (bset (bset (bset HB4.out hle _) hle _) hle _) hle _) hle _⟩
  simp [results, Tryz.results33, go_sem, d]
set_option maxRecDepth 100000 in
set_option maxHeartbeats 4000000 in
theorem same_yes (a b : Option Addr) (c d : Nat) (l : List ByteArray) (w : World) (ha : StrsC (CW w) a l) (hb : StrsC (CW w) b l) (hn : len l ≤ 9223372036854775807) :
    Calls Tryz.prog 92 #[.slice a (len l) c, .slice b (len l) d] w fun e w' => e = .returned (.bool true) ∧ Below w.heap.size w w' := by
  have HA := Lib.hid ha
  have HB := Lib.hid hb
  clear ha hb
  go_enter Tryz.func92, Tryz.ntmps92
  go_wp2
  go_loopg [5] (len l) (fun g i wr => ∃ m : Nat, g + m = len l ∧ i = .int .i64 m ∧ Hid (Below w.heap.size w wr))
  case atStart => exact ⟨0, rfl, rfl, Below.refl _ _⟩
  case round =>
    obtain ⟨m, hm, rfl, HW⟩ := hrel
    by_cases hlt : m < len l
    · have i1 : (m : Int) < len l := by omega
      obtain ⟨ga, oa, rfl, hca⟩ := (HA.out.low HW.out) m hlt
      obtain ⟨gb, ob, rfl, hcb⟩ := (HB.out.low HW.out) m hlt
      have c0 : wr.cell? ⟨ga, oa + m, none⟩ = some (.string (sth l m)) := hca
      have c1 : wr.cell? ⟨gb, ob + m, none⟩ = some (.string (sth l m)) := hcb
      clear hca hcb
      generalize sth l m = x at c0 c1
      go_upto_region 6 with fail
      go_quiet (fail)
      have HW2 := Lib.hid (bdrew HW.out)
      go_wp2
      go_roundg (len l - (m + 1))
      case rel => exact ⟨m + 1, by omega, by go_num, Lib.hid (bdrewN HW.out _)⟩
      case measure => omega
    · obtain rfl : m = len l := by omega
      have i1 : ¬ ((len l : Nat) : Int) < len l := by omega
      go_wp2
      go_ret
      exact ⟨rfl, HW.out⟩
set_option maxRecDepth 100000 in
set_option maxHeartbeats 4000000 in
theorem sameSlot_yes (L : Int) (q : Bool) (idx : Int) (a1 a2 b1 b2 : Option Addr) (k1 k2 c1 c2 : Nat) (ws ps : List ByteArray) (w : World) (ha1 : StrsC (CW w) a1 ws) (ha2 : StrsC (CW w) a2 ps) (hb1 : StrsC (CW w) b1 ws) (hb2 : StrsC (CW w) b2 ps) (n1 : len ws ≤ 9223372036854775807) (n2 : len ps ≤ 9223372036854775807) :
    Calls Tryz.prog 46 #[.agg #[.int .u64 L, .bool q, .int .u64 idx, .slice a1 (len ws) k1, .slice a2 (len ps) k2], .agg #[.int .u64 L, .bool q, .int .u64 idx, .slice b1 (len ws) c1, .slice b2 (len ps) c2]] w fun e w' => e = .returned (.bool true) ∧ Below w.heap.size w w' := by
  have HQ1 := Lib.hid (fun (w' : World) (h : Below w.heap.size w w') => same_yes a1 b1 k1 c1 ws w' (ha1.low h) (hb1.low h) n1)
  have HQ2 := Lib.hid (fun (w' : World) (h : Below w.heap.size w w') => same_yes a2 b2 k2 c2 ps w' (ha2.low h) (hb2.low h) n2)
  clear ha1 ha2 hb1 hb2
  generalize len ws = l1 at HQ1 ⊢
  generalize len ps = l2 at HQ2 ⊢
  go_enter Tryz.func46, Tryz.ntmps46
  go_upto_region 1 with fail
  obtain ⟨sb, hsb⟩ : ∃ sb, w.heap.size = sb := ⟨_, rfl⟩
  obtain ⟨tb, htb⟩ : ∃ tb, sb + 1 = tb := ⟨_, rfl⟩
  obtain ⟨V, hV⟩ : ∃ V, (w.alloc (.cells #[.int .u64 L, .bool q, .int .u64 idx, .slice a1 l1 k1, .slice a2 l2 k2] 44)).alloc (.cells #[.int .u64 L, .bool q, .int .u64 idx, .slice b1 l1 c1, .slice b2 l2 c2] 44) = V := ⟨_, rfl⟩
  have HB : Hid (Below w.heap.size w V) := Lib.hid (by rw [← hV]; exact balloc (balloc (Below.refl _ _) _) _)
  have HS : Hid (V.heap[sb]? = some (.cells #[.int .u64 L, .bool q, .int .u64 idx, .slice a1 l1 k1, .slice a2 l2 k2] 44 (0, 0))) := Lib.hid (by rw [← hV, ← hsb]; exact block_alloc (heap_alloc_new _ _) _)
  have HT : Hid (V.heap[tb]? = some (.cells #[.int .u64 L, .bool q, .int .u64 idx, .slice b1 l1 c1, .slice b2 l2 c2] 44 (0, 0))) := Lib.hid (by rw [← hV, ← htb, ← hsb]; exact alloc_new_at _ (by simp))
  simp only [hV, hsb, htb]
  clear hV hsb htb
  have cS : ∀ o, V.cell? ⟨sb, o, none⟩ = _ := block_cell HS.out
  have cT : ∀ o, V.cell? ⟨tb, o, none⟩ = _ := block_cell HT.out
  go_wp2_with fail
  refine (HQ1.out V HB.out).mono ?_
  rintro e w1 ⟨rfl, hb⟩
  have HB1 := Lib.hid (bnext HB.out hb)
  have HS := Lib.hid ((hb.block _ (lt_of_block HS.out)).trans HS.out)
  have HT := Lib.hid ((hb.block _ (lt_of_block HT.out)).trans HT.out)
  clear hb cS cT
  have cS : ∀ o, w1.cell? ⟨sb, o, none⟩ = _ := block_cell HS.out
  have cT : ∀ o, w1.cell? ⟨tb, o, none⟩ = _ := block_cell HT.out
  go_wp2_with fail
  refine (HQ2.out w1 HB1.out).mono ?_
  rintro e w2 ⟨rfl, hb⟩
  have HB2 := Lib.hid (bnext HB1.out hb)
  clear hb cS cT
  go_wp2
  go_ret
  exact ⟨rfl, HB2.out⟩
end Go.Proofs.YtihiaopilnjonaaGreatDoor
namespace Go.Proofs.YtihiaopilnjonaaGreatDoor
open Go.RowKit
set_option linter.unusedSimpArgs false
set_option linter.unusedVariables false
def recV (r : Except Flt Rcd) (x0 : Rcd) : Rcd := match r with | .ok x => x | .error _ => x0
def fltV (r : Except Flt Rcd) : Flt := match r with | .ok _ => (0, 0) | .error f => f
def NeV (r : Except Flt Rcd) : Prop := match r with | .ok _ => True | .error f => f.1 ≠ 0
def Tells (B : Nat) (ev : Value) (r : Except Flt Rcd) (w : World) : Prop := NeV r → ∀ w', Below w.heap.size w w' → TE7 B w' → Calls Tryz.prog 31 #[ev, .agg #[.int .i64 (fltV r).1, .int .i64 (fltV r).2]] w' fun e w'' => e = .returned (.bool true) ∧ Below w'.heap.size w' w''
theorem tells_ok (B : Nat) (x : Rcd) (w : World) : Tells B .nilIface (.ok x) w := fun _ w' _ _ => told_none w'
theorem tells_no {B fb : Nat} {f : Flt} {w : World} (h : FltB w fb f.1 f.2) : Tells B (.iface 127 (.pointer (some ⟨fb, 0, none⟩))) (.error f) w := fun hn w' hb ht =>
  told_fault fb f.1 f.2 w' ht.e (h.below hb) hn (Nat.lt_of_lt_of_le ht.g ht.s)
theorem Tells.below {B : Nat} {ev : Value} {r : Except Flt Rcd} {w w' : World} (h : Tells B ev r w) (hb : Below w.heap.size w w') : Tells B ev r w' := fun hn w'' hb2 ht => h hn w'' (bnext hb hb2) ht
end Go.Proofs.YtihiaopilnjonaaGreatDoor
namespace Go.Proofs.YtihiaopilnjonaaGreatDoor
open Go.RowKit
set_option linter.unusedSimpArgs false
set_option linter.unusedVariables false
theorem textOf_yes {fs : List FSpec} (h : allMay fs = true) : TextOf fs = layP fs := by unfold TextOf; rw [h]; rfl
theorem codeOf_yes {fs : List FSpec} (h : allMay fs = true) : CodeOf fs = 0 := by unfold CodeOf; rw [h]; rfl
theorem codeOf_no {fs : List FSpec} (h : allMay fs = false) : CodeOf fs = 2 := by unfold CodeOf; rw [h]; rfl
def EvOf (r : Except Flt Rcd) (ev : Value) : Prop := match r with
  | .ok _ => ev = .nilIface
  | .error _ => ∃ fb, ev = .iface 127 (.pointer (some ⟨fb, 0, none⟩))
theorem TE7.up {B : Nat} {w : World} (h : TE7 B w) : PTab w.heap.size w := ⟨Nat.lt_of_lt_of_le h.p.glob h.p.size, Nat.le_refl _, fun k hk => by
  obtain ⟨tb, tq, rc, h1, h2, h3⟩ := h.p.tab k hk
  exact ⟨tb, tq, rc, Nat.lt_of_lt_of_le h1 h.p.size, h2, h3⟩⟩
theorem StrsC.at {w : World} {a : Option Addr} {l : List ByteArray} (h : StrsC (CW w) a l) : Strs w.heap.size w a l := h.imp fun b o x hc => CW.at hc
def NmsC (C : CP) (a : Option Addr) (l : List Int) : Prop := ∀ i, i < len l → ∃ b off, a = some ⟨b, off, none⟩ ∧ C b (off + i) (.int .u64 (nth l i))
theorem NmsC.imp {C D : CP} (h : ∀ b o x, C b o x → D b o x) {a : Option Addr} {l : List Int} (hs : NmsC C a l) : NmsC D a l := fun i hi => by
  obtain ⟨b, off, e, hc⟩ := hs i hi; exact ⟨b, off, e, h _ _ _ hc⟩
theorem cw_low {w w' : World} (hb : Below w.heap.size w w') (b o : Nat) (x : Value) (hc : CW w b o x) : CW w' b o x := (hb.cell (p := ⟨b, o, none⟩) (lt_of_cell hc)).trans hc
theorem dok_n {d : DV} (h : DOk d) : U64i d.n := by cases d <;> first | exact h | exact (show U64i 0 from ⟨by decide, by decide⟩)
theorem holds_strs {rb tb : Nat} {w : World} {a : Option Addr} {c n : Nat} {d : DV} (hk : kindD d = 3) (h : HoldsD rb tb w (.slice a n c) d) : StrsC (CW w) a d.l := by
  cases d <;> first | cases hk | skip
  obtain ⟨a', c', e, _, _, ht⟩ := h
  cases e
  exact fun i hi => ht.1 i hi
theorem holds_nums {rb tb : Nat} {w : World} {a : Option Addr} {c n : Nat} {d : DV} (hk : kindD d = 4) (h : HoldsD rb tb w (.slice a n c) d) : NmsC (CW w) a d.ns := by
  cases d <;> first | cases hk | skip
  obtain ⟨a', c', e, _, _, ht⟩ := h
  cases e
  exact fun i hi => ht.1 i hi
theorem holds_revs {rb tb : Nat} {w : World} {a : Option Addr} {c n : Nat} {d : DV} (hk : kindD d = 5) (h : HoldsD rb tb w (.slice a n c) d) : RvsC (CW w) a d.rs := by
  cases d <;> first | cases hk | skip
  obtain ⟨a', c', e, _, _, rs, hl, hr, hi⟩ := h
  cases e
  intro i hi'
  obtain ⟨b, off, e, hc⟩ := hr i (by rw [hl]; exact hi')
  have h := hi i hi'
  refine ⟨b, off, e, ?_⟩
  show RevCl (CW w) b (off + i * 11) (lth _ i)
  have q0 := hc.c0
  rw [h.pos] at q0
  have q1 := hc.c1
  rw [h.L] at q1
  have q2 := hc.c2
  rw [h.signed] at q2
  have q3 := hc.c3
  rw [h.idx] at q3
  have q4 := hc.c4
  rw [h.wn] at q4
  have q5 := hc.c5
  rw [h.pn] at q5
  have q6 := hc.c6
  rw [h.root] at q6
  have q7 := hc.c7
  rw [h.wt] at q7
  have q8 := hc.c8
  rw [h.first] at q8
  have q9 := hc.c9
  rw [h.life] at q9
  have q10 := hc.c10
  rw [h.keys] at q10
  exact ⟨q0, q1, q2, q3, ⟨_, _, q4, fun j hj => h.ws.1 j hj⟩, ⟨_, _, q5, fun j hj => h.ps.1 j hj⟩, q6, q7, q8, q9, q10⟩
theorem strsC_nil (C : CP) (a : Option Addr) : StrsC C a [] := fun i hi => absurd hi (by simp [len])
theorem rqCert_any (B : Nat) (s : ByteArray) (w : World) (h : TE7 B w) (hs : s.size ≤ 9223372036854775807) : Calls Tryz.prog 50 #[.string s] w fun e w' => ∃ ev a2 c2 a3 c3 a4 c4 a5 c5, e = .returned (.tuple #[.agg (cellsCert (recV (readR s (certGs s) cert0) cert0) a2 c2 a3 c3 a4 c4 a5 c5), ev]) ∧ EvOf (readR s (certGs s) cert0) ev ∧ Tells B ev (readR s (certGs s) cert0) w' ∧ RvsC (CW w') a2 (recV (readR s (certGs s) cert0) cert0 2).rs ∧ NmsC (CW w') a3 (recV (readR s (certGs s) cert0) cert0 3).ns ∧ StrsC (CW w') a4 (recV (readR s (certGs s) cert0) cert0 4).l ∧ StrsC (CW w') a5 (recV (readR s (certGs s) cert0) cert0 5).l ∧ Below w.heap.size w w' := by
  refine (reaCert_any B s w h.t h.e h.s h.g hs).mono ?_
  rintro e w' ⟨hb, hh⟩
  cases hr : readR s (certGs s) cert0 with
  | error f =>
    rw [hr] at hh
    obtain ⟨fb, he, hf⟩ := hh
    exact ⟨_, none, 0, none, 0, none, 0, none, 0, he, ⟨fb, rfl⟩, tells_no hf, fun i hi => absurd hi (by simp [len, recV, cert0, DV.rs]), fun i hi => absurd hi (by simp [len, recV, cert0, DV.ns]), strsC_nil _ _, strsC_nil _ _, hb⟩
  | ok y =>
    rw [hr] at hh
    obtain ⟨hk, a2, c2, a3, c3, a4, c4, a5, c5, ⟨rb, tb, hL⟩, he⟩ := hh
    exact ⟨_, a2, c2, a3, c3, a4, c4, a5, c5, he, rfl, tells_ok B y w', holds_revs (hk 2) hL.1, holds_nums (hk 3) hL.2.1, holds_strs (hk 4) hL.2.2.1, holds_strs (hk 5) hL.2.2.2, hb⟩
end Go.Proofs.YtihiaopilnjonaaGreatDoor
namespace Go.Proofs.YtihiaopilnjonaaGreatDoor
open Go.RowKit
set_option linter.unusedSimpArgs false
set_option linter.unusedVariables false
def slotCut (d : RevD) : RevD := { d with ws := textsP d.ws 70, ps := textsP d.ps 20 }
def certRs (l : List RevD) : List RevD := (l.take 8).map slotCut
theorem certRs_len (l : List RevD) : len (certRs l) = min (len l) 8 := by unfold certRs; simp only [len, List.length_map, List.length_take]; omega
theorem certRs_at (l : List RevD) {i : Nat} (hi : i < len (certRs l)) : lth (certRs l) i = slotCut (lth l i) := by
  have hl := certRs_len l
  have h' : i < ((l.take 8).map slotCut).length := hi
  have h2 : i < l.length := by rw [hl, len_eq] at hi; omega
  show lth ((l.take 8).map slotCut) i = _
  rw [lth_eq _ i h', List.getElem_map, List.getElem_take, lth_eq l i h2]
theorem own_rvx {w : World} {base e n : Nat} {v : Value} {l : List RvX} (h : w.ownsRow base e 11 v n (l.flatMap RvX.cells)) : ∃ a c, v = .slice a (len l) c ∧ ∀ i (hi : i < l.length), ∃ b off, a = some ⟨b, off, none⟩ ∧ ∀ j, j < 11 → w.cell? ⟨b, off + i * 11 + j, none⟩ = (l[i].cells)[j]? := by
  have hn : len l = n := by
    have := h.1; rw [flat_length RvX.cells 11 (fun _ => rfl)] at this; rw [len_eq]; omega
  obtain ⟨h1, h2⟩ := h
  rcases h2 with ⟨rfl, h2⟩ | ⟨g, cap, cur, rfl, hg, hh, hc1, hc2, hc3, hc4⟩
  · obtain rfl : l = [] := List.eq_nil_of_length_eq_zero (by rw [← len_eq]; omega)
    exact ⟨none, 0, rfl, fun i hi => by simp at hi⟩
  · refine ⟨some ⟨g, 0, none⟩, cap, by rw [hn], fun i hi => ⟨g, 0, rfl, fun r hr => ?_⟩⟩
    have hown : w.ownsRow base e 11 (.slice (some ⟨g, 0, none⟩) n cap) n (l.flatMap RvX.cells) := ⟨h1, .inr ⟨g, cap, cur, rfl, hg, hh, hc1, hc2, hc3, hc4⟩⟩
    have := hown.cellAt (i * 11 + r) (by rw [← hn, len_eq]; omega)
    rw [Nat.zero_add, this, flat_get RvX.cells 11 (fun _ => rfl) l i r hi hr]
set_option maxRecDepth 100000 in
theorem slice_to7 {n c k : Nat} (b0 : Option Addr) (hk : k ≤ c) (W : World) : (Instr.slice 25 (.slice b0 n c) none (some (.int .i64 (k : Int))) none).run Tryz.prog W = .ok (.slice b0 k c) W := by
  have hsz : (sizeOf (Tryz.prog.elem 25)).run Tryz.prog W = .ok 1 W := by kernel_rfl
  rw [run_slice_h (P := Tryz.prog) W 25 b0 n c Tryz.underlying25 .i64 (k : Int) (by omega) (by omega), hsz]
  simp only [Result.andThen, sliced, Int.toNat_natCast, Nat.sub_zero, Nat.zero_mul]
  have e : (b0.map (·.add 0)) = b0 := by cases b0 <;> simp [Addr.add]
  rw [e]
  split <;> rfl
theorem CWS.cw {w : World} {b o : Nat} {x : Value} (h : CWS w b o x) : CW w b o x := h.1
def CW2 (n : Nat) (w : World) : CP := fun b o x => CW w b o x ∧ (n ≤ b ∨ ∃ cs, w.heap[b]? = some (.cells cs 9 (0, 0)))
theorem CW2.cw {n : Nat} {w : World} {b o : Nat} {x : Value} (h : CW2 n w b o x) : CW w b o x := h.1
theorem CWS.cw2 {w : World} (n : Nat) {b o : Nat} {x : Value} (h : CWS w b o x) : CW2 n w b o x := ⟨h.1, .inr h.2⟩
theorem CW2.set {n : Nat} {w : World} {b o t j : Nat} {x : Value} {cs : Array Value} {T : TypeId} {fr : Nat × Nat} (h : CW2 n w b o x) (ht : t < n) (hb : w.heap[t]? = some (.cells cs T fr)) (hT : T ≠ 9) (v : Value) : CW2 n (w.setCell ⟨t, j, none⟩ v) b o x := by
  have hne : b ≠ t := fun e => by
    subst e
    rcases h.2 with h2 | ⟨cs', h2⟩
    · omega
    · rw [hb] at h2; cases h2; exact hT rfl
  have hk : (w.setCell ⟨t, j, none⟩ v).heap[b]? = w.heap[b]? := Below.heap_setCell _ _ _ _ hne
  exact ⟨(World.cell?_of_block (a := ⟨b, o, none⟩) hk).trans h.1, h.2.imp id (fun ⟨cs', h2⟩ => ⟨cs', hk.trans h2⟩)⟩
def CertIs2 (a3 : Option Addr) (k3 : Nat) (root : ByteArray) (sg : Int) (rs : List RevD) (cs : List Int) (sp pp : List ByteArray) (w : World) (e : Ending) (w' : World) : Prop := ∃ a2 k2 a4 k4 a5 k5, e = .returned (.agg #[.string root, .int .u64 sg, .slice a2 (len rs) k2, .slice a3 (len cs) k3, .slice a4 (len sp) k4, .slice a5 (len pp) k5]) ∧ RvsC (CW2 w.heap.size w') a2 rs ∧ NmsC (CW w') a3 cs ∧ StrsC (CW2 w.heap.size w') a4 sp ∧ StrsC (CW2 w.heap.size w') a5 pp ∧ Below w.heap.size w w'
def KeepS (w w' : World) : Prop := ∀ (b : Nat) (cs : Array Value), w.heap[b]? = some (.cells cs 9 (0, 0)) → w'.heap[b]? = w.heap[b]?
theorem KeepS.trans {a b c : World} (h : KeepS a b) (k : KeepS b c) : KeepS a c := fun i cs hi => (k i cs ((h i cs hi).trans hi)).trans (h i cs hi)
theorem KeepS.low {w w' : World} (hb : Below w.heap.size w w') : KeepS w w' := fun b cs h => hb.block b (lt_of_block h)
theorem KeepS.set {w : World} {t j : Nat} {cs : Array Value} {T : TypeId} {fr : Nat × Nat} (h : w.heap[t]? = some (.cells cs T fr)) (hT : T ≠ 9) (v : Value) : KeepS w (w.setCell ⟨t, j, none⟩ v) := fun b cs' hb => Below.heap_setCell _ _ _ _ (show b ≠ t from fun e => by subst e; rw [h] at hb; cases hb; exact hT rfl)
theorem KeepS.row {w w' : World} {v : Value} {base n k : Nat} {T : TypeId} {xs : List Value} (ho : w.ownsRow base T k v n xs) (hT : T ≠ 9) (hE : ExtB v.ownBlock w w') : KeepS w w' := fun b cs hb => hE.block b (lt_of_block hb) (fun e => by
  obtain ⟨cs', h⟩ := own_type ho b e.symm
  rw [h] at hb; cases hb; exact hT rfl)
theorem own_but {w w' : World} {base e size n : Nat} {v : Value} {xs : List Value} (h : w.ownsRow base e size v n xs) (hb : ∀ g, v.ownBlock = some g → w'.heap[g]? = w.heap[g]?) : w'.ownsRow base e size v n xs := by
  refine ⟨h.1, ?_⟩
  rcases h.2 with h2 | ⟨g, cap, cur, hv, hg, hh, hr2⟩
  · exact .inl h2
  · exact .inr ⟨g, cap, cur, hv, hg, (hb g (by rw [hv]; rfl)).trans hh, hr2⟩
set_option maxRecDepth 100000 in
set_option maxHeartbeats 8000000 in
theorem cert2_any (root : ByteArray) (sg : Int) (rs : List RevD) (cs : List Int) (sp pp : List ByteArray) (a2 a3 a4 a5 : Option Addr) (k2 k3 k4 k5 : Nat) (w : World)
    (h2 : RvsC (CW w) a2 rs) (h3 : NmsC (CW w) a3 cs) (h4 : StrsC (CW w) a4 sp) (h5 : StrsC (CW w) a5 pp) (n2 : len rs ≤ 9223372036854775807) (n3 : len cs ≤ 9223372036854775807) (m3 : len cs ≤ k3) (n4 : len sp ≤ 9223372036854775807) (n5 : len pp ≤ 9223372036854775807)
    (hr : ∀ i, i < len rs → len (lth rs i).ws ≤ 9223372036854775807 ∧ len (lth rs i).ps ≤ 9223372036854775807) :
    Calls Tryz.prog 47 #[.agg #[.string root, .int .u64 sg, .slice a2 (len rs) k2, .slice a3 (len cs) k3, .slice a4 (len sp) k4, .slice a5 (len pp) k5]] w (CertIs2 a3 k3 root sg (certRs rs) (cs.take 650) (textsP sp 20) (textsP pp 20) w) := by
  have HR := Lib.hid h2
  have HC := Lib.hid h3
  have HRL := Lib.hid hr
  have H4 := Lib.hid (fun (w' : World) (hb : Below w.heap.size w w') => texts_any a4 k4 sp 20 w' (h4.low hb) n4 (by decide))
  have H5 := Lib.hid (fun (w' : World) (hb : Below w.heap.size w w') => texts_any a5 k5 pp 20 w' (h5.low hb) n5 (by decide))
  obtain ⟨nc, hnc⟩ : ∃ n, min (len cs) 650 = n := ⟨_, rfl⟩
  have hcn : len (cs.take 650) = nc := by rw [← hnc]; simp only [len, List.length_take]; omega
  have HCN := Lib.hid hcn
  have mn : min (len cs : Int) 650 = (nc : Int) := by rw [← hnc]; omega
  have hs1 : ∀ W, (Instr.slice 25 (.slice a3 (len cs) k3) none (some (.int .i64 (nc : Int))) none).run Tryz.prog W = .ok (.slice a3 nc k3) W := fun W => slice_to7 a3 (by omega) W
  clear h2 h3 h4 h5 hr hcn
  generalize textsP sp 20 = sp' at H4
  generalize textsP pp 20 = pp' at H5
  generalize len sp = n4' at H4 ⊢
  generalize len pp = n5' at H5 ⊢
  clear hnc
  go_enter Tryz.func47, Tryz.ntmps47
  go_upto_region 1 with fail
  obtain ⟨cb, hcb⟩ : ∃ cb, w.heap.size = cb := ⟨_, rfl⟩
  obtain ⟨V, hV⟩ : ∃ V, (w.alloc (.cells #[.string root, .int .u64 sg, .slice a2 (len rs) k2, .slice a3 (len cs) k3, .slice a4 n4' k4, .slice a5 n5' k5] 28)).alloc (.cells #[.string ⟨#[]⟩, .int .u64 0, .slice none 0 0, .slice none 0 0, .slice none 0 0, .slice none 0 0] 28) = V := ⟨_, rfl⟩
  have HB : Hid (Below w.heap.size w V) := Lib.hid (by rw [← hV]; exact balloc (balloc (Below.refl _ _) _) _)
  have HS : Hid (V.heap[cb]? = some (.cells #[.string root, .int .u64 sg, .slice a2 (len rs) k2, .slice a3 (len cs) k3, .slice a4 n4' k4, .slice a5 n5' k5] 28 (0, 0))) := Lib.hid (by rw [← hV, ← hcb]; exact block_alloc (heap_alloc_new _ _) _)
  have HZ : Hid (V.heap[cb + 1]? = some (.cells #[.string ⟨#[]⟩, .int .u64 0, .slice none 0 0, .slice none 0 0, .slice none 0 0, .slice none 0 0] 28 (0, 0))) := Lib.hid (by rw [← hV]; exact alloc_new_at _ (by simp [hcb]))
  have HCB : Hid (w.heap.size ≤ cb) := Lib.hid (Nat.le_of_eq hcb)
  try rw [hV]
  try simp only [hcb]
  clear hV hcb
  have cS : ∀ o, V.cell? ⟨cb, o, none⟩ = _ := block_cell HS.out
  go_wp2_with fail
  refine (H4.out V HB.out).mono ?_
  rintro e w1 ⟨b4, c4, rfl, hs, _, hb⟩
  have T4 := Lib.hid hs
  have HBa := Lib.hid (bnext HB.out hb)
  have HSa := Lib.hid ((hb.block _ (lt_of_block HS.out)).trans HS.out)
  have HZa := Lib.hid ((hb.block _ (lt_of_block HZ.out)).trans HZ.out)
  clear hs hb cS HS HZ HB
  have cS : ∀ o, w1.cell? ⟨cb, o, none⟩ = _ := block_cell HSa.out
  have fS : ∀ o, w1.frozen? ⟨cb, o, none⟩ = false := block_free HSa.out
  have lS : cb < w1.heap.size := lt_of_block HSa.out
  go_upto_region 2 with fail
  obtain ⟨W1, hW1⟩ : ∃ W1, w1.setCell ⟨cb, 4, none⟩ (.slice b4 (len sp') c4) = W1 := ⟨_, rfl⟩
  have HSb : Hid (W1.heap[cb]? = some (.cells #[.string root, .int .u64 sg, .slice a2 (len rs) k2, .slice a3 (len cs) k3, .slice b4 (len sp') c4, .slice a5 n5' k5] 28 (0, 0))) := Lib.hid (by rw [← hW1]; exact block_setCell HSa.out _)
  have HZb : Hid (W1.heap[cb + 1]? = some (.cells #[.string ⟨#[]⟩, .int .u64 0, .slice none 0 0, .slice none 0 0, .slice none 0 0, .slice none 0 0] 28 (0, 0))) := Lib.hid (by rw [← hW1]; exact block_setCell_ne HZa.out (show cb + 1 ≠ cb by omega) _)
  have HBb : Hid (Below w.heap.size w W1) := Lib.hid (by rw [← hW1]; exact bset HBa.out HCB.out _)
  have T4b : Hid (StrsC (CWS W1) b4 sp') := Lib.hid (by rw [← hW1]; exact T4.out.wset HSa.out (by decide) _)
  rw [hW1]
  clear hW1 cS fS lS HSa HZa HBa T4
  have cS : ∀ o, W1.cell? ⟨cb, o, none⟩ = _ := block_cell HSb.out
  go_wp2_with fail
  refine (H5.out W1 HBb.out).mono ?_
  rintro e w2 ⟨b5, c5, rfl, hs, _, hb⟩
  have T5 := Lib.hid hs
  have T4c := Lib.hid (T4b.out.wlow hb)
  have HBc := Lib.hid (bnext HBb.out hb)
  have HSc := Lib.hid ((hb.block _ (lt_of_block HSb.out)).trans HSb.out)
  have HZc := Lib.hid ((hb.block _ (lt_of_block HZb.out)).trans HZb.out)
  clear hs hb cS HSb HZb HBb T4b
  have cS : ∀ o, w2.cell? ⟨cb, o, none⟩ = _ := block_cell HSc.out
  have fS : ∀ o, w2.frozen? ⟨cb, o, none⟩ = false := block_free HSc.out
  have lS : cb < w2.heap.size := lt_of_block HSc.out
  go_upto_region 3 with fail
  obtain ⟨W2, hW2⟩ : ∃ W2, w2.setCell ⟨cb, 5, none⟩ (.slice b5 (len pp') c5) = W2 := ⟨_, rfl⟩
  have HSd : Hid (W2.heap[cb]? = some (.cells #[.string root, .int .u64 sg, .slice a2 (len rs) k2, .slice a3 (len cs) k3, .slice b4 (len sp') c4, .slice b5 (len pp') c5] 28 (0, 0))) := Lib.hid (by rw [← hW2]; exact block_setCell HSc.out _)
  have HZd : Hid (W2.heap[cb + 1]? = some (.cells #[.string ⟨#[]⟩, .int .u64 0, .slice none 0 0, .slice none 0 0, .slice none 0 0, .slice none 0 0] 28 (0, 0))) := Lib.hid (by rw [← hW2]; exact block_setCell_ne HZc.out (show cb + 1 ≠ cb by omega) _)
  have HBd : Hid (Below w.heap.size w W2) := Lib.hid (by rw [← hW2]; exact bset HBc.out HCB.out _)
  have T4d : Hid (StrsC (CWS W2) b4 sp') := Lib.hid (by rw [← hW2]; exact T4c.out.wset HSc.out (by decide) _)
  have T5d : Hid (StrsC (CWS W2) b5 pp') := Lib.hid (by rw [← hW2]; exact T5.out.wset HSc.out (by decide) _)
  rw [hW2]
  clear hW2 cS fS lS HSc HZc HBc T4c T5
  have cS : ∀ o, W2.cell? ⟨cb, o, none⟩ = _ := block_cell HSd.out
  have fS : ∀ o, W2.frozen? ⟨cb, o, none⟩ = false := block_free HSd.out
  have lS : cb < W2.heap.size := lt_of_block HSd.out
  go_upto_region 4 with fail
  obtain ⟨W3, hW3⟩ : ∃ W3, W2.setCell ⟨cb, 3, none⟩ (.slice a3 nc k3) = W3 := ⟨_, rfl⟩
  have HSe : Hid (W3.heap[cb]? = some (.cells #[.string root, .int .u64 sg, .slice a2 (len rs) k2, .slice a3 nc k3, .slice b4 (len sp') c4, .slice b5 (len pp') c5] 28 (0, 0))) := Lib.hid (by rw [← hW3]; exact block_setCell HSd.out _)
  have HZe : Hid (W3.heap[cb + 1]? = some (.cells #[.string ⟨#[]⟩, .int .u64 0, .slice none 0 0, .slice none 0 0, .slice none 0 0, .slice none 0 0] 28 (0, 0))) := Lib.hid (by rw [← hW3]; exact block_setCell_ne HZd.out (show cb + 1 ≠ cb by omega) _)
  have HBe : Hid (Below w.heap.size w W3) := Lib.hid (by rw [← hW3]; exact bset HBd.out HCB.out _)
  have T4e : Hid (StrsC (CWS W3) b4 sp') := Lib.hid (by rw [← hW3]; exact T4d.out.wset HSd.out (by decide) _)
  have T5e : Hid (StrsC (CWS W3) b5 pp') := Lib.hid (by rw [← hW3]; exact T5d.out.wset HSd.out (by decide) _)
  rw [hW3]
  clear hW3 cS fS lS HSd HZd HBd T4d T5d hs1 mn
  obtain ⟨N, hN⟩ : ∃ N, min (len rs) 8 = N := ⟨_, rfl⟩
  have hN1 : N ≤ len rs ∧ N ≤ 8 ∧ (N = len rs ∨ N = 8) := by omega
  obtain ⟨i0, hi, hz0, hz1, hz2⟩ := info_parts info_rev
  go_wp2
  go_loopg [3, 4, 5] N (fun g lv i x5 wr => ∃ (m : Nat) (acc : List RvX), g + m = N ∧ i = .int .i64 m ∧ Hid (acc.map (fun x => x.d) = (rs.take m).map slotCut) ∧ Hid (Below W3.heap.size W3 wr) ∧ Hid (wr.ownsRow W3.heap.size 48 11 lv m (acc.flatMap RvX.cells)) ∧ Hid (∀ x ∈ acc, StrsC (CWS wr) x.wa x.d.ws ∧ StrsC (CWS wr) x.pa x.d.ps))
  case atStart => exact ⟨0, [], rfl, rfl, rfl, Below.refl _ _, World.ownsRow_nil _ _ _ _, fun x hx => by cases hx⟩
  case round =>
    obtain ⟨m, acc, hm, rfl, HA, HW, HO, HT⟩ := hrel
    by_cases hlt : m < N
    · have i1 : (m : Int) < len rs := by omega
      have i2 : (m : Int) < 8 := by omega
      have hbw : Below w.heap.size w wr := bnext HBe.out HW.out
      have hcl : cb < wr.heap.size := Nat.lt_of_lt_of_le (lt_of_block HSe.out) HW.out.size
      obtain ⟨gb, go, ha2, hc⟩ := HR.out m (by omega)
      have hrl := HRL.out m (by omega)
      have hml : m < rs.length := by have := len_eq rs; omega
      have HTK : Hid ((rs.take (m + 1)).map slotCut = acc.map (fun x => x.d) ++ [slotCut (lth rs m)]) := Lib.hid (by
        rw [HA.out, List.take_succ_eq_append_getElem hml, List.map_append, lth_eq rs m hml]; rfl)
      generalize lth rs m = d at hc hrl HTK
      have HSw := Lib.hid ((HW.out.block _ (lt_of_block HSe.out)).trans HSe.out)
      have cS : ∀ o, wr.cell? ⟨cb, o, none⟩ = _ := block_cell HSw.out
      obtain ⟨wa, wk, q4, s4⟩ := hc.c4
      obtain ⟨pa, pk, q5, s5⟩ := hc.c5
      have e0 : wr.cell? ⟨gb, go + m * 11, none⟩ = some _ := cw_low hbw _ _ _ hc.c0
      have e1 : wr.cell? ⟨gb, go + m * 11 + 1, none⟩ = some _ := cw_low hbw _ _ _ hc.c1
      have e2 : wr.cell? ⟨gb, go + m * 11 + 2, none⟩ = some _ := cw_low hbw _ _ _ hc.c2
      have e3 : wr.cell? ⟨gb, go + m * 11 + 3, none⟩ = some _ := cw_low hbw _ _ _ hc.c3
      have e4 : wr.cell? ⟨gb, go + m * 11 + 4, none⟩ = some _ := cw_low hbw _ _ _ q4
      have e5 : wr.cell? ⟨gb, go + m * 11 + 5, none⟩ = some _ := cw_low hbw _ _ _ q5
      have e6 : wr.cell? ⟨gb, go + m * 11 + 6, none⟩ = some _ := cw_low hbw _ _ _ hc.c6
      have e7 : wr.cell? ⟨gb, go + m * 11 + 7, none⟩ = some _ := cw_low hbw _ _ _ hc.c7
      have e8 : wr.cell? ⟨gb, go + m * 11 + 8, none⟩ = some _ := cw_low hbw _ _ _ hc.c8
      have e9 : wr.cell? ⟨gb, go + m * 11 + 9, none⟩ = some _ := cw_low hbw _ _ _ hc.c9
      have e10 : wr.cell? ⟨gb, go + m * 11 + 10, none⟩ = some _ := cw_low hbw _ _ _ hc.c10
      have HSL := Lib.hid (fun (w' : World) (hb : Below w.heap.size w w') => slot_any d.L d.signed d.idx wa pa wk pk d.ws d.ps w' (s4.imp (cw_low hb)) (s5.imp (cw_low hb)) hrl.1 hrl.2)
      subst ha2
      clear hc q4 q5 s4 s5 hrl
      go_upto_region 9 with fail
      obtain ⟨xb, hxb⟩ : ∃ xb, wr.heap.size = xb := ⟨_, rfl⟩
      obtain ⟨W4, hW4⟩ : ∃ W4, wr.alloc (.cells #[.int .u64 d.pos, .int .u64 d.L, .bool d.signed, .int .u64 d.idx, .slice wa (len d.ws) wk, .slice pa (len d.ps) pk, .string d.root, .int .u64 d.wt, .int .u64 d.first, .int .u64 d.life, .int .u64 d.keys] 48) = W4 := ⟨_, rfl⟩
      have hb4 : Below wr.heap.size wr W4 := by rw [← hW4]; exact balloc (Below.refl _ _) _
      have HX4 : Hid (W4.heap[xb]? = some (.cells #[.int .u64 d.pos, .int .u64 d.L, .bool d.signed, .int .u64 d.idx, .slice wa (len d.ws) wk, .slice pa (len d.ps) pk, .string d.root, .int .u64 d.wt, .int .u64 d.first, .int .u64 d.life, .int .u64 d.keys] 48 (0, 0))) := Lib.hid (by rw [← hW4, ← hxb]; exact heap_alloc_new _ _)
      have HO4 := Lib.hid (own_below HO.out hb4)
      have HT4 : Hid (KeepS wr W4) := Lib.hid (KeepS.low hb4)
      have HW4 := Lib.hid (bnext HW.out hb4)
      have HXB : Hid (W3.heap.size ≤ xb ∧ ∀ g, u3.ownBlock = some g → g ≠ xb) := Lib.hid ⟨by rw [← hxb]; exact HW.out.size, fun g hg => by have := (HO.out.lt g hg).2; omega⟩
      simp only [hW4, hxb]
      clear hW4 hxb hb4 cS e0 e1 e2 e3 e4 e5 e6 e7 e8 e9 e10
      have cX : ∀ o, W4.cell? ⟨xb, o, none⟩ = _ := block_cell HX4.out
      go_wp2_with fail
      refine (HSL.out W4 (bnext HBe.out HW4.out)).mono ?_
      rintro e w5 ⟨x1, y1, x2, y2, rfl, hx1, hx2, hb⟩
      have HX1 := Lib.hid hx1
      have HX2 := Lib.hid hx2
      have HX5 := Lib.hid ((hb.block _ (lt_of_block HX4.out)).trans HX4.out)
      have HO5 := Lib.hid (own_below HO4.out hb)
      have HT5 : Hid (KeepS wr w5) := Lib.hid (HT4.out.trans (KeepS.low hb))
      have HW5 := Lib.hid (bnext HW4.out hb)
      clear hx1 hx2 hb cX HX4 HO4 HT4 HW4 HSL
      have cX : ∀ o, w5.cell? ⟨xb, o, none⟩ = _ := block_cell HX5.out
      have fX : ∀ o, w5.frozen? ⟨xb, o, none⟩ = false := block_free HX5.out
      have lX : xb < w5.heap.size := lt_of_block HX5.out
      go_upto_region 10 with fail
      obtain ⟨W6, hW6⟩ : ∃ W6, ((((w5.setCell ⟨xb, 1, none⟩ (.int .u64 d.L)).setCell ⟨xb, 2, none⟩ (.bool d.signed)).setCell ⟨xb, 3, none⟩ (.int .u64 d.idx)).setCell ⟨xb, 4, none⟩ (.slice x1 (len (textsP d.ws 70)) y1)).setCell ⟨xb, 5, none⟩ (.slice x2 (len (textsP d.ps 20)) y2) = W6 := ⟨_, rfl⟩
      have HX6 : Hid (W6.heap[xb]? = some (.cells #[.int .u64 d.pos, .int .u64 d.L, .bool d.signed, .int .u64 d.idx, .slice x1 (len (textsP d.ws 70)) y1, .slice x2 (len (textsP d.ps 20)) y2, .string d.root, .int .u64 d.wt, .int .u64 d.first, .int .u64 d.life, .int .u64 d.keys] 48 (0, 0))) := Lib.hid (by rw [← hW6]; exact block_setCell (block_setCell (block_setCell (block_setCell (block_setCell HX5.out _) _) _) _) _)
      have HK6 : Hid (KeepS w5 W6) := Lib.hid (by
        rw [← hW6]
        exact ((((KeepS.set HX5.out (by decide) _).trans (KeepS.set (block_setCell HX5.out _) (by decide) _)).trans (KeepS.set (block_setCell (block_setCell HX5.out _) _) (by decide) _)).trans (KeepS.set (block_setCell (block_setCell (block_setCell HX5.out _) _) _) (by decide) _)).trans (KeepS.set (block_setCell (block_setCell (block_setCell (block_setCell HX5.out _) _) _) _) (by decide) _))
      have HO6 : Hid (W6.ownsRow W3.heap.size 48 11 u3 m (acc.flatMap RvX.cells)) := Lib.hid (own_but HO5.out fun g hg => by
        have hne := HXB.out.2 g hg
        rw [← hW6, Below.heap_setCell _ _ _ _ hne, Below.heap_setCell _ _ _ _ hne, Below.heap_setCell _ _ _ _ hne, Below.heap_setCell _ _ _ _ hne, Below.heap_setCell _ _ _ _ hne])
      have HW6 : Hid (Below W3.heap.size W3 W6) := Lib.hid (by
        rw [← hW6]
        have h := HXB.out.1
        exact bset (bset (bset (bset (bset HW5.out h _) h _) h _) h _) h _)
      have HX1 : Hid (StrsC (CWS W6) x1 (textsP d.ws 70)) := Lib.hid (HX1.out.wkeep HK6.out)
      have HX2 : Hid (StrsC (CWS W6) x2 (textsP d.ps 20)) := Lib.hid (HX2.out.wkeep HK6.out)
      have HT6 : Hid (KeepS wr W6) := Lib.hid (HT5.out.trans HK6.out)
      rw [hW6]
      clear hW6 cX fX lX HX5 HO5 HT5 HW5 HK6
      have cX : ∀ o, W6.cell? ⟨xb, o, none⟩ = _ := block_cell HX6.out
      have hws : W3.heap.size ≤ W6.heap.size := HW6.out.size
      go_wp2_with (at_builtin; refine wpList_append_own _ rfl _ _ 24 rfl W3.heap.size 48 i0 (.agg Rev.zero.cells.toArray) 11 128 Tryz.underlying24 hi hz0 hz1 hz2 rfl (by decide) _ _ _ rfl (HO6.out.alloc _) ⟨W6.heap.size, 0, none⟩ 1 1 [.int .u64 d.pos, .int .u64 d.L, .bool d.signed, .int .u64 d.idx, .slice x1 (len (textsP d.ws 70)) y1, .slice x2 (len (textsP d.ps 20)) y2, .string d.root, .int .u64 d.wt, .int .u64 d.first, .int .u64 d.life, .int .u64 d.keys] rfl rfl ?c1 ?c2 ?c3 ?c4 ?c5 ?_)
      case c1 => exact World.news_of_block (heap_alloc_new _ _)
      case c2 => intro u hu; simp at hu; rcases hu with rfl | rfl | rfl | rfl | rfl | rfl | rfl | rfl | rfl | rfl | rfl <;> rfl
      case c3 => unfold maxLen; omega
      case c4 => omega
      case c5 => simp; omega
      intro v' w7 hown' hgrow hnil
      have HO7 : Hid (w7.ownsRow W3.heap.size 48 11 v' (m + 1) ((acc ++ [(⟨slotCut d, x1, y1, x2, y2⟩ : RvX)]).flatMap RvX.cells)) := Lib.hid (by rw [List.flatMap_append]; exact hown')
      have HK7 : Hid (KeepS wr w7) := Lib.hid (HT6.out.trans ((KeepS.low (balloc (Below.refl _ _) _)).trans (KeepS.row (HO6.out.alloc _) (by decide) hgrow)))
      have HX1 : Hid (StrsC (CWS w7) x1 (textsP d.ws 70)) := Lib.hid (HX1.out.wkeep ((KeepS.low (balloc (Below.refl _ _) _)).trans (KeepS.row (HO6.out.alloc _) (by decide) hgrow)))
      have HX2 : Hid (StrsC (CWS w7) x2 (textsP d.ps 20)) := Lib.hid (HX2.out.wkeep ((KeepS.low (balloc (Below.refl _ _) _)).trans (KeepS.row (HO6.out.alloc _) (by decide) hgrow)))
      have HT7 : Hid (∀ x ∈ acc ++ [(⟨slotCut d, x1, y1, x2, y2⟩ : RvX)], StrsC (CWS w7) x.wa x.d.ws ∧ StrsC (CWS w7) x.pa x.d.ps) := Lib.hid (fun x hx => by
        rcases List.mem_append.1 hx with h | h
        · exact ⟨(HT.out x h).1.wkeep HK7.out, (HT.out x h).2.wkeep HK7.out⟩
        · rw [List.mem_singleton] at h; subst h; exact ⟨HX1.out, HX2.out⟩)
      have HW7 : Hid (Below W3.heap.size W3 w7) := Lib.hid (by
        have h9 := HO6.out.lt
        have hb : Below W3.heap.size W6 w7 := by
          refine ⟨hgrow.os, hgrow.tape, hgrow.output, by have := hgrow.size; simp at this; omega, fun i hi => ?_⟩
          rw [hgrow.block i (by simp; omega) (fun e => by have := (h9 i e.symm).1; omega)]
          exact Below.heap_alloc _ _ _ (by omega)
        exact HW6.out.trans hb)
      have HA7 : Hid ((acc ++ [(⟨slotCut d, x1, y1, x2, y2⟩ : RvX)]).map (fun x => x.d) = (rs.take (m + 1)).map slotCut) := Lib.hid (by rw [HTK.out, List.map_append]; rfl)
      clear hown' hgrow hnil cX hws
      go_wp2
      go_roundg (N - (m + 1))
      case rel => exact ⟨m + 1, _, by omega, by go_num, HA7.out, HW7.out, HO7.out, HT7.out⟩
      case measure => omega
    · obtain rfl : m = N := by omega
      have HF : Hid (acc.map (fun x => x.d) = certRs rs) := Lib.hid (by
        rw [HA.out]; unfold certRs
        rcases hN1.2.2 with h | h
        · rw [h, List.take_of_length_le (by rw [len_eq]; exact Nat.le_refl _), List.take_of_length_le (by rw [← len_eq]; omega)]
        · rw [h])
      obtain ⟨la, lc, hlv, hcell⟩ := own_rvx HO.out
      have HOL := Lib.hid HO.out.lt
      have HCE := Lib.hid hcell
      have HSw := Lib.hid ((HW.out.block _ (lt_of_block HSe.out)).trans HSe.out)
      have HZw := Lib.hid ((HW.out.block _ (lt_of_block HZe.out)).trans HZe.out)
      have T4w := Lib.hid (T4e.out.wlow HW.out)
      have T5w := Lib.hid (T5e.out.wlow HW.out)
      have cS : ∀ o, wr.cell? ⟨cb, o, none⟩ = _ := block_cell HSw.out
      have fS : ∀ o, wr.frozen? ⟨cb, o, none⟩ = false := block_free HSw.out
      have lS : cb < wr.heap.size := lt_of_block HSw.out
      have HAL : Hid (len acc = len (certRs rs)) := Lib.hid (by rw [← HF.out]; simp only [len, List.length_map])
      subst hlv
      clear hcell
      have hcases : ((m : Int) < len rs ∧ ¬ (m : Int) < 8) ∨ ¬ (m : Int) < len rs := by omega
      rcases hcases with ⟨i1, i2⟩ | i1
      all_goals
        go_upto_region 12 with fail
        obtain ⟨W8, hW8⟩ : ∃ W8, wr.setCell ⟨cb, 2, none⟩ (.slice la (len acc) lc) = W8 := ⟨_, rfl⟩
        have HS8 : Hid (W8.heap[cb]? = some (.cells #[.string root, .int .u64 sg, .slice la (len acc) lc, .slice a3 nc k3, .slice b4 (len sp') c4, .slice b5 (len pp') c5] 28 (0, 0))) := Lib.hid (by rw [← hW8]; exact block_setCell HSw.out _)
        have HZ8 : Hid (W8.heap[cb + 1]? = some (.cells #[.string ⟨#[]⟩, .int .u64 0, .slice none 0 0, .slice none 0 0, .slice none 0 0, .slice none 0 0] 28 (0, 0))) := Lib.hid (by rw [← hW8]; exact block_setCell_ne HZw.out (show cb + 1 ≠ cb by omega) _)
        have HB8 : Hid (Below w.heap.size w W8) := Lib.hid (by rw [← hW8]; exact bset (bnext HBe.out HW.out) HCB.out _)
        have hbut8 : Hid (∀ k : Nat, k ≠ cb → W8.heap[k]? = wr.heap[k]?) := Lib.hid (fun k hk => by rw [← hW8, Below.heap_setCell _ _ _ _ hk])
        rw [hW8]
        clear hW8 cS fS lS
        have cS : ∀ o, W8.cell? ⟨cb, o, none⟩ = _ := block_cell HS8.out
        have g0 : ∀ o, W8.cell? ⟨cb + 1, o, none⟩ = _ := block_cell HZ8.out
        have g1 : ∀ o, W8.frozen? ⟨cb + 1, o, none⟩ = false := block_free HZ8.out
        have g2 : cb + 1 < W8.heap.size := lt_of_block HZ8.out
        go_wp2
        have hb9 := block_setCell (block_setCell (block_setCell (block_setCell (block_setCell (block_setCell HZ8.out (o := 0) (.string root)) (o := 1) (.int .u64 sg)) (o := 2) (.slice la (len acc) lc)) (o := 3) (.slice a3 nc k3)) (o := 4) (.slice b4 (len sp') c4)) (o := 5) (.slice b5 (len pp') c5)
        have dd : ∀ o, _ = _ := block_cell hb9
        have hle : w.heap.size ≤ cb + 1 := Nat.le_trans HCB.out (Nat.le_succ _)
        obtain ⟨F, hF⟩ : ∃ F, (((((W8.setCell ⟨cb + 1, 0, none⟩ (.string root)).setCell ⟨cb + 1, 1, none⟩ (.int .u64 sg)).setCell ⟨cb + 1, 2, none⟩ (.slice la (len acc) lc)).setCell ⟨cb + 1, 3, none⟩ (.slice a3 nc k3)).setCell ⟨cb + 1, 4, none⟩ (.slice b4 (len sp') c4)).setCell ⟨cb + 1, 5, none⟩ (.slice b5 (len pp') c5) = F := ⟨_, rfl⟩
        have hbut : ∀ k : Nat, k ≠ cb → k ≠ cb + 1 → F.heap[k]? = wr.heap[k]? := fun k h1 h2 => by
          rw [← hF, Below.heap_setCell _ _ _ _ h2, Below.heap_setCell _ _ _ _ h2, Below.heap_setCell _ _ _ _ h2, Below.heap_setCell _ _ _ _ h2, Below.heap_setCell _ _ _ _ h2, Below.heap_setCell _ _ _ _ h2]
          exact hbut8.out k h1
        have hFB : Below w.heap.size w F := by
          rw [← hF]
          exact bset (bset (bset (bset (bset (bset HB8.out hle _) hle _) hle _) hle _) hle _) hle _
        have hKS : KeepS wr F := fun b cs hb => hbut b (fun e => by subst e; rw [HSw.out] at hb; cases hb) (fun e => by subst e; rw [HZw.out] at hb; cases hb)
        rw [hF] at dd ⊢
        refine bodyPost_ret (v := .agg #[.string root, .int .u64 sg, .slice la (len acc) lc, .slice a3 nc k3, .slice b4 (len sp') c4, .slice b5 (len pp') c5]) ?_ rfl ⟨la, lc, b4, c4, b5, c5, by rw [HAL.out, HCN.out], fun i hi => ?_, fun i hi => ?_, (T4w.out.wkeep hKS).imp fun _ _ _ h => h.cw2 _, (T5w.out.wkeep hKS).imp fun _ _ _ h => h.cw2 _, hFB⟩
        · simp [results, Tryz.results47, go_sem, dd]
        · have hia : i < acc.length := by rw [← HAL.out, len_eq] at hi; exact hi
          obtain ⟨b, off, hla, hce⟩ := HCE.out i hia
          have hbl := HOL.out b (by rw [hla]; rfl)
          have hz := lt_of_block HZe.out
          have hFc : ∀ j, j < 11 → F.cell? ⟨b, off + i * 11 + j, none⟩ = (acc[i].cells)[j]? := fun j hj => by
            rw [World.cell?_of_block (w := wr) (hbut b (by omega) (by omega))]; exact hce j hj
          have hd : lth (certRs rs) i = acc[i].d := by
            rw [← HF.out, lth_eq _ i (by simpa using hia), List.getElem_map]
          have ht := HT.out acc[i] (List.getElem_mem _)
          have e0 := hFc 0 (by decide)
          rw [Nat.add_zero] at e0
          rw [hd]
          have hFc : ∀ j, j < 11 → ∀ x, (acc[i].cells)[j]? = some x → CW2 w.heap.size F b (off + i * 11 + j) x := fun j hj x hx => ⟨(hFc j hj).trans hx, .inl (by omega)⟩
          exact ⟨b, off, hla, hFc 0 (by decide) _ rfl, hFc 1 (by decide) _ rfl, hFc 2 (by decide) _ rfl, hFc 3 (by decide) _ rfl, ⟨_, _, hFc 4 (by decide) _ rfl, (ht.1.wkeep hKS).imp fun _ _ _ h => h.cw2 _⟩, ⟨_, _, hFc 5 (by decide) _ rfl, (ht.2.wkeep hKS).imp fun _ _ _ h => h.cw2 _⟩, hFc 6 (by decide) _ rfl, hFc 7 (by decide) _ rfl, hFc 8 (by decide) _ rfl, hFc 9 (by decide) _ rfl, hFc 10 (by decide) _ rfl⟩
        · have hil : i < cs.length := by rw [HCN.out] at hi; have := HCN.out; simp only [len, List.length_take] at this; omega
          obtain ⟨b, off, e, hc⟩ := HC.out i (by rw [len_eq]; exact hil)
          have hn : nth (cs.take 650) i = nth cs i := by
            have hi' : i < (cs.take 650).length := hi
            rw [nth_eq _ i hi', nth_eq cs i hil, List.getElem_take]
          rw [hn]
          exact ⟨b, off, e, cw_low hFB _ _ _ hc⟩
end Go.Proofs.YtihiaopilnjonaaGreatDoor
namespace Go.Proofs.YtihiaopilnjonaaGreatDoor
open Go.RowKit
set_option linter.unusedSimpArgs false
set_option linter.unusedVariables false
structure CertArg (w : World) (root : ByteArray) (sg : Int) (a2 : Option Addr) (rs : List RevD) (a3 : Option Addr) (k3 : Nat) (cs : List Int) (a4 : Option Addr) (sp : List ByteArray) (a5 : Option Addr) (pp : List ByteArray) : Prop where
  root : root.size ≤ maxLen
  sg : U64i sg
  r : RvsC (CW w) a2 rs
  rn : len rs ≤ maxLen
  ro : ∀ i, i < len rs → RvOp (lth rs i)
  c : NmsC (CW w) a3 cs
  cn : len cs ≤ k3
  ck : k3 ≤ maxLen
  cu : ∀ i, i < len cs → U64i (nth cs i)
  s : StrsC (CW w) a4 sp
  sn : len sp ≤ maxLen
  p : StrsC (CW w) a5 pp
  pn : len pp ≤ maxLen
theorem maxLen_le {n : Nat} (h : n ≤ maxLen) : n ≤ 9223372036854775807 := by unfold maxLen at h; omega
theorem CertArg.low {w w' : World} {root : ByteArray} {sg : Int} {a2 : Option Addr} {rs : List RevD} {a3 : Option Addr} {k3 : Nat} {cs : List Int} {a4 : Option Addr} {sp : List ByteArray} {a5 : Option Addr} {pp : List ByteArray} (h : CertArg w root sg a2 rs a3 k3 cs a4 sp a5 pp) (hb : Below w.heap.size w w') : CertArg w' root sg a2 rs a3 k3 cs a4 sp a5 pp :=
  ⟨h.root, h.sg, h.r.imp (cw_low hb), h.rn, h.ro, h.c.imp (cw_low hb), h.cn, h.ck, h.cu, h.s.imp (cw_low hb), h.sn, h.p.imp (cw_low hb), h.pn⟩
structure CertFit (root : ByteArray) (sg : Int) (rs : List RevD) (cs : List Int) (sp pp : List ByteArray) : Prop where
  bd : CtBd root sg rs cs sp pp
  ok : CertOkD sg rs cs
theorem textsP_le (l : List ByteArray) (n : Nat) (hn : n ≤ 100000) : len (textsP l n) ≤ 100000 := by rw [textsP_len]; omega
theorem rvbd_cut {d : RevD} (h : RvOp d) : RvBd (slotCut d) := ⟨h.pos, h.L, h.idx, h.wt, h.first, h.life, h.keys, textsP_le _ _ (by decide), textsP_le _ _ (by decide), maxLen_le h.root⟩
theorem rvok_of {d : RevD} (h : RvBd d) : RvOk d := fun o => by
  unfold revC
  split <;> first | exact h.pos | exact h.L | trivial | exact h.idx | exact h.wt | exact h.first | exact h.life | exact h.keys
theorem fit_of {root : ByteArray} {sg : Int} {rs : List RevD} {cs : List Int} {sp pp : List ByteArray} (h : CtBd root sg rs cs sp pp) : CertFit root sg rs cs sp pp := by
  refine ⟨h, h.sg, fun n hn => ?_, fun r hr => ?_⟩
  · obtain ⟨i, hi, rfl⟩ := List.getElem_of_mem hn
    rw [← nth_eq cs i hi]; exact h.cs i hi
  · obtain ⟨i, hi, rfl⟩ := List.getElem_of_mem hr
    rw [← lth_eq rs i hi]; exact rvok_of (h.rs i hi)
theorem CertArg.fit {w : World} {root : ByteArray} {sg : Int} {a2 : Option Addr} {rs : List RevD} {a3 : Option Addr} {k3 : Nat} {cs : List Int} {a4 : Option Addr} {sp : List ByteArray} {a5 : Option Addr} {pp : List ByteArray} (h : CertArg w root sg a2 rs a3 k3 cs a4 sp a5 pp) : CertFit root sg (certRs rs) (cs.take 650) (textsP sp 20) (textsP pp 20) := by
  refine fit_of ⟨maxLen_le h.root, h.sg, by rw [certRs_len]; omega, fun i hi => ?_, ?_, fun i hi => ?_, textsP_le _ _ (by decide), textsP_le _ _ (by decide)⟩
  · rw [certRs_at rs hi]
    exact rvbd_cut (h.ro i (by rw [certRs_len] at hi; omega))
  · simp only [len, List.length_take]; omega
  · have hi' : i < (cs.take 650).length := hi
    have hil : i < cs.length := by rw [List.length_take] at hi'; omega
    rw [nth_eq _ i hi', List.getElem_take, ← nth_eq cs i hil]
    exact h.cu i (by rw [len_eq]; exact hil)
theorem wcert_now (B : Nat) {root : ByteArray} {sg : Int} {rs : List RevD} {cs : List Int} {sp pp : List ByteArray} (hf : CertFit root sg rs cs sp pp) (a2 a3 a4 a5 : Option Addr) (k2 k3 k4 k5 : Nat) (w : World) (h : TE7 B w) (s2 : RvsC (CW w) a2 rs) (s3 : NmsC (CW w) a3 cs) (s4 : StrsC (CW w) a4 sp) (s5 : StrsC (CW w) a5 pp) :
    Calls Tryz.prog 48 #[.agg #[.string root, .int .u64 sg, .slice a2 (len rs) k2, .slice a3 (len cs) k3, .slice a4 (len sp) k4, .slice a5 (len pp) k5]] w (LaidIs (certSpecs root sg rs cs sp pp) w) :=
  wcert2_any w.heap.size root sg rs cs sp pp a2 a3 a4 a5 k2 k3 k4 k5 w h.up (s2.imp fun _ _ _ h => CW.at h) (s3.imp fun _ _ _ h => CW.at h) s4.at s5.at hf.bd (fun h => Nat.le_trans (certSz h) (by decide))
end Go.Proofs.YtihiaopilnjonaaGreatDoor
namespace Go.Proofs.YtihiaopilnjonaaGreatDoor
open Go.RowKit
set_option linter.unusedSimpArgs false
set_option linter.unusedVariables false
set_option maxRecDepth 100000 in
set_option maxHeartbeats 8000000 in
theorem sameCert_yes (root : ByteArray) (sg : Int) (rs : List RevD) (cs : List Int) (sp pp : List ByteArray) (a2 a3 a4 a5 b2 b3 b4 b5 : Option Addr) (k2 k3 k4 k5 c2 c3 c4 c5 : Nat) (w : World)
    (h2 : RvsC (CW w) a2 rs) (h3 : NmsC (CW w) a3 cs) (h4 : StrsC (CW w) a4 sp) (h5 : StrsC (CW w) a5 pp) (g2 : RvsC (CW w) b2 rs) (g3 : NmsC (CW w) b3 cs) (g4 : StrsC (CW w) b4 sp) (g5 : StrsC (CW w) b5 pp)
    (n2 : len rs ≤ 9223372036854775807) (n3 : len cs ≤ 9223372036854775807) (n4 : len sp ≤ 9223372036854775807) (n5 : len pp ≤ 9223372036854775807) (hr : ∀ i, i < len rs → len (lth rs i).ws ≤ 9223372036854775807 ∧ len (lth rs i).ps ≤ 9223372036854775807) :
    Calls Tryz.prog 53 #[.agg #[.string root, .int .u64 sg, .slice a2 (len rs) k2, .slice a3 (len cs) k3, .slice a4 (len sp) k4, .slice a5 (len pp) k5], .agg #[.string root, .int .u64 sg, .slice b2 (len rs) c2, .slice b3 (len cs) c3, .slice b4 (len sp) c4, .slice b5 (len pp) c5]] w fun e w' => e = .returned (.bool true) ∧ Below w.heap.size w w' := by
  have HRA := Lib.hid h2
  have HRB := Lib.hid g2
  have HCA := Lib.hid h3
  have HCB := Lib.hid g3
  have HRL := Lib.hid hr
  have H4 := Lib.hid (fun (w' : World) (hb : Below w.heap.size w w') => same_yes a4 b4 k4 c4 sp w' (h4.low hb) (g4.low hb) n4)
  have H5 := Lib.hid (fun (w' : World) (hb : Below w.heap.size w w') => same_yes a5 b5 k5 c5 pp w' (h5.low hb) (g5.low hb) n5)
  obtain ⟨l2, hl2⟩ : ∃ l, len rs = l := ⟨_, rfl⟩
  obtain ⟨l3, hl3⟩ : ∃ l, len cs = l := ⟨_, rfl⟩
  have HL2 := Lib.hid hl2
  have HL3 := Lib.hid hl3
  rw [hl2] at n2 ⊢
  rw [hl3] at n3 ⊢
  clear h2 h3 h4 h5 g2 g3 g4 g5 hr hl2 hl3
  generalize len sp = l4 at H4 ⊢
  generalize len pp = l5 at H5 ⊢
  go_enter Tryz.func53, Tryz.ntmps53
  go_upto_region 1 with fail
  obtain ⟨sb, hsb⟩ : ∃ sb, w.heap.size = sb := ⟨_, rfl⟩
  obtain ⟨tb, htb⟩ : ∃ tb, sb + 1 = tb := ⟨_, rfl⟩
  obtain ⟨V, hV⟩ : ∃ V, (w.alloc (.cells #[.string root, .int .u64 sg, .slice a2 l2 k2, .slice a3 l3 k3, .slice a4 l4 k4, .slice a5 l5 k5] 28)).alloc (.cells #[.string root, .int .u64 sg, .slice b2 l2 c2, .slice b3 l3 c3, .slice b4 l4 c4, .slice b5 l5 c5] 28) = V := ⟨_, rfl⟩
  have HB : Hid (Below w.heap.size w V) := Lib.hid (by rw [← hV]; exact balloc (balloc (Below.refl _ _) _) _)
  have HS : Hid (V.heap[sb]? = some (.cells #[.string root, .int .u64 sg, .slice a2 l2 k2, .slice a3 l3 k3, .slice a4 l4 k4, .slice a5 l5 k5] 28 (0, 0))) := Lib.hid (by rw [← hV, ← hsb]; exact block_alloc (heap_alloc_new _ _) _)
  have HT : Hid (V.heap[tb]? = some (.cells #[.string root, .int .u64 sg, .slice b2 l2 c2, .slice b3 l3 c3, .slice b4 l4 c4, .slice b5 l5 c5] 28 (0, 0))) := Lib.hid (by rw [← hV, ← htb, ← hsb]; exact alloc_new_at _ (by simp))
  simp only [hV, hsb, htb]
  clear hV hsb htb
  have cS : ∀ o, V.cell? ⟨sb, o, none⟩ = _ := block_cell HS.out
  have cT : ∀ o, V.cell? ⟨tb, o, none⟩ = _ := block_cell HT.out
  go_wp2_with fail
  refine (H4.out V HB.out).mono ?_
  rintro e w1 ⟨rfl, hb⟩
  have HB1 := Lib.hid (bnext HB.out hb)
  have HS := Lib.hid ((hb.block _ (lt_of_block HS.out)).trans HS.out)
  have HT := Lib.hid ((hb.block _ (lt_of_block HT.out)).trans HT.out)
  clear hb cS cT
  have cS : ∀ o, w1.cell? ⟨sb, o, none⟩ = _ := block_cell HS.out
  have cT : ∀ o, w1.cell? ⟨tb, o, none⟩ = _ := block_cell HT.out
  go_wp2_with fail
  refine (H5.out w1 HB1.out).mono ?_
  rintro e w2 ⟨rfl, hb⟩
  have HB2 := Lib.hid (bnext HB1.out hb)
  have HS := Lib.hid ((hb.block _ (lt_of_block HS.out)).trans HS.out)
  have HT := Lib.hid ((hb.block _ (lt_of_block HT.out)).trans HT.out)
  clear hb cS cT
  have cS : ∀ o, w2.cell? ⟨sb, o, none⟩ = _ := block_cell HS.out
  have cT : ∀ o, w2.cell? ⟨tb, o, none⟩ = _ := block_cell HT.out
  go_upto_region 4 with fail
  clear cS cT
  go_loopg [5, 6, 7] l2 (fun g i _ _ wr => ∃ m : Nat, g + m = l2 ∧ i = .int .i64 m ∧ Hid (Below w.heap.size w wr) ∧ Hid (wr.heap[sb]? = some (.cells #[.string root, .int .u64 sg, .slice a2 l2 k2, .slice a3 l3 k3, .slice a4 l4 k4, .slice a5 l5 k5] 28 (0, 0))) ∧ Hid (wr.heap[tb]? = some (.cells #[.string root, .int .u64 sg, .slice b2 l2 c2, .slice b3 l3 c3, .slice b4 l4 c4, .slice b5 l5 c5] 28 (0, 0))))
  case atStart => exact ⟨0, rfl, rfl, HB2.out, HS.out, HT.out⟩
  case round =>
    clear HS HT
    obtain ⟨m, hm, rfl, HW, HS, HT⟩ := hrel
    have cS : ∀ o, wr.cell? ⟨sb, o, none⟩ = _ := block_cell HS.out
    have cT : ∀ o, wr.cell? ⟨tb, o, none⟩ = _ := block_cell HT.out
    by_cases hlt : m < l2
    · have i1 : (m : Int) < l2 := by omega
      obtain ⟨ga, oa, ha2, hca⟩ := HRA.out m (by rw [HL2.out]; exact hlt)
      obtain ⟨gb, ob, hb2, hcb⟩ := HRB.out m (by rw [HL2.out]; exact hlt)
      have hrl := HRL.out m (by rw [HL2.out]; exact hlt)
      generalize lth rs m = d at hca hcb hrl
      obtain ⟨xw, xwk, q4e, s4⟩ := hca.c4
      obtain ⟨xp, xpk, q5e, s5⟩ := hca.c5
      obtain ⟨yw, ywk, q4f, t4⟩ := hcb.c4
      obtain ⟨yp, ypk, q5f, t5⟩ := hcb.c5
      have e0 : wr.cell? ⟨ga, oa + m * 11, none⟩ = some _ := cw_low HW.out _ _ _ hca.c0
      have e1 : wr.cell? ⟨ga, oa + m * 11 + 1, none⟩ = some _ := cw_low HW.out _ _ _ hca.c1
      have e2 : wr.cell? ⟨ga, oa + m * 11 + 2, none⟩ = some _ := cw_low HW.out _ _ _ hca.c2
      have e3 : wr.cell? ⟨ga, oa + m * 11 + 3, none⟩ = some _ := cw_low HW.out _ _ _ hca.c3
      have e4 : wr.cell? ⟨ga, oa + m * 11 + 4, none⟩ = some _ := cw_low HW.out _ _ _ q4e
      have e5 : wr.cell? ⟨ga, oa + m * 11 + 5, none⟩ = some _ := cw_low HW.out _ _ _ q5e
      have e6 : wr.cell? ⟨ga, oa + m * 11 + 6, none⟩ = some _ := cw_low HW.out _ _ _ hca.c6
      have e7 : wr.cell? ⟨ga, oa + m * 11 + 7, none⟩ = some _ := cw_low HW.out _ _ _ hca.c7
      have e8 : wr.cell? ⟨ga, oa + m * 11 + 8, none⟩ = some _ := cw_low HW.out _ _ _ hca.c8
      have e9 : wr.cell? ⟨ga, oa + m * 11 + 9, none⟩ = some _ := cw_low HW.out _ _ _ hca.c9
      have e10 : wr.cell? ⟨ga, oa + m * 11 + 10, none⟩ = some _ := cw_low HW.out _ _ _ hca.c10
      have f0 : wr.cell? ⟨gb, ob + m * 11, none⟩ = some _ := cw_low HW.out _ _ _ hcb.c0
      have f1 : wr.cell? ⟨gb, ob + m * 11 + 1, none⟩ = some _ := cw_low HW.out _ _ _ hcb.c1
      have f2 : wr.cell? ⟨gb, ob + m * 11 + 2, none⟩ = some _ := cw_low HW.out _ _ _ hcb.c2
      have f3 : wr.cell? ⟨gb, ob + m * 11 + 3, none⟩ = some _ := cw_low HW.out _ _ _ hcb.c3
      have f4 : wr.cell? ⟨gb, ob + m * 11 + 4, none⟩ = some _ := cw_low HW.out _ _ _ q4f
      have f5 : wr.cell? ⟨gb, ob + m * 11 + 5, none⟩ = some _ := cw_low HW.out _ _ _ q5f
      have f6 : wr.cell? ⟨gb, ob + m * 11 + 6, none⟩ = some _ := cw_low HW.out _ _ _ hcb.c6
      have f7 : wr.cell? ⟨gb, ob + m * 11 + 7, none⟩ = some _ := cw_low HW.out _ _ _ hcb.c7
      have f8 : wr.cell? ⟨gb, ob + m * 11 + 8, none⟩ = some _ := cw_low HW.out _ _ _ hcb.c8
      have f9 : wr.cell? ⟨gb, ob + m * 11 + 9, none⟩ = some _ := cw_low HW.out _ _ _ hcb.c9
      have f10 : wr.cell? ⟨gb, ob + m * 11 + 10, none⟩ = some _ := cw_low HW.out _ _ _ hcb.c10
      have HSL := Lib.hid (fun (w' : World) (hb : Below w.heap.size w w') => sameSlot_yes d.L d.signed d.idx xw xp yw yp xwk xpk ywk ypk d.ws d.ps w' (s4.imp (cw_low hb)) (s5.imp (cw_low hb)) (t4.imp (cw_low hb)) (t5.imp (cw_low hb)) hrl.1 hrl.2)
      generalize len d.ws = lw at HSL e4 f4
      generalize len d.ps = lp at HSL e5 f5
      subst ha2 hb2
      clear hca hcb hrl q4e q5e q4f q5f s4 s5 t4 t5
      have s2 : wr.cell? ⟨sb, 2, none⟩ = some (.slice (some ⟨ga, oa, none⟩) l2 k2) := cS 2
      have t2 : wr.cell? ⟨tb, 2, none⟩ = some (.slice (some ⟨gb, ob, none⟩) l2 c2) := cT 2
      have z0 := lt_of_cell s2
      have z1 := lt_of_cell t2
      have z2 := lt_of_cell e0
      have z3 := lt_of_cell f0
      have z4 : sb ≠ wr.heap.size := by omega
      have z5 : tb ≠ wr.heap.size := by omega
      have z6 : ga ≠ wr.heap.size := by omega
      have z7 : gb ≠ wr.heap.size := by omega
      have z8 : sb ≠ wr.heap.size + 1 := by omega
      have z9 : tb ≠ wr.heap.size + 1 := by omega
      have z10 : ga ≠ wr.heap.size + 1 := by omega
      have z11 : gb ≠ wr.heap.size + 1 := by omega
      go_upto_region 6 with fail
      go_cut [6, 7] (fun s6 s7 wx => ∃ xb yb : Nat, s6 = .pointer (some ⟨xb, 0, none⟩) ∧ s7 = .pointer (some ⟨yb, 0, none⟩) ∧ Hid (wx.heap[xb]? = some (.cells #[.int .u64 d.pos, .int .u64 d.L, .bool d.signed, .int .u64 d.idx, .slice xw lw xwk, .slice xp lp xpk, .string d.root, .int .u64 d.wt, .int .u64 d.first, .int .u64 d.life, .int .u64 d.keys] 48 (0, 0))) ∧ Hid (wx.heap[yb]? = some (.cells #[.int .u64 d.pos, .int .u64 d.L, .bool d.signed, .int .u64 d.idx, .slice yw lw ywk, .slice yp lp ypk, .string d.root, .int .u64 d.wt, .int .u64 d.first, .int .u64 d.life, .int .u64 d.keys] 48 (0, 0))) ∧ Hid (Below wr.heap.size wr wx))
      case first =>
        go_region
        all_goals
          go_wp2_with fail
          go_meet
          first
            | exact ⟨_, _, rfl, rfl, Lib.hid (block_alloc (heap_alloc_new _ _) _), Lib.hid (alloc_new_at _ (by simp)), Lib.hid (bdrew (balloc (balloc (Below.refl _ _) _) _))⟩
            | exact ⟨_, _, rfl, rfl, Lib.hid (alloc_new_at _ (by simp)), Lib.hid (block_alloc (heap_alloc_new _ _) _), Lib.hid (bdrew (balloc (balloc (Below.refl _ _) _) _))⟩
      case rest =>
        obtain ⟨xb, yb, rfl, rfl, HX, HY, HC⟩ := hcut
        have cX : ∀ o, wc.cell? ⟨xb, o, none⟩ = _ := block_cell HX.out
        have cY : ∀ o, wc.cell? ⟨yb, o, none⟩ = _ := block_cell HY.out
        have HW2 := Lib.hid (bnext HW.out HC.out)
        have HS2 := Lib.hid ((HC.out.block _ (lt_of_block HS.out)).trans HS.out)
        have HT2 := Lib.hid ((HC.out.block _ (lt_of_block HT.out)).trans HT.out)
        clear z0 z1 z2 z3 z4 z5 z6 z7 z8 z9 z10 z11 s2 t2 cS cT e0 e1 e2 e3 e4 e5 e6 e7 e8 e9 e10 f0 f1 f2 f3 f4 f5 f6 f7 f8 f9 f10
        go_wp2_with fail
        refine (HSL.out wc HW2.out).mono ?_
        rintro e w5 ⟨rfl, hb⟩
        have HW3 := Lib.hid (bnext HW2.out hb)
        have HS3 := Lib.hid ((hb.block _ (lt_of_block HS2.out)).trans HS2.out)
        have HT3 := Lib.hid ((hb.block _ (lt_of_block HT2.out)).trans HT2.out)
        clear hb cX cY
        go_wp2
        go_roundg (l2 - (m + 1))
        case rel => exact ⟨m + 1, by omega, by go_num, HW3.out, HS3.out, HT3.out⟩
        case measure => omega
    · obtain rfl : m = l2 := by omega
      have i1 : ¬ ((m : Nat) : Int) < m := by omega
      obtain ⟨w0, hw0⟩ : ∃ w0, w0 = wr := ⟨_, rfl⟩
      subst hw0
      go_wp2_with fail
      go_loopg [8] l3 (fun g i wx => ∃ n : Nat, g + n = l3 ∧ i = .int .i64 n ∧ Hid (Below w0.heap.size w0 wx))
      case atStart => exact ⟨0, rfl, rfl, Lib.hid (Below.refl _ _)⟩
      case round =>
        clear cS cT
        obtain ⟨n, hn, rfl, HV⟩ := hrel
        have HS4 := Lib.hid ((HV.out.block _ (lt_of_block HS.out)).trans HS.out)
        have HT4 := Lib.hid ((HV.out.block _ (lt_of_block HT.out)).trans HT.out)
        have s3 : wr.cell? ⟨sb, 3, none⟩ = some (.slice a3 l3 k3) := block_cell HS4.out 3
        have t3 : wr.cell? ⟨tb, 3, none⟩ = some (.slice b3 l3 c3) := block_cell HT4.out 3
        by_cases hlt : n < l3
        · have i2 : (n : Int) < l3 := by omega
          obtain ⟨ga, oa, ha3, hca⟩ := HCA.out n (by rw [HL3.out]; exact hlt)
          obtain ⟨gb, ob, hb3, hcb⟩ := HCB.out n (by rw [HL3.out]; exact hlt)
          have hbw := bnext HW.out HV.out
          have c0 : wr.cell? ⟨ga, oa + n, none⟩ = some _ := cw_low hbw _ _ _ hca
          have c1 : wr.cell? ⟨gb, ob + n, none⟩ = some _ := cw_low hbw _ _ _ hcb
          generalize nth cs n = x at c0 c1
          subst ha3 hb3
          clear hca hcb hbw
          go_upto_region 12 with fail
          go_quiet (fail)
          go_wp2
          go_roundg (l3 - (n + 1))
          case rel => exact ⟨n + 1, by omega, by go_num, Lib.hid (bdrewN HV.out _)⟩
          case measure => omega
        · obtain rfl : n = l3 := by omega
          have i2 : ¬ ((n : Nat) : Int) < n := by omega
          go_wp2
          go_ret
          exact ⟨rfl, bnext HW.out HV.out⟩
end Go.Proofs.YtihiaopilnjonaaGreatDoor
namespace Go.Proofs.YtihiaopilnjonaaGreatDoor
open Go.RowKit
set_option linter.unusedSimpArgs false
set_option linter.unusedVariables false
set_option linter.constructorNameAsVariable false
theorem dok_ns {d : DV} (h : DOk d) : ∀ n ∈ d.ns, U64i n := by cases d <;> first | exact h | exact (fun n hn => absurd hn (by simp [DV.ns]))
theorem dok_rs {d : DV} (h : DOk d) : ∀ r ∈ d.rs, RvOk r := by cases d <;> first | exact h | exact (fun n hn => absurd hn (by simp [DV.rs]))
theorem rvbd_of {d : RevD} (h : RvOk d) (hm : allMay (revSpecs d) = true) : RvBd d := by
  have h1 : allMay (partSpecs d.root d.wt d.first d.life d.keys) = true := may_all hm (objSpec ⟨#[113]⟩ (partSpecs d.root d.wt d.first d.life d.keys)) (by unfold revSpecs; simp)
  have h2 : allMay (slotSpecs d.L d.signed d.idx d.ws d.ps) = true := may_all hm (objSpec ⟨#[115]⟩ (slotSpecs d.L d.signed d.idx d.ws d.ps)) (by unfold revSpecs; simp)
  have h3 : allMay (sigSpecs d.idx d.ws d.ps) = true := may_all h2 (objSpec ⟨#[103]⟩ (sigSpecs d.idx d.ws d.ps)) (by unfold slotSpecs; simp)
  have hr : d.root.size = 32 := of_decide_eq_true (may_all h1 ⟨⟨#[114]⟩, true, false, decide (d.root.size = 32), binP d.root⟩ (by unfold partSpecs; simp))
  have h4 := ((mayB_iff _ _).1 (may_all h3 ⟨⟨#[112]⟩, false, decide (len d.ps = 0), mayB d.ps 16, dgsP d.ps⟩ (by unfold sigSpecs; simp))).1
  have h5 := ((mayB_iff _ _).1 (may_all h3 ⟨⟨#[118]⟩, false, decide (len d.ws = 0), mayB d.ws 67, dgsP d.ws⟩ (by unfold sigSpecs; simp))).1
  exact ⟨h 0, h 1, h 3, h 7, h 8, h 9, h 10, Nat.le_trans h5 (by decide), Nat.le_trans h4 (by decide), by rw [hr]; decide⟩
theorem fit_back {s : ByteArray} {y : Rcd} (h : readR s (certGs s) cert0 = .ok y) : CertFit (y 0).s (y 1).n (y 2).rs (y 3).ns (y 4).l (y 5).l := by
  obtain ⟨hm, _, hd⟩ := cert_back h
  have h1 := ((mayB_iff _ _).1 (may_all hm ⟨⟨#[80]⟩, false, decide (len (y 5).l = 0), mayB (y 5).l 10240, dgsP (y 5).l⟩ (by unfold certSpecs; simp))).1
  have h2 := ((mayB_iff _ _).1 (may_all hm ⟨⟨#[83]⟩, false, decide (len (y 4).l = 0), mayB (y 4).l 10240, dgsP (y 4).l⟩ (by unfold certSpecs; simp))).1
  have hr : (y 0).s.size = 32 := of_decide_eq_true (may_all hm ⟨⟨#[99]⟩, true, false, decide ((y 0).s.size = 32), binP (y 0).s⟩ (by unfold certSpecs; simp))
  have h3 : len (y 3).ns ≤ 640 := of_decide_eq_true (may_all hm ⟨⟨#[112]⟩, false, decide (len (y 3).ns = 0), decide (len (y 3).ns ≤ 640), listP (len (y 3).ns) ++ catB ((y 3).ns.map numP)⟩ (by unfold certSpecs; simp))
  have h4 := (mayR_iff (y 2).rs 640).1 (may_all hm ⟨⟨#[114]⟩, false, decide (len (y 2).rs = 0), mayR (y 2).rs 640, listP (len (y 2).rs) ++ catB ((y 2).rs.map revB)⟩ (by unfold certSpecs; simp))
  refine fit_of ⟨by rw [hr]; decide, dok_n (hd 1), Nat.le_trans h4.1 (by decide), fun i hi => ?_, Nat.le_trans h3 (by decide), fun i hi => ?_, Nat.le_trans h2 (by decide), Nat.le_trans h1 (by decide)⟩
  · have hi' : i < (y 2).rs.length := hi
    rw [lth_eq _ i hi']
    exact rvbd_of (dok_rs (hd 2) _ (List.getElem_mem hi')) (h4.2 _ (List.getElem_mem hi'))
  · have hi' : i < (y 3).ns.length := hi
    rw [nth_eq _ i hi']
    exact dok_ns (hd 3) _ (List.getElem_mem hi')
theorem same_zero (a2 a3 a4 a5 : Option Addr) (k2 k3 k4 k5 : Nat) (w : World) :
    Calls Tryz.prog 53 #[.agg #[.string ⟨#[]⟩, .int .u64 0, .slice a2 0 k2, .slice a3 0 k3, .slice a4 0 k4, .slice a5 0 k5], .agg #[.string ⟨#[]⟩, .int .u64 0, .slice none 0 0, .slice none 0 0, .slice none 0 0, .slice none 0 0]] w fun e w' => e = .returned (.bool true) ∧ Below w.heap.size w w' :=
  sameCert_yes ⟨#[]⟩ 0 [] [] [] [] a2 a3 a4 a5 none none none none k2 k3 k4 k5 0 0 0 0 w (fun i hi => absurd hi (by simp [len])) (fun i hi => absurd hi (by simp [len])) (strsC_nil _ _) (strsC_nil _ _) (fun i hi => absurd hi (by simp [len])) (fun i hi => absurd hi (by simp [len])) (strsC_nil _ _) (strsC_nil _ _) (by simp [len]) (by simp [len]) (by simp [len]) (by simp [len]) (fun i hi => absurd hi (by simp [len]))
theorem cells_zero (f : Flt) (a2 : Option Addr) (c2 : Nat) (a3 : Option Addr) (c3 : Nat) (a4 : Option Addr) (c4 : Nat) (a5 : Option Addr) (c5 : Nat) : cellsCert (recV (Except.error f) cert0) a2 c2 a3 c3 a4 c4 a5 c5 = #[.string ⟨#[]⟩, .int .u64 0, .slice a2 0 c2, .slice a3 0 c3, .slice a4 0 c4, .slice a5 0 c5] := rfl
theorem lay_back (B : Nat) {v : ByteArray} {y : Rcd} (h : readR v (certGs v) cert0 = .ok y) (a2 a3 a4 a5 : Option Addr) (k2 k3 k4 k5 : Nat) (w : World) (hE : TE7 B w) (s2 : RvsC (CW w) a2 (y 2).rs) (s3 : NmsC (CW w) a3 (y 3).ns) (s4 : StrsC (CW w) a4 (y 4).l) (s5 : StrsC (CW w) a5 (y 5).l) :
    Calls Tryz.prog 48 #[.agg #[.string (y 0).s, .int .u64 (y 1).n, .slice a2 (len (y 2).rs) k2, .slice a3 (len (y 3).ns) k3, .slice a4 (len (y 4).l) k4, .slice a5 (len (y 5).l) k5]] w fun e w' => e = .returned (.tuple #[.string v, .int .i64 0]) ∧ Below w.heap.size w w' := by
  refine (wcert_now B (fit_back h) a2 a3 a4 a5 k2 k3 k4 k5 w hE s2 s3 s4 s5).mono ?_
  rintro e w' hh
  obtain ⟨he, hb⟩ := hh.both
  obtain ⟨hm, hl, _⟩ := cert_back h
  rw [textOf_yes hm, codeOf_yes hm, hl] at he
  exact ⟨he, hb⟩
theorem read_forth (B : Nat) {root : ByteArray} {sg : Int} {rs : List RevD} {cs : List Int} {sp pp : List ByteArray} (hf : CertFit root sg rs cs sp pp) (hm : allMay (certSpecs root sg rs cs sp pp) = true) (w : World) (hE : TE7 B w) :
    Calls Tryz.prog 50 #[.string (layP (certSpecs root sg rs cs sp pp))] w fun e w' => ∃ a2 c2 a3 c3 a4 c4 a5 c5, e = .returned (.tuple #[.agg #[.string root, .int .u64 sg, .slice a2 (len rs) c2, .slice a3 (len cs) c3, .slice a4 (len sp) c4, .slice a5 (len pp) c5], .nilIface]) ∧ RvsC (CW w') a2 rs ∧ NmsC (CW w') a3 cs ∧ StrsC (CW w') a4 sp ∧ StrsC (CW w') a5 pp ∧ Below w.heap.size w w' := by
  obtain ⟨y, hy, e0, e1, e2, e3, e4, e5⟩ := cert_forth hf.ok hm (s := layP (certSpecs root sg rs cs sp pp)) rfl
  refine (rqCert_any B _ w hE (Nat.le_trans (certSz hm) (by decide))).mono ?_
  rintro e w' ⟨ev, a2, c2, a3, c3, a4, c4, a5, c5, he, hev, _, h2, h3, h4, h5, hb⟩
  rw [hy] at he hev h2 h3 h4 h5
  have hev : ev = .nilIface := hev
  have he : e = .returned (.tuple #[.agg (cellsCert y a2 c2 a3 c3 a4 c4 a5 c5), ev]) := he
  have h2 : RvsC (CW w') a2 (y 2).rs := h2
  have h3 : NmsC (CW w') a3 (y 3).ns := h3
  have h4 : StrsC (CW w') a4 (y 4).l := h4
  have h5 : StrsC (CW w') a5 (y 5).l := h5
  unfold cellsCert at he
  rw [e0, e1, e2, e3, e4, e5, hev] at he
  rw [e2] at h2
  rw [e3] at h3
  rw [e4] at h4
  rw [e5] at h5
  exact ⟨a2, c2, a3, c3, a4, c4, a5, c5, he, h2, h3, h4, h5, hb⟩
theorem certArg_cut2 {w : World} {root : ByteArray} {sg : Int} {a2 : Option Addr} {rs : List RevD} {a3 : Option Addr} {k3 : Nat} {cs : List Int} {a4 : Option Addr} {sp : List ByteArray} {a5 : Option Addr} {pp : List ByteArray} (h : CertArg w root sg a2 rs a3 k3 cs a4 sp a5 pp) (k2 k4 k5 : Nat) :
    Calls Tryz.prog 47 #[.agg #[.string root, .int .u64 sg, .slice a2 (len rs) k2, .slice a3 (len cs) k3, .slice a4 (len sp) k4, .slice a5 (len pp) k5]] w (CertIs2 a3 k3 root sg (certRs rs) (cs.take 650) (textsP sp 20) (textsP pp 20) w) :=
  cert2_any root sg rs cs sp pp a2 a3 a4 a5 k2 k3 k4 k5 w h.r h.c h.s h.p (maxLen_le h.rn) (maxLen_le (Nat.le_trans h.cn h.ck)) h.cn (maxLen_le h.sn) (maxLen_le h.pn) (fun i hi => ⟨maxLen_le (h.ro i hi).ws, maxLen_le (h.ro i hi).ps⟩)
theorem nms_take {C : CP} {a : Option Addr} {l : List Int} (h : NmsC C a l) (n : Nat) : NmsC C a (l.take n) := fun i hi => by
  have hi' : i < (l.take n).length := hi
  have hil : i < l.length := by rw [List.length_take] at hi'; omega
  obtain ⟨b, off, e, hc⟩ := h i hil
  refine ⟨b, off, e, ?_⟩
  rw [nth_eq _ i hi', List.getElem_take, ← nth_eq l i hil]
  exact hc
theorem CW2.set6 {n : Nat} {w : World} {t : Nat} {cs : Array Value} {T : TypeId} {fr : Nat × Nat} (ht : t < n) (hb : w.heap[t]? = some (.cells cs T fr)) (hT : T ≠ 9) (v0 v1 v2 v3 v4 v5 : Value) (b o : Nat) (x : Value) (h : CW2 n w b o x) : CW ((((((w.setCell ⟨t, 0, none⟩ v0).setCell ⟨t, 1, none⟩ v1).setCell ⟨t, 2, none⟩ v2).setCell ⟨t, 3, none⟩ v3).setCell ⟨t, 4, none⟩ v4).setCell ⟨t, 5, none⟩ v5) b o x :=
  ((((((h.set ht hb hT v0).set ht (block_setCell hb _) hT v1).set ht (block_setCell (block_setCell hb _) _) hT v2).set ht (block_setCell (block_setCell (block_setCell hb _) _) _) hT v3).set ht (block_setCell (block_setCell (block_setCell (block_setCell hb _) _) _) _) hT v4).set ht (block_setCell (block_setCell (block_setCell (block_setCell (block_setCell hb _) _) _) _) _) hT v5).cw
set_option maxRecDepth 100000 in
set_option maxHeartbeats 8000000 in
theorem back7_law (B : Nat) (root : ByteArray) (sg : Int) (a2 a3 a4 a5 : Option Addr) (k2 k3 k4 k5 : Nat) (rs : List RevD) (cs : List Int) (sp pp : List ByteArray) (s : ByteArray) (ta ty ts : Int) (w : World) (h : TE7 B w) (hA : CertArg w root sg a2 rs a3 k3 cs a4 sp a5 pp) (hs : s.size ≤ 9223372036854775807) (ha : 0 ≤ ta ∧ ta ≤ 65535) (hy : 0 ≤ ty ∧ ty ≤ 255) :
    Calls Tryz.prog 10 #[.agg #[.string root, .int .u64 sg, .slice a2 (len rs) k2, .slice a3 (len cs) k3, .slice a4 (len sp) k4, .slice a5 (len pp) k5], .string s, .agg #[.int .u16 ta, .int .u8 ty, .int .i64 ts]] w fun e w' => e = .returned (.bool true) ∧ Below w.heap.size w w' := by
  have HE := Lib.hid h
  have HE0 := HE
  have HCC := Lib.hid (fun (w' : World) (hb : Below w.heap.size w w') => certArg_cut2 (hA.low hb) k2 k4 k5)
  have HN3 := Lib.hid (nms_take hA.c 650)
  have HFIT := Lib.hid hA.fit
  clear h hA
  generalize certRs rs = rs' at HCC HFIT
  generalize cs.take 650 = cs' at HCC HFIT HN3
  generalize textsP sp 20 = sp' at HCC HFIT
  generalize textsP pp 20 = pp' at HCC HFIT
  generalize len rs = l2 at HCC ⊢
  generalize len cs = l3 at HCC ⊢
  generalize len sp = l4 at HCC ⊢
  generalize len pp = l5 at HCC ⊢
  have HRF := Lib.hid (fun (w' : World) (ht : TE7 B w') (hm : allMay (certSpecs root sg rs' cs' sp' pp') = true) => read_forth B HFIT.out hm w' ht)
  have HSY := Lib.hid (fun (w' : World) (a2 a3 a4 a5 b2 b3 b4 b5 : Option Addr) (k2 k3 k4 k5 c2 c3 c4 c5 : Nat) (h2 : RvsC (CW w') a2 rs') (h3 : NmsC (CW w') a3 cs') (h4 : StrsC (CW w') a4 sp') (h5 : StrsC (CW w') a5 pp') (g2 : RvsC (CW w') b2 rs') (g3 : NmsC (CW w') b3 cs') (g4 : StrsC (CW w') b4 sp') (g5 : StrsC (CW w') b5 pp') =>
    sameCert_yes root sg rs' cs' sp' pp' a2 a3 a4 a5 b2 b3 b4 b5 k2 k3 k4 k5 c2 c3 c4 c5 w' h2 h3 h4 h5 g2 g3 g4 g5 (Nat.le_trans HFIT.out.bd.rl (by decide)) (Nat.le_trans HFIT.out.bd.cl (by decide)) (Nat.le_trans HFIT.out.bd.sp (by decide)) (Nat.le_trans HFIT.out.bd.pp (by decide)) (fun i hi => ⟨Nat.le_trans (HFIT.out.bd.rs i hi).ws (by decide), Nat.le_trans (HFIT.out.bd.rs i hi).ps (by decide)⟩))
  have HWC := Lib.hid (fun (w' : World) (ht : TE7 B w') (a2 a3 a4 a5 : Option Addr) (k2 k3 k4 k5 : Nat) (s2 : RvsC (CW w') a2 rs') (s3 : NmsC (CW w') a3 cs') (s4 : StrsC (CW w') a4 sp') (s5 : StrsC (CW w') a5 pp') => wcert_now B HFIT.out a2 a3 a4 a5 k2 k3 k4 k5 w' ht s2 s3 s4 s5)
  have HSZ := Lib.hid (fun (hm : allMay (certSpecs root sg rs' cs' sp' pp') = true) => certSz hm)
  obtain ⟨fs, hfs⟩ : ∃ fs, certSpecs root sg rs' cs' sp' pp' = fs := ⟨_, rfl⟩
  rw [hfs] at HRF HWC HSZ
  clear HFIT hfs
  go_enter Tryz.func10, Tryz.ntmps10
  go_upto_region 1 with fail
  obtain ⟨pb, hpb⟩ : ∃ pb, w.heap.size = pb := ⟨_, rfl⟩
  have HPW := Lib.hid (Nat.le_of_eq hpb)
  obtain ⟨tb, htb⟩ : ∃ tb, pb + 1 = tb := ⟨_, rfl⟩
  obtain ⟨V, hV⟩ : ∃ V, (w.alloc (.cells #[.string root, .int .u64 sg, .slice a2 l2 k2, .slice a3 l3 k3, .slice a4 l4 k4, .slice a5 l5 k5] 28)).alloc (.cells #[.int .u16 ta, .int .u8 ty, .int .i64 ts] 55) = V := ⟨_, rfl⟩
  have HB : Hid (Below w.heap.size w V) := Lib.hid (by rw [← hV]; exact balloc (balloc (Below.refl _ _) _) _)
  have HP : Hid (V.heap[pb]? = some (.cells #[.string root, .int .u64 sg, .slice a2 l2 k2, .slice a3 l3 k3, .slice a4 l4 k4, .slice a5 l5 k5] 28 (0, 0))) := Lib.hid (by rw [← hV, ← hpb]; exact block_alloc (heap_alloc_new _ _) _)
  have HT : Hid (V.heap[tb]? = some (.cells #[.int .u16 ta, .int .u8 ty, .int .i64 ts] 55 (0, 0))) := Lib.hid (by rw [← hV, ← htb, ← hpb]; exact alloc_new_at _ (by simp))
  have HE := Lib.hid (HE.out.below HB.out)
  have HPT : Hid (pb ≠ tb) := Lib.hid (by omega)
  simp only [hV, hpb, htb]
  clear hV htb hpb
  go_wp2_with fail
  refine (works7_any B V HE.out).mono ?_
  rintro e u0 ⟨rfl, hb⟩
  have HB := Lib.hid (bnext HB.out hb)
  have HE := Lib.hid (HE.out.below hb)
  have HP := Lib.hid ((hb.block _ (lt_of_block HP.out)).trans HP.out)
  have HT := Lib.hid ((hb.block _ (lt_of_block HT.out)).trans HT.out)
  clear hb
  have cP : ∀ o, u0.cell? ⟨pb, o, none⟩ = _ := block_cell HP.out
  go_wp2_with fail
  refine (HCC.out u0 HB.out).mono ?_
  rintro e u1 ⟨b2, c2, b4, c4, b5, c5, rfl, hr2, hr3, hr4, hr5, hb⟩
  have HPU := Lib.hid (lt_of_block HP.out)
  have HB := Lib.hid (bnext HB.out hb)
  have HE := Lib.hid (HE.out.below hb)
  have HP := Lib.hid ((hb.block _ (lt_of_block HP.out)).trans HP.out)
  have HT := Lib.hid ((hb.block _ (lt_of_block HT.out)).trans HT.out)
  have hr2 := Lib.hid hr2
  have hr4 := Lib.hid hr4
  have hr5 := Lib.hid hr5
  clear hb cP hr3
  have q : ∀ o, u1.frozen? ⟨pb, o, none⟩ = false := block_free HP.out
  have r : ∀ o, u1.cell? ⟨pb, o, none⟩ = _ := block_cell HP.out
  go_upto_region 4 with fail
  obtain ⟨u2, hu2⟩ : ∃ u2, (((((u1.setCell ⟨pb, 0, none⟩ (.string root)).setCell ⟨pb, 1, none⟩ (.int .u64 sg)).setCell ⟨pb, 2, none⟩ (.slice b2 (len rs') c2)).setCell ⟨pb, 3, none⟩ (.slice a3 (len cs') k3)).setCell ⟨pb, 4, none⟩ (.slice b4 (len sp') c4)).setCell ⟨pb, 5, none⟩ (.slice b5 (len pp') c5) = u2 := ⟨_, rfl⟩
  simp only [hu2]
  have HP0 := HP
  have HP : Hid (u2.heap[pb]? = some (.cells #[.string root, .int .u64 sg, .slice b2 (len rs') c2, .slice a3 (len cs') k3, .slice b4 (len sp') c4, .slice b5 (len pp') c5] 28 (0, 0))) := Lib.hid (by rw [← hu2]; exact block_setCell (block_setCell (block_setCell (block_setCell (block_setCell (block_setCell HP.out _) _) _) _) _) _)
  have HT : Hid (u2.heap[tb]? = some (.cells #[.int .u16 ta, .int .u8 ty, .int .i64 ts] 55 (0, 0))) := Lib.hid (by
    rw [← hu2]
    have hne := HPT.out.symm
    exact block_setCell_ne (block_setCell_ne (block_setCell_ne (block_setCell_ne (block_setCell_ne (block_setCell_ne HT.out hne _) hne _) hne _) hne _) hne _) hne _)
  have hr2 : Hid (RvsC (CW u2) b2 rs') := Lib.hid (by rw [← hu2]; exact hr2.out.imp (CW2.set6 HPU.out HP0.out (by decide) _ _ _ _ _ _))
  have hr4 : Hid (StrsC (CW u2) b4 sp') := Lib.hid (by rw [← hu2]; exact hr4.out.imp (CW2.set6 HPU.out HP0.out (by decide) _ _ _ _ _ _))
  have hr5 : Hid (StrsC (CW u2) b5 pp') := Lib.hid (by rw [← hu2]; exact hr5.out.imp (CW2.set6 HPU.out HP0.out (by decide) _ _ _ _ _ _))
  have HB : Hid (Below w.heap.size w u2) := Lib.hid (by rw [← hu2]; exact bset (bset (bset (bset (bset (bset HB.out HPW.out _) HPW.out _) HPW.out _) HPW.out _) HPW.out _) HPW.out _)
  have HE := Lib.hid (HE0.out.below HB.out)
  clear hu2 q r HP0
  have cP : ∀ o, u2.cell? ⟨pb, o, none⟩ = _ := block_cell HP.out
  go_wp2_with fail
  refine (HWC.out u2 HE.out b2 a3 b4 b5 c2 k3 c4 c5 hr2.out (HN3.out.imp (cw_low HB.out)) hr4.out hr5.out).mono ?_
  rintro e u3 hh
  obtain ⟨rfl, hb⟩ := hh.both
  have HB := Lib.hid (bnext HB.out hb)
  have HE := Lib.hid (HE.out.below hb)
  have HP := Lib.hid ((hb.block _ (lt_of_block HP.out)).trans HP.out)
  have HT := Lib.hid ((hb.block _ (lt_of_block HT.out)).trans HT.out)
  have hr2 := Lib.hid (hr2.out.imp (cw_low hb))
  have hr4 := Lib.hid (hr4.out.low hb)
  have hr5 := Lib.hid (hr5.out.low hb)
  clear hb hh cP
  have HBC : Hid ((allMay fs = true ∧ TextOf fs = layP fs ∧ CodeOf fs = 0) ∨ (TextOf fs = ⟨#[]⟩ ∧ CodeOf fs = 2)) := Lib.hid (by
    cases hm : allMay fs with
    | true => exact .inl ⟨rfl, textOf_yes hm, codeOf_yes hm⟩
    | false => exact .inr ⟨by unfold TextOf; rw [hm]; rfl, codeOf_no hm⟩)
  have HBZ : Hid ((TextOf fs).size ≤ 140737488355328) := Lib.hid (by
    unfold TextOf
    cases hm : allMay fs with
    | true => exact Nat.le_trans (HSZ.out hm) (by decide)
    | false => exact (show (0 : Nat) ≤ 140737488355328 by decide))
  obtain ⟨b, hb⟩ : ∃ b, TextOf fs = b := ⟨_, rfl⟩
  obtain ⟨c, hc⟩ : ∃ c, CodeOf fs = c := ⟨_, rfl⟩
  rw [hb] at HBZ HBC ⊢
  rw [hc] at HBC ⊢
  clear hb hc
  obtain ⟨k, hk⟩ : ∃ k, min s.size 5000 = k := ⟨_, rfl⟩
  have mn : min (s.size : Int) 5000 = (k : Int) := by rw [← hk]; omega
  have sl : k ≤ s.size := by rw [← hk]; exact Nat.min_le_left _ _
  have HK : Hid (k ≤ 5000) := Lib.hid (by rw [← hk]; exact Nat.min_le_right _ _)
  obtain ⟨v0, hv0⟩ : ∃ v, s.extract 0 k = v := ⟨_, rfl⟩
  have HV0 : Hid (v0.size ≤ 5000) := Lib.hid (by rw [← hv0, ByteArray.size_extract]; have := HK.out; omega)
  have HTN := Lib.hid (fun w' => turned_any b ta ty ts w' ha hy HBZ.out)
  clear hk
  go_upto_region 5 with fail
  obtain ⟨W, hW⟩ : ∃ W, u3 = W := ⟨_, rfl⟩
  rw [hW] at HB HE HT HP hr2 hr4 hr5 ⊢
  clear hW
  have y0 : W.cell? ⟨tb, 0, none⟩ = some (.int .u16 ta) := block_cell HT.out 0
  have y1 : W.cell? ⟨tb, 1, none⟩ = some (.int .u8 ty) := block_cell HT.out 1
  have y2 : W.cell? ⟨tb, 2, none⟩ = some (.int .i64 ts) := block_cell HT.out 2
  refine wp_region_tail 11 1000 (none) (phis [fun u _ => u = (.string s), fun u _ => u = (.string s), fun u _ => u = (.int .i64 s.size), fun u _ => u = (.int .i64 k), fun u _ => u = (.string v0), fun u _ => u = (.string b), fun u _ => u = (.string b), fun u _ => u = (.agg #[.int .u16 ta, .int .u8 ty, .int .i64 ts]), fun u _ => ∃ t : ByteArray, u = .string t ∧ t.size ≤ 140737488355328, fun u _ => ∃ t : ByteArray, u = .agg #[.string v0, .string b, .string t] ∧ t.size ≤ 140737488355328, fun u w' => ∃ c, u = .pointer (some ⟨c, 0, none⟩) ∧ W.heap.size ≤ c ∧ w'.heap[c]? = some (.cells #[.string ⟨#[]⟩, .string ⟨#[]⟩, .string ⟨#[]⟩] 57 (0, 0))]) rfl (by kernel_rfl) (by kernel_rfl) (mono_of ⟨mono_eq, mono_eq, mono_eq, mono_eq, mono_eq, mono_eq, mono_eq, mono_eq, mono_eq, mono_eq, ?m10, trivial⟩) (steps_of 11 ⟨?s0, ?s1, ?s2, ?s3, ?s4, ?s5, ?s6, ?s7, ?s8, ?s9, ?s10, trivial⟩) ?_
  case m10 =>
    exact ⟨fun u w1 w2 h ⟨c, h1, h2, h3⟩ => ⟨c, h1, h2, ext_block h h3⟩, fun _ u w1 w2 h ⟨c, h1, h2, h3⟩ => ⟨c, h1, h2, extB_block h (by simp) h3⟩⟩
  case s0 =>
    refine step_val (v := (.string s)) (fun av wv hE hS hO hD => ?_) (fun _ => rfl)
    have h1 : av.eval (.tmp 1) = (.string s) := hO.2.2 1 rfl
    have f1 := (ev_form av 1).symm.trans h1
    refine ⟨rfl, ?_⟩
    simp [go_sem, f1, mn, sl, hv0]
  case s1 =>
    refine step_val (v := (.string s)) (fun av wv hE hS hO hD => ?_) (fun _ => rfl)
    have h1 : av.eval (.tmp 1) = (.string s) := hO.2.2 1 rfl
    have f1 := (ev_form av 1).symm.trans h1
    refine ⟨rfl, ?_⟩
    simp [go_sem, f1, mn, sl, hv0]
  case s2 =>
    refine step_val (v := (.int .i64 s.size)) (fun av wv hE hS hO hD => ?_) (fun _ => rfl)
    have d27 : av.eval (.tmp 27) = (.string s) := hD.1 rfl _ rfl
    have f27 := (ev_form av 27).symm.trans d27
    refine ⟨rfl, ?_⟩
    simp [go_sem, f27, mn, sl, hv0]
  case s3 =>
    refine step_val (v := (.int .i64 k)) (fun av wv hE hS hO hD => ?_) (fun _ => rfl)
    have d28 : av.eval (.tmp 28) = (.int .i64 s.size) := hD.1 rfl _ rfl
    have f28 := (ev_form av 28).symm.trans d28
    refine ⟨rfl, ?_⟩
    simp [go_sem, f28, mn, sl, hv0]
  case s4 =>
    refine step_val (v := (.string v0)) (fun av wv hE hS hO hD => ?_) (fun _ => rfl)
    have d26 : av.eval (.tmp 26) = (.string s) := hD.1 rfl _ rfl
    have f26 := (ev_form av 26).symm.trans d26
    have d29 : av.eval (.tmp 29) = (.int .i64 k) := hD.2.1 rfl _ rfl
    have f29 := (ev_form av 29).symm.trans d29
    refine ⟨rfl, ?_⟩
    simp [go_sem, f26, f29, mn, sl, hv0]
  case s5 =>
    refine step_val (v := (.string b)) (fun av wv hE hS hO hD => ?_) (fun _ => rfl)
    have h7 : av.eval (.tmp 7) = (.string b) := hO.2.2 7 rfl
    have f7 := (ev_form av 7).symm.trans h7
    refine ⟨rfl, ?_⟩
    simp [go_sem, f7, mn, sl, hv0]
  case s6 =>
    refine step_val (v := (.string b)) (fun av wv hE hS hO hD => ?_) (fun _ => rfl)
    have h7 : av.eval (.tmp 7) = (.string b) := hO.2.2 7 rfl
    have f7 := (ev_form av 7).symm.trans h7
    refine ⟨rfl, ?_⟩
    simp [go_sem, f7, mn, sl, hv0]
  case s7 =>
    refine step_val (v := (.agg #[.int .u16 ta, .int .u8 ty, .int .i64 ts])) (fun av wv hE hS hO hD => ?_) (fun _ => rfl)
    have h5 : av.eval (.tmp 5) = (.pointer (some ⟨tb, 0, none⟩)) := hO.2.2 5 rfl
    have f5 := (ev_form av 5).symm.trans h5
    have y0 := extB_cell hE (by simp) y0
    have y1 := extB_cell hE (by simp) y1
    have y2 := extB_cell hE (by simp) y2
    refine ⟨rfl, ?_⟩
    simp [go_sem, f5, y0, y1, y2, mn, sl, hv0]
  case s8 =>
    refine step_wp (fun av wv hE hS hO hD => ?_)
    have d32 : av.eval (.tmp 32) = (.string b) := hD.1 rfl _ rfl
    have f32 := (ev_form av 32).symm.trans d32
    have d33 : av.eval (.tmp 33) = (.agg #[.int .u16 ta, .int .u8 ty, .int .i64 ts]) := hD.2.1 rfl _ rfl
    have f33 := (ev_form av 33).symm.trans d33
    refine ⟨rfl, ?_⟩
    exact wp_of_callR (f := 28) (args := #[.string b, .agg #[.int .u16 ta, .int .u8 ty, .int .i64 ts]]) (R := fun u w2 => (∃ t : ByteArray, u = .string t ∧ t.size ≤ 140737488355328) ∧ Below wv.heap.size wv w2) (by simp [go_sem, f32, f33]) ((HTN.out wv).mono (fun e w2 ⟨t, h1, h2, h3⟩ => ⟨_, h1, ⟨t, rfl, Nat.le_trans h2 HBZ.out⟩, h3⟩)) (fun u w2 ⟨h1, h2⟩ => ⟨u, rfl, es_of_ext h2, h1⟩)
  case s9 =>
    refine step_wp (fun av wv hE hS hO hD => ?_)
    have d30 : av.eval (.tmp 30) = (.string v0) := hD.1 rfl _ rfl
    have f30 := (ev_form av 30).symm.trans d30
    have d31 : av.eval (.tmp 31) = (.string b) := hD.2.1 rfl _ rfl
    have f31 := (ev_form av 31).symm.trans d31
    have d34 : (fun u _ => ∃ t : ByteArray, u = .string t ∧ t.size ≤ 140737488355328) (av.eval (.tmp 34)) wv := hD.2.2.1 rfl _ rfl
    refine ⟨rfl, ?_⟩
    obtain ⟨t, ht, hz⟩ := d34
    have f34 := (ev_form av 34).symm.trans ht
    exact wp_of_run (v := .agg #[.string v0, .string b, .string t]) (by simp [go_sem, f30, f31, f34]) ⟨_, rfl, es_of_ext (Ext_refl _), t, rfl, hz⟩
  case s10 =>
    refine step_wp (fun av wv hE hS hO hD => ?_)
    refine ⟨rfl, ?_⟩
    exact wp_of_run (v := .pointer (some ⟨wv.heap.size, 0, none⟩)) (w' := wv.alloc (.cells #[.string ⟨#[]⟩, .string ⟨#[]⟩, .string ⟨#[]⟩] 57)) (by simp [go_sem]) ⟨_, rfl, es_of_ext (balloc (Ext_refl _) _), wv.heap.size, rfl, (by have := hE.size; simpa using this), heap_alloc_new _ _⟩
  intro a' w' hE hO hall
  have hA := act_of_outer (ds := [26, 27, 28, 29, 30, 31, 32, 33, 34, 35, 9]) rfl hO (by kernel_rfl)
  have e26 : (fun u _ => u = (.string s)) (a'.eval (.tmp 26)) w' := hall.1 _ rfl
  have e27 : (fun u _ => u = (.string s)) (a'.eval (.tmp 27)) w' := hall.2.1 _ rfl
  have e28 : (fun u _ => u = (.int .i64 s.size)) (a'.eval (.tmp 28)) w' := hall.2.2.1 _ rfl
  have e29 : (fun u _ => u = (.int .i64 k)) (a'.eval (.tmp 29)) w' := hall.2.2.2.1 _ rfl
  have e30 : (fun u _ => u = (.string v0)) (a'.eval (.tmp 30)) w' := hall.2.2.2.2.1 _ rfl
  have e31 : (fun u _ => u = (.string b)) (a'.eval (.tmp 31)) w' := hall.2.2.2.2.2.1 _ rfl
  have e32 : (fun u _ => u = (.string b)) (a'.eval (.tmp 32)) w' := hall.2.2.2.2.2.2.1 _ rfl
  have e33 : (fun u _ => u = (.agg #[.int .u16 ta, .int .u8 ty, .int .i64 ts])) (a'.eval (.tmp 33)) w' := hall.2.2.2.2.2.2.2.1 _ rfl
  have e34 : (fun u _ => ∃ t : ByteArray, u = .string t ∧ t.size ≤ 140737488355328) (a'.eval (.tmp 34)) w' := hall.2.2.2.2.2.2.2.2.1 _ rfl
  have e35 : (fun u _ => ∃ t : ByteArray, u = .agg #[.string v0, .string b, .string t] ∧ t.size ≤ 140737488355328) (a'.eval (.tmp 35)) w' := hall.2.2.2.2.2.2.2.2.2.1 _ rfl
  have e9 : (fun u w' => ∃ c, u = .pointer (some ⟨c, 0, none⟩) ∧ W.heap.size ≤ c ∧ w'.heap[c]? = some (.cells #[.string ⟨#[]⟩, .string ⟨#[]⟩, .string ⟨#[]⟩] 57 (0, 0))) (a'.eval (.tmp 9)) w' := hall.2.2.2.2.2.2.2.2.2.2.1 _ rfl
  obtain ⟨v34, hv34⟩ : ∃ v, a'.eval (.tmp 34) = v := ⟨_, rfl⟩
  rw [hv34] at e34
  obtain ⟨v35, hv35⟩ : ∃ v, a'.eval (.tmp 35) = v := ⟨_, rfl⟩
  rw [hv35] at e35
  obtain ⟨v9, hv9⟩ : ∃ v, a'.eval (.tmp 9) = v := ⟨_, rfl⟩
  rw [hv9] at e9
  simp only [List.foldl_cons, List.foldl_nil, Act.put, List.setIfInBounds_toArray, List.set_cons_succ, List.set_cons_zero, e26, e27, e28, e29, e30, e31, e32, e33, hv34, hv35, hv9] at hA
  clear hO hall e26 e27 e28 e29 e30 e31 e32 e33 hv34 hv35 hv9
  subst hA
  clear y0 y1 y2 mn sl hv0 e34
  obtain ⟨cb, rfl, hcW, hcb⟩ := e9
  obtain ⟨t, rfl, htz⟩ := e35
  have HC := Lib.hid hcb
  have HTZ := Lib.hid htz
  have HCW := Lib.hid hcW
  have HX := Lib.hid (of_drew hE)
  have HPW2 := Lib.hid (lt_of_block HP.out)
  clear hcb htz hE HTN hcW
  have q0 : w'.frozen? ⟨cb, 0, none⟩ = false := block_free HC.out 0
  have q1 : w'.frozen? ⟨cb, 1, none⟩ = false := block_free HC.out 1
  have q2 : w'.frozen? ⟨cb, 2, none⟩ = false := block_free HC.out 2
  have r0 : w'.cell? ⟨cb, 0, none⟩ = some (.string ⟨#[]⟩) := block_cell HC.out 0
  have r1 : w'.cell? ⟨cb, 1, none⟩ = some (.string ⟨#[]⟩) := block_cell HC.out 1
  have r2 : w'.cell? ⟨cb, 2, none⟩ = some (.string ⟨#[]⟩) := block_cell HC.out 2
  go_upto_if 37 with fail
  obtain ⟨W2, hW2⟩ : ∃ W2, ((w'.setCell ⟨cb, 0, none⟩ (.string v0)).setCell ⟨cb, 1, none⟩ (.string b)).setCell ⟨cb, 2, none⟩ (.string t) = W2 := ⟨_, rfl⟩
  rw [hW2]
  have HL : Hid (W2.heap[cb]? = some (.cells #[.string v0, .string b, .string t] 57 (0, 0))) := Lib.hid (by rw [← hW2]; exact block_setCell (block_setCell (block_setCell HC.out _) _) _)
  have hE2 : Below W.heap.size W W2 := by rw [← hW2]; exact bset (bset (bset HX.out HCW.out _) HCW.out _) HCW.out _
  have HE := Lib.hid (HE.out.below hE2)
  have HB := Lib.hid (bnext HB.out hE2)
  have HP := Lib.hid ((hE2.block _ HPW2.out).trans HP.out)
  have hr2 := Lib.hid (hr2.out.imp (cw_low hE2))
  have hr4 := Lib.hid (hr4.out.low hE2)
  have hr5 := Lib.hid (hr5.out.low hE2)
  clear hW2 hE2 q0 q1 q2 r0 r1 r2 HX HT HC HCW
  have HZ : Hid (∀ m, (pick3 v0 b t m).size ≤ 140737488355328) := Lib.hid (fun m => pick3_size (Nat.le_trans HV0.out (by decide)) HBZ.out HTZ.out m)
  go_cut [7, 8, 10, 11] (fun _ _ _ _ wx => Hid (Below W2.heap.size W2 wx))
  case first =>
    rcases HBC.out with ⟨hm, rfl, rfl⟩ | ⟨rfl, rfl⟩
    · have HM := Lib.hid hm
      clear hm
      go_wp2_with fail
      refine (HRF.out W2 HE.out HM.out).mono ?_
      rintro e w8 ⟨x2, z2, x3, z3, x4, z4, x5, z5, rfl, rs2, rs3, rs4, rs5, hb⟩
      have RS2 := Lib.hid rs2
      have RS3 := Lib.hid rs3
      have RS4 := Lib.hid rs4
      have RS5 := Lib.hid rs5
      have HBR := Lib.hid hb
      clear hb rs2 rs3 rs4 rs5
      go_upto_region 8 with fail
      obtain ⟨yb, hyb⟩ : ∃ yb, w8.heap.size = yb := ⟨_, rfl⟩
      obtain ⟨Y, hY⟩ : ∃ Y, w8.alloc (.cells #[.string root, .int .u64 sg, .slice x2 (len rs') z2, .slice x3 (len cs') z3, .slice x4 (len sp') z4, .slice x5 (len pp') z5] 28) = Y := ⟨_, rfl⟩
      have hb : Below w8.heap.size w8 Y := by rw [← hY]; exact balloc (Below.refl _ _) _
      have HY : Hid (Y.heap[yb]? = some (.cells #[.string root, .int .u64 sg, .slice x2 (len rs') z2, .slice x3 (len cs') z3, .slice x4 (len sp') z4, .slice x5 (len pp') z5] 28 (0, 0))) := Lib.hid (by rw [← hY, ← hyb]; exact heap_alloc_new _ _)
      have HBR := Lib.hid (bnext HBR.out hb)
      have RS2 := Lib.hid (RS2.out.imp (cw_low hb))
      have RS3 := Lib.hid (RS3.out.imp (cw_low hb))
      have RS4 := Lib.hid (RS4.out.low hb)
      have RS5 := Lib.hid (RS5.out.low hb)
      have HP := Lib.hid ((HBR.out.block _ (lt_of_block HP.out)).trans HP.out)
      simp only [hY, hyb]
      clear hY hyb hb
      have cY : ∀ o, Y.cell? ⟨yb, o, none⟩ = _ := block_cell HY.out
      have cP : ∀ o, Y.cell? ⟨pb, o, none⟩ = _ := block_cell HP.out
      go_wp2_with fail
      refine (HSY.out Y b2 a3 b4 b5 x2 x3 x4 x5 c2 k3 c4 c5 z2 z3 z4 z5 (hr2.out.imp (cw_low HBR.out)) (HN3.out.imp (cw_low (bnext HB.out HBR.out))) (hr4.out.low HBR.out) (hr5.out.low HBR.out) RS2.out RS3.out RS4.out RS5.out).mono ?_
      rintro e r2 ⟨rfl, hb⟩
      have HBR := Lib.hid (bnext HBR.out hb)
      clear hb cY cP
      go_wp2
      go_meet
      exact HBR
    · go_wp2
      go_meet
      exact Lib.hid (Below.refl _ _)
  case rest =>
    have hb := hcut.out
    have HB := Lib.hid (bnext HB.out hb)
    have HE := Lib.hid (HE.out.below hb)
    have HL := Lib.hid ((hb.block _ (lt_of_block HL.out)).trans HL.out)
    clear hb hcut HBC HRF HSY HWC hr2 hr4 hr5 HN3 HP
    go_upto_region 13 with fail
    go_loopg [12] 3 (fun g i wr => ∃ m : Nat, g + m = 3 ∧ i = .int .i64 m ∧ Hid (Below wc.heap.size wc wr))
    case atStart => exact ⟨0, rfl, rfl, Below.refl _ _⟩
    case round =>
      obtain ⟨m, hg, rfl, HW⟩ := hrel
      by_cases hlt : m < 3
      · have c0 : wr.cell? ⟨cb, m, none⟩ = some (.string (pick3 v0 b t m)) := (block_cell ((HW.out.block cb (lt_of_block HL.out)).trans HL.out) m).trans (pick3_at v0 b t m hlt)
        have i1 : decide (m < 3) = true := by simp; exact hlt
        have i2 : (m : Int) < 3 := by omega
        have hv := HZ.out m
        have HEr := Lib.hid (HE.out.below HW.out)
        have HL2 := Lib.hid (fun w' (h : Below wr.heap.size wr w') => (block_cell ((h.block cb (Nat.lt_of_lt_of_le (lt_of_block HL.out) HW.out.size)).trans ((HW.out.block cb (lt_of_block HL.out)).trans HL.out)) m).trans (pick3_at v0 b t m hlt))
        generalize pick3 v0 b t m = v at c0 hv HL2
        have HV := Lib.hid hv
        clear hv
        go_wp2_with fail
        refine (rqCert_any B v wr HEr.out (Nat.le_trans HV.out (by decide))).mono ?_
        rintro e w8 ⟨ev, x2, z2, x3, z3, x4, z4, x5, z5, rfl, hev, _, rs2, rs3, rs4, rs5, hb⟩
        cases hr : readR v (certGs v) cert0 with
        | error f =>
          rw [hr] at hev rs2 rs3 rs4 rs5
          obtain ⟨fb, rfl⟩ := hev
          rw [cells_zero]
          have HB8 := Lib.hid hb
          clear hb c0 rs2 rs3 rs4 rs5 hr
          go_upto_region 16 with fail
          obtain ⟨yb, hyb⟩ : ∃ yb, w8.heap.size = yb := ⟨_, rfl⟩
          obtain ⟨Y, hY⟩ : ∃ Y, w8.alloc (.cells #[.string ⟨#[]⟩, .int .u64 0, .slice x2 0 z2, .slice x3 0 z3, .slice x4 0 z4, .slice x5 0 z5] 28) = Y := ⟨_, rfl⟩
          have hb : Below w8.heap.size w8 Y := by rw [← hY]; exact balloc (Below.refl _ _) _
          have HY : Hid (Y.heap[yb]? = some (.cells #[.string ⟨#[]⟩, .int .u64 0, .slice x2 0 z2, .slice x3 0 z3, .slice x4 0 z4, .slice x5 0 z5] 28 (0, 0))) := Lib.hid (by rw [← hY, ← hyb]; exact heap_alloc_new _ _)
          have HBN := Lib.hid (bnext HW.out (bnext HB8.out hb))
          simp only [hY, hyb]
          clear hY hyb hb
          have cY : ∀ o, Y.cell? ⟨yb, o, none⟩ = _ := block_cell HY.out
          go_wp2_with fail
          refine (same_zero x2 x3 x4 x5 z2 z3 z4 z5 Y).mono ?_
          rintro e w9 ⟨rfl, hb⟩
          have HBN := Lib.hid (bnext HBN.out hb)
          clear hb cY
          go_wp2
          go_roundg (2 - m)
          case rel => exact ⟨m + 1, by omega, by go_num, HBN⟩
          case measure => omega
        | ok y =>
          rw [hr] at hev rs2 rs3 rs4 rs5
          have hev : ev = .nilIface := hev
          subst hev
          have RS2 : Hid (RvsC (CW w8) x2 (y 2).rs) := Lib.hid rs2
          have RS3 : Hid (NmsC (CW w8) x3 (y 3).ns) := Lib.hid rs3
          have RS4 : Hid (StrsC (CW w8) x4 (y 4).l) := Lib.hid rs4
          have RS5 : Hid (StrsC (CW w8) x5 (y 5).l) := Lib.hid rs5
          have HLB := Lib.hid (fun w' hE s2 s3 s4 s5 => lay_back B hr x2 x3 x4 x5 z2 z3 z4 z5 w' hE s2 s3 s4 s5)
          rw [show cellsCert (recV (Except.ok y) cert0) x2 z2 x3 z3 x4 z4 x5 z5 = #[.string (y 0).s, .int .u64 (y 1).n, .slice x2 (len (y 2).rs) z2, .slice x3 (len (y 3).ns) z3, .slice x4 (len (y 4).l) z4, .slice x5 (len (y 5).l) z5] from rfl]
          have HB8 := Lib.hid hb
          clear hb c0 rs2 rs3 rs4 rs5 hr
          generalize (y 0).s = y0 at HLB ⊢
          generalize (y 1).n = y1 at HLB ⊢
          generalize (y 2).rs = y2 at HLB RS2 ⊢
          generalize (y 3).ns = y3 at HLB RS3 ⊢
          generalize (y 4).l = y4 at HLB RS4 ⊢
          generalize (y 5).l = y5 at HLB RS5 ⊢
          go_upto_region 16 with fail
          obtain ⟨yb, hyb⟩ : ∃ yb, w8.heap.size = yb := ⟨_, rfl⟩
          obtain ⟨Y, hY⟩ : ∃ Y, w8.alloc (.cells #[.string y0, .int .u64 y1, .slice x2 (len y2) z2, .slice x3 (len y3) z3, .slice x4 (len y4) z4, .slice x5 (len y5) z5] 28) = Y := ⟨_, rfl⟩
          have hb : Below w8.heap.size w8 Y := by rw [← hY]; exact balloc (Below.refl _ _) _
          have HY : Hid (Y.heap[yb]? = some (.cells #[.string y0, .int .u64 y1, .slice x2 (len y2) z2, .slice x3 (len y3) z3, .slice x4 (len y4) z4, .slice x5 (len y5) z5] 28 (0, 0))) := Lib.hid (by rw [← hY, ← hyb]; exact heap_alloc_new _ _)
          have HB8 := Lib.hid (bnext HB8.out hb)
          have RS2 := Lib.hid (RS2.out.imp (cw_low hb))
          have RS3 := Lib.hid (RS3.out.imp (cw_low hb))
          have RS4 := Lib.hid (RS4.out.low hb)
          have RS5 := Lib.hid (RS5.out.low hb)
          simp only [hY, hyb]
          clear hY hyb hb
          have cY : ∀ o, Y.cell? ⟨yb, o, none⟩ = _ := block_cell HY.out
          go_wp2_with fail
          refine (HLB.out Y (HEr.out.below HB8.out) RS2.out RS3.out RS4.out RS5.out).mono ?_
          rintro e w9 ⟨rfl, hb⟩
          have HB8 := Lib.hid (bnext HB8.out hb)
          have c9 := HL2.out w9 HB8.out
          have HBN := Lib.hid (bnext HW.out HB8.out)
          clear hb cY
          go_wp2
          go_roundg (2 - m)
          case rel => exact ⟨m + 1, by omega, by go_num, HBN⟩
          case measure => omega
      · obtain rfl : m = 3 := by omega
        have HBN := Lib.hid (bnext HB.out HW.out)
        go_wp2
        go_ret
        exact ⟨rfl, HBN.out⟩
end Go.Proofs.YtihiaopilnjonaaGreatDoor
