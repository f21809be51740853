/- Package pack: a writer, and what writing leaves; a row lays a number. -/
import Derived.Test.YtihiaopilnjonaaGreatDoorHiP
import Derived.Test.YtihiaopilnjonaaGreatDoorRegion
import Derived.Lib.AppendStr
namespace Go.Proofs.YtihiaopilnjonaaGreatDoor
open Go.RowKit
set_option linter.unusedSimpArgs false
set_option linter.unusedVariables false

theorem info_u8 : (Tryz.prog.info? 5).map (fun i => (i.zero, i.size, i.bytes)) = some (some (.int .u8 0), 1, 1) := by kernel_rfl
theorem one_u8 (x : Int) : ∀ u ∈ [Value.int .u8 x], u.oneCell' = true := by
  intro u hu; simp at hu; subst hu; rfl
/-- No row of bytes. -/
def Not8 (x : Obj) : Prop := ∀ cs fr, x ≠ .cells cs 5 fr
theorem not8_cells {cs : Array Value} {t : TypeId} {fr : Nat × Nat} (h : t ≠ 5) : Not8 (.cells cs t fr) := fun _ _ e => by cases e; exact h rfl
/-- What writing to one writer leaves: all below its base, and all but itself and rows of bytes. -/
structure WK (base b : Nat) (w w' : World) : Prop where
  bel : Below base w w'
  keep : ∀ k x, w.heap[k]? = some x → k ≠ b → Not8 x → w'.heap[k]? = some x
theorem WK.refl (base b : Nat) (w : World) : WK base b w w := ⟨Below.refl _ _, fun _ _ h _ _ => h⟩
theorem WK.trans {base b : Nat} {w w' w'' : World} (h : WK base b w w') (k : WK base b w' w'') : WK base b w w'' := ⟨h.bel.trans k.bel, fun j x hx hj hn => k.keep j x (h.keep j x hx hj hn) hj hn⟩
theorem WK.of_below {base b : Nat} {w w' : World} (h : Below w.heap.size w w') (hb : base ≤ w.heap.size) : WK base b w w' := ⟨h.mono hb, fun k x hx _ _ => (h.block k (lt_of_block hx)).trans hx⟩
theorem WK.next {base b : Nat} {w w1 w2 : World} (h : WK base b w w1) (k : Below w1.heap.size w1 w2) (hb : base ≤ w.heap.size) : WK base b w w2 := h.trans (WK.of_below k (Nat.le_trans hb h.bel.size))
/-- A writer that has laid these bytes. -/
def WrB (w : World) (b base : Nat) (s : ByteArray) : Prop := base ≤ b ∧ ∃ v, w.heap[b]? = some (.cells #[v] 265 (0, 0)) ∧ w.ownsRow base 5 1 v s.size (Lib.strCells s)
theorem WrB.below {w w' : World} {b base : Nat} {s : ByteArray} (h : WrB w b base s) (hb : Below w.heap.size w w') : WrB w' b base s := by
  obtain ⟨h0, v, h1, h2⟩ := h
  exact ⟨h0, v, (hb.block _ (lt_of_block h1)).trans h1, own_below h2 hb⟩
theorem WrB.lt {w : World} {b base : Nat} {s : ByteArray} (h : WrB w b base s) : b < w.heap.size := by
  obtain ⟨h0, v, h1, h2⟩ := h; exact lt_of_block h1
theorem own_not8 {w : World} {base e n k : Nat} {v : Value} {xs : List Value} {x : Obj} (h : w.ownsRow base 5 e v n xs) (hk : w.heap[k]? = some x) (hx : Not8 x) : some k ≠ v.ownBlock := by
  rcases h.2 with ⟨rfl, _⟩ | ⟨g, cap, cur, rfl, _, hg, _⟩
  · intro e; cases e
  · intro e
    obtain rfl : k = g := by simpa [Value.ownBlock] using e
    rw [hg] at hk
    cases hk
    exact hx _ _ rfl
/-- One append to a writer's bytes, and the store. -/
theorem wr_step {w w1 : World} {b base n : Nat} {v v' : Value} {xs ys : List Value} {s' : ByteArray} (hb : base ≤ b) (h1 : w.heap[b]? = some (.cells #[v] 265 (0, 0))) (hown : w.ownsRow base 5 1 v n xs) (hE : ExtB v.ownBlock w.drew w1)
    (hown' : w1.ownsRow base 5 1 v' s'.size ys) (hy : ys = Lib.strCells s') :
    w1.cell? ⟨b, 0, none⟩ = some v ∧ w1.frozen? ⟨b, 0, none⟩ = false ∧ WrB (w1.setCell ⟨b, 0, none⟩ v') b base s' ∧ WK base b w (w1.setCell ⟨b, 0, none⟩ v') := by
  have hn8 : Not8 (.cells #[v] 265 (0, 0)) := not8_cells (by decide)
  have hlt := lt_of_block h1
  have hb1 : w1.heap[b]? = some (.cells #[v] 265 (0, 0)) := by
    rw [hE.block b hlt (own_not8 hown h1 hn8)]; exact h1
  have hne := own_not8 hown' hb1 hn8
  refine ⟨block_cell hb1 0, block_free hb1 0, ⟨hb, v', block_setCell hb1 v', ?_⟩, ⟨?_, fun k x hx hk hnx => ?_⟩⟩
  · subst hy
    refine hown'.kept ⟨rfl, rfl, rfl, (by simp [World.setCell]), fun k _ hk => Below.heap_setCell _ _ _ k (fun e => hk (by rw [e]))⟩ (row := some b) (.inr (fun e => hne e.symm))
  · refine Below.setCell (Below.grown ((Below.refl base w).drew) hE (by show base ≤ w.heap.size; omega) (fun k hk => (hown.lt k hk).1)) hb v'
  · rw [Below.heap_setCell _ _ _ _ hk, hE.block k (lt_of_block hx) (own_not8 hown hx hnx)]; exact hx
theorem own_slice {w : World} {base e n : Nat} {v : Value} {xs : List Value} (h : w.ownsRow base e 1 v (n + 1) xs) : ∃ g cap, v = .slice (some ⟨g, 0, none⟩) (n + 1) cap := by
  rcases h.2 with ⟨_, h2⟩ | ⟨g, cap, cur, h3, _⟩
  · omega
  · exact ⟨g, cap, h3⟩
theorem strCells_app (s t : ByteArray) : Lib.strCells (s ++ t) = Lib.strCells s ++ Lib.strCells t := by
  unfold Lib.strCells; rw [ByteArray.data_append, Array.toList_append, List.map_append]
theorem strCells_one {y : Int} (h0 : 0 ≤ y) (h1 : y ≤ 255) : Lib.strCells (baL [toB y]) = [.int .u8 y] := by
  unfold Lib.strCells; rw [baL_list, List.map_cons, List.map_nil, nat_toB h0 h1]
theorem baL_one (s : ByteArray) (x : UInt8) : (s ++ baL [x]).size = s.size + 1 := by rw [ByteArray.size_append, baL_size]; rfl
end Go.Proofs.YtihiaopilnjonaaGreatDoor
