/- Small general lemmas: reading a list by place, worlds that differ only above a block, slices that read as lists. -/
import Derived.Test.YtihiaopilnjonaaGreatDoorRows
import Derived.WalkKit
import Derived.WalkSpells
import Derived.WalkLawsBesides
import Derived.Lib.Hide
import Derived.Deep.Draws
import Derived.Shelf.Spec.BitsCarry
namespace Go.Proofs.YtihiaopilnjonaaGreatDoor
open Go.RowKit

/-- A list's length, closed to simp. -/
def len {α : Type} (l : List α) : Nat := l.length
theorem len_eq {α : Type} (l : List α) : len l = l.length := rfl

theorem take_len {α : Type} (l : List α) : l.take (len l) = l := List.take_length

/-- The i-th number of a list. -/
def nth (l : List Int) (i : Nat) : Int := l.getD i 0

theorem nth_eq (l : List Int) (i : Nat) (h : i < l.length) : nth l i = l[i] := by
  unfold nth; rw [List.getD_eq_getElem?_getD, List.getElem?_eq_getElem h]; rfl

theorem lt_of_cell {w : World} {b o : Nat} {v : Value} (h : w.cell? ⟨b, o, none⟩ = some v) : b < w.heap.size := by
  unfold World.cell? at h
  rcases Nat.lt_or_ge b w.heap.size with h' | h'
  · exact h'
  · simp [Array.getElem?_eq_none h'] at h

theorem lt_of_cell' {w : World} {p : Addr} {v : Value} (h : w.cell? p = some v) : p.block < w.heap.size := by
  unfold World.cell? at h
  rcases Nat.lt_or_ge p.block w.heap.size with h' | h'
  · exact h'
  · simp [Array.getElem?_eq_none h'] at h

theorem bcell {W w1 : World} (hb : Below W.heap.size W w1) : (∀ b o, b < W.heap.size → w1.cell? ⟨b, o, none⟩ = W.cell? ⟨b, o, none⟩) ∧ (∀ b o, b < W.heap.size → w1.frozen? ⟨b, o, none⟩ = W.frozen? ⟨b, o, none⟩) :=
  ⟨fun b o h => hb.cell (p := ⟨b, o, none⟩) h, fun b o h => hb.frozen (p := ⟨b, o, none⟩) h⟩

theorem ret_bool {a b : Bool} (h : a = b) : Ending.returned (.bool a) = .returned (.bool b) := by rw [h]
theorem ret_int {k : IntKind} {a b : Int} (h : a = b) : Ending.returned (.int k a) = .returned (.int k b) := by rw [h]

theorem below_drewN {B : Nat} {a w : World} (h : Below B a w) (n : Nat) : Below B a (w.drewN n) := ⟨h.os, h.tape, h.output, h.size, h.block⟩

/-- The cells of a block that is known whole. -/
theorem block_cell {w : World} {b : Nat} {cs : Array Value} {t : TypeId} {fr : Nat × Nat} (h : w.heap[b]? = some (.cells cs t fr)) (o : Nat) : w.cell? ⟨b, o, none⟩ = cs[o]? := by
  unfold World.cell?; rw [h]; rfl
theorem block_free {w : World} {b : Nat} {cs : Array Value} {t : TypeId} (h : w.heap[b]? = some (.cells cs t (0, 0))) (o : Nat) : w.frozen? ⟨b, o, none⟩ = false := by
  unfold World.frozen?; rw [h]; simp
theorem block_alloc {w : World} {b : Nat} {x : Obj} (h : w.heap[b]? = some x) (o : Obj) : (w.alloc o).heap[b]? = some x := by
  rw [Below.heap_alloc _ _ _ (lt_of_block h)]; exact h

/-- What has just been made, and how many blocks there are then. -/
theorem alloc_new_at {w : World} {n : Nat} (o : Obj) (h : w.heap.size = n) : (w.alloc o).heap[n]? = some o := by
  subst h; exact heap_alloc_new w o
theorem alloc_size {w : World} {n : Nat} (o : Obj) (h : w.heap.size = n) : (w.alloc o).heap.size = n + 1 := by simp; exact h

theorem block_setCell {w : World} {b o : Nat} {cs : Array Value} {t : TypeId} {fr : Nat × Nat} (h : w.heap[b]? = some (.cells cs t fr)) (v : Value) :
    (w.setCell ⟨b, o, none⟩ v).heap[b]? = some (.cells (cs.setIfInBounds o v) t fr) := by
  have hlt := lt_of_block h
  have h' : w.heap[b] = .cells cs t fr := by simpa [Array.getElem?_eq_getElem hlt] using h
  show (w.heap.modify b _)[b]? = _
  rw [Array.getElem?_eq_getElem (by simpa using hlt), Array.getElem_modify_self, h']
  rfl
theorem block_setCell_ne {w : World} {b : Nat} {x : Obj} (h : w.heap[b]? = some x) {p : Addr} (hp : b ≠ p.block) (v : Value) : (w.setCell p v).heap[b]? = some x := by
  rw [Below.heap_setCell _ _ _ _ hp]; exact h

/-- A list of chunks of one length, read by place. -/
theorem flat_get {α β : Type} (f : α → List β) (k : Nat) (hf : ∀ x, (f x).length = k) : ∀ (l : List α) (i r : Nat) (hi : i < l.length), r < k → (l.flatMap f)[i * k + r]? = (f l[i])[r]?
  | x :: l, 0, r, _, hr => by
    simp only [List.flatMap_cons, Nat.zero_mul, Nat.zero_add, List.getElem_cons_zero]
    rw [List.getElem?_append_left (by rw [hf]; exact hr)]
  | x :: l, i + 1, r, hi, hr => by
    simp only [List.flatMap_cons, List.getElem_cons_succ]
    rw [List.getElem?_append_right (by rw [hf, Nat.add_mul]; omega), hf, show (i + 1) * k + r - k = i * k + r by rw [Nat.add_mul]; omega]
    exact flat_get f k hf l i r (by simpa using hi) hr
theorem flat_length {α β : Type} (f : α → List β) (k : Nat) (hf : ∀ x, (f x).length = k) : ∀ (l : List α), (l.flatMap f).length = l.length * k
  | [] => by simp
  | x :: l => by rw [List.flatMap_cons, List.length_append, hf, flat_length f k hf l, List.length_cons, Nat.add_mul]; omega

/-- A slice (its address, its length) that reads as uint64 numbers. -/
def U64s (w : World) (a : Option Addr) (l : List Int) : Prop :=
  ∀ i, i < len l → ∃ b off, a = some ⟨b, off, none⟩ ∧ w.cell? ⟨b, off + i, none⟩ = some (.int .u64 (nth l i))

theorem U64s.nil (w : World) (a : Option Addr) : U64s w a [] := fun i h => by simp [len] at h

theorem U64s.below {w w' : World} {a : Option Addr} {l : List Int} (h : U64s w a l) (hb : Below w.heap.size w w') : U64s w' a l := fun i hi => by
  obtain ⟨b, off, rfl, hc⟩ := h i hi
  exact ⟨b, off, rfl, by rw [hb.cell (p := ⟨b, off + i, none⟩) (lt_of_cell hc)]; exact hc⟩
/-! Chains of worlds, each differing from the one before only above that one's last block. -/
theorem bnext {w b c : World} (h : Below w.heap.size w b) (k : Below b.heap.size b c) : Below w.heap.size w c := h.trans (k.mono h.size)
theorem balloc {w b : World} (h : Below w.heap.size w b) (o : Obj) : Below w.heap.size w (b.alloc o) := h.alloc h.size o
theorem bdrew {w b : World} (h : Below w.heap.size w b) : Below w.heap.size w b.drew := h.drew
theorem bdrewN {w b : World} (h : Below w.heap.size w b) (n : Nat) : Below w.heap.size w (b.drewN n) := below_drewN h n
theorem bset {w b : World} (h : Below w.heap.size w b) {p : Addr} (hp : w.heap.size ≤ p.block) (u : Value) : Below w.heap.size w (b.setCell p u) := h.setCell hp u

/-- w' is w after some draws. -/
def Drew (w w' : World) : Prop := ∃ n, w' = w.drewN n
theorem Drew.refl (w : World) : Drew w w := ⟨0, rfl⟩
theorem Drew.drewN {w w' : World} (h : Drew w w') (n : Nat) : Drew w (w'.drewN n) := by
  obtain ⟨m, rfl⟩ := h; exact ⟨m + n, by rw [World.drewN_drewN]⟩
theorem Drew.trans {a b c : World} (h : Drew a b) (k : Drew b c) : Drew a c := by obtain ⟨m, rfl⟩ := k; exact h.drewN m
theorem Drew.below {w w' : World} (h : Drew w w') (B : Nat) : Below B w w' := by obtain ⟨m, rfl⟩ := h; exact below_drewN (Below.refl _ _) m
theorem U64s.drew {w w' : World} {a : Option Addr} {l : List Int} (h : U64s w a l) (hb : Drew w w') : U64s w' a l := h.below (hb.below _)
end Go.Proofs.YtihiaopilnjonaaGreatDoor
