/- Rows that a call owns: read, kept, apart. -/
import Derived.Test.YtihiaopilnjonaaGreatDoorLib
import Derived.Deep.QuietTactic
import Derived.BigQuiet
import Derived.StillTailTactics
import Derived.Deep.LoopGhost
import Derived.Deep.RegionWith
import Derived.Deep.DeepCutAuto
import Derived.Deep.AppendLies
import Derived.Laws.OwnMore
import Derived.Deep.CutBlock
namespace Go.Proofs.YtihiaopilnjonaaGreatDoor
open Go.RowKit

theorem own_u64s {w : World} {base e n : Nat} {v : Value} {l : List Int} (h : w.ownsRow base e 1 v n (l.map (Value.int .u64))) : ∃ a cap, v = .slice a (len l) cap ∧ U64s w a l := by
  have hn : len l = n := by have := h.1; rw [len_eq]; simpa using this
  obtain ⟨h1, h2⟩ := h
  rcases h2 with ⟨rfl, h2⟩ | ⟨g, cap, cur, rfl, hg, hh, hc1, hc2, hc3, hc4⟩
  · obtain rfl : l = [] := List.eq_nil_of_length_eq_zero (by rw [← len_eq]; omega)
    exact ⟨none, 0, rfl, U64s.nil _ _⟩
  · refine ⟨some ⟨g, 0, none⟩, cap, by rw [hn], fun i hi => ⟨g, 0, rfl, ?_⟩⟩
    have hown : w.ownsRow base e 1 (.slice (some ⟨g, 0, none⟩) n cap) n (l.map (Value.int .u64)) := ⟨h1, .inr ⟨g, cap, cur, rfl, hg, hh, hc1, hc2, hc3, hc4⟩⟩
    have := hown.cellAt i (by omega)
    rw [Nat.zero_add, this, List.getElem?_map, List.getElem?_eq_getElem hi, nth_eq l i hi]; rfl

theorem info_u64 : (Tryz.prog.info? 23).map (fun i => (i.zero, i.size, i.bytes)) = some (some (.int .u64 0), 1, 8) := by kernel_rfl

theorem grownBy_below {w b c : World} {row : Option Nat} (h : Below w.heap.size w b) (hg : b.grownBy c row) (hr : ∀ k, row = some k → w.heap.size ≤ k) : Below w.heap.size w c :=
  h.grown hg h.size hr

theorem below_grown {w w' : World} (h : Below w.heap.size w w') : w.grownBy w' none := ⟨h.os, h.tape, h.output, h.size, fun i hi _ => h.block i hi⟩
theorem own_below {w w' : World} {base e size n : Nat} {v : Value} {xs : List Value} (h : w.ownsRow base e size v n xs) (hb : Below w.heap.size w w') : w'.ownsRow base e size v n xs :=
  h.kept (below_grown hb) (by cases v.ownBlock <;> simp)

/-- The block of a row that is owned. -/
theorem own_cells {w : World} {B base e size n m cap : Nat} {ra : Option Addr} {b off : Nat} {xs : List Value} (h : w.ownsRow (B + base) e size (.slice ra m cap) n xs) (hra : ra = some ⟨b, off, none⟩) : B ≤ b ∧ ∃ cur, w.heap[b]? = some (.cells cur e (0, 0)) := by
  rcases h.2 with ⟨hv, -⟩ | ⟨g, cap', cur, hv, hg, hh, -⟩
  · cases hv; cases hra
  · cases hv; cases hra
    exact ⟨by omega, cur, hh⟩

theorem own_apart {w : World} {b1 b2 e1 e2 s1 s2 n1 n2 : Nat} {v1 v2 : Value} {x1 x2 : List Value} (h1 : w.ownsRow b1 e1 s1 v1 n1 x1) (h2 : w.ownsRow b2 e2 s2 v2 n2 x2) (he : e1 ≠ e2) : v1.ownBlock = none ∨ v1.ownBlock ≠ v2.ownBlock := by
  obtain ⟨-, h1⟩ := h1
  obtain ⟨-, h2⟩ := h2
  rcases h1 with ⟨rfl, -⟩ | ⟨g, cap, cur, rfl, -, hh, -⟩
  · exact .inl rfl
  · right
    rcases h2 with ⟨rfl, -⟩ | ⟨g', cap', cur', rfl, -, hh', -⟩
    · intro h; cases h
    · intro h
      have e : g = g' := by simpa [Value.ownBlock] using h
      subst e
      rw [hh] at hh'
      cases hh'
      exact he rfl

def U8s (w : World) (a : Option Addr) (l : List Int) : Prop :=
  ∀ i, i < len l → ∃ b off, a = some ⟨b, off, none⟩ ∧ w.cell? ⟨b, off + i, none⟩ = some (.int .u8 (nth l i))
theorem U8s.below {w w' : World} {a : Option Addr} {l : List Int} (h : U8s w a l) (hb : Below w.heap.size w w') : U8s w' a l := fun i hi => by
  obtain ⟨b, off, rfl, hc⟩ := h i hi
  exact ⟨b, off, rfl, by rw [hb.cell (p := ⟨b, off + i, none⟩) (lt_of_cell hc)]; exact hc⟩

end Go.Proofs.YtihiaopilnjonaaGreatDoor
