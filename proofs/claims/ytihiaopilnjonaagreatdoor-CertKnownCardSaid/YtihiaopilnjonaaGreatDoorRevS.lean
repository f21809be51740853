/- Reveals, as they lie. -/
import Derived.Test.YtihiaopilnjonaaGreatDoorOwn
namespace Go.Proofs.YtihiaopilnjonaaGreatDoor
open Go.RowKit
set_option linter.unusedSimpArgs false
set_option linter.unusedVariables false

structure Rev where
  pos : Int
  L : Int
  signed : Bool
  idx : Int
  wa : Option Addr
  wn : Nat
  wc : Nat
  pa : Option Addr
  pn : Nat
  pc : Nat
  root : ByteArray
  wt : Int
  first : Int
  life : Int
  keys : Int

abbrev Rev.val (r : Rev) : Value := .agg #[.int .u64 r.pos, .int .u64 r.L, .bool r.signed, .int .u64 r.idx, .slice r.wa r.wn r.wc, .slice r.pa r.pn r.pc, .string r.root, .int .u64 r.wt, .int .u64 r.first, .int .u64 r.life, .int .u64 r.keys]

def Rev.zero : Rev := ⟨0, 0, false, 0, none, 0, 0, none, 0, 0, ByteArray.empty, 0, 0, 0, 0⟩
/-- The i-th reveal. -/
def rnth (l : List Rev) (i : Nat) : Rev := l.getD i Rev.zero

theorem rnth_eq (l : List Rev) (i : Nat) (h : i < l.length) : rnth l i = l[i] := by
  unfold rnth; rw [List.getD_eq_getElem?_getD, List.getElem?_eq_getElem h]; rfl

/-- At a place of a block a reveal's eleven cells lie. -/
structure RevAt (w : World) (b o : Nat) (r : Rev) : Prop where
  c0 : w.cell? ⟨b, o, none⟩ = some (.int .u64 r.pos)
  c1 : w.cell? ⟨b, o + 1, none⟩ = some (.int .u64 r.L)
  c2 : w.cell? ⟨b, o + 2, none⟩ = some (.bool r.signed)
  c3 : w.cell? ⟨b, o + 3, none⟩ = some (.int .u64 r.idx)
  c4 : w.cell? ⟨b, o + 4, none⟩ = some (.slice r.wa r.wn r.wc)
  c5 : w.cell? ⟨b, o + 5, none⟩ = some (.slice r.pa r.pn r.pc)
  c6 : w.cell? ⟨b, o + 6, none⟩ = some (.string r.root)
  c7 : w.cell? ⟨b, o + 7, none⟩ = some (.int .u64 r.wt)
  c8 : w.cell? ⟨b, o + 8, none⟩ = some (.int .u64 r.first)
  c9 : w.cell? ⟨b, o + 9, none⟩ = some (.int .u64 r.life)
  c10 : w.cell? ⟨b, o + 10, none⟩ = some (.int .u64 r.keys)

theorem RevAt.below {w w' : World} {b o : Nat} {r : Rev} (h : RevAt w b o r) (hb : Below w.heap.size w w') : RevAt w' b o r := by
  have hl := lt_of_cell h.c0
  have e : ∀ q, w'.cell? ⟨b, q, none⟩ = w.cell? ⟨b, q, none⟩ := fun q => hb.cell (p := ⟨b, q, none⟩) hl
  obtain ⟨c0, c1, c2, c3, c4, c5, c6, c7, c8, c9, c10⟩ := h
  constructor <;> (rw [e]; assumption)

/-- A slice that reads as reveals. -/
def Revs (w : World) (a : Option Addr) (l : List Rev) : Prop :=
  ∀ i, i < len l → ∃ b off, a = some ⟨b, off, none⟩ ∧ RevAt w b (off + i * 11) (rnth l i)

theorem Revs.below {w w' : World} {a : Option Addr} {l : List Rev} (h : Revs w a l) (hb : Below w.heap.size w w') : Revs w' a l := fun i hi => by
  obtain ⟨b, off, rfl, hc⟩ := h i hi
  exact ⟨b, off, rfl, hc.below hb⟩
theorem Revs.drew {w w' : World} {a : Option Addr} {l : List Rev} (h : Revs w a l) (hb : Drew w w') : Revs w' a l := h.below (hb.below _)

def Rev.cells (r : Rev) : List Value := [.int .u64 r.pos, .int .u64 r.L, .bool r.signed, .int .u64 r.idx, .slice r.wa r.wn r.wc, .slice r.pa r.pn r.pc, .string r.root, .int .u64 r.wt, .int .u64 r.first, .int .u64 r.life, .int .u64 r.keys]

theorem info_rev : (Tryz.prog.info? 48).map (fun i => (i.zero, i.size, i.bytes)) = some (some (.agg Rev.zero.cells.toArray), 11, 128) := by kernel_rfl

theorem Rev.cells_length (r : Rev) : r.cells.length = 11 := rfl
theorem own_revs {w : World} {base e n : Nat} {v : Value} {l : List Rev} (h : w.ownsRow base e 11 v n (l.flatMap Rev.cells)) : ∃ a cap, v = .slice a (len l) cap ∧ Revs w a l ∧ len l ≤ cap := by
  have hn : len l = n := by
    have := h.1; rw [flat_length Rev.cells 11 Rev.cells_length] at this; rw [len_eq]; omega
  obtain ⟨h1, h2⟩ := h
  rcases h2 with ⟨rfl, h2⟩ | ⟨g, cap, cur, rfl, hg, hh, hc1, hc2, hc3, hc4⟩
  · obtain rfl : l = [] := List.eq_nil_of_length_eq_zero (by rw [← len_eq]; omega)
    exact ⟨none, 0, rfl, fun i hi => by simp [len] at hi, Nat.le_refl _⟩
  · refine ⟨some ⟨g, 0, none⟩, cap, by rw [hn], fun i hi => ⟨g, 0, rfl, ?_⟩, by omega⟩
    have hown : w.ownsRow base e 11 (.slice (some ⟨g, 0, none⟩) n cap) n (l.flatMap Rev.cells) := ⟨h1, .inr ⟨g, cap, cur, rfl, hg, hh, hc1, hc2, hc3, hc4⟩⟩
    have key : ∀ r, r < 11 → w.cell? ⟨g, 0 + i * 11 + r, none⟩ = (rnth l i).cells[r]? := fun r hr => by
      have := hown.cellAt (i * 11 + r) (by rw [← hn]; omega)
      rw [Nat.zero_add, this, flat_get Rev.cells 11 Rev.cells_length l i r hi hr, rnth_eq l i hi]
    exact ⟨key 0 (by decide), key 1 (by decide), key 2 (by decide), key 3 (by decide), key 4 (by decide), key 5 (by decide), key 6 (by decide), key 7 (by decide), key 8 (by decide), key 9 (by decide), key 10 (by decide)⟩

end Go.Proofs.YtihiaopilnjonaaGreatDoor
