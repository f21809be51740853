/- Plain: how numbers, bytes, texts and beginnings are laid. -/
import Derived.Test.YtihiaopilnjonaaGreatDoorOwn
import Derived.Lib.Strings
namespace Go.Proofs.YtihiaopilnjonaaGreatDoor
open Go.RowKit
set_option linter.unusedSimpArgs false
set_option linter.unusedVariables false

/-- The bytes of a number, the highest first. -/
def hiL (n : Int) : Nat → List Int
  | 0 => []
  | k + 1 => (n / 256 ^ k % 256) :: hiL n k
theorem hiL_len (n : Int) : ∀ k, (hiL n k).length = k
  | 0 => rfl
  | k + 1 => by rw [hiL, List.length_cons, hiL_len n k]
theorem hiL_snoc (n : Int) : ∀ k, hiL n (k + 1) = hiL (n / 256) k ++ [n % 256]
  | 0 => by simp [hiL]
  | k + 1 => by
    have e : n / 256 / 256 ^ k = n / (256 * 256 ^ k) := by rw [Int.ediv_ediv]; simp
    rw [hiL, hiL_snoc n k, hiL, List.cons_append, e, Int.pow_succ, Int.mul_comm]
/-- A number as a byte. -/
def toB (x : Int) : UInt8 := UInt8.ofNat x.toNat
theorem toB_nat (x : UInt8) : toB (x.toNat : Int) = x := by simp [toB]
theorem nat_toB {x : Int} (h0 : 0 ≤ x) (h1 : x ≤ 255) : ((toB x).toNat : Int) = x := by
  unfold toB; rw [UInt8.toNat_ofNat']; omega
theorem ba_ext {s t : ByteArray} (h : s.data.toList = t.data.toList) : s = t := ByteArray.ext (Array.ext' h)
theorem ba_len (s : ByteArray) : s.data.toList.length = s.size := by rw [Array.length_toList]; rfl
/-- A text of these bytes. -/
def baL (l : List UInt8) : ByteArray := ⟨l.toArray⟩
theorem baL_list (l : List UInt8) : (baL l).data.toList = l := rfl
theorem baL_size (l : List UInt8) : (baL l).size = l.length := by show l.toArray.size = _; simp
theorem baL_app (a b : List UInt8) : baL (a ++ b) = baL a ++ baL b := ba_ext (by rw [baL_list, ByteArray.data_append, Array.toList_append, baL_list, baL_list])

structure PRow where
  below : Int
  first : Int
  size : Int
abbrev PRow.val (r : PRow) : Value := .agg #[.int .u64 r.below, .int .u8 r.first, .int .i64 r.size]
def PRow.cells (r : PRow) : List Value := [.int .u64 r.below, .int .u8 r.first, .int .i64 r.size]
theorem PRow.cells_len (r : PRow) : r.cells.length = 3 := rfl
theorem PRow.cells_one (r : PRow) : ∀ u ∈ r.cells, u.oneCell' = true := by intro u hu; simp only [PRow.cells, List.mem_cons, List.not_mem_nil, or_false] at hu; rcases hu with rfl | rfl | rfl <;> rfl
def PRow.zero : PRow := ⟨0, 0, 0⟩
def prth (l : List PRow) (i : Nat) : PRow := l.getD i PRow.zero
theorem prth_eq (l : List PRow) (i : Nat) (h : i < l.length) : prth l i = l[i] := by unfold prth; rw [List.getD_eq_getElem?_getD, List.getElem?_eq_getElem h]; rfl
structure PRowAt (w : World) (b o : Nat) (r : PRow) : Prop where
  c0 : w.cell? ⟨b, o, none⟩ = some (.int .u64 r.below)
  c1 : w.cell? ⟨b, o + 1, none⟩ = some (.int .u8 r.first)
  c2 : w.cell? ⟨b, o + 2, none⟩ = some (.int .i64 r.size)
theorem PRowAt.below {w w' : World} {b o : Nat} {r : PRow} (h : PRowAt w b o r) (hb : Below w.heap.size w w') : PRowAt w' b o r := by
  have hl := lt_of_cell h.c0
  have e : ∀ q, w'.cell? ⟨b, q, none⟩ = w.cell? ⟨b, q, none⟩ := fun q => hb.cell (p := ⟨b, q, none⟩) hl
  obtain ⟨c0, c1, c2⟩ := h
  constructor <;> (rw [e]; assumption)
def PRows (w : World) (a : Option Addr) (l : List PRow) : Prop := ∀ i, i < len l → ∃ b off, a = some ⟨b, off, none⟩ ∧ PRowAt w b (off + i * 3) (prth l i)
theorem PRows.nil (w : World) (a : Option Addr) : PRows w a [] := fun i hi => absurd hi (by simp [len])
theorem PRows.below {w w' : World} {a : Option Addr} {l : List PRow} (h : PRows w a l) (hb : Below w.heap.size w w') : PRows w' a l := fun i hi => by
  obtain ⟨b, off, rfl, hc⟩ := h i hi
  exact ⟨b, off, rfl, hc.below hb⟩
theorem PRows.drew {w w' : World} {a : Option Addr} {l : List PRow} (h : PRows w a l) (hb : Drew w w') : PRows w' a l := h.below (hb.below _)
theorem PRows.take {w : World} {a : Option Addr} {l : List PRow} (h : PRows w a l) (k : Nat) : PRows w a (l.take k) := fun i hi => by
  have hi2 : i < l.length ∧ i < k := by simp only [len, List.length_take] at hi; omega
  have hi3 : i < (l.take k).length := hi
  have e : prth (l.take k) i = prth l i := by rw [prth_eq l i hi2.1, prth_eq _ i hi3, List.getElem_take]
  rw [e]; exact h i hi2.1
theorem PRows.drop {w : World} {b off : Nat} {l : List PRow} (h : PRows w (some ⟨b, off, none⟩) l) (k : Nat) : PRows w (some ⟨b, off + k * 3, none⟩) (l.drop k) := fun i hi => by
  have hi2 : k + i < l.length := by simp only [len, List.length_drop] at hi; omega
  have hi3 : i < (l.drop k).length := hi
  have e : prth (l.drop k) i = prth l (k + i) := by rw [prth_eq l _ hi2, prth_eq _ i hi3, List.getElem_drop]
  obtain ⟨b', off', e2, hc⟩ := h (k + i) hi2
  cases e2
  exact ⟨b, _, rfl, by rw [e, show off + k * 3 + i * 3 = off + (k + i) * 3 by omega]; exact hc⟩
theorem PRows.own {w : World} {base e n : Nat} {v : Value} {l : List PRow} (h : w.ownsRow base e 3 v n (l.flatMap PRow.cells)) : ∃ a cap, v = .slice a (len l) cap ∧ PRows w a l ∧ len l ≤ cap := by
  have hn : len l = n := by have := h.1; rw [flat_length PRow.cells 3 PRow.cells_len] at this; rw [len_eq]; omega
  obtain ⟨h1, h2⟩ := h
  rcases h2 with ⟨rfl, h2⟩ | ⟨g, cap, cur, rfl, hg, hh, hc1, hc2, hc3, hc4⟩
  · obtain rfl : l = [] := List.eq_nil_of_length_eq_zero (by rw [← len_eq]; omega)
    exact ⟨none, 0, rfl, PRows.nil _ _, Nat.le_refl _⟩
  · refine ⟨some ⟨g, 0, none⟩, cap, by rw [hn], fun i hi => ⟨g, 0, rfl, ?_⟩, by omega⟩
    have hown : w.ownsRow base e 3 (.slice (some ⟨g, 0, none⟩) n cap) n (l.flatMap PRow.cells) := ⟨h1, .inr ⟨g, cap, cur, rfl, hg, hh, hc1, hc2, hc3, hc4⟩⟩
    have key : ∀ r, r < 3 → w.cell? ⟨g, 0 + i * 3 + r, none⟩ = (prth l i).cells[r]? := fun r hr => by
      have := hown.cellAt (i * 3 + r) (by rw [← hn]; omega)
      rw [Nat.zero_add, this, flat_get PRow.cells 3 PRow.cells_len l i r hi hr, prth_eq l i hi]
    exact ⟨key 0 (by decide), key 1 (by decide), key 2 (by decide)⟩
theorem PRows.block {w : World} {g : Nat} {l : List PRow} {t : TypeId} {fr : Nat × Nat} (h : w.heap[g]? = some (.cells (l.flatMap PRow.cells).toArray t fr)) : PRows w (some ⟨g, 0, none⟩) l := fun i hi => ⟨g, 0, rfl, by
  have key : ∀ r, r < 3 → w.cell? ⟨g, 0 + i * 3 + r, none⟩ = (prth l i).cells[r]? := fun r hr => by
    rw [Nat.zero_add, block_cell h, List.getElem?_toArray, flat_get PRow.cells 3 PRow.cells_len l i r hi hr, prth_eq l i hi]
  exact ⟨key 0 (by decide), key 1 (by decide), key 2 (by decide)⟩⟩

def rowB (r : PRow) (n : Int) : List UInt8 := if r.size = 0 then [toB (r.first + n)] else toB r.first :: (hiL n r.size.toNat).map toB
def rowsP (sort : Nat) : List PRow :=
  match sort with
  | 1 => [⟨256, 196, 1⟩, ⟨65536, 197, 2⟩]
  | 2 => [⟨32, 160, 0⟩, ⟨256, 217, 1⟩, ⟨65536, 218, 2⟩]
  | 3 => [⟨16, 144, 0⟩, ⟨65536, 220, 2⟩]
  | 4 => [⟨16, 128, 0⟩, ⟨65536, 222, 2⟩]
  | _ => [⟨128, 0, 0⟩, ⟨256, 204, 1⟩, ⟨65536, 205, 2⟩, ⟨4294967296, 206, 4⟩, ⟨0, 207, 8⟩]
/-- The beginning of a thing of a sort, of n. -/
def headP (sort : Nat) (n : Int) : List UInt8 :=
  match (rowsP sort).find? (fun r => decide (n < r.below ∨ r.below = 0)) with
  | some r => rowB r n
  | none => []
/-- A thing, laid. -/
def laidP (sort : Nat) (n : Int) (t : ByteArray) : ByteArray := baL (headP sort n) ++ (if sort = 1 ∨ sort = 2 then t else ByteArray.empty)

theorem headP0 (n : Int) : headP 0 n = if n < 128 then [toB n] else if n < 256 then toB 204 :: (hiL n 1).map toB else if n < 65536 then toB 205 :: (hiL n 2).map toB else if n < 4294967296 then toB 206 :: (hiL n 4).map toB else toB 207 :: (hiL n 8).map toB := by
  unfold headP rowsP rowB
  by_cases h1 : n < 128
  · simp [h1]
  · by_cases h2 : n < 256
    · simp [h1, h2]
    · by_cases h3 : n < 65536
      · simp [h1, h2, h3]
      · by_cases h4 : n < 4294967296
        · simp [h1, h2, h3, h4]
        · simp [h1, h2, h3, h4]
theorem headP1 {n : Int} (h : n < 65536) : headP 1 n = if n < 256 then toB 196 :: (hiL n 1).map toB else toB 197 :: (hiL n 2).map toB := by
  unfold headP rowsP rowB
  by_cases h1 : n < 256
  · simp [h1]
  · simp [h1, h]
theorem headP2 {n : Int} (h : n < 65536) : headP 2 n = if n < 32 then [toB (160 + n)] else if n < 256 then toB 217 :: (hiL n 1).map toB else toB 218 :: (hiL n 2).map toB := by
  unfold headP rowsP rowB
  by_cases h1 : n < 32
  · simp [h1]
  · by_cases h2 : n < 256
    · simp [h1, h2]
    · simp [h1, h2, h]
theorem headP3 {n : Int} (h : n < 65536) : headP 3 n = if n < 16 then [toB (144 + n)] else toB 220 :: (hiL n 2).map toB := by
  unfold headP rowsP rowB
  by_cases h1 : n < 16
  · simp [h1]
  · simp [h1, h]
theorem headP4 {n : Int} (h : n < 65536) : headP 4 n = if n < 16 then [toB (128 + n)] else toB 222 :: (hiL n 2).map toB := by
  unfold headP rowsP rowB
  by_cases h1 : n < 16
  · simp [h1]
  · simp [h1, h]
theorem headP_len (sort : Nat) (n : Int) : (headP sort n).length ≤ 9 := by
  unfold headP
  split
  · rename_i r hr
    have hm := List.mem_of_find?_eq_some hr
    unfold rowB
    split
    · simp
    · rw [List.length_cons, List.length_map, hiL_len]
      unfold rowsP at hm
      split at hm <;> simp at hm <;> (first | (rcases hm with rfl | rfl | rfl | rfl | rfl <;> simp) | (rcases hm with rfl | rfl | rfl <;> simp) | (rcases hm with rfl | rfl <;> simp))
  · simp
end Go.Proofs.YtihiaopilnjonaaGreatDoor
