/- The statement UnpackBack: rows of things, and the bytes of them. -/
import Derived.Test.YtmcmapcijncblaaDoorUnpR
import Derived.Test.YtmcmapcijncblaaDoorUnpJ
import Derived.Test.YtmcmapcijncblaaDoorRegion
namespace Go.Proofs.YtmcmapcijncblaaDoor
open Go.RowKit
set_option linter.unusedSimpArgs false
set_option linter.unusedVariables false

structure Thg where
  so : Int
  nu : Int
  tx : ByteArray
abbrev Thg.val (r : Thg) : Value := .agg #[.int .u8 r.so, .int .u64 r.nu, .string r.tx]
def Thg.cells (r : Thg) : List Value := [.int .u8 r.so, .int .u64 r.nu, .string r.tx]
theorem Thg.cells_len (r : Thg) : r.cells.length = 3 := rfl
theorem Thg.cells_one (r : Thg) : ∀ u ∈ r.cells, u.oneCell' = true := by intro u hu; simp only [Thg.cells, List.mem_cons, List.not_mem_nil, or_false] at hu; rcases hu with rfl | rfl | rfl <;> rfl
def Thg.zero : Thg := ⟨0, 0, ByteArray.empty⟩
def gnth (l : List Thg) (i : Nat) : Thg := l.getD i Thg.zero
theorem gnth_eq (l : List Thg) (i : Nat) (h : i < l.length) : gnth l i = l[i] := by unfold gnth; rw [List.getD_eq_getElem?_getD, List.getElem?_eq_getElem h]; rfl
structure ThgAt (w : World) (b o : Nat) (r : Thg) : Prop where
  c0 : w.cell? ⟨b, o, none⟩ = some (.int .u8 r.so)
  c1 : w.cell? ⟨b, o + 1, none⟩ = some (.int .u64 r.nu)
  c2 : w.cell? ⟨b, o + 2, none⟩ = some (.string r.tx)
theorem ThgAt.below {w w' : World} {b o : Nat} {r : Thg} (h : ThgAt w b o r) (hb : Below w.heap.size w w') : ThgAt w' b o r := by
  have hl := lt_of_cell h.c0
  have e : ∀ q, w'.cell? ⟨b, q, none⟩ = w.cell? ⟨b, q, none⟩ := fun q => hb.cell (p := ⟨b, q, none⟩) hl
  obtain ⟨c0, c1, c2⟩ := h
  constructor <;> (rw [e]; assumption)
def Thgs (w : World) (a : Option Addr) (l : List Thg) : Prop := ∀ i, i < len l → ∃ b off, a = some ⟨b, off, none⟩ ∧ ThgAt w b (off + i * 3) (gnth l i)
theorem Thgs.nil (w : World) (a : Option Addr) : Thgs w a [] := fun i hi => absurd hi (by simp [len])
theorem Thgs.below {w w' : World} {a : Option Addr} {l : List Thg} (h : Thgs w a l) (hb : Below w.heap.size w w') : Thgs w' a l := fun i hi => by
  obtain ⟨b, off, rfl, hc⟩ := h i hi
  exact ⟨b, off, rfl, hc.below hb⟩
theorem Thgs.drew {w w' : World} {a : Option Addr} {l : List Thg} (h : Thgs w a l) (hb : Drew w w') : Thgs w' a l := h.below (hb.below _)
theorem Thgs.take {w : World} {a : Option Addr} {l : List Thg} (h : Thgs w a l) (k : Nat) : Thgs w a (l.take k) := fun i hi => by
  have hi2 : i < l.length ∧ i < k := by simp only [len, List.length_take] at hi; omega
  have hi3 : i < (l.take k).length := hi
  have e : gnth (l.take k) i = gnth l i := by rw [gnth_eq l i hi2.1, gnth_eq _ i hi3, List.getElem_take]
  rw [e]; exact h i hi2.1
theorem Thgs.drop {w : World} {b off : Nat} {l : List Thg} (h : Thgs w (some ⟨b, off, none⟩) l) (k : Nat) : Thgs w (some ⟨b, off + k * 3, none⟩) (l.drop k) := fun i hi => by
  have hi2 : k + i < l.length := by simp only [len, List.length_drop] at hi; omega
  have hi3 : i < (l.drop k).length := hi
  have e : gnth (l.drop k) i = gnth l (k + i) := by rw [gnth_eq l _ hi2, gnth_eq _ i hi3, List.getElem_drop]
  obtain ⟨b', off', e2, hc⟩ := h (k + i) hi2
  cases e2
  exact ⟨b, _, rfl, by rw [e, show off + k * 3 + i * 3 = off + (k + i) * 3 by omega]; exact hc⟩
theorem Thgs.own {w : World} {base e n : Nat} {v : Value} {l : List Thg} (h : w.ownsRow base e 3 v n (l.flatMap Thg.cells)) : ∃ a cap, v = .slice a (len l) cap ∧ Thgs w a l ∧ len l ≤ cap := by
  have hn : len l = n := by have := h.1; rw [flat_length Thg.cells 3 Thg.cells_len] at this; rw [len_eq]; omega
  obtain ⟨h1, h2⟩ := h
  rcases h2 with ⟨rfl, h2⟩ | ⟨g, cap, cur, rfl, hg, hh, hc1, hc2, hc3, hc4⟩
  · obtain rfl : l = [] := List.eq_nil_of_length_eq_zero (by rw [← len_eq]; omega)
    exact ⟨none, 0, rfl, Thgs.nil _ _, Nat.le_refl _⟩
  · refine ⟨some ⟨g, 0, none⟩, cap, by rw [hn], fun i hi => ⟨g, 0, rfl, ?_⟩, by omega⟩
    have hown : w.ownsRow base e 3 (.slice (some ⟨g, 0, none⟩) n cap) n (l.flatMap Thg.cells) := ⟨h1, .inr ⟨g, cap, cur, rfl, hg, hh, hc1, hc2, hc3, hc4⟩⟩
    have key : ∀ r, r < 3 → w.cell? ⟨g, 0 + i * 3 + r, none⟩ = (gnth l i).cells[r]? := fun r hr => by
      have := hown.cellAt (i * 3 + r) (by rw [← hn]; omega)
      rw [Nat.zero_add, this, flat_get Thg.cells 3 Thg.cells_len l i r hi hr, gnth_eq l i hi]
    exact ⟨key 0 (by decide), key 1 (by decide), key 2 (by decide)⟩
theorem Thgs.block {w : World} {g : Nat} {l : List Thg} {t : TypeId} {fr : Nat × Nat} (h : w.heap[g]? = some (.cells (l.flatMap Thg.cells).toArray t fr)) : Thgs w (some ⟨g, 0, none⟩) l := fun i hi => ⟨g, 0, rfl, by
  have key : ∀ r, r < 3 → w.cell? ⟨g, 0 + i * 3 + r, none⟩ = (gnth l i).cells[r]? := fun r hr => by
    rw [Nat.zero_add, block_cell h, List.getElem?_toArray, flat_get Thg.cells 3 Thg.cells_len l i r hi hr, gnth_eq l i hi]
  exact ⟨key 0 (by decide), key 1 (by decide), key 2 (by decide)⟩⟩
structure Thg.Ok (r : Thg) : Prop where
  s0 : 0 ≤ r.so
  s1 : r.so ≤ 255
  n0 : 0 ≤ r.nu
  n1 : r.nu ≤ 18446744073709551615
  tz : r.tx.size ≤ 9223372036854775807
theorem Thg.zero_ok : Thg.zero.Ok := ⟨by decide, by decide, by decide, by decide, by decide⟩

def Thg.sort (r : Thg) : Nat := (r.so % 5).toNat
/-- The first seven hundred bytes. -/
def cutT (s : ByteArray) : ByteArray := s.extract 0 (min s.size 700)
theorem cutT_size (s : ByteArray) : (cutT s).size ≤ 700 := by unfold cutT; rw [ByteArray.size_extract]; omega
/-- The number and the bytes of a thing that is laid. -/
def Thg.num (r : Thg) : Int := if r.sort = 0 then r.nu else if r.sort = 1 ∨ r.sort = 2 then (cutT r.tx).size else r.nu % 65536
def Thg.txt (r : Thg) : ByteArray := if r.sort = 1 ∨ r.sort = 2 then cutT r.tx else ⟨#[]⟩
def Thg.piece (r : Thg) : ByteArray := laidOf r.sort r.num r.txt
def whole (l : List Thg) : Nat → ByteArray
  | 0 => ⟨#[]⟩
  | k + 1 => whole l k ++ (gnth l k).piece

theorem Thg.sort_lt {r : Thg} (h : r.Ok) : r.sort < 5 := by unfold Thg.sort; omega
theorem Thg.num_bd {r : Thg} (h : r.Ok) : 0 ≤ r.num ∧ r.num ≤ 18446744073709551615 ∧ (r.sort ≠ 0 → r.num ≤ 65535) := by
  have := cutT_size r.tx
  have := h.n0
  have := h.n1
  unfold Thg.num
  split
  · exact ⟨by omega, by omega, fun e => absurd ‹_› e⟩
  · split
    · exact ⟨by omega, by omega, fun e => by omega⟩
    · exact ⟨by omega, by omega, fun e => by omega⟩
theorem headB_le {sort : Nat} (n : Int) : (headB (rowFor sort n) n).length ≤ 9 := by
  rw [headB_len]
  unfold rowFor
  split <;> (repeat' split) <;> decide
theorem Thg.piece_size (r : Thg) : r.piece.size ≤ 709 := by
  have := cutT_size r.tx
  unfold Thg.piece laidOf Thg.txt
  rw [← ba_len, List.toList_toArray, List.length_append]
  have := headB_le (sort := r.sort) r.num
  split
  · rw [ba_len]; omega
  · simp only [List.length_nil]; omega
theorem whole_size (l : List Thg) : ∀ k, (whole l k).size ≤ 709 * k
  | 0 => Nat.le_refl _
  | k + 1 => by
    have := whole_size l k
    have := Thg.piece_size (gnth l k)
    rw [whole, ByteArray.size_append]; omega
theorem whole_app (l : List Thg) : ∀ {m k : Nat}, k ≤ m → ∃ R, (whole l m).data.toList = (whole l k).data.toList ++ R
  | 0, k, h => by obtain rfl : k = 0 := by omega
                  exact ⟨[], by simp⟩
  | m + 1, k, h => by
    by_cases e : k = m + 1
    · subst e; exact ⟨[], by simp⟩
    · obtain ⟨R, hR⟩ := whole_app l (m := m) (k := k) (by omega)
      exact ⟨R ++ (gnth l m).piece.data.toList, by rw [whole, ByteArray.data_append, Array.toList_append, hR, List.append_assoc]⟩
theorem whole_take (l : List Thg) {m k : Nat} (hk : k < m) (hok : (gnth l k).Ok) :
    takeOf (gnth l k).sort (whole l m) (whole l k).size 65535 = .ok ((gnth l k).num, (gnth l k).txt, (whole l (k + 1)).size) := by
  obtain ⟨R, hR⟩ := whole_app l (m := m) (k := k + 1) (by omega)
  have hs := congrArg List.length hR
  rw [List.length_append, ba_len, ba_len] at hs
  have hz : (whole l (k + 1)).size = (whole l k).size + (gnth l k).piece.size := by rw [whole, ByteArray.size_append]
  have hb := Thg.num_bd hok
  rw [hz]
  refine laid_take (Thg.sort_lt hok) (R := R) (by omega) hb.1 hb.2.1 hb.2.2 ?_ ?_
  · unfold Thg.txt Thg.num
    by_cases h12 : (gnth l k).sort = 1 ∨ (gnth l k).sort = 2
    · rw [if_pos h12, if_pos h12, if_neg (by omega), if_pos h12]
    · rw [if_neg h12, if_neg h12]
  · rw [hR, whole, ByteArray.data_append, Array.toList_append, List.append_assoc, ← ba_len, List.drop_left]
    rfl
end Go.Proofs.YtmcmapcijncblaaDoor
