/- Package slots: Layout as it lies in the heap; Find. -/
import Derived.Test.YtbeppkokkbgddaaRvA
namespace Go.Proofs.Ytbeppkokkbgddaa
open Go.RowKit
set_option linter.unusedSimpArgs false
set_option linter.unusedVariables false

/-- The cells of a layout. -/
abbrev layCells (ea wa sa : Option Addr) (ec wc sc : Nat) (E W S : List Int) : Array Value :=
  #[.slice ea (len E) ec, .slice wa (len W) wc, .slice sa (len S) sc, .func (.func 51) #[.agg #[.slice ea (len E) ec, .slice wa (len W) wc]] #[]]
/-- A layout that New has made: where the weights of those who signed end, who they are, all sums. -/
def LayB (w : World) (B : Nat) (E W S : List Int) : Prop :=
  ∃ ea wa sa ec wc sc, w.heap[B]? = some (.cells (layCells ea wa sa ec wc sc E W S) 84 (0, 0)) ∧ U64s w ea E ∧ U64s w wa W ∧ U64s w sa S
theorem LayB.below {w w' : World} {B : Nat} {E W S : List Int} (h : LayB w B E W S) (hb : Below w.heap.size w w') : LayB w' B E W S := by
  obtain ⟨ea, wa, sa, ec, wc, sc, h1, h2, h3, h4⟩ := h
  exact ⟨ea, wa, sa, ec, wc, sc, (hb.block _ (lt_of_block h1)).trans h1, h2.below hb, h3.below hb, h4.below hb⟩
theorem LayB.lt {w : World} {B : Nat} {E W S : List Int} (h : LayB w B E W S) : B < w.heap.size := by
  obtain ⟨ea, wa, sa, ec, wc, sc, h1, _⟩ := h; exact lt_of_block h1

/-- What Find says. -/
def findV (E W : List Int) (k : Nat) : Value := if k < len E then .tuple #[.int .u64 (nth W k), .bool true] else .tuple #[.int .u64 0, .bool false]
def FindIs (E W : List Int) (x : Int) (w : World) (e : Ending) (w' : World) : Prop := ∃ k : Nat, CutAt E x k ∧ e = .returned (findV E W k) ∧ Below w.heap.size w w'

set_option maxRecDepth 100000 in
set_option maxHeartbeats 4000000 in
theorem find_any (B : Nat) (E W S : List Int) (x : Int) (w : World) (hl : LayB w B E W S) (hew : len W = len E) (hn : len E ≤ 1000000) (hs : Ups E) :
    Calls Try.prog 54 #[.pointer (some ⟨B, 0, none⟩), .int .u64 x] w (FindIs E W x w) := by
  obtain ⟨ea, wa, sa, ec, wc, sc, h1, h2, h3, h4⟩ := hl
  have H1 := Lib.hid h1
  have H2 := Lib.hid h2
  have H3 := Lib.hid h3
  have HS := Lib.hid hs
  have HE := Lib.hid hew
  have c0 := block_cell h1 0
  have c1 := block_cell h1 1
  have c2 := block_cell h1 3
  clear h1 h2 h3 h4 hs hew
  simp only [layCells, List.getElem?_toArray, List.getElem?_cons_zero, List.getElem?_cons_succ] at c0 c1 c2
  go_enter Try.func54, Try.ntmps54
  go_wp2_with fail
  refine (search_any ea wa ec (len W) wc E x w H2.out hn HS.out).mono ?_
  rintro e w1 ⟨k, hk, rfl, hb⟩
  have K := Lib.hid hk
  have HB := Lib.hid hb
  have d1 : w1.cell? ⟨B, 1, none⟩ = some (.slice wa (len W) wc) := by rw [hb.cell (p := ⟨B, 1, none⟩) (lt_of_cell c1)]; exact c1
  clear hk hb
  by_cases hlt : k < len E
  · obtain ⟨b, off, rfl, hcell⟩ := (H3.out.below HB.out) k (by have := HE.out; omega)
    have hk1 : k < len W := by have := HE.out; omega
    rw [decide_eq_true hlt]
    go_wp2
    go_ret2
    exact ⟨k, K.out, by unfold findV; rw [if_pos hlt]; rfl, HB.out⟩
  · rw [decide_eq_false hlt]
    go_wp2
    go_ret2
    exact ⟨k, K.out, by unfold findV; rw [if_neg hlt]; rfl, HB.out⟩
end Go.Proofs.Ytbeppkokkbgddaa
