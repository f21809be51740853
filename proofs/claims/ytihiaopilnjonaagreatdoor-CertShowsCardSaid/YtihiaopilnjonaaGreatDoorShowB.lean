/- The statements of layer 21: nums, texts. -/
import Derived.Test.YtihiaopilnjonaaGreatDoorShowA
namespace Go.Proofs.YtihiaopilnjonaaGreatDoor
open Go.RowKit
set_option linter.unusedSimpArgs false
set_option linter.unusedVariables false

/-- A slice that reads as these texts. -/
def Txs (w : World) (a : Option Addr) (l : List ByteArray) : Prop :=
  ∀ i, i < len l → ∃ b off, a = some ⟨b, off, none⟩ ∧ w.cell? ⟨b, off + i, none⟩ = some (.string (sth l i))
theorem Txs.below {w w' : World} {a : Option Addr} {l : List ByteArray} (h : Txs w a l) (hb : Below w.heap.size w w') : Txs w' a l := fun i hi => by
  obtain ⟨b, off, rfl, hc⟩ := h i hi
  exact ⟨b, off, rfl, by rw [hb.cell (p := ⟨b, off + i, none⟩) (lt_of_cell hc)]; exact hc⟩
theorem Txs.drew {w w' : World} {a : Option Addr} {l : List ByteArray} (h : Txs w a l) (hb : Drew w w') : Txs w' a l := h.below (hb.below _)
theorem own_txs {w : World} {base e n : Nat} {v : Value} {l : List ByteArray} (h : w.ownsRow base e 1 v n (l.map Value.string)) : ∃ a cap, v = .slice a (len l) cap ∧ Txs w a l := by
  have hn : len l = n := by have := h.1; rw [len_eq]; simpa using this
  obtain ⟨h1, h2⟩ := h
  rcases h2 with ⟨rfl, h2⟩ | ⟨g, cap, cur, rfl, hg, hh, hc1, hc2, hc3, hc4⟩
  · obtain rfl : l = [] := List.eq_nil_of_length_eq_zero (by rw [← len_eq]; omega)
    exact ⟨none, 0, rfl, fun i hi => by simp [len] at hi⟩
  · refine ⟨some ⟨g, 0, none⟩, cap, by rw [hn], fun i hi => ⟨g, 0, rfl, ?_⟩⟩
    have hown : w.ownsRow base e 1 (.slice (some ⟨g, 0, none⟩) n cap) n (l.map Value.string) := ⟨h1, .inr ⟨g, cap, cur, rfl, hg, hh, hc1, hc2, hc3, hc4⟩⟩
    have := hown.cellAt i (by omega)
    rw [Nat.zero_add, this, List.getElem?_map, List.getElem?_eq_getElem hi, sth_eq l i hi]; rfl

set_option maxRecDepth 100000 in
set_option maxHeartbeats 2000000 in
theorem nums21_any (a b : Option Addr) (ca cb : Nat) (l : List Int) (w : World) (ha : U64s w a l) (hb : U64s w b l) (hla : len l ≤ 9223372036854775807) :
    Calls Tryz.prog 18 #[.slice a (len l) ca, .slice b (len l) cb] w fun e w' => e = .returned (.bool true) ∧ Below w.heap.size w w' := by
  have HA := Lib.hid ha
  have HB := Lib.hid hb
  clear ha hb
  go_enter Tryz.func18, Tryz.ntmps18
  go_wp2
  go_loopg [5] (len l) (fun g i wr => ∃ m : Nat, g + m = len l ∧ i = .int .i64 m ∧ Drew w wr)
  case atStart => exact ⟨0, rfl, rfl, Drew.refl w⟩
  case round =>
    obtain ⟨m, hm, rfl, hd⟩ := hrel
    by_cases hlt : m < len l
    · obtain ⟨ba, oa, rfl, a1⟩ := (HA.out.drew hd) m hlt
      obtain ⟨bb, ob, rfl, b1⟩ := (HB.out.drew hd) m hlt
      have i1 : (m : Int) < len l := by omega
      have e1 : (nth l m != nth l m) = false := by simp
      go_wp2_with fail
      go_quiet (fail)
      go_wp2
      go_roundg (len l - (m + 1))
      case rel => exact ⟨m + 1, by omega, by go_num, by first | exact hd | exact hd.drewN _⟩
      case measure => omega
    · have i1 : ¬ (m : Int) < len l := by omega
      go_wp2
      go_ret
      exact ⟨rfl, hd.below _⟩

set_option maxRecDepth 100000 in
set_option maxHeartbeats 2000000 in
theorem texts21_any (a b : Option Addr) (ca cb : Nat) (l : List ByteArray) (w : World) (ha : Txs w a l) (hb : Txs w b l) (hla : len l ≤ 9223372036854775807) :
    Calls Tryz.prog 21 #[.slice a (len l) ca, .slice b (len l) cb] w fun e w' => e = .returned (.bool true) ∧ Below w.heap.size w w' := by
  have HA := Lib.hid ha
  have HB := Lib.hid hb
  clear ha hb
  go_enter Tryz.func21, Tryz.ntmps21
  go_wp2
  go_loopg [5] (len l) (fun g i wr => ∃ m : Nat, g + m = len l ∧ i = .int .i64 m ∧ Drew w wr)
  case atStart => exact ⟨0, rfl, rfl, Drew.refl w⟩
  case round =>
    obtain ⟨m, hm, rfl, hd⟩ := hrel
    by_cases hlt : m < len l
    · obtain ⟨ba, oa, rfl, a1⟩ := (HA.out.drew hd) m hlt
      obtain ⟨bb, ob, rfl, b1⟩ := (HB.out.drew hd) m hlt
      have i1 : (m : Int) < len l := by omega
      have e1 : ((sth l m).toList != (sth l m).toList) = false := by simp
      go_wp2_with fail
      go_quiet (fail)
      go_wp2
      go_roundg (len l - (m + 1))
      case rel => exact ⟨m + 1, by omega, by go_num, by first | exact hd | exact hd.drewN _⟩
      case measure => omega
    · have i1 : ¬ (m : Int) < len l := by omega
      go_wp2
      go_ret
      exact ⟨rfl, hd.below _⟩
end Go.Proofs.YtihiaopilnjonaaGreatDoor
