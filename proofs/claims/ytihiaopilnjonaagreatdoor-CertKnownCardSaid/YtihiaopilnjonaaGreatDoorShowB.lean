/- The statements of layer 21: nums, texts. -/
import Derived.Test.YtihiaopilnjonaaGreatDoorShowA
namespace Go.Proofs.YtihiaopilnjonaaGreatDoor
open Go.RowKit
set_option linter.unusedSimpArgs false
set_option linter.unusedVariables false

set_option maxRecDepth 100000 in
set_option maxHeartbeats 2000000 in
theorem nums21_any (a b : Option Addr) (ca cb : Nat) (l : List Int) (w : World) (ha : U64s w a l) (hb : U64s w b l) (hla : len l ≤ 9223372036854775807) :
    Calls Tryz.prog 18 #[.slice a (len l) ca, .slice b (len l) cb] w fun e w' => e = .returned (.bool true) ∧ Below w.heap.size w w' := by
  have HA := Lib.hid ha
  have HB := Lib.hid hb
  clear ha hb
  go_enter Tryz.func18, Tryz.ntmps18
  go_wp2
  go_loopg [5] (len l) (fun g i wr => ∃ m : Nat, g + m = len l ∧ i = .int .i64 m ∧ Drew w wr)
  case atStart => exact ⟨0, rfl, rfl, Drew.refl w⟩
  case round =>
    obtain ⟨m, hm, rfl, hd⟩ := hrel
    by_cases hlt : m < len l
    · obtain ⟨ba, oa, rfl, a1⟩ := (HA.out.drew hd) m hlt
      obtain ⟨bb, ob, rfl, b1⟩ := (HB.out.drew hd) m hlt
      have i1 : (m : Int) < len l := by omega
      have e1 : (nth l m != nth l m) = false := by simp
      go_wp2_with fail
      go_quiet (fail)
      go_wp2
      go_roundg (len l - (m + 1))
      case rel => exact ⟨m + 1, by omega, by go_num, by first | exact hd | exact hd.drewN _⟩
      case measure => omega
    · have i1 : ¬ (m : Int) < len l := by omega
      go_wp2
      go_ret
      exact ⟨rfl, hd.below _⟩

set_option maxRecDepth 100000 in
set_option maxHeartbeats 2000000 in
theorem texts21_any (a b : Option Addr) (ca cb : Nat) (l : List ByteArray) (w : World) (ha : Txs w a l) (hb : Txs w b l) (hla : len l ≤ 9223372036854775807) :
    Calls Tryz.prog 21 #[.slice a (len l) ca, .slice b (len l) cb] w fun e w' => e = .returned (.bool true) ∧ Below w.heap.size w w' := by
  have HA := Lib.hid ha
  have HB := Lib.hid hb
  clear ha hb
  go_enter Tryz.func21, Tryz.ntmps21
  go_wp2
  go_loopg [5] (len l) (fun g i wr => ∃ m : Nat, g + m = len l ∧ i = .int .i64 m ∧ Drew w wr)
  case atStart => exact ⟨0, rfl, rfl, Drew.refl w⟩
  case round =>
    obtain ⟨m, hm, rfl, hd⟩ := hrel
    by_cases hlt : m < len l
    · obtain ⟨ba, oa, rfl, a1⟩ := (HA.out.drew hd) m hlt
      obtain ⟨bb, ob, rfl, b1⟩ := (HB.out.drew hd) m hlt
      have i1 : (m : Int) < len l := by omega
      have e1 : ((sth l m).toList != (sth l m).toList) = false := by simp
      go_wp2_with fail
      go_quiet (fail)
      go_wp2
      go_roundg (len l - (m + 1))
      case rel => exact ⟨m + 1, by omega, by go_num, by first | exact hd | exact hd.drewN _⟩
      case measure => omega
    · have i1 : ¬ (m : Int) < len l := by omega
      go_wp2
      go_ret
      exact ⟨rfl, hd.below _⟩
end Go.Proofs.YtihiaopilnjonaaGreatDoor
