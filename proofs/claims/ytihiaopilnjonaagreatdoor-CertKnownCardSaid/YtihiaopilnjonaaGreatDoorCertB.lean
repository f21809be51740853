/- Contracts: named (reference), pairs over numbers. -/
import Derived.Test.YtihiaopilnjonaaGreatDoorCertA
import Derived.Deep.QuietTactic
import Derived.BigQuiet
namespace Go.Proofs.YtihiaopilnjonaaGreatDoor
open Go.RowKit

/-- Is k one of the numbers? -/
def memB (k : Int) (l : List Int) : Bool := decide (k ∈ l)

theorem memB_true {k : Int} {l : List Int} {n : Nat} (h : n < len l) (e : nth l n = k) : memB k l = true := by
  unfold memB; rw [nth_eq l n h] at e; simp only [← e, decide_eq_true_eq]; exact List.getElem_mem _
theorem memB_false {k : Int} {l : List Int} (h : ∀ j, j < len l → nth l j ≠ k) : memB k l = false := by
  unfold memB
  simp only [decide_eq_false_iff_not]
  intro hm
  obtain ⟨i, hi, e⟩ := List.getElem_of_mem hm
  exact h i hi (by rw [nth_eq l i hi]; exact e)

/-- The numbers rise. -/
def riseB (l : List Int) : Bool := decide (∀ i, i < l.length - 1 → nth l i < nth l (i + 1))

theorem riseB_true {l : List Int} {n : Nat} (hn : len l ≤ n) (h : ∀ i, i + 1 < n → nth l i < nth l (i + 1)) : riseB l = true := by
  rw [len_eq] at hn
  unfold riseB; simp only [decide_eq_true_eq]; intro i hi; exact h i (by omega)
theorem riseB_false {l : List Int} {i : Nat} (hi : i + 1 < len l) (h : ¬ nth l i < nth l (i + 1)) : riseB l = false := by
  rw [len_eq] at hi
  unfold riseB; simp only [decide_eq_false_iff_not]; intro H; exact h (H i (by omega))

set_option maxHeartbeats 400000 in
theorem pairsU_any (a : Option Addr) (cap : Nat) (l : List Int) (w : World) (hlen : len l ≤ 9223372036854775807) (hc : U64s w a l) :
    Calls Tryz.prog 114 #[.slice a (len l) cap, .func (.func 115) #[] #[]] w fun e w' => e = .returned (.bool (riseB l)) ∧ Drew w w' := by
  have HC := Lib.hid hc
  clear hc
  go_enter Tryz.func114, Tryz.ntmps114
  go_wp2
  go_loopw [5] (fun i wr => ∃ m : Nat, i = .int .i64 (m + 1) ∧ Drew w wr ∧ Hid (∀ i, i + 1 < m + 1 → nth l i < nth l (i + 1))) (fun i _ => len l + 1 - (intOf i).toNat)
  case atStart => exact ⟨0, rfl, Drew.refl _, fun j hj => by omega⟩
  case round =>
    obtain ⟨m, rfl, hd, hk⟩ := hrel
    by_cases hlt : m + 1 < len l
    · obtain ⟨b, off, rfl, hcell1⟩ := HC.out.drew hd m (by omega)
      obtain ⟨b', off', he, hcell2⟩ := HC.out.drew hd (m + 1) hlt
      cases he
      have hlt' : (m : Int) + 1 < len l := by omega
      have hm : m < len l := by omega
      by_cases hh : nth l m < nth l (m + 1)
      · have hd : decide (nth l m < nth l (m + 1)) = true := by simpa using hh
        have HH := Lib.hid hh
        clear hh
        go_wp2
        have i1 : IntKind.i64.wrap (m : Int) = m := (IntWalk.i64_in _ (by omega)); have i2 : 0 ≤ (m : Int) + 1 := (by omega); have i3 : ((m : Int) + 1).toNat = m + 1 := (by omega)
        go_quiet ((go_at_call 115; go_must (refine Calls.quiet_of_same (shape1_any _ _ _))))
        clear i1 i2 i3
        go_wp2
        go_roundw
        case rel => exact ⟨m + 1, by go_num, Drew.drewN ‹_› _, fun i hi => by
          by_cases e : i = m
          · subst e; exact HH.out
          · exact hk.out i (by omega)⟩
        case measure => simp [intOf]; omega
      · have hd : decide (nth l m < nth l (m + 1)) = false := by simpa using hh
        have HH := Lib.hid hh
        clear hh
        go_wp2
        have i1 : IntKind.i64.wrap (m : Int) = m := (IntWalk.i64_in _ (by omega)); have i2 : 0 ≤ (m : Int) + 1 := (by omega); have i3 : ((m : Int) + 1).toNat = m + 1 := (by omega)
        go_quiet ((go_at_call 115; go_must (refine Calls.quiet_of_same (shape1_any _ _ _))))
        clear i1 i2 i3
        go_wp2
        go_ret
        exact ⟨ret_bool (riseB_false hlt (by have := HH.out; omega)).symm, Drew.drewN ‹_› _⟩
    · have hlt' : ¬ (m : Int) + 1 < len l := by omega
      go_wp2
      go_ret
      exact ⟨ret_bool (riseB_true (n := m + 1) (by omega) hk.out).symm, hd⟩
end Go.Proofs.YtihiaopilnjonaaGreatDoor
