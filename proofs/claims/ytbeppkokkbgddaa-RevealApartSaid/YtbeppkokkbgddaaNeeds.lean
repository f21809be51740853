/- Package layout: Needs: its parts. -/
import Derived.Test.YtbeppkokkbgddaaLevelsB
import Derived.Test.YtbeppkokkbgddaaSortB
import Derived.Shelf.RegionOpen
import Derived.Laws.Bits64
import Derived.Laws.Bits64b
namespace Go.Proofs.Ytbeppkokkbgddaa
open Go.RowKit Go.ChangeMaps
set_option linter.unusedSimpArgs false
set_option linter.unusedVariables false

/-- The sibling of a place. -/
def sib (k : Int) : Int := if k % 2 = 0 then k + 1 else k - 1
theorem sib_u64 {k : Int} (h : U64 k) : U64 (sib k) := by unfold U64 sib at *; split <;> omega
theorem xor1 (n : Nat) : n ^^^ 1 = if n % 2 = 0 then n + 1 else n - 1 := by
  apply Nat.eq_of_testBit_eq
  intro i
  rw [Nat.testBit_xor]
  cases i with
  | zero =>
    simp only [Nat.testBit_zero]
    rcases Nat.mod_two_eq_zero_or_one n with h | h
    · have h2 : (n + 1) % 2 = 1 := by omega
      simp [h, h2]
    · have h2 : (n - 1) % 2 = 0 := by omega
      simp [h, h2]
  | succ i =>
    simp only [Nat.testBit_succ]
    have e : (if n % 2 = 0 then n + 1 else n - 1) / 2 = n / 2 := by split <;> omega
    rw [e]
    simp
theorem sibling_any (k : Int) (w : World) (h0 : 0 ≤ k) (h1 : k ≤ 18446744073709551615) : Calls Try.prog 18 #[.int .u64 k] w fun e w' => e = .returned (.int .u64 (sib k)) ∧ w = w' := by
  obtain ⟨n, rfl⟩ := Int.eq_ofNat_of_zero_le h0
  go_enter Try.func18, Try.ntmps18
  go_wp2
  go_ret
  refine ⟨ret_int ?_, rfl⟩
  have h := bits_xor_u64_nat n 1 (by omega) (by decide)
  rw [xor1] at h
  refine Eq.trans h ?_
  unfold sib
  split <;> split <;> omega

theorem may_any (d : Int) (w : World) : Calls Try.prog 42 #[.int .i64 d] w fun e w' => e = .returned (.bool (decide (0 ≤ d) && decide (d ≤ 16))) ∧ w = w' := by
  by_cases h0 : 0 ≤ d
  · go_enter Try.func42, Try.ntmps42
    go_wp2
    go_ret
    exact ⟨ret_bool (by simp [h0]), rfl⟩
  · go_enter Try.func42, Try.ntmps42
    go_wp2
    go_ret
    exact ⟨ret_bool (by rw [show decide (0 ≤ d) = false from decide_eq_false (Int.not_le.2 h0)]; rfl), rfl⟩

theorem far_any (B : Nat) (k : Int) (d : Nat) (w : World) (hc : w.cell? ⟨B, 0, none⟩ = some (.int .i64 d)) (hd : d ≤ 16) (h0 : 0 ≤ k) (h1 : k ≤ 18446744073709551615) :
    Calls Try.prog 41 #[.int .u64 k, .pointer (some ⟨B, 0, none⟩)] w fun e w' => e = .returned (.bool (decide (2 ^ d ≤ k))) ∧ w = w' := by
  obtain ⟨n, rfl⟩ := Int.eq_ofNat_of_zero_le h0
  have hd2 : (d : Int) ≤ 16 := by omega
  go_enter Try.func41, Try.ntmps41
  go_wp2
  go_ret
  refine ⟨ret_bool ?_, rfl⟩
  have e : ((n : Int) / 2 ^ d) = ((n / 2 ^ d : Nat) : Int) := by simp
  have hp : 0 < 2 ^ d := Nat.two_pow_pos d
  have h2 : (2 ^ d ≤ (n : Int)) ↔ 2 ^ d ≤ n := by
    rw [show ((2 : Int) ^ d) = ((2 ^ d : Nat) : Int) by simp]; omega
  rw [e]
  by_cases h : 2 ^ d ≤ n
  · have : n / 2 ^ d ≠ 0 := by
      have := Nat.div_pos h hp; omega
    have h3 : ¬ ((n / 2 ^ d : Nat) : Int) = 0 := by omega
    rw [decide_eq_true (h2.2 h)]
    exact bne_iff_ne.2 h3
  · have : n / 2 ^ d = 0 := Nat.div_eq_of_lt (by omega)
    rw [this, decide_eq_false (fun e => h (h2.1 e))]
    rfl

/-- The first place at which a leaf is too far, or -1. -/
def FarIs (leaves : List Int) (d : Nat) (w : World) (e : Ending) (w' : World) : Prop := ∃ j : Int, e = .returned (.int .i64 j) ∧ (0 ≤ j ↔ ∃ k ∈ leaves, 2 ^ d ≤ k) ∧ w = w'

set_option maxRecDepth 100000 in
set_option maxHeartbeats 1000000 in
theorem index_any (a : Option Addr) (cap : Nat) (leaves : List Int) (B : Nat) (d : Nat) (w : World) (hc : w.cell? ⟨B, 0, none⟩ = some (.int .i64 d)) (hd : d ≤ 16) (hl : U64s w a leaves) (hlen : len leaves ≤ 9223372036854775807) (hu : ∀ k ∈ leaves, U64 k) :
    Calls Try.prog 62 #[.slice a (len leaves) cap, .func (.func 41) #[] #[.pointer (some ⟨B, 0, none⟩)]] w (FarIs leaves d w) := by
  have HC := Lib.hid hc
  have HL := Lib.hid hl
  have HU := Lib.hid hu
  clear hc hl hu
  go_enter Try.func62, Try.ntmps62
  go_wp2
  go_loop [8] (fun i => ∃ m : Nat, m ≤ len leaves ∧ i = .int .i64 m ∧ Hid (∀ j, j < m → nth leaves j < 2 ^ d)) (fun i => len leaves - (intOf i).toNat)
  case atStart => exact ⟨0, Nat.zero_le _, rfl, fun j hj => by omega⟩
  case round =>
    obtain ⟨m, hm, rfl, hn⟩ := hrel
    by_cases hlt : m < len leaves
    · obtain ⟨b, off, rfl, hcell⟩ := HL.out m hlt
      have b0 : (m : Int) < len leaves := by omega
      have hu := HU.out (nth leaves m) (by rw [nth_eq leaves m hlt]; exact List.getElem_mem hlt)
      unfold U64 at hu
      go_wp2_with fail
      refine (far_any B (nth leaves m) d w HC.out hd hu.1 hu.2).mono ?_
      rintro e w' ⟨rfl, rfl⟩
      by_cases hf : 2 ^ d ≤ nth leaves m
      · have HF := Lib.hid hf
        rw [show decide (2 ^ d ≤ nth leaves m) = true from decide_eq_true hf]
        clear hf hcell hu
        go_wp2
        go_ret
        exact ⟨m, rfl, ⟨fun _ => ⟨nth leaves m, by rw [nth_eq leaves m hlt]; exact List.getElem_mem hlt, HF.out⟩, fun _ => by omega⟩, rfl⟩
      · have HF := Lib.hid (Int.not_le.1 hf)
        rw [show decide (2 ^ d ≤ nth leaves m) = false from decide_eq_false hf]
        clear hf hcell hu
        go_wp2
        go_round
        case rel => exact ⟨m + 1, by omega, by go_num, fun j hj => by
          by_cases e : j = m
          · subst e; exact HF.out
          · exact hn.out j (by omega)⟩
        case measure => simp [intOf]; omega
    · obtain rfl : m = len leaves := by omega
      go_wp2
      go_ret
      refine ⟨-1, rfl, ⟨fun h => by omega, fun ⟨k, hk, hf⟩ => ?_⟩, rfl⟩
      obtain ⟨j, hj, rfl⟩ := List.getElem_of_mem hk
      have h1 := hn.out j hj
      rw [nth_eq leaves j hj] at h1
      exact absurd hf (Int.not_le.2 h1)

/-- Is a leaf too far? -/
def farB (leaves : List Int) (d : Nat) : Bool := decide (∃ k ∈ leaves, (2 : Int) ^ d ≤ k)

theorem contains_any (a : Option Addr) (cap : Nat) (leaves : List Int) (B : Nat) (d : Nat) (w : World) (hc : w.cell? ⟨B, 0, none⟩ = some (.int .i64 d)) (hd : d ≤ 16) (hl : U64s w a leaves) (hlen : len leaves ≤ 9223372036854775807) (hu : ∀ k ∈ leaves, U64 k) :
    Calls Try.prog 43 #[.slice a (len leaves) cap, .func (.func 41) #[] #[.pointer (some ⟨B, 0, none⟩)]] w fun e w' => e = .returned (.bool (farB leaves d)) ∧ w = w' := by
  have HC := Lib.hid hc
  have HL := Lib.hid hl
  have HU := Lib.hid hu
  clear hc hl hu
  go_enter Try.func43, Try.ntmps43
  go_wp2_with fail
  refine (index_any a cap leaves B d w HC.out hd HL.out hlen HU.out).mono ?_
  rintro e w' ⟨j, rfl, hj, rfl⟩
  have HJ := Lib.hid hj
  clear hj
  by_cases h : 0 ≤ j
  · have e : farB leaves d = true := decide_eq_true (HJ.out.1 h)
    have E := Lib.hid e
    clear e
    go_wp2
    go_ret
    exact ⟨ret_bool (by rw [E.out]), rfl⟩
  · have e : farB leaves d = false := decide_eq_false (fun hh => h (HJ.out.2 hh))
    have E := Lib.hid e
    clear e
    go_wp2
    go_ret
    exact ⟨ret_bool (by rw [E.out]; simp; omega), rfl⟩
end Go.Proofs.Ytbeppkokkbgddaa
