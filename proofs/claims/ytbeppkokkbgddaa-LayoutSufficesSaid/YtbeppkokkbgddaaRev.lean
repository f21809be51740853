/- Plain law: the sixty-four bits of a number in reverse, as math/bits does it; its first bits in reverse. -/
import Derived.Test.YtbeppkokkbgddaaLib
import Derived.Laws.Bits64
import Derived.Laws.Bits64b
namespace Go.Proofs.Ytbeppkokkbgddaa

/-- Pairs of blocks of s bits change places. -/
def stp (s M x : Nat) : Nat := ((x / 2 ^ s) &&& M) ||| ((x &&& M) * 2 ^ s)
def M1 : Nat := 6148914691236517205
def M2 : Nat := 3689348814741910323
def M4 : Nat := 1085102592571150095
def M8 : Nat := 71777214294589695
def M16 : Nat := 281470681808895
def swap32 (x : Nat) : Nat := (x / 2 ^ 32) ||| (x * 2 ^ 32 % 2 ^ 64)
def rev64 (x : Nat) : Nat := swap32 (stp 16 M16 (stp 8 M8 (stp 4 M4 (stp 2 M2 (stp 1 M1 x)))))

theorem stp_lt {s M x : Nat} (hx : x < 2 ^ 64) (hM : M * 2 ^ s < 2 ^ 64) : stp s M x < 2 ^ 64 := by
  unfold stp
  refine Nat.or_lt_two_pow ?_ ?_
  · refine Nat.lt_of_le_of_lt Nat.and_le_left ?_
    exact Nat.lt_of_le_of_lt (Nat.div_le_self _ _) hx
  · refine Nat.lt_of_le_of_lt (Nat.mul_le_mul_right _ Nat.and_le_right) hM
theorem stp_bit (s M x : Nat) (hM : ∀ j, j < 64 → M.testBit j = decide (j / s % 2 = 0)) (hs : ∀ j, j < 64 → (j / s % 2 = 0 → s ≤ j → (j - s) / s % 2 ≠ 0) ∧ (j / s % 2 ≠ 0 → s ≤ j ∧ (j - s) / s % 2 = 0)) (j : Nat) (hj : j < 64) :
    (stp s M x).testBit j = x.testBit (if j / s % 2 = 0 then j + s else j - s) := by
  obtain ⟨h1, h2⟩ := hs j hj
  unfold stp
  rw [Nat.testBit_or, Nat.testBit_and, ← Nat.shiftRight_eq_div_pow, Nat.testBit_shiftRight, ← Nat.shiftLeft_eq, Nat.testBit_shiftLeft, Nat.testBit_and, hM j hj]
  by_cases h : j / s % 2 = 0
  · rw [if_pos h, decide_eq_true h, Bool.and_true, Nat.add_comm s j]
    by_cases hsj : s ≤ j
    · rw [hM (j - s) (by omega), decide_eq_false (h1 h hsj)]; simp
    · simp [hsj]
  · obtain ⟨h3, h4⟩ := h2 h
    rw [if_neg h, decide_eq_false h, hM (j - s) (by omega), decide_eq_true h4]
    simp [h3]
theorem swap32_bit {x : Nat} (hx : x < 2 ^ 64) (j : Nat) (hj : j < 64) : (swap32 x).testBit j = x.testBit (if j < 32 then j + 32 else j - 32) := by
  unfold swap32
  rw [Nat.testBit_or, ← Nat.shiftRight_eq_div_pow, Nat.testBit_shiftRight, Nat.testBit_mod_two_pow, ← Nat.shiftLeft_eq, Nat.testBit_shiftLeft]
  by_cases h : j < 32
  · have h4 : decide (j ≥ 32) = false := decide_eq_false (by omega)
    rw [if_pos h, h4, Nat.add_comm 32 j]; simp
  · have h2 : x.testBit (32 + j) = false := Nat.testBit_lt_two_pow (Nat.lt_of_lt_of_le hx (Nat.pow_le_pow_right (by decide) (by omega)))
    have h3 : 32 ≤ j := by omega
    simp [h, hj, h2, h3]
theorem swap32_lt {x : Nat} (hx : x < 2 ^ 64) : swap32 x < 2 ^ 64 := by
  unfold swap32
  refine Nat.or_lt_two_pow ?_ ?_
  · exact Nat.lt_of_le_of_lt (Nat.div_le_self _ _) hx
  · exact Nat.mod_lt _ (by decide)

theorem rev64_lt {x : Nat} (hx : x < 2 ^ 64) : rev64 x < 2 ^ 64 := by
  unfold rev64
  exact swap32_lt (stp_lt (stp_lt (stp_lt (stp_lt (stp_lt hx (by decide)) (by decide)) (by decide)) (by decide)) (by decide))
theorem rev64_bit {x : Nat} (hx : x < 2 ^ 64) (j : Nat) (hj : j < 64) : (rev64 x).testBit j = x.testBit (63 - j) := by
  have m1 : ∀ j, j < 64 → M1.testBit j = decide (j / 1 % 2 = 0) := by decide
  have m2 : ∀ j, j < 64 → M2.testBit j = decide (j / 2 % 2 = 0) := by decide
  have m4 : ∀ j, j < 64 → M4.testBit j = decide (j / 4 % 2 = 0) := by decide
  have m8 : ∀ j, j < 64 → M8.testBit j = decide (j / 8 % 2 = 0) := by decide
  have m16 : ∀ j, j < 64 → M16.testBit j = decide (j / 16 % 2 = 0) := by decide
  have x1 : stp 1 M1 x < 2 ^ 64 := stp_lt hx (by decide)
  have x2 : stp 2 M2 (stp 1 M1 x) < 2 ^ 64 := stp_lt x1 (by decide)
  have x4 : stp 4 M4 (stp 2 M2 (stp 1 M1 x)) < 2 ^ 64 := stp_lt x2 (by decide)
  have x8 : stp 8 M8 (stp 4 M4 (stp 2 M2 (stp 1 M1 x))) < 2 ^ 64 := stp_lt x4 (by decide)
  have x16 : stp 16 M16 (stp 8 M8 (stp 4 M4 (stp 2 M2 (stp 1 M1 x)))) < 2 ^ 64 := stp_lt x8 (by decide)
  unfold rev64
  rw [swap32_bit x16 j hj]
  obtain ⟨a, ha⟩ : ∃ a, (if j < 32 then j + 32 else j - 32) = a := ⟨_, rfl⟩
  have la : a < 64 := by rw [← ha]; split <;> omega
  rw [ha, stp_bit 16 M16 _ m16 (by decide) a la]
  obtain ⟨b, hb⟩ : ∃ b, (if a / 16 % 2 = 0 then a + 16 else a - 16) = b := ⟨_, rfl⟩
  have lb : b < 64 := by rw [← hb]; split <;> omega
  rw [hb, stp_bit 8 M8 _ m8 (by decide) b lb]
  obtain ⟨c, hc⟩ : ∃ c, (if b / 8 % 2 = 0 then b + 8 else b - 8) = c := ⟨_, rfl⟩
  have lc : c < 64 := by rw [← hc]; split <;> omega
  rw [hc, stp_bit 4 M4 _ m4 (by decide) c lc]
  obtain ⟨d, hd⟩ : ∃ d, (if c / 4 % 2 = 0 then c + 4 else c - 4) = d := ⟨_, rfl⟩
  have ld : d < 64 := by rw [← hd]; split <;> omega
  rw [hd, stp_bit 2 M2 _ m2 (by decide) d ld]
  obtain ⟨e, he⟩ : ∃ e, (if d / 2 % 2 = 0 then d + 2 else d - 2) = e := ⟨_, rfl⟩
  have le : e < 64 := by rw [← he]; split <;> omega
  rw [he, stp_bit 1 M1 _ m1 (by decide) e le]
  congr 1
  subst he hd hc hb ha
  clear la lb lc ld le x1 x2 x4 x8 x16
  revert j
  decide

/-- So many bits of a number, in reverse. -/
def revOf (k : Nat) : Nat → Nat
  | 0 => 0
  | d + 1 => 2 * revOf k d + k / 2 ^ d % 2
theorem revOf_bit (k : Nat) : ∀ (d j : Nat), (revOf k d).testBit j = (decide (j < d) && k.testBit (d - 1 - j))
  | 0, j => by simp [revOf]
  | d + 1, 0 => by
    have : (2 * revOf k d + k / 2 ^ d % 2) % 2 = k / 2 ^ d % 2 := by omega
    rw [revOf, Nat.testBit_zero, this]
    simp [Nat.testBit_eq_decide_div_mod_eq]
  | d + 1, j + 1 => by
    have : (2 * revOf k d + k / 2 ^ d % 2) / 2 = revOf k d := by omega
    rw [revOf, Nat.testBit_succ, this, revOf_bit k d j]
    by_cases h : j < d
    · have e : d + 1 - 1 - (j + 1) = d - 1 - j := by omega
      simp [h]; congr 1; omega
    · simp [h]
theorem revOf_lt (k : Nat) : ∀ d, revOf k d < 2 ^ d
  | 0 => Nat.lt_of_lt_of_le (Nat.lt_succ_self _) (Nat.le_refl _)
  | d + 1 => by have := revOf_lt k d; rw [revOf, Nat.pow_succ]; omega
/-- What the program computes is that. -/
theorem rev_turned {k d : Nat} (hk : k < 2 ^ 64) (hd : d ≤ 16) : rev64 k / 2 ^ (63 - d) / 2 = revOf k d := by
  apply Nat.eq_of_testBit_eq
  intro j
  rw [revOf_bit, ← Nat.testBit_succ, ← Nat.shiftRight_eq_div_pow, Nat.testBit_shiftRight]
  by_cases h : j < d
  · rw [rev64_bit hk _ (by omega), decide_eq_true h, Bool.true_and]
    congr 1; omega
  · rw [decide_eq_false h, Bool.false_and]
    exact Nat.testBit_lt_two_pow (Nat.lt_of_lt_of_le (rev64_lt hk) (Nat.pow_le_pow_right (by decide) (by omega)))
/-- Reversed twice. -/
theorem revOf_revOf {k d : Nat} (hk : k < 2 ^ d) : revOf (revOf k d) d = k := by
  apply Nat.eq_of_testBit_eq
  intro j
  rw [revOf_bit, revOf_bit]
  by_cases h : j < d
  · have h2 : d - 1 - j < d := by omega
    have e : d - 1 - (d - 1 - j) = j := by omega
    simp [h, h2, e]
  · rw [decide_eq_false h, Bool.false_and]
    exact (Nat.testBit_lt_two_pow (Nat.lt_of_lt_of_le hk (Nat.pow_le_pow_right (by decide) (by omega)))).symm
end Go.Proofs.Ytbeppkokkbgddaa
