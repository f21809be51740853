/- Package layout, and the document's answer: depths, leaves, elements, siblings. -/
import Derived.Test.YtbeppkokkbgddaaRev
import Derived.Test.YtbeppkokkbgddaaNeeds
import Derived.Lib.ItoaNum
namespace Go.Proofs.Ytbeppkokkbgddaa
open Go.RowKit
set_option linter.unusedSimpArgs false
set_option linter.unusedVariables false

theorem stp_int (s M P x : Nat) (hP : P = 2 ^ s) (hx : x < 18446744073709551616) (hM : M * P < 18446744073709551616) (hM2 : M < 18446744073709551616) :
    bits .or .u64 (bits .and .u64 ((x : Int) / (P : Int)) (M : Int)) (IntKind.u64.wrap (bits .and .u64 (x : Int) (M : Int) * (P : Int))) = ((stp s M x : Nat) : Int) := by
  have h1 : (x : Int) / (P : Int) = ((x / P : Nat) : Int) := by simp
  have h2 : x / P < 18446744073709551616 := Nat.lt_of_le_of_lt (Nat.div_le_self _ _) hx
  have h3 : (x &&& M) * P < 18446744073709551616 := Nat.lt_of_le_of_lt (Nat.mul_le_mul_right _ Nat.and_le_right) hM
  have h4 : (x / P) &&& M < 18446744073709551616 := Nat.lt_of_le_of_lt Nat.and_le_left h2
  have h5 : IntKind.u64.wrap (((x &&& M : Nat) : Int) * (P : Int)) = (((x &&& M) * P : Nat) : Int) := by
    rw [IntKind.wrap_u64, show (((x &&& M : Nat) : Int) * (P : Int)) = (((x &&& M) * P : Nat) : Int) by simp]
    omega
  rw [h1, bits_and_u64_nat _ _ h2 hM2, bits_and_u64_nat _ _ hx hM2, h5, bits_or_u64_nat _ _ h4 h3]
  unfold stp
  rw [hP]
theorem swap_int (x : Nat) (hx : x < 18446744073709551616) : bits .or .u64 ((x : Int) / 4294967296) (IntKind.u64.wrap ((x : Int) * 4294967296)) = ((swap32 x : Nat) : Int) := by
  have h1 : (x : Int) / 4294967296 = ((x / 4294967296 : Nat) : Int) := by omega
  have h5 : IntKind.u64.wrap ((x : Int) * 4294967296) = ((x * 4294967296 % 18446744073709551616 : Nat) : Int) := by
    rw [IntKind.wrap_u64]; omega
  rw [h1, h5, bits_or_u64_nat _ _ (by omega) (by omega)]
  rfl

set_option maxRecDepth 100000 in
theorem revbytes_any (n : Nat) (w : World) (hn : n < 18446744073709551616) : Calls Try.prog 70 #[.int .u64 n] w fun e w' => e = .returned (.int .u64 ((swap32 (stp 16 M16 (stp 8 M8 n)) : Nat) : Int)) ∧ w = w' := by
  have HN := Lib.hid hn
  clear hn
  go_enter Try.func70, Try.ntmps70
  go_wp2
  go_ret
  refine ⟨ret_int ?_, rfl⟩
  have hn := HN.out
  have l8 : stp 8 M8 n < 18446744073709551616 := stp_lt hn (by decide)
  have l16 : stp 16 M16 (stp 8 M8 n) < 18446744073709551616 := stp_lt l8 (by decide)
  have S8 := stp_int 8 M8 256 n rfl hn (by decide) (by decide)
  have S16 := stp_int 16 M16 65536 (stp 8 M8 n) rfl l8 (by decide) (by decide)
  have S32 := swap_int _ l16
  refine Eq.trans ?_ S32
  rw [← S16, ← S8]
  rfl

set_option maxRecDepth 100000 in
theorem reverse_any (n : Nat) (w : World) (hn : n < 18446744073709551616) : Calls Try.prog 61 #[.int .u64 n] w fun e w' => e = .returned (.int .u64 ((rev64 n : Nat) : Int)) ∧ w = w' := by
  have l1 : stp 1 M1 n < 18446744073709551616 := stp_lt hn (by decide)
  have l2 : stp 2 M2 (stp 1 M1 n) < 18446744073709551616 := stp_lt l1 (by decide)
  have l4 : stp 4 M4 (stp 2 M2 (stp 1 M1 n)) < 18446744073709551616 := stp_lt l2 (by decide)
  have S1 := stp_int 1 M1 2 n rfl hn (by decide) (by decide)
  have S2 := stp_int 2 M2 4 (stp 1 M1 n) rfl l1 (by decide) (by decide)
  have S4 := stp_int 4 M4 16 (stp 2 M2 (stp 1 M1 n)) rfl l2 (by decide) (by decide)
  have H : ∀ x : Int, x = ((stp 4 M4 (stp 2 M2 (stp 1 M1 n)) : Nat) : Int) → ∀ W : World, Calls Try.prog 70 #[.int .u64 x] W fun e w' => e = .returned (.int .u64 ((rev64 n : Nat) : Int)) ∧ W = w' := fun x hx W => by
    rw [hx]; exact revbytes_any _ W l4
  have HH := Lib.hid H
  have E : Hid (bits .or .u64 (bits .and .u64 (bits .or .u64 (bits .and .u64 (bits .or .u64 (bits .and .u64 ((n : Int) / 2) (M1 : Int)) (IntKind.u64.wrap (bits .and .u64 (n : Int) (M1 : Int) * 2)) / 4) (M2 : Int)) (IntKind.u64.wrap (bits .and .u64 (bits .or .u64 (bits .and .u64 ((n : Int) / 2) (M1 : Int)) (IntKind.u64.wrap (bits .and .u64 (n : Int) (M1 : Int) * 2))) (M2 : Int) * 4)) / 16) (M4 : Int)) (IntKind.u64.wrap (bits .and .u64 (bits .or .u64 (bits .and .u64 (bits .or .u64 (bits .and .u64 ((n : Int) / 2) (M1 : Int)) (IntKind.u64.wrap (bits .and .u64 (n : Int) (M1 : Int) * 2)) / 4) (M2 : Int)) (IntKind.u64.wrap (bits .and .u64 (bits .or .u64 (bits .and .u64 ((n : Int) / 2) (M1 : Int)) (IntKind.u64.wrap (bits .and .u64 (n : Int) (M1 : Int) * 2))) (M2 : Int) * 4))) (M4 : Int) * 16)) = ((stp 4 M4 (stp 2 M2 (stp 1 M1 n)) : Nat) : Int)) := Lib.hid (by
    refine Eq.trans ?_ S4
    rw [← S2, ← S1]
    rfl)
  clear S1 S2 S4 H l1 l2 l4 hn
  go_enter Try.func61, Try.ntmps61
  go_wp2_with fail
  refine (HH.out _ E.out _).mono ?_
  rintro e w' ⟨rfl, rfl⟩
  go_wp2
  go_ret
  exact ⟨rfl, rfl⟩

/-- A number's first bits in reverse; 0 of what may not be. -/
def turnedZ (k d : Int) : Int := if 0 ≤ d ∧ d ≤ 16 ∧ k < 2 ^ d.toNat then (revOf k.toNat d.toNat : Nat) else 0
theorem pow_cast (d : Nat) : ((2 : Int) ^ d) = ((2 ^ d : Nat) : Int) := by simp

set_option maxRecDepth 100000 in
theorem turned_any (k d : Int) (w : World) (h0 : 0 ≤ k) (h1 : k ≤ 18446744073709551615) : Calls Try.prog 39 #[.int .u64 k, .int .i64 d] w fun e w' => e = .returned (.int .u64 (turnedZ k d)) ∧ w = w' := by
  by_cases hd : 0 ≤ d ∧ d ≤ 16
  · obtain ⟨hd0, hd1⟩ := hd
    obtain ⟨n, rfl⟩ := Int.eq_ofNat_of_zero_le h0
    obtain ⟨e, rfl⟩ := Int.eq_ofNat_of_zero_le hd0
    have hm : (decide ((0 : Int) ≤ (e : Int)) && decide ((e : Int) ≤ 16)) = true := by simp [hd1]
    have HM := Lib.hid hm
    clear hm
    by_cases hlt : n < 2 ^ e
    · have hq : ((n : Int) / 2 ^ e != 0) = false := by
        rw [pow_cast, show ((n : Int) / ((2 ^ e : Nat) : Int)) = ((n / 2 ^ e : Nat) : Int) by simp, Nat.div_eq_of_lt hlt]; rfl
      have hn64 : n < 18446744073709551616 := by omega
      have R : Hid (((rev64 n : Nat) : Int) / 2 ^ (63 - e) / 2 = turnedZ n e) := Lib.hid (by
        have := rev_turned (k := n) (d := e) hn64 (by omega)
        unfold turnedZ
        rw [if_pos ⟨hd0, hd1, by rw [Int.toNat_natCast, pow_cast]; omega⟩, Int.toNat_natCast, Int.toNat_natCast, ← this, pow_cast]
        simp)
      have HN := Lib.hid hn64
      clear hn64 hlt
      go_enter Try.func39, Try.ntmps39
      go_wp2_with fail
      refine (may_any _ _).mono ?_
      rintro e w' ⟨rfl, rfl⟩
      rw [HM.out]
      go_wp2_with fail
      refine (reverse_any n _ HN.out).mono ?_
      rintro e w' ⟨rfl, rfl⟩
      go_wp2
      go_ret
      refine ⟨ret_int ?_, rfl⟩
      rw [← R.out]
    · have hq : ((n : Int) / 2 ^ e != 0) = true := by
        have hp : 0 < 2 ^ e := Nat.two_pow_pos e
        have := Nat.div_pos (Nat.le_of_not_lt hlt) hp
        rw [pow_cast, show ((n : Int) / ((2 ^ e : Nat) : Int)) = ((n / 2 ^ e : Nat) : Int) by simp]
        exact bne_iff_ne.2 (by omega)
      have R : Hid (turnedZ n e = 0) := Lib.hid (by unfold turnedZ; rw [if_neg (fun h => hlt (by have := h.2.2; rw [Int.toNat_natCast, pow_cast] at this; omega))])
      clear hlt
      go_enter Try.func39, Try.ntmps39
      go_wp2_with fail
      refine (may_any _ _).mono ?_
      rintro e w' ⟨rfl, rfl⟩
      rw [HM.out]
      go_wp2
      go_ret
      exact ⟨ret_int R.out.symm, rfl⟩
  · have hm : (decide ((0 : Int) ≤ d) && decide (d ≤ 16)) = false := by
      rw [Bool.and_eq_false_iff, decide_eq_false_iff_not, decide_eq_false_iff_not]; omega
    have HM := Lib.hid hm
    have R : Hid (turnedZ k d = 0) := Lib.hid (by unfold turnedZ; rw [if_neg (fun h => hd ⟨h.1, h.2.1⟩)])
    clear hm hd
    go_enter Try.func39, Try.ntmps39
    go_wp2_with fail
    refine (may_any _ _).mono ?_
    rintro e w' ⟨rfl, rfl⟩
    rw [HM.out]
    go_wp2
    go_ret
    exact ⟨ret_int R.out.symm, rfl⟩

theorem leaf_any (k d : Int) (w : World) (h0 : 0 ≤ k) (h1 : k ≤ 18446744073709551615) : Calls Try.prog 14 #[.int .u64 k, .int .i64 d] w fun e w' => e = .returned (.int .u64 (turnedZ k d)) ∧ w = w' := by
  have H := Lib.hid (turned_any k d w h0 h1)
  clear h0 h1
  go_enter Try.func14, Try.ntmps14
  go_wp2_with fail
  refine H.out.mono ?_
  rintro e w' ⟨rfl, rfl⟩
  go_wp2
  go_ret
  exact ⟨rfl, rfl⟩
theorem element_any (k d : Int) (w : World) (h0 : 0 ≤ k) (h1 : k ≤ 18446744073709551615) : Calls Try.prog 16 #[.int .u64 k, .int .i64 d] w fun e w' => e = .returned (.int .u64 (turnedZ k d)) ∧ w = w' := by
  have H := Lib.hid (turned_any k d w h0 h1)
  clear h0 h1
  go_enter Try.func16, Try.ntmps16
  go_wp2_with fail
  refine H.out.mono ?_
  rintro e w' ⟨rfl, rfl⟩
  go_wp2
  go_ret
  exact ⟨rfl, rfl⟩

set_option maxRecDepth 100000 in
theorem refTurned_any (k d : Int) (w : World) (h0 : 0 ≤ k) (h1 : k ≤ 18446744073709551615) (hd64 : -9223372036854775808 ≤ d) (hd65 : d ≤ 9223372036854775807) : Calls Try.prog 40 #[.int .u64 k, .int .i64 d] w fun e w' => e = .returned (.int .u64 (turnedZ k d)) ∧ w = w' := by
  by_cases hd : 0 ≤ d ∧ d ≤ 16
  · obtain ⟨hd0, hd1⟩ := hd
    obtain ⟨n, rfl⟩ := Int.eq_ofNat_of_zero_le h0
    obtain ⟨e, rfl⟩ := Int.eq_ofNat_of_zero_le hd0
    have he16 : e ≤ 16 := by omega
    have p16 : 2 ^ e ≤ 65536 := Nat.pow_le_pow_right (n := 2) (by decide) he16
    have p0 : 0 < 2 ^ e := Nat.two_pow_pos e
    have e0 : decide ((e : Int) < 0) = false := decide_eq_false (by omega)
    have e1 : decide ((16 : Int) < (e : Int)) = false := decide_eq_false (by omega)
    have R0 : turnedZ n e = if n < 2 ^ e then ((revOf n e : Nat) : Int) else 0 := by
      unfold turnedZ
      by_cases h : n < 2 ^ e
      · rw [if_pos h, if_pos ⟨hd0, hd1, by rw [Int.toNat_natCast, pow_cast]; omega⟩, Int.toNat_natCast, Int.toNat_natCast]
      · rw [if_neg h, if_neg (fun hh => h (by have := hh.2.2; rw [Int.toNat_natCast, pow_cast] at this; omega))]
    obtain ⟨p, hp⟩ : ∃ p : Nat, 2 ^ e = p := ⟨_, rfl⟩
    have hw : IntKind.u64.wrap ((2 : Int) ^ e) = (p : Int) := by rw [pow_cast, IntKind.wrap_u64, hp]; omega
    rw [hp] at p16 p0 R0
    have HP := Lib.hid hp
    clear hp
    by_cases hlt : n < p
    · rw [if_pos hlt] at R0
      have R := Lib.hid R0
      have e2 : decide ((p : Int) ≤ (n : Int)) = false := decide_eq_false (by omega)
      clear R0
      go_enter Try.func40, Try.ntmps40
      go_wp2
      go_loopg [0, 5, 6] e (fun g a b c wr => ∃ m : Nat, g + m = e ∧ a = .int .u64 ((n / 2 ^ m : Nat) : Int) ∧ b = .int .u64 ((revOf n m : Nat) : Int) ∧ c = .int .i64 m ∧ w = wr)
      case atStart => exact ⟨0, rfl, by simp, rfl, rfl, rfl⟩
      case round =>
        obtain ⟨m, hm, rfl, rfl, rfl, rfl⟩ := hrel
        by_cases hme : m < e
        · have i0 : (m : Int) < e := by omega
          have r1 := revOf_lt n m
          have r2 : 2 ^ m ≤ 2 ^ 15 := Nat.pow_le_pow_right (by decide) (by omega)
          have S := Lib.hid (show revOf n (m + 1) = 2 * revOf n m + n / 2 ^ m % 2 from rfl)
          have T : Hid (n / 2 ^ (m + 1) = n / 2 ^ m / 2) := Lib.hid (by rw [Nat.pow_succ, Nat.div_div_eq_div_mul])
          have r3 : n / 2 ^ m ≤ n := Nat.div_le_self _ _
          obtain ⟨x, hx⟩ : ∃ x, n / 2 ^ m = x := ⟨_, rfl⟩
          obtain ⟨y, hy⟩ : ∃ y, revOf n m = y := ⟨_, rfl⟩
          rw [hx] at S T r3 ⊢
          rw [hy] at S r1 ⊢
          have y0 : (y : Int) < 32768 := by omega
          have x0 : (x : Int) ≤ 18446744073709551615 := by omega
          clear hx hy r1 r2
          go_wp2
          go_roundg (gk - 1)
          case rel => exact ⟨m + 1, by omega, (by rw [T.out]; go_num), (by rw [S.out]; go_num), by go_num, rfl⟩
          case measure => omega
        · obtain rfl : m = e := by omega
          go_wp2
          go_ret
          exact ⟨ret_int R.out.symm, rfl⟩
    · rw [if_neg hlt] at R0
      have R := Lib.hid R0
      have e2 : decide ((p : Int) ≤ (n : Int)) = true := decide_eq_true (by omega)
      clear R0
      go_enter Try.func40, Try.ntmps40
      go_wp2
      go_ret
      exact ⟨ret_int R.out.symm, rfl⟩
  · have R : Hid (turnedZ k d = 0) := Lib.hid (by unfold turnedZ; rw [if_neg (fun h => hd ⟨h.1, h.2.1⟩)])
    by_cases h2 : d < 0
    · have e0 : decide (d < 0) = true := decide_eq_true h2
      clear hd
      go_enter Try.func40, Try.ntmps40
      go_wp2
      go_ret
      exact ⟨ret_int R.out.symm, rfl⟩
    · have e0 : decide (d < 0) = false := decide_eq_false h2
      have h3 : 16 < d := by omega
      have e1 : decide ((16 : Int) < d) = true := decide_eq_true h3
      clear hd
      go_enter Try.func40, Try.ntmps40
      go_wp2
      go_ret
      exact ⟨ret_int R.out.symm, rfl⟩

theorem refLeaf_any (k d : Int) (w : World) (h0 : 0 ≤ k) (h1 : k ≤ 18446744073709551615) (hd64 : -9223372036854775808 ≤ d) (hd65 : d ≤ 9223372036854775807) : Calls Try.prog 15 #[.int .u64 k, .int .i64 d] w fun e w' => e = .returned (.int .u64 (turnedZ k d)) ∧ w = w' := by
  have H := Lib.hid (refTurned_any k d w h0 h1 hd64 hd65)
  clear h0 h1 hd64 hd65
  go_enter Try.func15, Try.ntmps15
  go_wp2_with fail
  refine H.out.mono ?_
  rintro e w' ⟨rfl, rfl⟩
  go_wp2
  go_ret
  exact ⟨rfl, rfl⟩
theorem refElement_any (k d : Int) (w : World) (h0 : 0 ≤ k) (h1 : k ≤ 18446744073709551615) (hd64 : -9223372036854775808 ≤ d) (hd65 : d ≤ 9223372036854775807) : Calls Try.prog 17 #[.int .u64 k, .int .i64 d] w fun e w' => e = .returned (.int .u64 (turnedZ k d)) ∧ w = w' := by
  have H := Lib.hid (refTurned_any k d w h0 h1 hd64 hd65)
  clear h0 h1 hd64 hd65
  go_enter Try.func17, Try.ntmps17
  go_wp2_with fail
  refine H.out.mono ?_
  rintro e w' ⟨rfl, rfl⟩
  go_wp2
  go_ret
  exact ⟨rfl, rfl⟩
theorem refSibling_any (k : Int) (w : World) (h0 : 0 ≤ k) (h1 : k ≤ 18446744073709551615) : Calls Try.prog 19 #[.int .u64 k] w fun e w' => e = .returned (.int .u64 (sib k)) ∧ w = w' := by
  by_cases h : k % 2 = 0
  · have S : Hid (sib k = k + 1) := Lib.hid (by unfold sib; rw [if_pos h])
    have hk : k + 1 ≤ 18446744073709551615 := by omega
    go_enter Try.func19, Try.ntmps19
    go_wp2
    go_ret
    exact ⟨ret_int S.out.symm, rfl⟩
  · have S : Hid (sib k = k - 1) := Lib.hid (by unfold sib; rw [if_neg h])
    have hk : 1 ≤ k := by omega
    go_enter Try.func19, Try.ntmps19
    go_wp2
    go_ret
    exact ⟨ret_int S.out.symm, rfl⟩

/-- How deep a tree of so many elements is. -/
def depthZ (n : Int) : Int := if n < 0 ∨ 65536 < n then -1 else (Lib.bitLen (n.toNat - 1) : Nat)
theorem bitLen_small (x : Nat) (hx : x < 2 ^ 64) : x < 2 ^ Lib.bitLen x ∧ (x ≠ 0 → 2 ^ (Lib.bitLen x - 1) ≤ x ∧ 1 ≤ Lib.bitLen x) := by
  by_cases h : x = 0
  · subst h; exact ⟨Nat.two_pow_pos _, fun h => absurd rfl h⟩
  · have := Lib.bitLenAux_bounds 64 x hx h
    exact ⟨this.2.2, fun _ => ⟨this.2.1, this.1⟩⟩
set_option maxRecDepth 100000 in
theorem depth_any (n : Int) (w : World) (h0 : -9223372036854775808 ≤ n) (h1 : n ≤ 9223372036854775807) : Calls Try.prog 12 #[.int .i64 n] w fun e w' => e = .returned (.int .i64 (depthZ n)) ∧ w = w' := by
  have hbl := fun x w h0 h1 => Try.bits_Len x w h0 h1
  by_cases hn : n < 0
  · have D : Hid (depthZ n = -1) := Lib.hid (by unfold depthZ; rw [if_pos (.inl hn)])
    have e0 : decide (n < 0) = true := decide_eq_true hn
    go_enter Try.func12, Try.ntmps12
    go_wp2
    go_ret
    exact ⟨ret_int D.out.symm, rfl⟩
  have e0 : decide (n < 0) = false := decide_eq_false hn
  by_cases hb : 65536 < n
  · have D : Hid (depthZ n = -1) := Lib.hid (by unfold depthZ; rw [if_pos (.inr hb)])
    have e1 : decide (65536 < n) = true := decide_eq_true hb
    go_enter Try.func12, Try.ntmps12
    go_wp2
    go_ret
    exact ⟨ret_int D.out.symm, rfl⟩
  have e1 : decide (65536 < n) = false := decide_eq_false hb
  have D : Hid (depthZ n = (Lib.bitLen (n.toNat - 1) : Nat)) := Lib.hid (by unfold depthZ; rw [if_neg (by omega)])
  have hn0 : 0 ≤ n := by omega
  have hn1 : n ≤ 65536 := by omega
  clear hn hb
  go_enter Try.func12, Try.ntmps12
  go_wp2_with fail
  refine (hbl (max n 1 - 1) _ (by omega) (by omega)).mono ?_
  rintro e w' ⟨rfl, rfl⟩
  go_wp2
  go_ret
  exact ⟨ret_int (by rw [D.out, show (max n 1).toNat - 1 = n.toNat - 1 by omega]), rfl⟩

theorem depth_bd (n : Nat) (hn : n ≤ 65536) : Lib.bitLen (n - 1) ≤ 16 ∧ n ≤ 2 ^ Lib.bitLen (n - 1) ∧ (∀ m, m < Lib.bitLen (n - 1) → 2 ^ m < n) := by
  have h := bitLen_small (n - 1) (by omega)
  have h16 := Lib.bitLen_le (n - 1) 16 (by decide) (by omega)
  refine ⟨h16, by omega, fun m hm => ?_⟩
  by_cases h0 : n - 1 = 0
  · rw [h0] at hm
    have : Lib.bitLen 0 = 0 := by decide
    omega
  · have h2 := (h.2 h0).1
    have : 2 ^ m ≤ 2 ^ (Lib.bitLen (n - 1) - 1) := Nat.pow_le_pow_right (by decide) (by omega)
    omega

set_option maxRecDepth 100000 in
theorem refDepth_any (n : Int) (w : World) (h0 : -9223372036854775808 ≤ n) (h1 : n ≤ 9223372036854775807) : Calls Try.prog 13 #[.int .i64 n] w fun e w' => e = .returned (.int .i64 (depthZ n)) ∧ w = w' := by
  by_cases hn : n < 0
  · have D : Hid (depthZ n = -1) := Lib.hid (by unfold depthZ; rw [if_pos (.inl hn)])
    have e0 : decide (n < 0) = true := decide_eq_true hn
    go_enter Try.func13, Try.ntmps13
    go_wp2
    go_ret
    exact ⟨ret_int D.out.symm, rfl⟩
  have e0 : decide (n < 0) = false := decide_eq_false hn
  by_cases hb : 65536 < n
  · have D : Hid (depthZ n = -1) := Lib.hid (by unfold depthZ; rw [if_pos (.inr hb)])
    have e1 : decide (65536 < n) = true := decide_eq_true hb
    go_enter Try.func13, Try.ntmps13
    go_wp2
    go_ret
    exact ⟨ret_int D.out.symm, rfl⟩
  have e1 : decide (65536 < n) = false := decide_eq_false hb
  obtain ⟨q, rfl⟩ := Int.eq_ofNat_of_zero_le (show 0 ≤ n by omega)
  have D : Hid (depthZ q = (Lib.bitLen (q - 1) : Nat)) := Lib.hid (by unfold depthZ; rw [if_neg (by omega), Int.toNat_natCast])
  obtain ⟨b1, b2, b3⟩ := depth_bd q (by omega)
  obtain ⟨L, hL⟩ : ∃ L, Lib.bitLen (q - 1) = L := ⟨_, rfl⟩
  rw [hL] at D b1 b2 b3
  have B2 := Lib.hid b2
  have B3 := Lib.hid b3
  have hq : (q : Int) ≤ 65536 := by omega
  clear hL b2 b3 hn hb
  go_enter Try.func13, Try.ntmps13
  go_wp2
  go_loopg [3] L (fun g c wr => ∃ m : Nat, g + m = L ∧ c = .int .i64 m ∧ w = wr)
  case atStart => exact ⟨0, rfl, rfl, rfl⟩
  case round =>
    obtain ⟨m, hm, rfl, rfl⟩ := hrel
    have p16 : 2 ^ m ≤ 2 ^ 16 := Nat.pow_le_pow_right (by decide) (by omega)
    obtain ⟨p, hp⟩ : ∃ p : Nat, 2 ^ m = p := ⟨_, rfl⟩
    have hw : IntKind.i64.wrap ((2 : Int) ^ m) = (p : Int) := by rw [pow_cast, hp]; exact IntWalk.i64_in _ (by omega)
    by_cases hlt : m < L
    · have h3 := B3.out m hlt
      rw [hp] at h3
      have h4 : (p : Int) < q := by omega
      clear hp p16
      go_wp2
      go_roundg (gk - 1)
      case rel => exact ⟨m + 1, by omega, by go_num, rfl⟩
      case measure => omega
    · obtain rfl : m = L := by omega
      have h3 := B2.out
      rw [hp] at h3
      have h4 : ¬ (p : Int) < q := by omega
      clear hp p16
      go_wp2
      go_ret
      exact ⟨ret_int D.out.symm, rfl⟩
end Go.Proofs.Ytbeppkokkbgddaa
