/- The statement LayoutTurns: the law. -/
import Derived.Test.YtbeppkokkbgddaaWorks8
namespace Go.Proofs.Ytbeppkokkbgddaa
open Go.RowKit
set_option linter.unusedSimpArgs false
set_option linter.unusedVariables false

theorem revOf_top (k d : Nat) : revOf k (d + 1) / 2 ^ d = k % 2 := by
  apply Nat.eq_of_testBit_eq
  intro j
  rw [← Nat.shiftRight_eq_div_pow, Nat.testBit_shiftRight, revOf_bit, show k % 2 = k % 2 ^ 1 from rfl, Nat.testBit_mod_two_pow]
  by_cases h : j = 0
  · subst h; simp
  · have h1 : ¬ d + j < d + 1 := by omega
    have h2 : ¬ j < 1 := by omega
    simp [h]
theorem revOf_pair {k d b : Nat} (h : b < d) : revOf k d / 2 ^ (d - 1 - b) % 2 = k / 2 ^ b % 2 := by
  have h1 := revOf_bit k d (d - 1 - b)
  have e : d - 1 - (d - 1 - b) = b := by omega
  rw [decide_eq_true (show d - 1 - b < d by omega), Bool.true_and, e, Nat.testBit_eq_decide_div_mod_eq, Nat.testBit_eq_decide_div_mod_eq] at h1
  have h2 := decide_eq_decide.1 h1
  omega
theorem and_one (x : Nat) (hx : x < 18446744073709551616) : bits .and .u64 (x : Int) 1 = ((x % 2 : Nat) : Int) := by
  have h := bits_and_u64_nat x 1 hx (by decide)
  rw [Nat.and_one_is_mod] at h
  exact h
theorem turned_in {k e : Nat} (he : e ≤ 16) (hk : k < 2 ^ e) : turnedZ k e = ((revOf k e : Nat) : Int) := by
  unfold turnedZ
  rw [if_pos ⟨by omega, by omega, by rw [Int.toNat_natCast, pow_cast]; omega⟩, Int.toNat_natCast, Int.toNat_natCast]
theorem leaf_same (k d : Int) (w : World) (h0 : 0 ≤ k) (h1 : k ≤ 18446744073709551615) : Calls Try.prog 14 #[.int .u64 k, .int .i64 d] w fun e w' => e = .returned (.int .u64 (turnedZ k d)) ∧ w' = w :=
  (leaf_any k d w h0 h1).mono fun e w' ⟨he, hw⟩ => ⟨he, hw.symm⟩

set_option maxRecDepth 100000 in
set_option maxHeartbeats 4000000 in
theorem turns_law (n i : Nat) (w : World) (hn : n < 4294967296) (hi : i < 4294967296) :
    Calls Try.prog 5 #[.int .u32 n, .int .u32 i] w fun e w' => e = .returned (.bool true) ∧ Below w.heap.size w w' := by
  obtain ⟨m, hm⟩ : ∃ m, 1 + n % 65536 = m := ⟨_, rfl⟩
  have m1 : (1 : Int) + (n : Int) % 65536 = (m : Int) := by omega
  obtain ⟨b1, b2, b3⟩ := depth_bd m (by omega)
  have hD : depthZ m = (Lib.bitLen (m - 1) : Nat) := by unfold depthZ; rw [if_neg (by omega), Int.toNat_natCast]
  obtain ⟨D, hDD⟩ : ∃ D, Lib.bitLen (m - 1) = D := ⟨_, rfl⟩
  rw [hDD] at b1 b2 b3 hD
  obtain ⟨p, hp⟩ : ∃ p : Nat, 2 ^ D = p := ⟨_, rfl⟩
  have p0 : 0 < p := by rw [← hp]; exact Nat.two_pow_pos D
  have p16 : p ≤ 65536 := by rw [← hp]; exact Nat.pow_le_pow_right (n := 2) (by decide) b1
  obtain ⟨k, hk⟩ : ∃ k, i % p = k := ⟨_, rfl⟩
  have kp : k < p := by rw [← hk]; exact Nat.mod_lt _ p0
  obtain ⟨lf, hlf⟩ : ∃ l, revOf k D = l := ⟨_, rfl⟩
  have lp : lf < p := by rw [← hlf, ← hp]; exact revOf_lt k D
  have T1 : turnedZ k D = (lf : Int) := by rw [turned_in b1 (by rw [hp]; exact kp), hlf]
  have T2 : turnedZ lf D = (k : Int) := by rw [turned_in b1 (by rw [hp]; exact lp), ← hlf, revOf_revOf (by rw [hp]; exact kp)]
  have HT1 := Lib.hid T1
  have HT2 := Lib.hid T2
  have HD := Lib.hid hD
  have HP := Lib.hid hp
  have HLF := Lib.hid hlf
  have HB3 := Lib.hid b3
  have w1 : IntKind.i64.wrap ((2 : Int) ^ D) = (p : Int) := by rw [pow_cast, hp]; exact IntWalk.i64_in _ (by omega)
  have w2 : IntKind.u64.wrap ((2 : Int) ^ D) = (p : Int) := by rw [pow_cast, hp, IntKind.wrap_u64]; omega
  have k1 : (i : Int) % (p : Int) = (k : Int) := by omega
  rw [hp] at b2
  have HM1 := Lib.hid m1
  clear T1 T2 hD hlf hp b3 hDD hm hk
  go_enter Try.func5, Try.ntmps5
  go_wp2_with fail
  refine (works8_any _).mono ?_
  rintro e wa ⟨rfl, hb⟩
  have XB := Lib.hid hb
  clear hb
  go_wp2_with fail
  refine (depth_any m _ (by omega) (by omega)).mono ?_
  rintro e wz ⟨rfl, rfl⟩
  rw [HD.out]
  have c0 : decide ((D : Int) < 0) = false := decide_eq_false (by omega)
  have c1 : decide ((16 : Int) < (D : Int)) = false := decide_eq_false (by omega)
  have c2 : decide (p < m) = false := decide_eq_false (by omega)
  have c4 : decide (p ≤ lf) = false := decide_eq_false (by omega)
  by_cases hz : D = 0
  · have hz1 : ¬ (0 : Int) < D := by omega
    have d0 : ((D : Int) == 0) = true := by
      have : (D : Int) = 0 := by omega
      simpa using this
    have HZ := Lib.hid hz
    clear hz
    go_wp2_with fail
    refine (leaf_any k D _ (by omega) (by omega)).mono ?_
    rintro e wz ⟨rfl, rfl⟩
    rw [HT1.out]
    go_wp2_with fail
    refine (element_any lf D _ (by omega) (by omega)).mono ?_
    rintro e wz ⟨rfl, rfl⟩
    rw [HT2.out]
    go_wp2
    go_loopg [9] D (fun g b wr => ∃ x : Nat, g + x = D ∧ b = .int .i64 x ∧ Drew wa wr)
    case atStart => exact ⟨0, rfl, rfl, Drew.refl _⟩
    case round =>
      obtain ⟨x, hx, rfl, hd⟩ := hrel
      obtain rfl : x = D := by have := HZ.out; omega
      have s3 : ¬ (x : Int) < x := by omega
      go_wp2
      go_quiet (fail)
      go_wp2
      go_ret
      exact ⟨rfl, bnext XB.out ((hd.drewN _).below _)⟩
  · have hz1 : (0 : Int) < D := by omega
    obtain ⟨E, hE⟩ : ∃ E, D = E + 1 := ⟨D - 1, by omega⟩
    obtain ⟨q, hq⟩ : ∃ q : Nat, 2 ^ E = q := ⟨_, rfl⟩
    have hq2 : q + q = p := by have := HP.out; rw [hE, Nat.pow_succ, hq] at this; omega
    have h3 := HB3.out E (by omega)
    rw [hq] at h3
    have w3 : IntKind.i64.wrap ((2 : Int) ^ (D - 1)) = (q : Int) := by rw [hE, Nat.add_sub_cancel, pow_cast, hq]; exact IntWalk.i64_in _ (by omega)
    have c3 : decide (m ≤ q) = false := decide_eq_false (by omega)
    have HE := Lib.hid hE
    have HQ := Lib.hid hq
    have HQ2 := Lib.hid hq2
    clear hE hq h3 hz hq2
    go_wp2_with fail
    refine (leaf_any k D _ (by omega) (by omega)).mono ?_
    rintro e wz ⟨rfl, rfl⟩
    rw [HT1.out]
    go_wp2_with fail
    refine (element_any lf D _ (by omega) (by omega)).mono ?_
    rintro e wz ⟨rfl, rfl⟩
    rw [HT2.out]
    go_wp2
    go_loopg [9] D (fun g b wr => ∃ x : Nat, g + x = D ∧ b = .int .i64 x ∧ Drew wa wr)
    case atStart => exact ⟨0, rfl, rfl, Drew.refl _⟩
    case round =>
      obtain ⟨x, hx, rfl, hd⟩ := hrel
      by_cases hlt : x < D
      · have i0 : (x : Int) < D := by omega
        obtain ⟨c, hc⟩ : ∃ c, k / 2 ^ x % 2 = c := ⟨_, rfl⟩
        have E1 : bits .and .u64 ((k : Int) / 2 ^ x) 1 = (c : Int) := by
          rw [pow_cast, show ((k : Int) / ((2 ^ x : Nat) : Int)) = ((k / 2 ^ x : Nat) : Int) by simp, and_one _ (Nat.lt_of_le_of_lt (Nat.div_le_self _ _) (by omega)), hc]
        have E2 : bits .and .u64 ((lf : Int) / 2 ^ (D - 1 - x)) 1 = (c : Int) := by
          have h := revOf_pair (k := k) hlt
          rw [HLF.out, hc] at h
          rw [pow_cast, show ((lf : Int) / ((2 ^ (D - 1 - x) : Nat) : Int)) = ((lf / 2 ^ (D - 1 - x) : Nat) : Int) by simp, and_one _ (Nat.lt_of_le_of_lt (Nat.div_le_self _ _) (by omega)), h]
        have s1 : IntKind.i64.wrap ((D : Int) - 1) = (D : Int) - 1 := IntWalk.i64_in _ (by omega)
        have s2 : IntKind.i64.wrap ((D : Int) - 1 - x) = (D : Int) - 1 - x := IntWalk.i64_in _ (by omega)
        have s3 : ((D : Int) - 1 - x).toNat = D - 1 - x := by omega
        have n1 : (0 : Int) ≤ (D : Int) - 1 - x := by omega
        have n2 : (0 : Int) ≤ x := by omega
        clear hc
        go_wp2
        go_quiet (fail)
        clear E1 E2 s1 s2 s3 n1 n2
        go_wp2
        go_roundg (gk - 1)
        case rel => exact ⟨x + 1, by omega, by go_num, hd.drewN _⟩
        case measure => omega
      · obtain rfl : x = D := by omega
        obtain ⟨nx, hnx⟩ : ∃ nx, (k + 1) % p = nx := ⟨_, rfl⟩
        have nxp : nx < p := by rw [← hnx]; exact Nat.mod_lt _ p0
        have k2 : ((k : Int) + 1) % (p : Int) = (nx : Int) := by rw [← hnx]; simp
        obtain ⟨l2, hl2⟩ : ∃ l, revOf nx x = l := ⟨_, rfl⟩
        have T3 : turnedZ nx x = (l2 : Int) := by rw [turned_in b1 (by rw [HP.out]; exact nxp), hl2]
        have hlv : l2 < p := by rw [← hl2, ← HP.out]; exact revOf_lt nx x
        have LL := fun W => leaf_same nx x W (by omega) (by omega)
        rw [T3] at LL
        have HLL := Lib.hid LL
        have F1 : (lf : Int) / 2 ^ (x - 1) = ((k % 2 : Nat) : Int) := by
          rw [← HLF.out, HE.out, Nat.add_sub_cancel, pow_cast, show ((revOf k (E + 1) : Nat) : Int) / ((2 ^ E : Nat) : Int) = ((revOf k (E + 1) / 2 ^ E : Nat) : Int) by simp, revOf_top]
        have F2 : (l2 : Int) / 2 ^ (x - 1) = ((nx % 2 : Nat) : Int) := by
          rw [← hl2, HE.out, Nat.add_sub_cancel, pow_cast, show ((revOf nx (E + 1) : Nat) : Int) / ((2 ^ E : Nat) : Int) = ((revOf nx (E + 1) / 2 ^ E : Nat) : Int) by simp, revOf_top]
        have hpar : k % 2 ≠ nx % 2 := by
          have hq2 := HQ2.out
          have : nx = k + 1 ∨ nx = 0 ∧ k + 1 = p := by
            rw [← hnx]
            by_cases h : k + 1 < p
            · exact .inl (Nat.mod_eq_of_lt h)
            · have : k + 1 = p := by omega
              rw [this, Nat.mod_self]; exact .inr ⟨rfl, rfl⟩
          omega
        obtain ⟨u, hu⟩ : ∃ u, k % 2 = u := ⟨_, rfl⟩
        obtain ⟨v, hv⟩ : ∃ v, nx % 2 = v := ⟨_, rfl⟩
        rw [hu] at F1 hpar
        rw [hv] at F2 hpar
        have G : ((u : Int) != (v : Int)) = true := bne_iff_ne.2 (by omega)
        have d0 : ((x : Int) == 0) = false := by
          have : (x : Int) ≠ 0 := by omega
          simpa using this
        have s1 : IntKind.i64.wrap ((x : Int) - 1) = (x : Int) - 1 := IntWalk.i64_in _ (by omega)
        have s3 : ((x : Int) - 1).toNat = x - 1 := by omega
        have n1 : (0 : Int) ≤ (x : Int) - 1 := by omega
        have n2 : (1 : Int) ≤ (x : Int) := by omega
        clear hnx hl2 T3 LL hu hv hpar
        go_wp2
        go_quiet ((go_at_call 14; exact Calls.quiet_of_same (HLL.out _)))
        go_wp2
        go_ret
        exact ⟨rfl, bnext XB.out ((hd.drewN _).below _)⟩
end Go.Proofs.Ytbeppkokkbgddaa
