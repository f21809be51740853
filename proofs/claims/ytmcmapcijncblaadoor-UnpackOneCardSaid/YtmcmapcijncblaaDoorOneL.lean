/- The statement UnpackOne: the law. -/
import Derived.Test.YtmcmapcijncblaaDoorUnpQ
import Derived.Test.YtmcmapcijncblaaDoorUnpJ
namespace Go.Proofs.YtmcmapcijncblaaDoor
open Go.RowKit
set_option linter.unusedSimpArgs false
set_option linter.unusedVariables false

set_option maxRecDepth 100000 in
set_option maxHeartbeats 4000000 in
theorem one_law (B : Nat) (s : ByteArray) (k : Int) (w : World) (hs : s.size ≤ 9223372036854775807) (hk0 : 0 ≤ k) (hk1 : k ≤ 255) (ht : Tabs B w) (het : ErrType w) (hB : B ≤ w.heap.size) :
    Calls Tryd.prog 5 #[.string s, .int .u8 k] w fun e w' => e = .returned (.bool true) ∧ Below w.heap.size w w' := by
  have HT := Lib.hid ht
  have HET := Lib.hid het
  clear ht het
  obtain ⟨q, hq⟩ : ∃ q : Nat, k % 5 = q := ⟨(k % 5).toNat, by omega⟩
  have q5 : q < 5 := by omega
  have iq : IntKind.i64.wrap (q : Int) = q := IntWalk.i64_in _ (by omega)
  go_enter Tryd.func5, Tryd.ntmps5
  go_wp2_with fail
  refine (works06_any B w HT.out HET.out hB).mono ?_
  rintro e w0 ⟨rfl, hb0⟩
  have X0 := Lib.hid hb0
  clear hb0
  go_wp2_with fail
  all_goals
    first
      | (obtain ⟨S, hS⟩ : ∃ S, s.extract 0 700 = S := ⟨_, rfl⟩
         rw [hS])
      | (obtain ⟨S, hS⟩ : ∃ S, s.extract 0 s.size = S := ⟨_, rfl⟩
         rw [hS])
      | (obtain ⟨S, hS⟩ : ∃ S, s = S := ⟨_, rfl⟩
         rw [hS])
    have hSz : S.size ≤ 700 := by rw [← hS]; first | (rw [ByteArray.size_extract]; omega) | omega
    clear hS
    have g0 : Hid (w.heap.size ≤ w0.heap.size) := Lib.hid X0.out.size
    refine (New_any w0 S 65535).mono ?_
    rintro e w1 ⟨rfl, hw1⟩
    have X1 : Hid (Below w.heap.size w w1) := Lib.hid (by rw [hw1]; exact balloc X0.out _)
    have R1 : Hid (RdB w1 w0.heap.size S (0 : Nat) 65535) := Lib.hid (by rw [hw1]; exact heap_alloc_new _ _)
    clear hw1
    obtain ⟨b, hb⟩ : ∃ b, w0.heap.size = b := ⟨_, rfl⟩
    rw [hb] at R1 g0 ⊢
    clear hb
    go_wp2_with fail
    refine (take_any w1 B b S 0 65535 q (HT.out.below X1.out) R1.out (Nat.zero_le _) (by omega) (by decide) (by decide) q5).mono ?_
    rintro e w2 ⟨hE2, hm2⟩
    have X2 := Lib.hid (grownBy_below X1.out hE2 (fun k hk => by cases hk; exact g0.out))
    clear hE2
    cases hres : takeOf q S 0 65535 with
    | error kk =>
      rw [hres] at hm2
      obtain ⟨hRd, f, rfl, hf, hfb⟩ := hm2
      have HRES := Lib.hid hres
      clear hRd hfb hres
      go_wp2
      go_ret
      exact ⟨rfl, X2.out⟩
    | ok x =>
      obtain ⟨n, t, a⟩ := x
      rw [hres] at hm2
      obtain ⟨rfl, hRd⟩ := hm2
      have R2 := Lib.hid hRd
      obtain ⟨l1, l2, l3, n0, n1, l4⟩ := take_laid q5 (Nat.zero_le _) hres
      have HRES := Lib.hid hres
      have L1 := Lib.hid l1
      clear hRd hres l1
      go_wp2_with fail
      refine (laid_any w2 q n t q5 n0 n1 (by omega)).mono ?_
      rintro e w3 ⟨rfl, hb3⟩
      obtain ⟨c, hc⟩ : ∃ c, laidOf q n t = c := ⟨_, rfl⟩
      rw [hc] at L1 l2 ⊢
      have X3 := Lib.hid (bnext X2.out hb3)
      have R3 := Lib.hid (R2.out.below hb3)
      clear hb3 hc
      have e1 : a = c.size := by omega
      subst e1
      have e2 : S.extract 0 c.size = c := ba_ext (by
        have := L1.out
        rw [Lib.extract_data, List.drop_zero, Nat.sub_zero]
        rw [List.drop_zero] at this
        rw [this, ← ba_len c, List.take_left])
      have cz : c.size ≤ 700 := by omega
      clear l2
      go_wp2_with fail
      refine (End_any w3 b S c.size 65535 (HET.out.below X3.out) R3.out l3 (by omega)).mono ?_
      rintro e w4 ⟨hb4, hm4⟩
      have X4 := Lib.hid (bnext X3.out hb4)
      have R4 := Lib.hid (R3.out.below hb4)
      clear hb4
      by_cases hle : c.size < S.size
      · rw [show leftOf S c.size = some 5 from if_pos hle] at hm4
        obtain ⟨f4, rfl, hf4, hfb4⟩ := hm4
        have F4 := Lib.hid hfb4
        clear hfb4
        go_wp2_with fail
        refine (fault_is w4 f4 5 c.size (HET.out.below X4.out) F4.out (by decide)).mono ?_
        rintro e w5 ⟨rfl, hb5⟩
        have X5 := Lib.hid (bnext X4.out hb5)
        have q1 : ¬ (c.size : Int) = S.size := by omega
        have q2 : (c.size : Int) < S.size := by omega
        clear hb5
        go_wp2_with fail
        go_ret
        exact ⟨rfl, X5.out⟩
      · rw [show leftOf S c.size = none from if_neg hle] at hm4
        subst hm4
        go_wp2_with fail
        refine (fault_nil w4).mono ?_
        rintro e w5 ⟨rfl, rfl⟩
        have q1 : (c.size : Int) = S.size := by omega
        have q2 : ¬ (c.size : Int) < S.size := by omega
        go_wp2_with fail
        refine (End_any w5 b S c.size 65535 (HET.out.below X4.out) R4.out l3 (by omega)).mono ?_
        rintro e w6 ⟨hb6, hm6⟩
        have X6 := Lib.hid (bnext X4.out hb6)
        clear hb6
        rw [show leftOf S c.size = none from if_neg hle] at hm6
        subst hm6
        go_wp2_with fail
        go_ret
        exact ⟨rfl, X6.out⟩
end Go.Proofs.YtmcmapcijncblaaDoor
