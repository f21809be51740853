/- The statement UnpackReads: the law. -/
import Derived.Test.YtmcmapcijncblaaDoorUnpI
namespace Go.Proofs.YtmcmapcijncblaaDoor
open Go.RowKit

theorem headOf_err {t : ByteArray} {l : List URow} {k : Int} (h : headOf t l = .error k) : k ≠ 0 := by
  unfold headOf at h
  split at h
  · cases h; decide
  · split at h
    · cases h; decide
    · next r _ =>
      by_cases h1 : (t.size : Int) < 1 + r.size
      · rw [if_pos h1] at h; cases h; decide
      · rw [if_neg h1] at h
        obtain ⟨v, hv⟩ : ∃ v, (if r.size = 0 then byte t 0 - r.lo else be t r.size.toNat) = v := ⟨_, rfl⟩
        simp only [hv] at h
        by_cases h2 : v < r.least
        · rw [if_pos h2] at h; cases h; decide
        · rw [if_neg h2] at h; cases h
theorem takeOf_err {sort : Nat} {s : ByteArray} {a : Nat} {most k : Int} (h : takeOf sort s a most = .error k) : k ≠ 0 := by
  unfold takeOf at h
  cases hh : headOf (s.extract a s.size) (rowsOf sort) with
  | error k2 => rw [hh] at h; cases h; exact headOf_err hh
  | ok x =>
    obtain ⟨n, rest⟩ := x
    rw [hh] at h
    simp only at h
    split at h
    · cases h; decide
    · split at h
      · split at h
        · cases h; decide
        · cases h
      · cases h
theorem takeOf_le {sort : Nat} {s : ByteArray} {a : Nat} {most : Int} {x : Int × ByteArray × Nat} (h : takeOf sort s a most = .ok x) : x.2.2 ≤ s.size := by
  unfold takeOf at h
  cases hh : headOf (s.extract a s.size) (rowsOf sort) with
  | error k2 => rw [hh] at h; cases h
  | ok y =>
    obtain ⟨n, rest⟩ := y
    rw [hh] at h
    simp only at h
    split at h
    · cases h
    · split at h
      · split at h
        · cases h
        · cases h; exact Nat.sub_le _ _
      · cases h; exact Nat.sub_le _ _

theorem RefB.below {w w' : World} {b : Nat} {s : ByteArray} {a : Nat} {most : Int} (h : RefB w b s a most) (hb : Below w.heap.size w w') : RefB w' b s a most := (hb.block _ (lt_of_block h)).trans h

set_option maxRecDepth 100000 in
set_option maxHeartbeats 4000000 in
theorem reads_law (B : Nat) (s : ByteArray) (most : Int) (ca : Option Addr) (cc : Nat) (calls : List Int) (w : World) (hs : s.size ≤ 9223372036854775807) (hm0 : -9223372036854775808 ≤ most) (hm1 : most ≤ 9223372036854775807)
    (hlen : len calls ≤ 9223372036854775807) (hc : U8s w ca calls) (hr : ∀ i, 0 ≤ nth calls i ∧ nth calls i ≤ 255) (ht : Tabs B w) (het : ErrType w) (hB : B ≤ w.heap.size) :
    Calls Tryd.prog 3 #[.string s, .int .i64 most, .slice ca (len calls) cc] w fun e w' => e = .returned (.bool true) ∧ Below w.heap.size w w' := by
  have HC := Lib.hid hc
  have HR := Lib.hid hr
  have HT := Lib.hid ht
  have HET := Lib.hid het
  clear hc hr ht het
  obtain ⟨m, hm⟩ : ∃ m, m = min (len calls) 60 := ⟨_, rfl⟩
  go_enter Tryd.func3, Tryd.ntmps3
  go_wp2_with fail
  all_goals
    first
      | (obtain ⟨S, hS⟩ : ∃ S, s.extract 0 1000 = S := ⟨_, rfl⟩
         rw [hS])
      | (obtain ⟨S, hS⟩ : ∃ S, s.extract 0 s.size = S := ⟨_, rfl⟩
         rw [hS])
      | (obtain ⟨S, hS⟩ : ∃ S, s = S := ⟨_, rfl⟩
         trace_state
         rw [hS])
    have hSz : S.size ≤ 1000 := by rw [← hS]; first | (rw [ByteArray.size_extract]; omega) | omega
    clear hS
    refine (New_any w S most).mono ?_
    rintro e w1 ⟨rfl, hw1⟩
    have X1 : Hid (Below w.heap.size w w1) := Lib.hid (by rw [hw1]; exact balloc (Below.refl _ _) _)
    have R1 : Hid (RdB w1 w.heap.size S (0 : Nat) (max most 0)) := Lib.hid (by rw [hw1]; exact heap_alloc_new _ _)
    have Z1 : Hid (w1.heap.size = w.heap.size + 1) := Lib.hid (by rw [hw1]; simp)
    clear hw1
    obtain ⟨mm, hmm⟩ : ∃ mm, max most 0 = mm := ⟨_, rfl⟩
    rw [hmm] at R1
    have mm0 : 0 ≤ mm := by omega
    have mm1 : mm ≤ 9223372036854775807 := by omega
    have HMM := Lib.hid hmm
    clear hmm
    go_wp2_with fail
    refine (refNew_any w1 S most).mono ?_
    rintro e w2 ⟨rfl, hw2⟩
    rw [Z1.out]; rw [HMM.out] at hw2
    have X2 : Hid (Below w.heap.size w w2) := Lib.hid (by rw [hw2]; exact balloc X1.out _)
    have R2 : Hid (RdB w2 w.heap.size S (0 : Nat) mm) := Lib.hid (by rw [hw2]; exact block_alloc R1.out _)
    have Q2 : Hid (RefB w2 (w.heap.size + 1) S 0 mm) := Lib.hid (by rw [hw2]; exact alloc_new_at _ Z1.out)
    clear hw2
    go_wp2
    go_loopg [9] m (fun g i wr => ∃ k a : Nat, g + k = m ∧ i = .int .i64 k ∧ a ≤ S.size ∧ Hid (Below w.heap.size w wr) ∧ Hid (RdB wr w.heap.size S a mm) ∧ Hid (RefB wr (w.heap.size + 1) S a mm))
    case atStart => exact ⟨0, 0, rfl, rfl, Nat.zero_le _, X2.out, R2.out, Q2.out⟩
    case round =>
      obtain ⟨k, a, hk0, rfl, ha, HX, HRd, HRf⟩ := hrel
      by_cases hlt : k < m
      · obtain ⟨cb, co, rfl, c0⟩ := (HC.out.below HX.out) k (by omega)
        have b0 : (k : Int) < len calls := by omega
        have b1 : (k : Int) < 60 := by omega
        have b2 : k < len calls := by omega
        have rk := HR.out k
        obtain ⟨q, hq⟩ : ∃ q : Nat, nth calls k % 5 = q := ⟨(nth calls k % 5).toNat, by omega⟩
        have q5 : q < 5 := by omega
        have d1 : wr.cell? ⟨w.heap.size + 1, 1, none⟩ = some (.int .i64 a) := block_cell HRf.out 1
        have iq : IntKind.i64.wrap (q : Int) = q := IntWalk.i64_in _ (by omega)
        have sz := lt_of_block HRf.out
        go_wp2_with fail
        refine (take_any wr B w.heap.size S a mm q (HT.out.below HX.out) HRd.out ha (by omega) mm0 mm1 q5).mono ?_
        rintro e w3 ⟨hE3, hm3⟩
        have E3 := Lib.hid hE3
        have X3 := Lib.hid (grownBy_below HX.out hE3 (fun k hk => by cases hk; exact Nat.le_refl _))
        have Q3 : Hid (RefB w3 (w.heap.size + 1) S a mm) := Lib.hid (extB_block hE3 (by intro e; have := Option.some.inj e; omega) HRf.out)
        clear hE3 c0 d1 HRf HRd HX
        cases hres : takeOf q S a mm with
        | error kk =>
          rw [hres] at hm3
          obtain ⟨hRd, f, rfl, hf, hfb⟩ := hm3
          have R3 := Lib.hid hRd
          have F3 := Lib.hid hfb
          have k0 := takeOf_err hres
          have HRES := Lib.hid hres
          clear hRd hfb hres
          go_wp2_with fail
          refine (refTake_any w3 (w.heap.size + 1) S a mm q Q3.out ha (by omega) mm0 mm1 q5).mono ?_
          rintro e w4 ⟨hE4, hm4⟩
          rw [HRES.out] at hm4
          obtain ⟨rfl, hRf⟩ := hm4
          have X4 := Lib.hid (grownBy_below X3.out hE4 (fun k hk => by cases hk; exact Nat.le_succ _))
          have R4 : Hid (RdB w4 w.heap.size S a mm) := Lib.hid (extB_block hE4 (by intro e; have := Option.some.inj e; omega) R3.out)
          have F4 : Hid (FltB w4 f kk a) := Lib.hid (extB_block hE4 (by intro e; have := Option.some.inj e; omega) F3.out)
          have Q4 := Lib.hid hRf
          clear hE4 hRf
          go_wp2_with fail
          refine (fault_is w4 f kk a (HET.out.below X4.out) F4.out k0).mono ?_
          rintro e w5 ⟨rfl, hb5⟩
          have X5 := Lib.hid (bnext X4.out hb5)
          have R5 := Lib.hid (R4.out.below hb5)
          have Q5 := Lib.hid (Q4.out.below hb5)
          have kb : (kk != 0) = true := by simpa using k0
          clear hb5
          go_wp2_with fail
          refine (End_any _ w.heap.size S a mm (HET.out.below X5.out) R5.out ha (by omega)).mono ?_
          rintro e w6 ⟨hb6, hm6⟩
          have X6 := Lib.hid (bnext X5.out hb6)
          have R6 := Lib.hid (R5.out.below hb6)
          have Q6 := Lib.hid (Q5.out.below hb6)
          clear hb6
          by_cases hle : a < S.size
          · rw [show leftOf S a = some 5 from if_pos hle] at hm6
            obtain ⟨f6, rfl, hf6, hfb6⟩ := hm6
            have F6 := Lib.hid hfb6
            clear hfb6
            go_wp2_with fail
            refine (fault_is w6 f6 5 a (HET.out.below X6.out) F6.out (by decide)).mono ?_
            rintro e w7 ⟨rfl, hb7⟩
            have X7 := Lib.hid (bnext X6.out hb7)
            have R7 := Lib.hid (R6.out.below hb7)
            have Q7 := Lib.hid (Q6.out.below hb7)
            have d7 : w7.cell? ⟨w.heap.size + 1, 1, none⟩ = some (.int .i64 a) := block_cell Q7.out 1
            have l7 : (a : Int) < S.size := by omega
            clear hb7
            go_wp2
            go_roundg (gk - 1)
            case rel => exact ⟨k + 1, a, by omega, by go_num, ha, X7, R7, Q7⟩
            case measure => omega
          · rw [show leftOf S a = none from if_neg hle] at hm6
            subst hm6
            go_wp2_with fail
            refine (fault_nil w6).mono ?_
            rintro e w7 ⟨rfl, rfl⟩
            have d7 : w7.cell? ⟨w.heap.size + 1, 1, none⟩ = some (.int .i64 a) := block_cell Q6.out 1
            have l7 : ¬ (a : Int) < S.size := by omega
            go_wp2
            go_roundg (gk - 1)
            case rel => exact ⟨k + 1, a, by omega, by go_num, ha, X6, R6, Q6⟩
            case measure => omega
        | ok x =>
          obtain ⟨n, t, a'⟩ := x
          have ha' : a' ≤ S.size := takeOf_le hres
          rw [hres] at hm3
          obtain ⟨rfl, hRd⟩ := hm3
          have R3 := Lib.hid hRd
          have HRES := Lib.hid hres
          clear hRd hres
          go_wp2_with fail
          refine (refTake_any w3 (w.heap.size + 1) S a mm q Q3.out ha (by omega) mm0 mm1 q5).mono ?_
          rintro e w4 ⟨hE4, hm4⟩
          rw [HRES.out] at hm4
          obtain ⟨rfl, hRf⟩ := hm4
          have X5 := Lib.hid (grownBy_below X3.out hE4 (fun k hk => by cases hk; exact Nat.le_succ _))
          have R5 : Hid (RdB w4 w.heap.size S a' mm) := Lib.hid (extB_block hE4 (by intro e; have := Option.some.inj e; omega) R3.out)
          have Q5 := Lib.hid hRf
          clear hE4 hRf ha HRES
          obtain ⟨a, e⟩ : ∃ x, x = a' := ⟨_, rfl⟩
          subst e
          have ha := ha'
          go_wp2_with fail
          refine (fault_nil w4).mono ?_
          rintro e w5 ⟨rfl, rfl⟩
          go_wp2_with fail
          refine (End_any _ w.heap.size S a mm (HET.out.below X5.out) R5.out ha (by omega)).mono ?_
          rintro e w6 ⟨hb6, hm6⟩
          have X6 := Lib.hid (bnext X5.out hb6)
          have R6 := Lib.hid (R5.out.below hb6)
          have Q6 := Lib.hid (Q5.out.below hb6)
          clear hb6
          by_cases hle : a < S.size
          · rw [show leftOf S a = some 5 from if_pos hle] at hm6
            obtain ⟨f6, rfl, hf6, hfb6⟩ := hm6
            have F6 := Lib.hid hfb6
            clear hfb6
            go_wp2_with fail
            refine (fault_is w6 f6 5 a (HET.out.below X6.out) F6.out (by decide)).mono ?_
            rintro e w7 ⟨rfl, hb7⟩
            have X7 := Lib.hid (bnext X6.out hb7)
            have R7 := Lib.hid (R6.out.below hb7)
            have Q7 := Lib.hid (Q6.out.below hb7)
            have d7 : w7.cell? ⟨w.heap.size + 1, 1, none⟩ = some (.int .i64 a) := block_cell Q7.out 1
            have l7 : (a : Int) < S.size := by omega
            clear hb7
            go_wp2
            go_roundg (gk - 1)
            case rel => exact ⟨k + 1, a, by omega, by go_num, ha, X7, R7, Q7⟩
            case measure => omega
          · rw [show leftOf S a = none from if_neg hle] at hm6
            subst hm6
            go_wp2_with fail
            refine (fault_nil w6).mono ?_
            rintro e w7 ⟨rfl, rfl⟩
            have d7 : w7.cell? ⟨w.heap.size + 1, 1, none⟩ = some (.int .i64 a) := block_cell Q6.out 1
            have l7 : ¬ (a : Int) < S.size := by omega
            go_wp2
            go_roundg (gk - 1)
            case rel => exact ⟨k + 1, a, by omega, by go_num, ha, X6, R6, Q6⟩
            case measure => omega
      · have hex : (¬ (k : Int) < len calls) ∨ ((k : Int) < len calls ∧ ¬ (k : Int) < 60) := by omega
        clear hlt hm hk0
        rcases hex with h1 | ⟨h1, h2⟩
        all_goals
          go_wp2_with fail
          refine (works06_any B wr (HT.out.below HX.out) (HET.out.below HX.out) (Nat.le_trans hB HX.out.size)).mono ?_
          rintro e w6 ⟨rfl, hb6⟩
          have X6 := Lib.hid (bnext HX.out hb6)
          clear hb6
          go_wp2
          go_ret
          exact ⟨rfl, X6.out⟩
end Go.Proofs.YtmcmapcijncblaaDoor
