/- The statements of layer 6: works. -/
import Derived.Test.YtmcmapcijncblaaDoorUnpH
namespace Go.Proofs.YtmcmapcijncblaaDoor
open Go.RowKit

def bytes6 : ByteArray := ⟨#[129, 161, 97, 205, 1, 0]⟩
theorem b6_map : countOf bytes6 0 9 pairsL = .ok (.int .i64 1, 1) := by kernel_rfl
theorem b6_str : textOf bytes6 1 9 strsL = .ok (.string ⟨#[97]⟩, 3) := by kernel_rfl
theorem b6_num : numOf bytes6 3 numsL = .ok (.int .u64 256, 6) := by kernel_rfl
theorem b6_end : numOf bytes6 6 numsL = .error 4 := by kernel_rfl

set_option maxRecDepth 100000 in
set_option maxHeartbeats 2000000 in
theorem works06_any (B : Nat) (w : World) (ht : Tabs B w) (het : ErrType w) (hB : B ≤ w.heap.size) :
    Calls Tryd.prog 13 #[] w fun e w' => e = .returned (.bool true) ∧ Below w.heap.size w w' := by
  have HT := Lib.hid ht
  have HET := Lib.hid het
  clear ht het
  go_enter Tryd.func13, Tryd.ntmps13
  go_wp2_with fail
  refine (New_any w bytes6 9).mono ?_
  rintro e w1 ⟨rfl, hw1⟩
  have X1 : Hid (Below w.heap.size w w1) := Lib.hid (by rw [hw1]; exact balloc (Below.refl _ _) _)
  have R1 : Hid (RdB w1 w.heap.size bytes6 (0 : Nat) 9) := Lib.hid (by rw [hw1]; exact heap_alloc_new _ _)
  clear hw1
  go_wp2_with fail
  refine (Map_any w1 B w.heap.size bytes6 0 9 (HT.out.below X1.out) R1.out (by decide) (by decide) (by decide) (by decide)).mono ?_
  rintro e w2 ⟨hE2, hm⟩
  rw [b6_map] at hm
  obtain ⟨rfl, hR2⟩ := hm
  have X2 := Lib.hid (grownBy_below X1.out hE2 (fun k hk => by cases hk; exact Nat.le_refl _))
  have R2 := Lib.hid hR2
  clear hE2 hR2
  go_wp2_with fail
  refine (Str_any w2 B w.heap.size bytes6 1 9 (HT.out.below X2.out) R2.out (by decide) (by decide) (by decide) (by decide)).mono ?_
  rintro e w3 ⟨hE3, hm⟩
  rw [b6_str] at hm
  obtain ⟨rfl, hR3⟩ := hm
  have X3 := Lib.hid (grownBy_below X2.out hE3 (fun k hk => by cases hk; exact Nat.le_refl _))
  have R3 := Lib.hid hR3
  clear hE3 hR3
  go_wp2_with fail
  refine (Num_any w3 B w.heap.size bytes6 3 9 (HT.out.below X3.out) R3.out (by decide) (by decide)).mono ?_
  rintro e w4 ⟨hE4, hm⟩
  rw [b6_num] at hm
  obtain ⟨rfl, hR4⟩ := hm
  have X4 := Lib.hid (grownBy_below X3.out hE4 (fun k hk => by cases hk; exact Nat.le_refl _))
  have R4 := Lib.hid hR4
  clear hE4 hR4
  go_wp2_with fail
  refine (Num_any w4 B w.heap.size bytes6 6 9 (HT.out.below X4.out) R4.out (by decide) (by decide)).mono ?_
  rintro e w5 ⟨hE5, hm⟩
  rw [b6_end] at hm
  obtain ⟨hR5, f, rfl, hf, hfb⟩ := hm
  have X5 := Lib.hid (grownBy_below X4.out hE5 (fun k hk => by cases hk; exact Nat.le_refl _))
  have R5 := Lib.hid hR5
  have F5 := Lib.hid hfb
  clear hE5 hR5 hfb
  go_wp2_with fail
  refine (fault_is w5 f 4 6 (HET.out.below X5.out) F5.out (by decide)).mono ?_
  rintro e w6 ⟨rfl, hb6⟩
  have X6 := Lib.hid (bnext X5.out hb6)
  have R6 := Lib.hid (R5.out.below hb6)
  clear hb6
  go_wp2_with fail
  refine (End_any w6 w.heap.size bytes6 6 9 (HET.out.below X6.out) R6.out (by decide) (by decide)).mono ?_
  rintro e w7 ⟨hb7, hm⟩
  rw [show leftOf bytes6 6 = none from by decide] at hm
  subst hm
  have X7 := Lib.hid (bnext X6.out hb7)
  clear hb7
  go_wp2
  go_ret
  exact ⟨rfl, X7.out⟩
end Go.Proofs.YtmcmapcijncblaaDoor
