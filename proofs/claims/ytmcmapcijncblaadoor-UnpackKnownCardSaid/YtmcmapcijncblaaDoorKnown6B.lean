/- The statement UnpackKnown: the law. -/
import Derived.Test.YtmcmapcijncblaaDoorUnpN
namespace Go.Proofs.YtmcmapcijncblaaDoor
open Go.RowKit
set_option linter.unusedSimpArgs false
set_option linter.unusedVariables false

def badA : Array ByteArray := #[⟨#[204, 127]⟩, ⟨#[205, 0, 255]⟩, ⟨#[206, 0, 0, 255, 255]⟩, ⟨#[207, 0, 0, 0, 0, 255, 255, 255, 255]⟩, ⟨#[192]⟩, ⟨#[224]⟩, ⟨#[255]⟩, ⟨#[208, 1]⟩, ⟨#[128]⟩, ⟨#[160]⟩]
def badC : Array Value := #[.string ⟨#[204, 127]⟩, .string ⟨#[205, 0, 255]⟩, .string ⟨#[206, 0, 0, 255, 255]⟩, .string ⟨#[207, 0, 0, 0, 0, 255, 255, 255, 255]⟩, .string ⟨#[192]⟩, .string ⟨#[224]⟩, .string ⟨#[255]⟩, .string ⟨#[208, 1]⟩, .string ⟨#[128]⟩, .string ⟨#[160]⟩]
theorem bad_at (k : Nat) (h : k < 10) : ∃ s : ByteArray, badC[k]? = some (.string s) ∧ s.size ≤ 100 ∧ numOf s 0 numsL = .error 5 := by
  rcases (by omega : k = 0 ∨ k = 1 ∨ k = 2 ∨ k = 3 ∨ k = 4 ∨ k = 5 ∨ k = 6 ∨ k = 7 ∨ k = 8 ∨ k = 9) with rfl | rfl | rfl | rfl | rfl | rfl | rfl | rfl | rfl | rfl
  all_goals exact ⟨_, rfl, by decide, by kernel_rfl⟩

def q1 : ByteArray := ⟨#[147, 1, 2, 3]⟩
def q2 : ByteArray := ⟨#[196, 3, 97, 98, 99]⟩
def q3 : ByteArray := ⟨#[162, 97]⟩
def q4 : ByteArray := ⟨#[217, 31, 49, 50, 51, 52, 53, 54, 55, 56, 57, 48, 49, 50, 51, 52, 53, 54, 55, 56, 57, 48, 49, 50, 51, 52, 53, 54, 55, 56, 57, 48, 49]⟩
def q5 : ByteArray := ⟨#[220, 0, 15]⟩
def q6 : ByteArray := ⟨#[222, 0]⟩
def q7 : ByteArray := ⟨#[207, 255, 255, 255, 255, 255, 255, 255, 255]⟩
def q8 : ByteArray := ⟨#[196, 0]⟩
theorem q1_list : countOf q1 0 3 listsL = .ok (.int .i64 3, 1) := by kernel_rfl
theorem q1_a : numOf q1 1 numsL = .ok (.int .u64 1, 2) := by kernel_rfl
theorem q1_b : numOf q1 2 numsL = .ok (.int .u64 2, 3) := by kernel_rfl
theorem q1_c : numOf q1 3 numsL = .ok (.int .u64 3, 4) := by kernel_rfl
theorem q2_bin : textOf q2 0 2 binsL = .error 3 := by kernel_rfl
theorem q3_str : textOf q3 0 9 strsL = .error 4 := by kernel_rfl
theorem q4_str : textOf q4 0 99 strsL = .error 5 := by kernel_rfl
theorem q5_list : countOf q5 0 99 listsL = .error 5 := by kernel_rfl
theorem q6_map : countOf q6 0 99 pairsL = .error 4 := by kernel_rfl
theorem q7_num : numOf q7 0 numsL = .ok (.int .u64 18446744073709551615, 9) := by kernel_rfl
theorem q8_bin : textOf q8 0 0 binsL = .ok (.string ⟨#[]⟩, 2) := by kernel_rfl

def wantC : Array Value := #[.int .i64 3, .int .i64 4, .int .i64 5, .int .i64 5, .int .i64 4, .int .i64 1, .int .i64 1, .int .i64 1]
def errsC (f1 f2 f3 f4 f5 f6 f7 f8 : Nat) : Array Value := #[.iface 61 (.pointer (some ⟨f1, 0, none⟩)), .iface 61 (.pointer (some ⟨f2, 0, none⟩)), .iface 61 (.pointer (some ⟨f3, 0, none⟩)), .iface 61 (.pointer (some ⟨f4, 0, none⟩)), .iface 61 (.pointer (some ⟨f5, 0, none⟩)), .iface 61 (.pointer (some ⟨f6, 0, none⟩)), .iface 61 (.pointer (some ⟨f7, 0, none⟩)), .iface 61 (.pointer (some ⟨f8, 0, none⟩))]
def fltL (f1 f2 f3 f4 f5 f6 f7 f8 : Nat) : List (Nat × Int) := [(f1, 3), (f2, 4), (f3, 5), (f4, 5), (f5, 4), (f6, 1), (f7, 1), (f8, 1)]
def Flts (w : World) (l : List (Nat × Int)) : Prop := ∀ x ∈ l, FltB w x.1 x.2 0
theorem Flts.below {w w' : World} {l : List (Nat × Int)} (h : Flts w l) (hb : Below w.heap.size w w') : Flts w' l := fun x hx => (h x hx).below hb
theorem flts_all {w : World} {f1 f2 f3 f4 f5 f6 f7 f8 : Nat} (h1 : FltB w f1 3 0) (h2 : FltB w f2 4 0) (h3 : FltB w f3 5 0) (h4 : FltB w f4 5 0) (h5 : FltB w f5 4 0) (h6 : FltB w f6 1 0) (h7 : FltB w f7 1 0) (h8 : FltB w f8 1 0) : Flts w (fltL f1 f2 f3 f4 f5 f6 f7 f8) := by
  intro x hx
  simp only [fltL, List.mem_cons, List.not_mem_nil, or_false] at hx
  rcases hx with rfl | rfl | rfl | rfl | rfl | rfl | rfl | rfl <;> assumption
theorem errs_at (f1 f2 f3 f4 f5 f6 f7 f8 k : Nat) (h : k < 8) : ∃ (f : Nat) (c : Int), (errsC f1 f2 f3 f4 f5 f6 f7 f8)[k]? = some (.iface 61 (.pointer (some ⟨f, 0, none⟩))) ∧ wantC[k]? = some (.int .i64 c) ∧ (f, c) ∈ fltL f1 f2 f3 f4 f5 f6 f7 f8 ∧ c ≠ 0 := by
  rcases (by omega : k = 0 ∨ k = 1 ∨ k = 2 ∨ k = 3 ∨ k = 4 ∨ k = 5 ∨ k = 6 ∨ k = 7) with rfl | rfl | rfl | rfl | rfl | rfl | rfl | rfl
  all_goals exact ⟨_, _, rfl, rfl, by simp [fltL], by decide⟩

set_option maxRecDepth 100000 in
set_option maxHeartbeats 4000000 in
theorem known6_law (B : Nat) (w : World) (ht : Tabs B w) (het : ErrType w) (hB : B ≤ w.heap.size) :
    Calls Tryd.prog 6 #[] w fun e w' => e = .returned (.bool true) ∧ Below w.heap.size w w' := by
  have HT := Lib.hid ht
  have HET := Lib.hid het
  clear ht het
  go_enter Tryd.func6, Tryd.ntmps6
  go_wp2_with fail
  go_loopg [2] 10 (fun g i wr => ∃ k : Nat, g + k = 10 ∧ i = .int .i64 k ∧ Hid (Below w.heap.size w wr) ∧ Hid (wr.heap[w.heap.size]? = some (.cells badC 9 (0, 0))))
  case atStart => exact ⟨0, rfl, rfl, Lib.hid (by (repeat (first | exact Below.refl _ _ | assumption | (refine bdrew ?_) | (refine bdrewN ?_ _) | (refine balloc ?_ _) | (refine bset ?_ (by first | omega | (simp; done) | (simp; omega)) _) | (refine bnext ?_ (by assumption))))), Lib.hid (heap_alloc_new _ _)⟩
  case round =>
    obtain ⟨k, hk0, rfl, HX, HC⟩ := hrel
    by_cases hlt : k < 10
    · have b0 : (k : Int) < 10 := by omega
      obtain ⟨s, hs1, hs2, hs3⟩ := bad_at k hlt
      have a0 : wr.cell? ⟨w.heap.size, k, none⟩ = some (.string s) := (block_cell HC.out k).trans hs1
      have HS3 := Lib.hid hs3
      have hz := lt_of_block HC.out
      clear hs1 hs3
      go_wp2_with fail
      refine (New_any wr s 9).mono ?_
      rintro e w1 ⟨rfl, hw1⟩
      obtain ⟨b, hb⟩ : ∃ b, wr.heap.size = b := ⟨_, rfl⟩
      have X1 : Hid (Below w.heap.size w w1) := Lib.hid (by rw [hw1]; exact balloc HX.out _)
      have R1 : Hid (RdB w1 b s (0 : Nat) 9) := Lib.hid (by rw [hw1, ← hb]; exact heap_alloc_new _ _)
      have C1 : Hid (w1.heap[w.heap.size]? = some (.cells badC 9 (0, 0))) := Lib.hid (by rw [hw1]; exact block_alloc HC.out _)
      rw [hb]
      rw [hb] at hz
      clear hw1 a0 hb HX HC
      go_wp2_with fail
      refine (Num_any w1 B b s 0 9 (HT.out.below X1.out) R1.out (Nat.zero_le _) (by omega)).mono ?_
      rintro e w2 ⟨hE2, hm⟩
      rw [HS3.out] at hm
      obtain ⟨hR2, f, rfl, hf, hfb⟩ := hm
      have X2 := Lib.hid (grownBy_below X1.out hE2 (fun k hk => by cases hk; omega))
      have F2 := Lib.hid hfb
      have C2 := Lib.hid (extB_block hE2 (by intro e; have := Option.some.inj e; omega) C1.out)
      clear hE2 hR2 hfb
      go_wp2_with fail
      refine (fault_is w2 f 5 0 (HET.out.below X2.out) F2.out (by decide)).mono ?_
      rintro e w3 ⟨rfl, hb3⟩
      have X3 := Lib.hid (bnext X2.out hb3)
      have C3 : Hid (w3.heap[w.heap.size]? = some (.cells badC 9 (0, 0))) := Lib.hid ((hb3.block _ (lt_of_block C2.out)).trans C2.out)
      clear hb3
      go_wp2
      go_roundg (gk - 1)
      case rel => exact ⟨k + 1, by omega, by go_num, X3, C3⟩
      case measure => omega
    · obtain rfl : k = 10 := by omega
      clear HC
      --STRAIGHT
      go_wp2_with fail
      refine (New_any wr q1 3).mono ?_
      rintro e w1 ⟨rfl, hw1⟩
      have zb : w.heap.size ≤ wr.heap.size := HX.out.size
      obtain ⟨b1, hb⟩ : ∃ b, wr.heap.size = b := ⟨_, rfl⟩
      have hb1 : Below wr.heap.size wr w1 := by rw [hw1]; exact balloc (Below.refl _ _) _
      have X1 := Lib.hid (bnext HX.out hb1)
      have Rb1_w1 : Hid (RdB w1 b1 q1 (0 : Nat) 3) := Lib.hid (by rw [hw1, ← hb]; exact heap_alloc_new _ _)
      rw [hb]
      have wb_b1 : w.heap.size ≤ b1 := by omega
      clear hw1 hb1 hb zb HX
      go_wp2_with fail
      refine (List_any w1 B b1 q1 0 3 (HT.out.below X1.out) Rb1_w1.out (by decide) (by decide) (by decide) (by decide)).mono ?_
      rintro e w2 ⟨hE, hm⟩
      rw [q1_list] at hm
      obtain ⟨rfl, hR⟩ := hm
      have X2 := Lib.hid (grownBy_below X1.out hE (fun k hk => by cases hk; omega))
      have Rb1_w2 : Hid (RdB w2 b1 q1 1 3) := Lib.hid hR
      clear hE hR Rb1_w1 X1
      go_wp2_with fail
      refine (Num_any w2 B b1 q1 1 3 (HT.out.below X2.out) Rb1_w2.out (by decide) (by decide)).mono ?_
      rintro e w3 ⟨hE, hm⟩
      rw [q1_a] at hm
      obtain ⟨rfl, hR⟩ := hm
      have X3 := Lib.hid (grownBy_below X2.out hE (fun k hk => by cases hk; omega))
      have Rb1_w3 : Hid (RdB w3 b1 q1 2 3) := Lib.hid hR
      clear hE hR Rb1_w2 X2
      go_wp2_with fail
      refine (Num_any w3 B b1 q1 2 3 (HT.out.below X3.out) Rb1_w3.out (by decide) (by decide)).mono ?_
      rintro e w4 ⟨hE, hm⟩
      rw [q1_b] at hm
      obtain ⟨rfl, hR⟩ := hm
      have X4 := Lib.hid (grownBy_below X3.out hE (fun k hk => by cases hk; omega))
      have Rb1_w4 : Hid (RdB w4 b1 q1 3 3) := Lib.hid hR
      clear hE hR Rb1_w3 X3
      go_wp2_with fail
      refine (Num_any w4 B b1 q1 3 3 (HT.out.below X4.out) Rb1_w4.out (by decide) (by decide)).mono ?_
      rintro e w5 ⟨hE, hm⟩
      rw [q1_c] at hm
      obtain ⟨rfl, hR⟩ := hm
      have X5 := Lib.hid (grownBy_below X4.out hE (fun k hk => by cases hk; omega))
      have Rb1_w5 : Hid (RdB w5 b1 q1 4 3) := Lib.hid hR
      clear hE hR Rb1_w4 X4
      go_wp2_with fail
      refine (End_any w5 b1 q1 4 3 (HET.out.below X5.out) Rb1_w5.out (by decide) (by decide)).mono ?_
      rintro e w6 ⟨hb1, hm⟩
      rw [show leftOf q1 4 = none from by decide] at hm
      subst hm
      have X6 := Lib.hid (bnext X5.out hb1)
      have Rb1_w6 : Hid (RdB w6 b1 q1 4 3) := Lib.hid ((hb1.block _ (lt_of_block Rb1_w5.out)).trans Rb1_w5.out)
      clear hb1 Rb1_w5 X5
      go_wp2_with fail
      refine (works06_any B w6 (HT.out.below X6.out) (HET.out.below X6.out) (Nat.le_trans hB X6.out.size)).mono ?_
      rintro e w7 ⟨rfl, hb1⟩
      have X7 := Lib.hid (bnext X6.out hb1)
      have Rb1_w7 : Hid (RdB w7 b1 q1 4 3) := Lib.hid ((hb1.block _ (lt_of_block Rb1_w6.out)).trans Rb1_w6.out)
      clear hb1 Rb1_w6 X6
      go_wp2_with fail
      refine (New_any w7 q2 2).mono ?_
      rintro e w8 ⟨rfl, hw1⟩
      have zl := lt_of_block Rb1_w7.out
      have zb : w.heap.size ≤ w7.heap.size := X7.out.size
      obtain ⟨b2, hb⟩ : ∃ b, w7.heap.size = b := ⟨_, rfl⟩
      have hb1 : Below w7.heap.size w7 w8 := by rw [hw1]; exact balloc (Below.refl _ _) _
      have X8 := Lib.hid (bnext X7.out hb1)
      have Rb1_w8 : Hid (RdB w8 b1 q1 4 3) := Lib.hid ((hb1.block _ (lt_of_block Rb1_w7.out)).trans Rb1_w7.out)
      have Rb2_w8 : Hid (RdB w8 b2 q2 (0 : Nat) 2) := Lib.hid (by rw [hw1, ← hb]; exact heap_alloc_new _ _)
      rw [hb]
      have wb_b2 : w.heap.size ≤ b2 := by omega
      have o_b2 : b1 < b2 := by omega
      clear hw1 hb1 hb zb zl Rb1_w7 X7
      go_wp2_with fail
      refine (New_any w8 q3 9).mono ?_
      rintro e w9 ⟨rfl, hw1⟩
      have zl := lt_of_block Rb2_w8.out
      have zb : w.heap.size ≤ w8.heap.size := X8.out.size
      obtain ⟨b3, hb⟩ : ∃ b, w8.heap.size = b := ⟨_, rfl⟩
      have hb1 : Below w8.heap.size w8 w9 := by rw [hw1]; exact balloc (Below.refl _ _) _
      have X9 := Lib.hid (bnext X8.out hb1)
      have Rb1_w9 : Hid (RdB w9 b1 q1 4 3) := Lib.hid ((hb1.block _ (lt_of_block Rb1_w8.out)).trans Rb1_w8.out)
      have Rb2_w9 : Hid (RdB w9 b2 q2 (0 : Nat) 2) := Lib.hid ((hb1.block _ (lt_of_block Rb2_w8.out)).trans Rb2_w8.out)
      have Rb3_w9 : Hid (RdB w9 b3 q3 (0 : Nat) 9) := Lib.hid (by rw [hw1, ← hb]; exact heap_alloc_new _ _)
      rw [hb]
      have wb_b3 : w.heap.size ≤ b3 := by omega
      have o_b3 : b2 < b3 := by omega
      clear hw1 hb1 hb zb zl Rb1_w8 Rb2_w8 X8
      go_wp2_with fail
      refine (Bin_any w9 B b2 q2 0 2 (HT.out.below X9.out) Rb2_w9.out (by decide) (by decide) (by decide) (by decide)).mono ?_
      rintro e w10 ⟨hE, hm⟩
      rw [q2_bin] at hm
      obtain ⟨hR, f1, rfl, hf, hfb⟩ := hm
      have zl := lt_of_block Rb3_w9.out
      have X10 := Lib.hid (grownBy_below X9.out hE (fun k hk => by cases hk; omega))
      have Rb1_w10 : Hid (RdB w10 b1 q1 4 3) := Lib.hid (extB_block hE (by intro e; have := Option.some.inj e; omega) Rb1_w9.out)
      have Rb3_w10 : Hid (RdB w10 b3 q3 (0 : Nat) 9) := Lib.hid (extB_block hE (by intro e; have := Option.some.inj e; omega) Rb3_w9.out)
      have Rb2_w10 : Hid (RdB w10 b2 q2 0 2) := Lib.hid hR
      have Ff1_w10 : Hid (FltB w10 f1 3 0) := Lib.hid hfb
      have o_f1 : b3 < f1 := by omega
      have wb_f1 : w.heap.size ≤ f1 := by omega
      clear hE hR hfb hf zl Rb1_w9 Rb2_w9 Rb3_w9 X9
      go_wp2_with fail
      refine (Str_any w10 B b3 q3 0 9 (HT.out.below X10.out) Rb3_w10.out (by decide) (by decide) (by decide) (by decide)).mono ?_
      rintro e w11 ⟨hE, hm⟩
      rw [q3_str] at hm
      obtain ⟨hR, f2, rfl, hf, hfb⟩ := hm
      have zl := lt_of_block Ff1_w10.out
      have X11 := Lib.hid (grownBy_below X10.out hE (fun k hk => by cases hk; omega))
      have Rb1_w11 : Hid (RdB w11 b1 q1 4 3) := Lib.hid (extB_block hE (by intro e; have := Option.some.inj e; omega) Rb1_w10.out)
      have Rb2_w11 : Hid (RdB w11 b2 q2 0 2) := Lib.hid (extB_block hE (by intro e; have := Option.some.inj e; omega) Rb2_w10.out)
      have Ff1_w11 : Hid (FltB w11 f1 3 0) := Lib.hid (extB_block hE (by intro e; have := Option.some.inj e; omega) Ff1_w10.out)
      have Rb3_w11 : Hid (RdB w11 b3 q3 0 9) := Lib.hid hR
      have Ff2_w11 : Hid (FltB w11 f2 4 0) := Lib.hid hfb
      have o_f2 : f1 < f2 := by omega
      have wb_f2 : w.heap.size ≤ f2 := by omega
      clear hE hR hfb hf zl Rb1_w10 Rb2_w10 Rb3_w10 Ff1_w10 X10
      go_wp2_with fail
      refine (New_any w11 q4 99).mono ?_
      rintro e w12 ⟨rfl, hw1⟩
      have zl := lt_of_block Ff2_w11.out
      have zb : w.heap.size ≤ w11.heap.size := X11.out.size
      obtain ⟨b4, hb⟩ : ∃ b, w11.heap.size = b := ⟨_, rfl⟩
      have hb1 : Below w11.heap.size w11 w12 := by rw [hw1]; exact balloc (Below.refl _ _) _
      have X12 := Lib.hid (bnext X11.out hb1)
      have Rb1_w12 : Hid (RdB w12 b1 q1 4 3) := Lib.hid ((hb1.block _ (lt_of_block Rb1_w11.out)).trans Rb1_w11.out)
      have Rb2_w12 : Hid (RdB w12 b2 q2 0 2) := Lib.hid ((hb1.block _ (lt_of_block Rb2_w11.out)).trans Rb2_w11.out)
      have Rb3_w12 : Hid (RdB w12 b3 q3 0 9) := Lib.hid ((hb1.block _ (lt_of_block Rb3_w11.out)).trans Rb3_w11.out)
      have Ff1_w12 : Hid (FltB w12 f1 3 0) := Lib.hid ((hb1.block _ (lt_of_block Ff1_w11.out)).trans Ff1_w11.out)
      have Ff2_w12 : Hid (FltB w12 f2 4 0) := Lib.hid ((hb1.block _ (lt_of_block Ff2_w11.out)).trans Ff2_w11.out)
      have Rb4_w12 : Hid (RdB w12 b4 q4 (0 : Nat) 99) := Lib.hid (by rw [hw1, ← hb]; exact heap_alloc_new _ _)
      rw [hb]
      have wb_b4 : w.heap.size ≤ b4 := by omega
      have o_b4 : f2 < b4 := by omega
      clear hw1 hb1 hb zb zl Rb1_w11 Rb2_w11 Rb3_w11 Ff1_w11 Ff2_w11 X11
      go_wp2_with fail
      refine (Str_any w12 B b4 q4 0 99 (HT.out.below X12.out) Rb4_w12.out (by decide) (by decide) (by decide) (by decide)).mono ?_
      rintro e w13 ⟨hE, hm⟩
      rw [q4_str] at hm
      obtain ⟨hR, f3, rfl, hf, hfb⟩ := hm
      have zl := lt_of_block Rb4_w12.out
      have X13 := Lib.hid (grownBy_below X12.out hE (fun k hk => by cases hk; omega))
      have Rb1_w13 : Hid (RdB w13 b1 q1 4 3) := Lib.hid (extB_block hE (by intro e; have := Option.some.inj e; omega) Rb1_w12.out)
      have Rb2_w13 : Hid (RdB w13 b2 q2 0 2) := Lib.hid (extB_block hE (by intro e; have := Option.some.inj e; omega) Rb2_w12.out)
      have Rb3_w13 : Hid (RdB w13 b3 q3 0 9) := Lib.hid (extB_block hE (by intro e; have := Option.some.inj e; omega) Rb3_w12.out)
      have Ff1_w13 : Hid (FltB w13 f1 3 0) := Lib.hid (extB_block hE (by intro e; have := Option.some.inj e; omega) Ff1_w12.out)
      have Ff2_w13 : Hid (FltB w13 f2 4 0) := Lib.hid (extB_block hE (by intro e; have := Option.some.inj e; omega) Ff2_w12.out)
      have Rb4_w13 : Hid (RdB w13 b4 q4 0 99) := Lib.hid hR
      have Ff3_w13 : Hid (FltB w13 f3 5 0) := Lib.hid hfb
      have o_f3 : b4 < f3 := by omega
      have wb_f3 : w.heap.size ≤ f3 := by omega
      clear hE hR hfb hf zl Rb1_w12 Rb2_w12 Rb3_w12 Ff1_w12 Ff2_w12 Rb4_w12 X12
      go_wp2_with fail
      refine (New_any w13 q5 99).mono ?_
      rintro e w14 ⟨rfl, hw1⟩
      have zl := lt_of_block Ff3_w13.out
      have zb : w.heap.size ≤ w13.heap.size := X13.out.size
      obtain ⟨b5, hb⟩ : ∃ b, w13.heap.size = b := ⟨_, rfl⟩
      have hb1 : Below w13.heap.size w13 w14 := by rw [hw1]; exact balloc (Below.refl _ _) _
      have X14 := Lib.hid (bnext X13.out hb1)
      have Rb1_w14 : Hid (RdB w14 b1 q1 4 3) := Lib.hid ((hb1.block _ (lt_of_block Rb1_w13.out)).trans Rb1_w13.out)
      have Rb2_w14 : Hid (RdB w14 b2 q2 0 2) := Lib.hid ((hb1.block _ (lt_of_block Rb2_w13.out)).trans Rb2_w13.out)
      have Rb3_w14 : Hid (RdB w14 b3 q3 0 9) := Lib.hid ((hb1.block _ (lt_of_block Rb3_w13.out)).trans Rb3_w13.out)
      have Ff1_w14 : Hid (FltB w14 f1 3 0) := Lib.hid ((hb1.block _ (lt_of_block Ff1_w13.out)).trans Ff1_w13.out)
      have Ff2_w14 : Hid (FltB w14 f2 4 0) := Lib.hid ((hb1.block _ (lt_of_block Ff2_w13.out)).trans Ff2_w13.out)
      have Rb4_w14 : Hid (RdB w14 b4 q4 0 99) := Lib.hid ((hb1.block _ (lt_of_block Rb4_w13.out)).trans Rb4_w13.out)
      have Ff3_w14 : Hid (FltB w14 f3 5 0) := Lib.hid ((hb1.block _ (lt_of_block Ff3_w13.out)).trans Ff3_w13.out)
      have Rb5_w14 : Hid (RdB w14 b5 q5 (0 : Nat) 99) := Lib.hid (by rw [hw1, ← hb]; exact heap_alloc_new _ _)
      rw [hb]
      have wb_b5 : w.heap.size ≤ b5 := by omega
      have o_b5 : f3 < b5 := by omega
      clear hw1 hb1 hb zb zl Rb1_w13 Rb2_w13 Rb3_w13 Ff1_w13 Ff2_w13 Rb4_w13 Ff3_w13 X13
      go_wp2_with fail
      refine (List_any w14 B b5 q5 0 99 (HT.out.below X14.out) Rb5_w14.out (by decide) (by decide) (by decide) (by decide)).mono ?_
      rintro e w15 ⟨hE, hm⟩
      rw [q5_list] at hm
      obtain ⟨hR, f4, rfl, hf, hfb⟩ := hm
      have zl := lt_of_block Rb5_w14.out
      have X15 := Lib.hid (grownBy_below X14.out hE (fun k hk => by cases hk; omega))
      have Rb1_w15 : Hid (RdB w15 b1 q1 4 3) := Lib.hid (extB_block hE (by intro e; have := Option.some.inj e; omega) Rb1_w14.out)
      have Rb2_w15 : Hid (RdB w15 b2 q2 0 2) := Lib.hid (extB_block hE (by intro e; have := Option.some.inj e; omega) Rb2_w14.out)
      have Rb3_w15 : Hid (RdB w15 b3 q3 0 9) := Lib.hid (extB_block hE (by intro e; have := Option.some.inj e; omega) Rb3_w14.out)
      have Ff1_w15 : Hid (FltB w15 f1 3 0) := Lib.hid (extB_block hE (by intro e; have := Option.some.inj e; omega) Ff1_w14.out)
      have Ff2_w15 : Hid (FltB w15 f2 4 0) := Lib.hid (extB_block hE (by intro e; have := Option.some.inj e; omega) Ff2_w14.out)
      have Rb4_w15 : Hid (RdB w15 b4 q4 0 99) := Lib.hid (extB_block hE (by intro e; have := Option.some.inj e; omega) Rb4_w14.out)
      have Ff3_w15 : Hid (FltB w15 f3 5 0) := Lib.hid (extB_block hE (by intro e; have := Option.some.inj e; omega) Ff3_w14.out)
      have Rb5_w15 : Hid (RdB w15 b5 q5 0 99) := Lib.hid hR
      have Ff4_w15 : Hid (FltB w15 f4 5 0) := Lib.hid hfb
      have o_f4 : b5 < f4 := by omega
      have wb_f4 : w.heap.size ≤ f4 := by omega
      clear hE hR hfb hf zl Rb1_w14 Rb2_w14 Rb3_w14 Ff1_w14 Ff2_w14 Rb4_w14 Ff3_w14 Rb5_w14 X14
      go_wp2_with fail
      refine (New_any w15 q6 99).mono ?_
      rintro e w16 ⟨rfl, hw1⟩
      have zl := lt_of_block Ff4_w15.out
      have zb : w.heap.size ≤ w15.heap.size := X15.out.size
      obtain ⟨b6, hb⟩ : ∃ b, w15.heap.size = b := ⟨_, rfl⟩
      have hb1 : Below w15.heap.size w15 w16 := by rw [hw1]; exact balloc (Below.refl _ _) _
      have X16 := Lib.hid (bnext X15.out hb1)
      have Rb1_w16 : Hid (RdB w16 b1 q1 4 3) := Lib.hid ((hb1.block _ (lt_of_block Rb1_w15.out)).trans Rb1_w15.out)
      have Rb2_w16 : Hid (RdB w16 b2 q2 0 2) := Lib.hid ((hb1.block _ (lt_of_block Rb2_w15.out)).trans Rb2_w15.out)
      have Rb3_w16 : Hid (RdB w16 b3 q3 0 9) := Lib.hid ((hb1.block _ (lt_of_block Rb3_w15.out)).trans Rb3_w15.out)
      have Ff1_w16 : Hid (FltB w16 f1 3 0) := Lib.hid ((hb1.block _ (lt_of_block Ff1_w15.out)).trans Ff1_w15.out)
      have Ff2_w16 : Hid (FltB w16 f2 4 0) := Lib.hid ((hb1.block _ (lt_of_block Ff2_w15.out)).trans Ff2_w15.out)
      have Rb4_w16 : Hid (RdB w16 b4 q4 0 99) := Lib.hid ((hb1.block _ (lt_of_block Rb4_w15.out)).trans Rb4_w15.out)
      have Ff3_w16 : Hid (FltB w16 f3 5 0) := Lib.hid ((hb1.block _ (lt_of_block Ff3_w15.out)).trans Ff3_w15.out)
      have Rb5_w16 : Hid (RdB w16 b5 q5 0 99) := Lib.hid ((hb1.block _ (lt_of_block Rb5_w15.out)).trans Rb5_w15.out)
      have Ff4_w16 : Hid (FltB w16 f4 5 0) := Lib.hid ((hb1.block _ (lt_of_block Ff4_w15.out)).trans Ff4_w15.out)
      have Rb6_w16 : Hid (RdB w16 b6 q6 (0 : Nat) 99) := Lib.hid (by rw [hw1, ← hb]; exact heap_alloc_new _ _)
      rw [hb]
      have wb_b6 : w.heap.size ≤ b6 := by omega
      have o_b6 : f4 < b6 := by omega
      clear hw1 hb1 hb zb zl Rb1_w15 Rb2_w15 Rb3_w15 Ff1_w15 Ff2_w15 Rb4_w15 Ff3_w15 Rb5_w15 Ff4_w15 X15
      go_wp2_with fail
      refine (Map_any w16 B b6 q6 0 99 (HT.out.below X16.out) Rb6_w16.out (by decide) (by decide) (by decide) (by decide)).mono ?_
      rintro e w17 ⟨hE, hm⟩
      rw [q6_map] at hm
      obtain ⟨hR, f5, rfl, hf, hfb⟩ := hm
      have zl := lt_of_block Rb6_w16.out
      have X17 := Lib.hid (grownBy_below X16.out hE (fun k hk => by cases hk; omega))
      have Rb1_w17 : Hid (RdB w17 b1 q1 4 3) := Lib.hid (extB_block hE (by intro e; have := Option.some.inj e; omega) Rb1_w16.out)
      have Rb2_w17 : Hid (RdB w17 b2 q2 0 2) := Lib.hid (extB_block hE (by intro e; have := Option.some.inj e; omega) Rb2_w16.out)
      have Rb3_w17 : Hid (RdB w17 b3 q3 0 9) := Lib.hid (extB_block hE (by intro e; have := Option.some.inj e; omega) Rb3_w16.out)
      have Ff1_w17 : Hid (FltB w17 f1 3 0) := Lib.hid (extB_block hE (by intro e; have := Option.some.inj e; omega) Ff1_w16.out)
      have Ff2_w17 : Hid (FltB w17 f2 4 0) := Lib.hid (extB_block hE (by intro e; have := Option.some.inj e; omega) Ff2_w16.out)
      have Rb4_w17 : Hid (RdB w17 b4 q4 0 99) := Lib.hid (extB_block hE (by intro e; have := Option.some.inj e; omega) Rb4_w16.out)
      have Ff3_w17 : Hid (FltB w17 f3 5 0) := Lib.hid (extB_block hE (by intro e; have := Option.some.inj e; omega) Ff3_w16.out)
      have Rb5_w17 : Hid (RdB w17 b5 q5 0 99) := Lib.hid (extB_block hE (by intro e; have := Option.some.inj e; omega) Rb5_w16.out)
      have Ff4_w17 : Hid (FltB w17 f4 5 0) := Lib.hid (extB_block hE (by intro e; have := Option.some.inj e; omega) Ff4_w16.out)
      have Rb6_w17 : Hid (RdB w17 b6 q6 0 99) := Lib.hid hR
      have Ff5_w17 : Hid (FltB w17 f5 4 0) := Lib.hid hfb
      have o_f5 : b6 < f5 := by omega
      have wb_f5 : w.heap.size ≤ f5 := by omega
      clear hE hR hfb hf zl Rb1_w16 Rb2_w16 Rb3_w16 Ff1_w16 Ff2_w16 Rb4_w16 Ff3_w16 Rb5_w16 Ff4_w16 Rb6_w16 X16
      go_wp2_with fail
      refine (Num_nil w17 B (HT.out.below X17.out)).mono ?_
      rintro e w18 ⟨hb1, f6, rfl, hf, hfb⟩
      have zl := lt_of_block Ff5_w17.out
      have zb : w.heap.size ≤ w17.heap.size := X17.out.size
      have X18 := Lib.hid (bnext X17.out hb1)
      have Rb1_w18 : Hid (RdB w18 b1 q1 4 3) := Lib.hid ((hb1.block _ (lt_of_block Rb1_w17.out)).trans Rb1_w17.out)
      have Rb2_w18 : Hid (RdB w18 b2 q2 0 2) := Lib.hid ((hb1.block _ (lt_of_block Rb2_w17.out)).trans Rb2_w17.out)
      have Rb3_w18 : Hid (RdB w18 b3 q3 0 9) := Lib.hid ((hb1.block _ (lt_of_block Rb3_w17.out)).trans Rb3_w17.out)
      have Ff1_w18 : Hid (FltB w18 f1 3 0) := Lib.hid ((hb1.block _ (lt_of_block Ff1_w17.out)).trans Ff1_w17.out)
      have Ff2_w18 : Hid (FltB w18 f2 4 0) := Lib.hid ((hb1.block _ (lt_of_block Ff2_w17.out)).trans Ff2_w17.out)
      have Rb4_w18 : Hid (RdB w18 b4 q4 0 99) := Lib.hid ((hb1.block _ (lt_of_block Rb4_w17.out)).trans Rb4_w17.out)
      have Ff3_w18 : Hid (FltB w18 f3 5 0) := Lib.hid ((hb1.block _ (lt_of_block Ff3_w17.out)).trans Ff3_w17.out)
      have Rb5_w18 : Hid (RdB w18 b5 q5 0 99) := Lib.hid ((hb1.block _ (lt_of_block Rb5_w17.out)).trans Rb5_w17.out)
      have Ff4_w18 : Hid (FltB w18 f4 5 0) := Lib.hid ((hb1.block _ (lt_of_block Ff4_w17.out)).trans Ff4_w17.out)
      have Rb6_w18 : Hid (RdB w18 b6 q6 0 99) := Lib.hid ((hb1.block _ (lt_of_block Rb6_w17.out)).trans Rb6_w17.out)
      have Ff5_w18 : Hid (FltB w18 f5 4 0) := Lib.hid ((hb1.block _ (lt_of_block Ff5_w17.out)).trans Ff5_w17.out)
      have Ff6_w18 : Hid (FltB w18 f6 1 0) := Lib.hid hfb
      have o_f6 : f5 < f6 := by omega
      have wb_f6 : w.heap.size ≤ f6 := by omega
      clear hb1 hfb hf zl zb Rb1_w17 Rb2_w17 Rb3_w17 Ff1_w17 Ff2_w17 Rb4_w17 Ff3_w17 Rb5_w17 Ff4_w17 Rb6_w17 Ff5_w17 X17
      go_wp2_with fail
      refine (Str_nil w18 B (HT.out.below X18.out)).mono ?_
      rintro e w19 ⟨hb1, f7, rfl, hf, hfb⟩
      have zl := lt_of_block Ff6_w18.out
      have zb : w.heap.size ≤ w18.heap.size := X18.out.size
      have X19 := Lib.hid (bnext X18.out hb1)
      have Rb1_w19 : Hid (RdB w19 b1 q1 4 3) := Lib.hid ((hb1.block _ (lt_of_block Rb1_w18.out)).trans Rb1_w18.out)
      have Rb2_w19 : Hid (RdB w19 b2 q2 0 2) := Lib.hid ((hb1.block _ (lt_of_block Rb2_w18.out)).trans Rb2_w18.out)
      have Rb3_w19 : Hid (RdB w19 b3 q3 0 9) := Lib.hid ((hb1.block _ (lt_of_block Rb3_w18.out)).trans Rb3_w18.out)
      have Ff1_w19 : Hid (FltB w19 f1 3 0) := Lib.hid ((hb1.block _ (lt_of_block Ff1_w18.out)).trans Ff1_w18.out)
      have Ff2_w19 : Hid (FltB w19 f2 4 0) := Lib.hid ((hb1.block _ (lt_of_block Ff2_w18.out)).trans Ff2_w18.out)
      have Rb4_w19 : Hid (RdB w19 b4 q4 0 99) := Lib.hid ((hb1.block _ (lt_of_block Rb4_w18.out)).trans Rb4_w18.out)
      have Ff3_w19 : Hid (FltB w19 f3 5 0) := Lib.hid ((hb1.block _ (lt_of_block Ff3_w18.out)).trans Ff3_w18.out)
      have Rb5_w19 : Hid (RdB w19 b5 q5 0 99) := Lib.hid ((hb1.block _ (lt_of_block Rb5_w18.out)).trans Rb5_w18.out)
      have Ff4_w19 : Hid (FltB w19 f4 5 0) := Lib.hid ((hb1.block _ (lt_of_block Ff4_w18.out)).trans Ff4_w18.out)
      have Rb6_w19 : Hid (RdB w19 b6 q6 0 99) := Lib.hid ((hb1.block _ (lt_of_block Rb6_w18.out)).trans Rb6_w18.out)
      have Ff5_w19 : Hid (FltB w19 f5 4 0) := Lib.hid ((hb1.block _ (lt_of_block Ff5_w18.out)).trans Ff5_w18.out)
      have Ff6_w19 : Hid (FltB w19 f6 1 0) := Lib.hid ((hb1.block _ (lt_of_block Ff6_w18.out)).trans Ff6_w18.out)
      have Ff7_w19 : Hid (FltB w19 f7 1 0) := Lib.hid hfb
      have o_f7 : f6 < f7 := by omega
      have wb_f7 : w.heap.size ≤ f7 := by omega
      clear hb1 hfb hf zl zb Rb1_w18 Rb2_w18 Rb3_w18 Ff1_w18 Ff2_w18 Rb4_w18 Ff3_w18 Rb5_w18 Ff4_w18 Rb6_w18 Ff5_w18 Ff6_w18 X18
      go_wp2_with fail
      obtain ⟨w20, hw1⟩ : ∃ V, w19.alloc (.cells #[.int .i64 3, .int .i64 4, .int .i64 5, .int .i64 5, .int .i64 4, .int .i64 1, .int .i64 1, .int .i64 1] 34) = V := ⟨_, rfl⟩
      rw [hw1]
      have zl := lt_of_block Ff7_w19.out
      have zb : w.heap.size ≤ w19.heap.size := X19.out.size
      obtain ⟨c0, hb⟩ : ∃ b, w19.heap.size = b := ⟨_, rfl⟩
      have hb1 : Below w19.heap.size w19 w20 := by rw [← hw1]; exact balloc (Below.refl _ _) _
      have X20 := Lib.hid (bnext X19.out hb1)
      have Rb1_w20 : Hid (RdB w20 b1 q1 4 3) := Lib.hid ((hb1.block _ (lt_of_block Rb1_w19.out)).trans Rb1_w19.out)
      have Rb2_w20 : Hid (RdB w20 b2 q2 0 2) := Lib.hid ((hb1.block _ (lt_of_block Rb2_w19.out)).trans Rb2_w19.out)
      have Rb3_w20 : Hid (RdB w20 b3 q3 0 9) := Lib.hid ((hb1.block _ (lt_of_block Rb3_w19.out)).trans Rb3_w19.out)
      have Ff1_w20 : Hid (FltB w20 f1 3 0) := Lib.hid ((hb1.block _ (lt_of_block Ff1_w19.out)).trans Ff1_w19.out)
      have Ff2_w20 : Hid (FltB w20 f2 4 0) := Lib.hid ((hb1.block _ (lt_of_block Ff2_w19.out)).trans Ff2_w19.out)
      have Rb4_w20 : Hid (RdB w20 b4 q4 0 99) := Lib.hid ((hb1.block _ (lt_of_block Rb4_w19.out)).trans Rb4_w19.out)
      have Ff3_w20 : Hid (FltB w20 f3 5 0) := Lib.hid ((hb1.block _ (lt_of_block Ff3_w19.out)).trans Ff3_w19.out)
      have Rb5_w20 : Hid (RdB w20 b5 q5 0 99) := Lib.hid ((hb1.block _ (lt_of_block Rb5_w19.out)).trans Rb5_w19.out)
      have Ff4_w20 : Hid (FltB w20 f4 5 0) := Lib.hid ((hb1.block _ (lt_of_block Ff4_w19.out)).trans Ff4_w19.out)
      have Rb6_w20 : Hid (RdB w20 b6 q6 0 99) := Lib.hid ((hb1.block _ (lt_of_block Rb6_w19.out)).trans Rb6_w19.out)
      have Ff5_w20 : Hid (FltB w20 f5 4 0) := Lib.hid ((hb1.block _ (lt_of_block Ff5_w19.out)).trans Ff5_w19.out)
      have Ff6_w20 : Hid (FltB w20 f6 1 0) := Lib.hid ((hb1.block _ (lt_of_block Ff6_w19.out)).trans Ff6_w19.out)
      have Ff7_w20 : Hid (FltB w20 f7 1 0) := Lib.hid ((hb1.block _ (lt_of_block Ff7_w19.out)).trans Ff7_w19.out)
      have Cc0_w20 : Hid (w20.heap[c0]? = some (.cells wantC 34 (0, 0))) := Lib.hid (by rw [← hw1, ← hb]; exact heap_alloc_new _ _)
      rw [hb]
      have wb_c0 : w.heap.size ≤ c0 := by omega
      have o_c0 : f7 < c0 := by omega
      clear hw1 hb1 hb zb zl Rb1_w19 Rb2_w19 Rb3_w19 Ff1_w19 Ff2_w19 Rb4_w19 Ff3_w19 Rb5_w19 Ff4_w19 Rb6_w19 Ff5_w19 Ff6_w19 Ff7_w19 X19
      go_wp2_with fail
      refine (End_nil w20).mono ?_
      rintro e w21 ⟨hb1, f8, rfl, hf, hfb⟩
      have zl := lt_of_block Cc0_w20.out
      have zb : w.heap.size ≤ w20.heap.size := X20.out.size
      have X21 := Lib.hid (bnext X20.out hb1)
      have Rb1_w21 : Hid (RdB w21 b1 q1 4 3) := Lib.hid ((hb1.block _ (lt_of_block Rb1_w20.out)).trans Rb1_w20.out)
      have Rb2_w21 : Hid (RdB w21 b2 q2 0 2) := Lib.hid ((hb1.block _ (lt_of_block Rb2_w20.out)).trans Rb2_w20.out)
      have Rb3_w21 : Hid (RdB w21 b3 q3 0 9) := Lib.hid ((hb1.block _ (lt_of_block Rb3_w20.out)).trans Rb3_w20.out)
      have Ff1_w21 : Hid (FltB w21 f1 3 0) := Lib.hid ((hb1.block _ (lt_of_block Ff1_w20.out)).trans Ff1_w20.out)
      have Ff2_w21 : Hid (FltB w21 f2 4 0) := Lib.hid ((hb1.block _ (lt_of_block Ff2_w20.out)).trans Ff2_w20.out)
      have Rb4_w21 : Hid (RdB w21 b4 q4 0 99) := Lib.hid ((hb1.block _ (lt_of_block Rb4_w20.out)).trans Rb4_w20.out)
      have Ff3_w21 : Hid (FltB w21 f3 5 0) := Lib.hid ((hb1.block _ (lt_of_block Ff3_w20.out)).trans Ff3_w20.out)
      have Rb5_w21 : Hid (RdB w21 b5 q5 0 99) := Lib.hid ((hb1.block _ (lt_of_block Rb5_w20.out)).trans Rb5_w20.out)
      have Ff4_w21 : Hid (FltB w21 f4 5 0) := Lib.hid ((hb1.block _ (lt_of_block Ff4_w20.out)).trans Ff4_w20.out)
      have Rb6_w21 : Hid (RdB w21 b6 q6 0 99) := Lib.hid ((hb1.block _ (lt_of_block Rb6_w20.out)).trans Rb6_w20.out)
      have Ff5_w21 : Hid (FltB w21 f5 4 0) := Lib.hid ((hb1.block _ (lt_of_block Ff5_w20.out)).trans Ff5_w20.out)
      have Ff6_w21 : Hid (FltB w21 f6 1 0) := Lib.hid ((hb1.block _ (lt_of_block Ff6_w20.out)).trans Ff6_w20.out)
      have Ff7_w21 : Hid (FltB w21 f7 1 0) := Lib.hid ((hb1.block _ (lt_of_block Ff7_w20.out)).trans Ff7_w20.out)
      have Cc0_w21 : Hid (w21.heap[c0]? = some (.cells wantC 34 (0, 0))) := Lib.hid ((hb1.block _ (lt_of_block Cc0_w20.out)).trans Cc0_w20.out)
      have Ff8_w21 : Hid (FltB w21 f8 1 0) := Lib.hid hfb
      have o_f8 : c0 < f8 := by omega
      have wb_f8 : w.heap.size ≤ f8 := by omega
      clear hb1 hfb hf zl zb Rb1_w20 Rb2_w20 Rb3_w20 Ff1_w20 Ff2_w20 Rb4_w20 Ff3_w20 Rb5_w20 Ff4_w20 Rb6_w20 Ff5_w20 Ff6_w20 Ff7_w20 Cc0_w20 X20
      go_wp2_with fail
      obtain ⟨GK, hGK⟩ : ∃ G, G = gk := ⟨_, rfl⟩
      subst hGK
      have FL : Hid (Flts w21 (fltL f1 f2 f3 f4 f5 f6 f7 f8)) := Lib.hid (flts_all Ff1_w21.out Ff2_w21.out Ff3_w21.out Ff4_w21.out Ff5_w21.out Ff6_w21.out Ff7_w21.out Ff8_w21.out)
      have WT := Cc0_w21
      have zl := lt_of_block Ff8_w21.out
      have zb : w.heap.size ≤ w21.heap.size := X21.out.size
      obtain ⟨c1, hb⟩ : ∃ b, w21.heap.size = b := ⟨_, rfl⟩
      rw [hb]
      have hb2 := Lib.hid hb
      clear hb Rb1_w21 Rb2_w21 Rb3_w21 Ff1_w21 Ff2_w21 Rb4_w21 Ff3_w21 Rb5_w21 Ff4_w21 Rb6_w21 Ff5_w21 Ff6_w21 Ff7_w21 Cc0_w21 Ff8_w21
      go_loopg [179] 8 (fun g i wr => ∃ k : Nat, g + k = 8 ∧ i = .int .i64 k ∧ Hid (Below w.heap.size w wr) ∧ Hid (wr.heap[c0]? = some (.cells wantC 34 (0, 0))) ∧ Hid (wr.heap[c1]? = some (.cells (errsC f1 f2 f3 f4 f5 f6 f7 f8) 31 (0, 0))) ∧ Hid (Flts wr (fltL f1 f2 f3 f4 f5 f6 f7 f8)))
      case atStart => exact ⟨0, rfl, rfl, Lib.hid (balloc X21.out _), Lib.hid (block_alloc WT.out _), Lib.hid (alloc_new_at _ hb2.out), Lib.hid (FL.out.below (balloc (Below.refl _ _) _))⟩
      case round =>
        clear FL WT hb2
        obtain ⟨k, hk0, rfl, HX, HW, HE, HF⟩ := hrel
        by_cases hlt : k < 8
        · have b0 : (k : Int) < 8 := by omega
          obtain ⟨f, c, he1, he2, he3, he4⟩ := errs_at f1 f2 f3 f4 f5 f6 f7 f8 k hlt
          have a0 : wr.cell? ⟨c1, k, none⟩ = some (.iface 61 (.pointer (some ⟨f, 0, none⟩))) := (block_cell HE.out k).trans he1
          have a1 : wr.cell? ⟨c0, k, none⟩ = some (.int .i64 c) := (block_cell HW.out k).trans he2
          have FF := Lib.hid (HF.out _ he3)
          clear he1 he2 he3
          go_wp2_with fail
          refine (fault_is wr f c 0 (HET.out.below HX.out) FF.out he4).mono ?_
          rintro e wq ⟨rfl, hb3⟩
          have Xq := Lib.hid (bnext HX.out hb3)
          have Wq : Hid (wq.heap[c0]? = some (.cells wantC 34 (0, 0))) := Lib.hid ((hb3.block _ (lt_of_block HW.out)).trans HW.out)
          have Eq : Hid (wq.heap[c1]? = some (.cells (errsC f1 f2 f3 f4 f5 f6 f7 f8) 31 (0, 0))) := Lib.hid ((hb3.block _ (lt_of_block HE.out)).trans HE.out)
          have Fq := Lib.hid (HF.out.below hb3)
          have a1 : wq.cell? ⟨c0, k, none⟩ = some (.int .i64 c) := by rw [hb3.cell (p := ⟨c0, k, none⟩) (lt_of_block HW.out)]; exact a1
          clear hb3 a0 HX HW HE HF FF
          go_wp2
          go_roundg (gk - 1)
          case rel => exact ⟨k + 1, by omega, by go_num, Xq, Wq, Eq, Fq⟩
          case measure => omega
        · obtain rfl : k = 8 := by omega
          clear HW HE HF
          go_wp2_with fail
          refine (New_any wr q7 (-5)).mono ?_
          rintro e w22 ⟨rfl, hw1⟩
          have zb : w.heap.size ≤ wr.heap.size := HX.out.size
          obtain ⟨b7, hb⟩ : ∃ b, wr.heap.size = b := ⟨_, rfl⟩
          have hb1 : Below wr.heap.size wr w22 := by rw [hw1]; exact balloc (Below.refl _ _) _
          have X22 := Lib.hid (bnext HX.out hb1)
          have Rb7_w22 : Hid (RdB w22 b7 q7 (0 : Nat) 0) := Lib.hid (by rw [hw1, ← hb]; exact heap_alloc_new _ _)
          rw [hb]
          have wb_b7 : w.heap.size ≤ b7 := by omega
          clear hw1 hb1 hb zb HX
          go_wp2_with fail
          refine (Num_any w22 B b7 q7 0 0 (HT.out.below X22.out) Rb7_w22.out (by decide) (by decide)).mono ?_
          rintro e w23 ⟨hE, hm⟩
          rw [q7_num] at hm
          obtain ⟨rfl, hR⟩ := hm
          have X23 := Lib.hid (grownBy_below X22.out hE (fun k hk => by cases hk; omega))
          have Rb7_w23 : Hid (RdB w23 b7 q7 9 0) := Lib.hid hR
          clear hE hR Rb7_w22 X22
          go_wp2_with fail
          refine (New_any w23 q8 (-5)).mono ?_
          rintro e w24 ⟨rfl, hw1⟩
          have zl := lt_of_block Rb7_w23.out
          have zb : w.heap.size ≤ w23.heap.size := X23.out.size
          obtain ⟨b8, hb⟩ : ∃ b, w23.heap.size = b := ⟨_, rfl⟩
          have hb1 : Below w23.heap.size w23 w24 := by rw [hw1]; exact balloc (Below.refl _ _) _
          have X24 := Lib.hid (bnext X23.out hb1)
          have Rb7_w24 : Hid (RdB w24 b7 q7 9 0) := Lib.hid ((hb1.block _ (lt_of_block Rb7_w23.out)).trans Rb7_w23.out)
          have Rb8_w24 : Hid (RdB w24 b8 q8 (0 : Nat) 0) := Lib.hid (by rw [hw1, ← hb]; exact heap_alloc_new _ _)
          rw [hb]
          have wb_b8 : w.heap.size ≤ b8 := by omega
          have o_b8 : b7 < b8 := by omega
          clear hw1 hb1 hb zb zl Rb7_w23 X23
          go_wp2_with fail
          refine (Bin_any w24 B b8 q8 0 0 (HT.out.below X24.out) Rb8_w24.out (by decide) (by decide) (by decide) (by decide)).mono ?_
          rintro e w25 ⟨hE, hm⟩
          rw [q8_bin] at hm
          obtain ⟨rfl, hR⟩ := hm
          have X25 := Lib.hid (grownBy_below X24.out hE (fun k hk => by cases hk; omega))
          have Rb7_w25 : Hid (RdB w25 b7 q7 9 0) := Lib.hid (extB_block hE (by intro e; have := Option.some.inj e; omega) Rb7_w24.out)
          have Rb8_w25 : Hid (RdB w25 b8 q8 2 0) := Lib.hid hR
          clear hE hR Rb7_w24 Rb8_w24 X24
          go_wp2
          go_ret
          exact ⟨rfl, X25.out⟩
      --ENDSTRAIGHT
end Go.Proofs.YtmcmapcijncblaaDoor
