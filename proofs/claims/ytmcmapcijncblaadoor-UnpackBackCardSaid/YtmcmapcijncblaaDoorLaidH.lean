/- The statement's own 'laid': a thing laid by hand, the shortest way. -/
import Derived.Test.YtmcmapcijncblaaDoorUnpP
namespace Go.Proofs.YtmcmapcijncblaaDoor
open Go.RowKit
set_option linter.unusedSimpArgs false
set_option linter.unusedVariables false

/-- A thing of a sort, laid the shortest way. -/
def laidOf (sort : Nat) (n : Int) (t : ByteArray) : ByteArray := ⟨(headB (rowFor sort n) n ++ (if sort = 1 ∨ sort = 2 then t.data.toList else [])).toArray⟩

theorem hi_size (n : Int) (k : Nat) : (strOfNums (hiL n k)).size = k := by rw [strOfNums_size, hiL_len]

set_option maxRecDepth 100000 in
set_option maxHeartbeats 2000000 in
theorem laid_any (w : World) (sort : Nat) (n : Int) (t : ByteArray) (h5 : sort < 5) (n0 : 0 ≤ n) (n1 : n ≤ 18446744073709551615) (ht : t.size ≤ 9223372036854770000) :
    Calls Tryd.prog 14 #[.int .i64 sort, .int .u64 n, .string t] w fun e w' => e = .returned (.string (laidOf sort n t)) ∧ Below w.heap.size w w' := by
  obtain ⟨q, hq⟩ : ∃ q : Int, (sort : Int) = q := ⟨_, rfl⟩
  rw [hq]
  go_enter Tryd.func14, Tryd.ntmps14
  by_cases s0 : q = 0
  · obtain rfl : sort = 0 := by omega
    subst s0
    clear hq
    by_cases c1 : n < 128
    ·
      have zz := hi_size (n) 1
      go_wp2_with fail
      refine (high_any w (n) 1 (by decide) (by omega) (by omega)).mono ?_
      rintro e w1 ⟨rfl, hb⟩
      go_wp2_with fail
      go_ret
      refine ⟨congrArg (fun s => Ending.returned (.string s)) (ba_ext ?_), hb⟩
      unfold laidOf rowFor
      simp only []
      repeat (first | rw [if_pos (by omega)] | rw [if_neg (by omega)])
      unfold headB
      simp only [↓reduceIte, Int.reduceEq, Nat.reduceEqDiff, or_true, or_false, true_or, false_or]
      first | rfl | (simp [strOfNums_data]; done) | (simp [strOfNums_data]; rfl) | (simp [strOfNums_data]; exact ⟨rfl, fun _ _ => rfl⟩) | (simp [hiL, toB, strOfNums_data]; congr 2; omega)
    by_cases c2 : n < 256
    ·
      have zz := hi_size (n) 1
      go_wp2_with fail
      refine (high_any w (n) 1 (by decide) (by omega) (by omega)).mono ?_
      rintro e w1 ⟨rfl, hb⟩
      go_wp2_with fail
      go_ret
      refine ⟨congrArg (fun s => Ending.returned (.string s)) (ba_ext ?_), hb⟩
      unfold laidOf rowFor
      simp only []
      repeat (first | rw [if_pos (by omega)] | rw [if_neg (by omega)])
      unfold headB
      simp only [↓reduceIte, Int.reduceEq, Nat.reduceEqDiff, or_true, or_false, true_or, false_or]
      first | rfl | (simp [strOfNums_data]; done) | (simp [strOfNums_data]; rfl) | (simp [strOfNums_data]; exact ⟨rfl, fun _ _ => rfl⟩) | (simp [hiL, toB, strOfNums_data]; congr 2; omega)
    by_cases c3 : n < 65536
    ·
      have zz := hi_size (n) 2
      go_wp2_with fail
      refine (high_any w (n) 2 (by decide) (by omega) (by omega)).mono ?_
      rintro e w1 ⟨rfl, hb⟩
      go_wp2_with fail
      go_ret
      refine ⟨congrArg (fun s => Ending.returned (.string s)) (ba_ext ?_), hb⟩
      unfold laidOf rowFor
      simp only []
      repeat (first | rw [if_pos (by omega)] | rw [if_neg (by omega)])
      unfold headB
      simp only [↓reduceIte, Int.reduceEq, Nat.reduceEqDiff, or_true, or_false, true_or, false_or]
      first | rfl | (simp [strOfNums_data]; done) | (simp [strOfNums_data]; rfl) | (simp [strOfNums_data]; exact ⟨rfl, fun _ _ => rfl⟩) | (simp [hiL, toB, strOfNums_data]; congr 2; omega)
    by_cases c4 : n < 4294967296
    ·
      have zz := hi_size (n) 4
      go_wp2_with fail
      refine (high_any w (n) 4 (by decide) (by omega) (by omega)).mono ?_
      rintro e w1 ⟨rfl, hb⟩
      go_wp2_with fail
      go_ret
      refine ⟨congrArg (fun s => Ending.returned (.string s)) (ba_ext ?_), hb⟩
      unfold laidOf rowFor
      simp only []
      repeat (first | rw [if_pos (by omega)] | rw [if_neg (by omega)])
      unfold headB
      simp only [↓reduceIte, Int.reduceEq, Nat.reduceEqDiff, or_true, or_false, true_or, false_or]
      first | rfl | (simp [strOfNums_data]; done) | (simp [strOfNums_data]; rfl) | (simp [strOfNums_data]; exact ⟨rfl, fun _ _ => rfl⟩) | (simp [hiL, toB, strOfNums_data]; congr 2; omega)
    have zz := hi_size (n) 8
    go_wp2_with fail
    refine (high_any w (n) 8 (by decide) (by omega) (by omega)).mono ?_
    rintro e w1 ⟨rfl, hb⟩
    go_wp2_with fail
    go_ret
    refine ⟨congrArg (fun s => Ending.returned (.string s)) (ba_ext ?_), hb⟩
    unfold laidOf rowFor
    simp only []
    repeat (first | rw [if_pos (by omega)] | rw [if_neg (by omega)])
    unfold headB
    simp only [↓reduceIte, Int.reduceEq, Nat.reduceEqDiff, or_true, or_false, true_or, false_or]
    first | rfl | (simp [strOfNums_data]; done) | (simp [strOfNums_data]; rfl) | (simp [strOfNums_data]; exact ⟨rfl, fun _ _ => rfl⟩) | (simp [hiL, toB, strOfNums_data]; congr 2; omega)
  by_cases s1 : q = 1
  · obtain rfl : sort = 1 := by omega
    subst s1
    clear hq
    by_cases c1 : n < 256
    ·
      have zz := hi_size (n) 1
      go_wp2_with fail
      refine (high_any w (n) 1 (by decide) (by omega) (by omega)).mono ?_
      rintro e w1 ⟨rfl, hb⟩
      go_wp2_with fail
      go_ret
      refine ⟨congrArg (fun s => Ending.returned (.string s)) (ba_ext ?_), hb⟩
      unfold laidOf rowFor
      simp only []
      repeat (first | rw [if_pos (by omega)] | rw [if_neg (by omega)])
      unfold headB
      simp only [↓reduceIte, Int.reduceEq, Nat.reduceEqDiff, or_true, or_false, true_or, false_or]
      first | rfl | (simp [strOfNums_data]; done) | (simp [strOfNums_data]; rfl) | (simp [strOfNums_data]; exact ⟨rfl, fun _ _ => rfl⟩) | (simp [hiL, toB, strOfNums_data]; congr 2; omega)
    have zz := hi_size (n) 2
    go_wp2_with fail
    refine (high_any w (n) 2 (by decide) (by omega) (by omega)).mono ?_
    rintro e w1 ⟨rfl, hb⟩
    go_wp2_with fail
    go_ret
    refine ⟨congrArg (fun s => Ending.returned (.string s)) (ba_ext ?_), hb⟩
    unfold laidOf rowFor
    simp only []
    repeat (first | rw [if_pos (by omega)] | rw [if_neg (by omega)])
    unfold headB
    simp only [↓reduceIte, Int.reduceEq, Nat.reduceEqDiff, or_true, or_false, true_or, false_or]
    first | rfl | (simp [strOfNums_data]; done) | (simp [strOfNums_data]; rfl) | (simp [strOfNums_data]; exact ⟨rfl, fun _ _ => rfl⟩) | (simp [hiL, toB, strOfNums_data]; congr 2; omega)
  by_cases s2 : q = 2
  · obtain rfl : sort = 2 := by omega
    subst s2
    clear hq
    by_cases c1 : n < 32
    ·
      have zz := hi_size (160 + n) 1
      go_wp2_with fail
      refine (high_any w (160 + n) 1 (by decide) (by omega) (by omega)).mono ?_
      rintro e w1 ⟨rfl, hb⟩
      go_wp2_with fail
      go_ret
      refine ⟨congrArg (fun s => Ending.returned (.string s)) (ba_ext ?_), hb⟩
      unfold laidOf rowFor
      simp only []
      repeat (first | rw [if_pos (by omega)] | rw [if_neg (by omega)])
      unfold headB
      simp only [↓reduceIte, Int.reduceEq, Nat.reduceEqDiff, or_true, or_false, true_or, false_or]
      first | rfl | (simp [strOfNums_data]; done) | (simp [strOfNums_data]; rfl) | (simp [strOfNums_data]; exact ⟨rfl, fun _ _ => rfl⟩) | (simp [hiL, toB, strOfNums_data]; congr 2; omega)
    by_cases c2 : n < 256
    ·
      have zz := hi_size (n) 1
      go_wp2_with fail
      refine (high_any w (n) 1 (by decide) (by omega) (by omega)).mono ?_
      rintro e w1 ⟨rfl, hb⟩
      go_wp2_with fail
      go_ret
      refine ⟨congrArg (fun s => Ending.returned (.string s)) (ba_ext ?_), hb⟩
      unfold laidOf rowFor
      simp only []
      repeat (first | rw [if_pos (by omega)] | rw [if_neg (by omega)])
      unfold headB
      simp only [↓reduceIte, Int.reduceEq, Nat.reduceEqDiff, or_true, or_false, true_or, false_or]
      first | rfl | (simp [strOfNums_data]; done) | (simp [strOfNums_data]; rfl) | (simp [strOfNums_data]; exact ⟨rfl, fun _ _ => rfl⟩) | (simp [hiL, toB, strOfNums_data]; congr 2; omega)
    have zz := hi_size (n) 2
    go_wp2_with fail
    refine (high_any w (n) 2 (by decide) (by omega) (by omega)).mono ?_
    rintro e w1 ⟨rfl, hb⟩
    go_wp2_with fail
    go_ret
    refine ⟨congrArg (fun s => Ending.returned (.string s)) (ba_ext ?_), hb⟩
    unfold laidOf rowFor
    simp only []
    repeat (first | rw [if_pos (by omega)] | rw [if_neg (by omega)])
    unfold headB
    simp only [↓reduceIte, Int.reduceEq, Nat.reduceEqDiff, or_true, or_false, true_or, false_or]
    first | rfl | (simp [strOfNums_data]; done) | (simp [strOfNums_data]; rfl) | (simp [strOfNums_data]; exact ⟨rfl, fun _ _ => rfl⟩) | (simp [hiL, toB, strOfNums_data]; congr 2; omega)
  by_cases s3 : q = 3
  · obtain rfl : sort = 3 := by omega
    subst s3
    clear hq
    by_cases c1 : n < 16
    ·
      have zz := hi_size (144 + n) 1
      go_wp2_with fail
      refine (high_any w (144 + n) 1 (by decide) (by omega) (by omega)).mono ?_
      rintro e w1 ⟨rfl, hb⟩
      go_wp2_with fail
      go_ret
      refine ⟨congrArg (fun s => Ending.returned (.string s)) (ba_ext ?_), hb⟩
      unfold laidOf rowFor
      simp only []
      repeat (first | rw [if_pos (by omega)] | rw [if_neg (by omega)])
      unfold headB
      simp only [↓reduceIte, Int.reduceEq, Nat.reduceEqDiff, or_true, or_false, true_or, false_or]
      first | rfl | (simp [strOfNums_data]; done) | (simp [strOfNums_data]; rfl) | (simp [strOfNums_data]; exact ⟨rfl, fun _ _ => rfl⟩) | (simp [hiL, toB, strOfNums_data]; congr 2; omega)
    have zz := hi_size (n) 2
    go_wp2_with fail
    refine (high_any w (n) 2 (by decide) (by omega) (by omega)).mono ?_
    rintro e w1 ⟨rfl, hb⟩
    go_wp2_with fail
    go_ret
    refine ⟨congrArg (fun s => Ending.returned (.string s)) (ba_ext ?_), hb⟩
    unfold laidOf rowFor
    simp only []
    repeat (first | rw [if_pos (by omega)] | rw [if_neg (by omega)])
    unfold headB
    simp only [↓reduceIte, Int.reduceEq, Nat.reduceEqDiff, or_true, or_false, true_or, false_or]
    first | rfl | (simp [strOfNums_data]; done) | (simp [strOfNums_data]; rfl) | (simp [strOfNums_data]; exact ⟨rfl, fun _ _ => rfl⟩) | (simp [hiL, toB, strOfNums_data]; congr 2; omega)
  obtain rfl : sort = 4 := by omega
  obtain rfl : q = 4 := by omega
  clear hq
  by_cases c1 : n < 16
  ·
    have zz := hi_size (128 + n) 1
    go_wp2_with fail
    refine (high_any w (128 + n) 1 (by decide) (by omega) (by omega)).mono ?_
    rintro e w1 ⟨rfl, hb⟩
    go_wp2_with fail
    go_ret
    refine ⟨congrArg (fun s => Ending.returned (.string s)) (ba_ext ?_), hb⟩
    unfold laidOf rowFor
    simp only []
    repeat (first | rw [if_pos (by omega)] | rw [if_neg (by omega)])
    unfold headB
    simp only [↓reduceIte, Int.reduceEq, Nat.reduceEqDiff, or_true, or_false, true_or, false_or]
    first | rfl | (simp [strOfNums_data]; done) | (simp [strOfNums_data]; rfl) | (simp [strOfNums_data]; exact ⟨rfl, fun _ _ => rfl⟩) | (simp [hiL, toB, strOfNums_data]; congr 2; omega)
  have zz := hi_size (n) 2
  go_wp2_with fail
  refine (high_any w (n) 2 (by decide) (by omega) (by omega)).mono ?_
  rintro e w1 ⟨rfl, hb⟩
  go_wp2_with fail
  go_ret
  refine ⟨congrArg (fun s => Ending.returned (.string s)) (ba_ext ?_), hb⟩
  unfold laidOf rowFor
  simp only []
  repeat (first | rw [if_pos (by omega)] | rw [if_neg (by omega)])
  unfold headB
  simp only [↓reduceIte, Int.reduceEq, Nat.reduceEqDiff, or_true, or_false, true_or, false_or]
  first | rfl | (simp [strOfNums_data]; done) | (simp [strOfNums_data]; rfl) | (simp [strOfNums_data]; exact ⟨rfl, fun _ _ => rfl⟩) | (simp [hiL, toB, strOfNums_data]; congr 2; omega)
end Go.Proofs.YtmcmapcijncblaaDoor
