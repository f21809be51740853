/- The statement LayoutKnown: the law. -/
import Derived.Test.YtbeppkokkbgddaaWorks8
import Derived.Test.YtbeppkokkbgddaaNeedsC
namespace Go.Proofs.Ytbeppkokkbgddaa
open Go.RowKit
set_option linter.unusedSimpArgs false
set_option linter.unusedVariables false

theorem needs_is {l : List Int} {d : Nat} {rs : List (List Int)} (hd : d ≤ 16) (hl : 0 < len l) (hf : farB l d = false) (h : rowsOf l d = rs) : needsL l d = rs := by
  unfold needsL; rw [Int.toNat_natCast, if_pos ⟨by omega, by omega, hl, hf⟩, h]
theorem rows_two (l : List Int) : rowsOf l 2 = [rowK (insAll (l.map (· / 2 ^ 0))), rowK (insAll (l.map (· / 2 ^ 1)))] := by simp [rowsOf, List.range_succ_eq_map]
theorem nd_a : needsL [2] 2 = [[3], [0]] := needs_is (d := 2) (by decide) (by decide) (by decide) (by
  rw [rows_two, row_lit (l := [3]) (m := [3]) (by decide) (by decide) (fun k => Iff.rfl), row_lit (l := [0]) (m := [0]) (by decide) (by decide) (fun k => Iff.rfl)])
theorem nd_b : needsL [0, 0] 0 = [] := needs_is (d := 0) (by decide) (by decide) (by decide) rfl
theorem nd_c : needsL [] 3 = [] := by unfold needsL; rw [if_neg (by decide)]
theorem nd_d : needsL [8] 3 = [] := by unfold needsL; rw [if_neg (by decide)]
theorem nd_e : needsL [0] (-1) = [] := by unfold needsL; rw [if_neg (by decide)]
theorem nd_f : needsL [0] 17 = [] := by unfold needsL; rw [if_neg (by decide)]
theorem nd_g : needsL [65535] 16 = rowsOf [65535] 16 := needs_is (d := 16) (by decide) (by decide) (by decide) rfl
theorem nd_h : needsL [0, 1, 2, 3] 2 = [[], []] := needs_is (d := 2) (by decide) (by decide) (by decide) (by
  rw [rows_two, row_lit (l := []) (m := []) (by decide) (by decide) (fun k => Iff.rfl), row_lit (l := []) (m := []) (by decide) (by decide) (fun k => Iff.rfl)])
theorem nd_i : needsL [1, 1, 0] 2 = [[], [1]] := needs_is (d := 2) (by decide) (by decide) (by decide) (by
  rw [rows_two, row_lit (l := []) (m := []) (by decide) (by decide) (fun k => Iff.rfl), row_lit (l := [1]) (m := [1]) (by decide) (by decide) (fun k => Iff.rfl)])

theorem depth_same (n : Int) (w : World) (h0 : -9223372036854775808 ≤ n) (h1 : n ≤ 9223372036854775807) : Calls Try.prog 12 #[.int .i64 n] w fun e w' => e = .returned (.int .i64 (depthZ n)) ∧ w' = w :=
  (depth_any n w h0 h1).mono fun e w' ⟨he, hw⟩ => ⟨he, hw.symm⟩
theorem parentK_any (k : Int) (w : World) (h0 : 0 ≤ k) (h1 : k ≤ 18446744073709551615) : Calls Try.prog 20 #[.int .u64 k] w fun e w' => e = .returned (.int .u64 (k / 2)) ∧ w = w' :=
  (parent_any k w h0 h1).mono fun e w' ⟨he, hw⟩ => ⟨he, hw.symm⟩
def dA : Array Value := #[.int .i64 0, .int .i64 1, .int .i64 2, .int .i64 3, .int .i64 4, .int .i64 5, .int .i64 65536, .int .i64 65537, .int .i64 (-1)]
def dB : Array Value := #[.int .i64 0, .int .i64 0, .int .i64 1, .int .i64 2, .int .i64 2, .int .i64 3, .int .i64 16, .int .i64 (-1), .int .i64 (-1)]
theorem d_at (k : Nat) (h : k < 9) : ∃ c : Int, dA[k]? = some (.int .i64 c) ∧ dB[k]? = some (.int .i64 (depthZ c)) ∧ -9223372036854775808 ≤ c ∧ c ≤ 9223372036854775807 := by
  rcases (by omega : k = 0 ∨ k = 1 ∨ k = 2 ∨ k = 3 ∨ k = 4 ∨ k = 5 ∨ k = 6 ∨ k = 7 ∨ k = 8) with rfl | rfl | rfl | rfl | rfl | rfl | rfl | rfl | rfl
  all_goals exact ⟨_, rfl, by kernel_rfl, by decide, by decide⟩

set_option maxRecDepth 100000 in
set_option maxHeartbeats 8000000 in
theorem known8_law (w : World) :
    Calls Try.prog 7 #[] w fun e w' => e = .returned (.bool true) ∧ Below w.heap.size w w' := by
  go_enter Try.func7, Try.ntmps7
  go_wp2_with fail
  obtain ⟨V, hV⟩ : ∃ V, (w.alloc (.cells dA 3)).alloc (.cells dB 3) = V := ⟨_, rfl⟩
  have VB : Hid (Below w.heap.size w V) := Lib.hid (by rw [← hV]; exact balloc (balloc (Below.refl _ _) _) _)
  have VA : Hid (V.heap[w.heap.size]? = some (.cells dA 3 (0, 0))) := Lib.hid (by rw [← hV]; exact block_alloc (heap_alloc_new _ _) _)
  have VC : Hid (V.heap[w.heap.size + 1]? = some (.cells dB 3 (0, 0))) := Lib.hid (by rw [← hV]; exact alloc_new_at _ (by simp))
  go_loopg [3] 9 (fun g i wr => ∃ k : Nat, g + k = 9 ∧ i = .int .i64 k ∧ Hid (Below w.heap.size w wr) ∧ Hid (wr.heap[w.heap.size]? = some (.cells dA 3 (0, 0))) ∧ Hid (wr.heap[w.heap.size + 1]? = some (.cells dB 3 (0, 0))))
  case atStart => exact ⟨0, rfl, rfl, (by have := VB.out; rw [← hV] at this; exact this), (by have := VA.out; rw [← hV] at this; exact this), (by have := VC.out; rw [← hV] at this; exact this)⟩
  case round =>
    clear hV VB VA VC
    obtain ⟨k, hk0, rfl, HX, HA, HC⟩ := hrel
    by_cases hlt : k < 9
    · have b0 : (k : Int) < 9 := by omega
      have b1 : (0 : Int) ≤ k := by omega
      obtain ⟨c, hc1, hc2, hc3, hc4⟩ := d_at k hlt
      have a0 : wr.cell? ⟨w.heap.size, k, none⟩ = some (.int .i64 c) := (block_cell HA.out k).trans hc1
      have a1 : wr.cell? ⟨w.heap.size + 1, k, none⟩ = some (.int .i64 (depthZ c)) := (block_cell HC.out k).trans hc2
      obtain ⟨q, hq⟩ : ∃ q, depthZ c = q := ⟨_, rfl⟩
      have DS := fun W => depth_same c W hc3 hc4
      rw [hq] at a1 DS
      have HDS := Lib.hid DS
      clear hc1 hc2 hq DS
      go_wp2
      go_quiet ((go_at_call 12; exact Calls.quiet_of_same (HDS.out _)))
      go_wp2
      go_roundg (gk - 1)
      case rel => exact ⟨k + 1, by omega, by go_num, bdrewN HX.out _, HA.out, HC.out⟩
      case measure => omega
    · obtain rfl : k = 9 := by omega
      clear HA HC
      go_wp2_with fail
      refine (works8_any wr).mono ?_
      rintro e w1 ⟨rfl, hb⟩
      have X1 := Lib.hid (bnext HX.out hb)
      clear hb HX
      go_wp2_with fail
      refine (leaf_any 1 3 _ (by decide) (by decide)).mono ?_
      rintro e wz ⟨rfl, rfl⟩
      rw [show turnedZ 1 3 = 4 by decide]
      go_wp2_with fail
      obtain ⟨v2, hv2⟩ : ∃ V, w1.alloc (.cells #[.int .u64 2] 22) = V := ⟨_, rfl⟩
      have v2B := Lib.hid (bnext X1.out (show Below _ _ v2 by rw [← hv2]; exact balloc (Below.refl _ _) _))
      have v20 : Hid (v2.heap[w1.heap.size]? = some (.cells (List.map (Value.int .u64) [2]).toArray 22 (0, 0))) := Lib.hid (by rw [← hv2]; exact heap_alloc_new _ _)
      rw [hv2]
      clear hv2
      refine (needs_any (some ⟨w1.heap.size, 0, none⟩) 1 [2] 2 v2 (u64s_block v20.out) (by decide) (fun k hk => by simp at hk; unfold U64; omega)).mono ?_
      rintro e w2 ⟨v, vals, rfl, hr, hrs, hb⟩
      have X2 := Lib.hid (bnext v2B.out hb)
      rw [nd_a] at hrs
      obtain ⟨aw2, cw2, rfl, h2, h3, h4⟩ := rows2_of hr hrs
      have Rw2 := Lib.hid h2
      clear hr hrs hb h2 h3 h4 X1
      go_wp2_with fail
      obtain ⟨z3, hz3⟩ : ∃ z, w2.heap.size = z := ⟨_, rfl⟩
      rw [hz3]
      obtain ⟨V3, hV3⟩ : ∃ X, (((w2).alloc (.cells #[.int .u64 3] 22)).alloc (.cells #[.int .u64 0] 22)).alloc (.cells #[.slice (some ⟨z3, 0, none⟩) 1 1, .slice (some ⟨z3 + 1, 0, none⟩) 1 1] 28) = X := ⟨_, rfl⟩
      have sV30 : ((w2).alloc (.cells #[.int .u64 3] 22)).heap.size = z3 + 1 := by simp; omega
      have sV31 : (((w2).alloc (.cells #[.int .u64 3] 22)).alloc (.cells #[.int .u64 0] 22)).heap.size = z3 + 2 := by simp; omega
      have fV30 : V3.heap[z3]? = some (.cells (List.map (Value.int .u64) [3]).toArray 22 (0, 0)) := by rw [← hV3]; exact block_alloc (block_alloc (alloc_new_at _ hz3) _) _
      have fV31 : V3.heap[z3 + 1]? = some (.cells (List.map (Value.int .u64) [0]).toArray 22 (0, 0)) := by rw [← hV3]; exact block_alloc (alloc_new_at _ sV30) _
      have gV3 : V3.heap[z3 + 2]? = some (.cells #[.slice (some ⟨z3, 0, none⟩) 1 1, .slice (some ⟨z3 + 1, 0, none⟩) 1 1] 28 (0, 0)) := by rw [← hV3]; exact alloc_new_at _ sV31
      have BV3 : Below w2.heap.size w2 V3 := by rw [← hV3]; exact balloc (balloc (balloc (Below.refl _ _) _) _) _
      have LV3 : Hid (Rows2 V3 (some ⟨z3 + 2, 0, none⟩) [[3], [0]]) := Lib.hid (rows2_cons gV3 (fun i hi => by
        rcases (by simp at hi; omega : i = 0 ∨ i = 1) with rfl | rfl
        · exact ⟨_, _, rfl, u64s_block fV30, by decide⟩
        · exact ⟨_, _, rfl, u64s_block fV31, by decide⟩))
      have YV3 := Lib.hid (bnext X2.out BV3)
      have QV3 := Lib.hid (Rw2.out.below BV3)
      rw [hV3]
      clear hV3 gV3 BV3 hz3 Rw2 X2 sV30 sV31 fV30 fV31
      refine (same_any aw2 (some ⟨z3 + 2, 0, none⟩) cw2 2 [[3], [0]] [[3], [0]] V3 QV3.out LV3.out (by decide) (by decide) (fun i => by
        rcases (by omega : i = 0 ∨ i = 1 ∨ 2 ≤ i) with rfl | rfl | h
        · decide
        · decide
        · unfold rnth; rw [List.getD_eq_getElem?_getD, List.getElem?_eq_none (by simpa using h)]; decide)).mono ?_
      rintro e w4 ⟨rfl, hd⟩
      have X4 := Lib.hid (bnext YV3.out (hd.below _))
      clear hd YV3 LV3 QV3
      rw [show sameB [[3], [0]] [[3], [0]] = true by decide]
      go_wp2_with fail
      obtain ⟨v5, hv5⟩ : ∃ V, w4.alloc (.cells #[.int .u64 0, .int .u64 0] 22) = V := ⟨_, rfl⟩
      have v5B := Lib.hid (bnext X4.out (show Below _ _ v5 by rw [← hv5]; exact balloc (Below.refl _ _) _))
      have v50 : Hid (v5.heap[w4.heap.size]? = some (.cells (List.map (Value.int .u64) [0, 0]).toArray 22 (0, 0))) := Lib.hid (by rw [← hv5]; exact heap_alloc_new _ _)
      rw [hv5]
      clear hv5
      refine (needs_any (some ⟨w4.heap.size, 0, none⟩) 2 [0, 0] 0 v5 (u64s_block v50.out) (by decide) (fun k hk => by simp at hk; unfold U64; omega)).mono ?_
      rintro e w5 ⟨v, vals, rfl, hr, hrs, hb⟩
      have X5 := Lib.hid (bnext v5B.out hb)
      rw [nd_b] at hrs
      obtain ⟨aw5, cw5, rfl, h2, h3, h4⟩ := rows2_of hr hrs
      have Rw5 := Lib.hid h2
      clear hr hrs hb h2 h3 h4 X4
      rw [show len ([] : List (List Int)) = 0 from rfl]
      go_wp2_with fail
      refine (needs_any none 0 [] 3 w5 (U64s.nil _ _) (by decide) (fun k hk => by cases hk)).mono ?_
      rintro e w6 ⟨v, vals, rfl, hr, hrs, hb⟩
      have X6 := Lib.hid (bnext X5.out hb)
      rw [nd_c] at hrs
      obtain ⟨aw6, cw6, rfl, h2, h3, h4⟩ := rows2_of hr hrs
      have Rw6 := Lib.hid h2
      clear hr hrs hb h2 h3 h4 X5
      rw [show len ([] : List (List Int)) = 0 from rfl]
      go_wp2_with fail
      obtain ⟨v7, hv7⟩ : ∃ V, w6.alloc (.cells #[.int .u64 8] 22) = V := ⟨_, rfl⟩
      have v7B := Lib.hid (bnext X6.out (show Below _ _ v7 by rw [← hv7]; exact balloc (Below.refl _ _) _))
      have v70 : Hid (v7.heap[w6.heap.size]? = some (.cells (List.map (Value.int .u64) [8]).toArray 22 (0, 0))) := Lib.hid (by rw [← hv7]; exact heap_alloc_new _ _)
      rw [hv7]
      clear hv7
      refine (needs_any (some ⟨w6.heap.size, 0, none⟩) 1 [8] 3 v7 (u64s_block v70.out) (by decide) (fun k hk => by simp at hk; unfold U64; omega)).mono ?_
      rintro e w7 ⟨v, vals, rfl, hr, hrs, hb⟩
      have X7 := Lib.hid (bnext v7B.out hb)
      rw [nd_d] at hrs
      obtain ⟨aw7, cw7, rfl, h2, h3, h4⟩ := rows2_of hr hrs
      have Rw7 := Lib.hid h2
      clear hr hrs hb h2 h3 h4 X6
      rw [show len ([] : List (List Int)) = 0 from rfl]
      go_wp2_with fail
      obtain ⟨v8, hv8⟩ : ∃ V, w7.alloc (.cells #[.int .u64 0] 22) = V := ⟨_, rfl⟩
      have v8B := Lib.hid (bnext X7.out (show Below _ _ v8 by rw [← hv8]; exact balloc (Below.refl _ _) _))
      have v80 : Hid (v8.heap[w7.heap.size]? = some (.cells (List.map (Value.int .u64) [0]).toArray 22 (0, 0))) := Lib.hid (by rw [← hv8]; exact heap_alloc_new _ _)
      rw [hv8]
      clear hv8
      refine (needs_any (some ⟨w7.heap.size, 0, none⟩) 1 [0] (-1) v8 (u64s_block v80.out) (by decide) (fun k hk => by simp at hk; unfold U64; omega)).mono ?_
      rintro e w8 ⟨v, vals, rfl, hr, hrs, hb⟩
      have X8 := Lib.hid (bnext v8B.out hb)
      rw [nd_e] at hrs
      obtain ⟨aw8, cw8, rfl, h2, h3, h4⟩ := rows2_of hr hrs
      have Rw8 := Lib.hid h2
      clear hr hrs hb h2 h3 h4 X7
      rw [show len ([] : List (List Int)) = 0 from rfl]
      go_wp2_with fail
      obtain ⟨v9, hv9⟩ : ∃ V, w8.alloc (.cells #[.int .u64 0] 22) = V := ⟨_, rfl⟩
      have v9B := Lib.hid (bnext X8.out (show Below _ _ v9 by rw [← hv9]; exact balloc (Below.refl _ _) _))
      have v90 : Hid (v9.heap[w8.heap.size]? = some (.cells (List.map (Value.int .u64) [0]).toArray 22 (0, 0))) := Lib.hid (by rw [← hv9]; exact heap_alloc_new _ _)
      rw [hv9]
      clear hv9
      refine (needs_any (some ⟨w8.heap.size, 0, none⟩) 1 [0] 17 v9 (u64s_block v90.out) (by decide) (fun k hk => by simp at hk; unfold U64; omega)).mono ?_
      rintro e w9 ⟨v, vals, rfl, hr, hrs, hb⟩
      have X9 := Lib.hid (bnext v9B.out hb)
      rw [nd_f] at hrs
      obtain ⟨aw9, cw9, rfl, h2, h3, h4⟩ := rows2_of hr hrs
      have Rw9 := Lib.hid h2
      clear hr hrs hb h2 h3 h4 X8
      rw [show len ([] : List (List Int)) = 0 from rfl]
      go_wp2_with fail
      obtain ⟨v10, hv10⟩ : ∃ V, w9.alloc (.cells #[.int .u64 65535] 22) = V := ⟨_, rfl⟩
      have v10B := Lib.hid (bnext X9.out (show Below _ _ v10 by rw [← hv10]; exact balloc (Below.refl _ _) _))
      have v100 : Hid (v10.heap[w9.heap.size]? = some (.cells (List.map (Value.int .u64) [65535]).toArray 22 (0, 0))) := Lib.hid (by rw [← hv10]; exact heap_alloc_new _ _)
      rw [hv10]
      clear hv10
      refine (needs_any (some ⟨w9.heap.size, 0, none⟩) 1 [65535] 16 v10 (u64s_block v100.out) (by decide) (fun k hk => by simp at hk; unfold U64; omega)).mono ?_
      rintro e w10 ⟨v, vals, rfl, hr, hrs, hb⟩
      have X10 := Lib.hid (bnext v10B.out hb)
      rw [nd_g] at hrs
      obtain ⟨aw10, cw10, rfl, h2, h3, h4⟩ := rows2_of hr hrs
      have Rw10 := Lib.hid h2
      clear hr hrs hb h2 h3 h4 X9
      rw [show len (rowsOf [65535] 16) = 16 by unfold len rowsOf; rw [List.length_map, List.length_range]]
      go_wp2_with fail
      refine (leaf_any 8 3 _ (by decide) (by decide)).mono ?_
      rintro e wz ⟨rfl, rfl⟩
      rw [show turnedZ 8 3 = 0 by decide]
      go_wp2_with fail
      refine (leaf_any 1 17 _ (by decide) (by decide)).mono ?_
      rintro e wz ⟨rfl, rfl⟩
      rw [show turnedZ 1 17 = 0 by decide]
      go_wp2_with fail
      refine (element_any 1 (-1) _ (by decide) (by decide)).mono ?_
      rintro e wz ⟨rfl, rfl⟩
      rw [show turnedZ 1 (-1) = 0 by decide]
      go_wp2_with fail
      refine (leaf_any 1 16 _ (by decide) (by decide)).mono ?_
      rintro e wz ⟨rfl, rfl⟩
      rw [show turnedZ 1 16 = 32768 by decide]
      go_wp2_with fail
      refine (sibling_any 6 _ (by decide) (by decide)).mono ?_
      rintro e wz ⟨rfl, rfl⟩
      rw [show sib 6 = 7 by decide]
      go_wp2_with fail
      refine (sibling_any 7 _ (by decide) (by decide)).mono ?_
      rintro e wz ⟨rfl, rfl⟩
      rw [show sib 7 = 6 by decide]
      go_wp2_with fail
      refine (parentK_any 7 _ (by decide) (by decide)).mono ?_
      rintro e wz ⟨rfl, rfl⟩
      rw [show (7 : Int) / 2 = 3 by decide]
      go_wp2_with fail
      obtain ⟨v11, hv11⟩ : ∃ V, w10.alloc (.cells #[.int .u64 0, .int .u64 1, .int .u64 2, .int .u64 3] 22) = V := ⟨_, rfl⟩
      have v11B := Lib.hid (bnext X10.out (show Below _ _ v11 by rw [← hv11]; exact balloc (Below.refl _ _) _))
      have v110 : Hid (v11.heap[w10.heap.size]? = some (.cells (List.map (Value.int .u64) [0, 1, 2, 3]).toArray 22 (0, 0))) := Lib.hid (by rw [← hv11]; exact heap_alloc_new _ _)
      rw [hv11]
      clear hv11
      refine (needs_any (some ⟨w10.heap.size, 0, none⟩) 4 [0, 1, 2, 3] 2 v11 (u64s_block v110.out) (by decide) (fun k hk => by simp at hk; unfold U64; omega)).mono ?_
      rintro e w11 ⟨v, vals, rfl, hr, hrs, hb⟩
      have X11 := Lib.hid (bnext v11B.out hb)
      rw [nd_h] at hrs
      obtain ⟨aw11, cw11, rfl, h2, h3, h4⟩ := rows2_of hr hrs
      have Rw11 := Lib.hid h2
      clear hr hrs hb h2 h3 h4 X10
      go_wp2_with fail
      obtain ⟨z12, hz12⟩ : ∃ z, w11.heap.size = z := ⟨_, rfl⟩
      rw [hz12]
      obtain ⟨V12, hV12⟩ : ∃ X, (w11).alloc (.cells #[.slice none 0 0, .slice none 0 0] 28) = X := ⟨_, rfl⟩
      have gV12 : V12.heap[z12]? = some (.cells #[.slice none 0 0, .slice none 0 0] 28 (0, 0)) := by rw [← hV12]; exact alloc_new_at _ hz12
      have BV12 : Below w11.heap.size w11 V12 := by rw [← hV12]; exact balloc (Below.refl _ _) _
      have LV12 : Hid (Rows2 V12 (some ⟨z12, 0, none⟩) [[], []]) := Lib.hid (rows2_cons gV12 (fun i hi => by
        rcases (by simp at hi; omega : i = 0 ∨ i = 1) with rfl | rfl
        · exact ⟨_, _, rfl, U64s.nil _ _, by decide⟩
        · exact ⟨_, _, rfl, U64s.nil _ _, by decide⟩))
      have YV12 := Lib.hid (bnext X11.out BV12)
      have QV12 := Lib.hid (Rw11.out.below BV12)
      rw [hV12]
      clear hV12 gV12 BV12 hz12 Rw11 X11  
      refine (same_any aw11 (some ⟨z12, 0, none⟩) cw11 2 [[], []] [[], []] V12 QV12.out LV12.out (by decide) (by decide) (fun i => by
        rcases (by omega : i = 0 ∨ i = 1 ∨ 2 ≤ i) with rfl | rfl | h
        · decide
        · decide
        · unfold rnth; rw [List.getD_eq_getElem?_getD, List.getElem?_eq_none (by simpa using h)]; decide)).mono ?_
      rintro e w13 ⟨rfl, hd⟩
      have X13 := Lib.hid (bnext YV12.out (hd.below _))
      clear hd YV12 LV12 QV12
      rw [show sameB [[], []] [[], []] = true by decide]
      go_wp2_with fail
      obtain ⟨v14, hv14⟩ : ∃ V, w13.alloc (.cells #[.int .u64 1, .int .u64 1, .int .u64 0] 22) = V := ⟨_, rfl⟩
      have v14B := Lib.hid (bnext X13.out (show Below _ _ v14 by rw [← hv14]; exact balloc (Below.refl _ _) _))
      have v140 : Hid (v14.heap[w13.heap.size]? = some (.cells (List.map (Value.int .u64) [1, 1, 0]).toArray 22 (0, 0))) := Lib.hid (by rw [← hv14]; exact heap_alloc_new _ _)
      rw [hv14]
      clear hv14
      refine (needs_any (some ⟨w13.heap.size, 0, none⟩) 3 [1, 1, 0] 2 v14 (u64s_block v140.out) (by decide) (fun k hk => by simp at hk; unfold U64; omega)).mono ?_
      rintro e w14 ⟨v, vals, rfl, hr, hrs, hb⟩
      have X14 := Lib.hid (bnext v14B.out hb)
      rw [nd_i] at hrs
      obtain ⟨aw14, cw14, rfl, h2, h3, h4⟩ := rows2_of hr hrs
      have Rw14 := Lib.hid h2
      clear hr hrs hb h2 h3 h4 X13
      go_wp2_with fail
      obtain ⟨z15, hz15⟩ : ∃ z, w14.heap.size = z := ⟨_, rfl⟩
      rw [hz15]
      obtain ⟨V15, hV15⟩ : ∃ X, ((w14).alloc (.cells #[.int .u64 1] 22)).alloc (.cells #[.slice none 0 0, .slice (some ⟨z15, 0, none⟩) 1 1] 28) = X := ⟨_, rfl⟩
      have sV150 : ((w14).alloc (.cells #[.int .u64 1] 22)).heap.size = z15 + 1 := by simp; omega
      have fV150 : V15.heap[z15]? = some (.cells (List.map (Value.int .u64) [1]).toArray 22 (0, 0)) := by rw [← hV15]; exact block_alloc (alloc_new_at _ hz15) _
      have gV15 : V15.heap[z15 + 1]? = some (.cells #[.slice none 0 0, .slice (some ⟨z15, 0, none⟩) 1 1] 28 (0, 0)) := by rw [← hV15]; exact alloc_new_at _ sV150
      have BV15 : Below w14.heap.size w14 V15 := by rw [← hV15]; exact balloc (balloc (Below.refl _ _) _) _
      have LV15 : Hid (Rows2 V15 (some ⟨z15 + 1, 0, none⟩) [[], [1]]) := Lib.hid (rows2_cons gV15 (fun i hi => by
        rcases (by simp at hi; omega : i = 0 ∨ i = 1) with rfl | rfl
        · exact ⟨_, _, rfl, U64s.nil _ _, by decide⟩
        · exact ⟨_, _, rfl, u64s_block fV150, by decide⟩))
      have YV15 := Lib.hid (bnext X14.out BV15)
      have QV15 := Lib.hid (Rw14.out.below BV15)
      rw [hV15]
      clear hV15 gV15 BV15 hz15 Rw14 X14 sV150 fV150
      refine (same_any aw14 (some ⟨z15 + 1, 0, none⟩) cw14 2 [[], [1]] [[], [1]] V15 QV15.out LV15.out (by decide) (by decide) (fun i => by
        rcases (by omega : i = 0 ∨ i = 1 ∨ 2 ≤ i) with rfl | rfl | h
        · decide
        · decide
        · unfold rnth; rw [List.getD_eq_getElem?_getD, List.getElem?_eq_none (by simpa using h)]; decide)).mono ?_
      rintro e w16 ⟨rfl, hd⟩
      have X16 := Lib.hid (bnext YV15.out (hd.below _))
      clear hd YV15 LV15 QV15
      rw [show sameB [[], [1]] [[], [1]] = true by decide]
      go_wp2
      go_ret
      exact ⟨rfl, X16.out⟩
end Go.Proofs.Ytbeppkokkbgddaa

