/- Parts of the proof, one behind the other. -/
import Derived.Test.YtmikkhfklmmkaaaPexP3
import Derived.Maps.AppendAt
import Derived.ArgAppend
import Derived.Laws.AppendOwnNone
import Derived.ProofKit
import Derived.OpenShut
import Derived.ShutString
import Derived.ChangeOld
import Derived.Deep.Slices
import Derived.Deep.Fields
import Derived.ChangeMaps5
namespace Go.Proofs.Ytmikkhfklmmkaaa
open Go.RowKit
set_option linter.unusedSimpArgs false
set_option linter.unusedVariables false
theorem u64s_cells {w : World} {b : Nat} {t : TypeId} (l : List Int) (h : w.heap[b]? = some (.cells (l.map (Value.int .u64)).toArray t (0, 0))) : U64s w (some ⟨b, 0, none⟩) l := fun i hi => ⟨b, 0, rfl, by
  have h2 : i < l.length := hi
  rw [block_cell h, Nat.zero_add, List.getElem?_toArray, List.getElem?_map, List.getElem?_eq_getElem h2, nth_eq l i hi]
  rfl⟩
theorem pu_of {l : List Int} (h : ∀ k ∈ l, 0 ≤ k ∧ k ≤ 18446744073709551615) : ∀ k ∈ l, U64 k := h
theorem ez_of {es : List ByteArray} (h : ∀ e ∈ es, e.size ≤ 1000) : ∀ i, i < len es → (tth es i).size ≤ 1000000 := fun i hi => by
  rw [tth_eq es i hi]
  have := h _ (List.getElem_mem (show i < es.length from hi))
  omega
set_option maxRecDepth 100000 in
set_option maxHeartbeats 8000000 in
theorem works11_any (w : World) : Calls Try.prog 10 #[] w fun e w' => e = .returned (.bool true) ∧ Below w.heap.size w w' := by
  go_enter Try.func10, Try.ntmps10
  go_wp2_with fail
  refine (hash1_any leafT aT w (by decide) (by decide) (by decide)).mono ?_
  rintro e w1 ⟨rfl, hb1⟩
  have HB1 := Lib.hid hb1
  obtain ⟨A9, hA9⟩ : ∃ A9, hashP leafT [aT] = A9 := ⟨_, rfl⟩
  have SA9 : Hid (A9.size = 32) := Lib.hid (by rw [← hA9, hashP_size])
  have ZA9 : Hid (A9.size ≤ 1000000) := Lib.hid (by rw [SA9.out]; decide)
  have QA9 := Lib.hid hA9
  rw [hA9]
  clear hb1 hA9
  go_wp2_with fail
  refine (hash1_any leafT bT w1 (by decide) (by decide) (by decide)).mono ?_
  rintro e w2 ⟨rfl, hb2⟩
  have HB2 : Hid (Below w.heap.size w w2) := Lib.hid (bnext HB1.out hb2)
  obtain ⟨B9, hB9⟩ : ∃ B9, hashP leafT [bT] = B9 := ⟨_, rfl⟩
  have SB9 : Hid (B9.size = 32) := Lib.hid (by rw [← hB9, hashP_size])
  have ZB9 : Hid (B9.size ≤ 1000000) := Lib.hid (by rw [SB9.out]; decide)
  have QB9 := Lib.hid hB9
  rw [hB9]
  clear hb2 hB9
  go_wp2_with fail
  refine (hash1_any leafT cT w2 (by decide) (by decide) (by decide)).mono ?_
  rintro e w3 ⟨rfl, hb3⟩
  have HB3 : Hid (Below w.heap.size w w3) := Lib.hid (bnext HB2.out hb3)
  obtain ⟨C9, hC9⟩ : ∃ C9, hashP leafT [cT] = C9 := ⟨_, rfl⟩
  have SC9 : Hid (C9.size = 32) := Lib.hid (by rw [← hC9, hashP_size])
  have ZC9 : Hid (C9.size ≤ 1000000) := Lib.hid (by rw [SC9.out]; decide)
  have QC9 := Lib.hid hC9
  rw [hC9]
  clear hb3 hC9
  go_wp2_with fail
  refine (hash0_any noneT w3 (by decide) (by decide)).mono ?_
  rintro e w4 ⟨rfl, hb4⟩
  have HB4 : Hid (Below w.heap.size w w4) := Lib.hid (bnext HB3.out hb4)
  obtain ⟨N9, hN9⟩ : ∃ N9, hashP noneT [] = N9 := ⟨_, rfl⟩
  have SN9 : Hid (N9.size = 32) := Lib.hid (by rw [← hN9, hashP_size])
  have ZN9 : Hid (N9.size ≤ 1000000) := Lib.hid (by rw [SN9.out]; decide)
  have QN9 := Lib.hid hN9
  rw [hN9]
  clear hb4 hN9
  go_wp2_with fail
  refine (hash2_any nodeT A9 C9 w4 (by decide) (by decide) ZA9.out ZC9.out).mono ?_
  rintro e w5 ⟨rfl, hb5⟩
  have HB5 : Hid (Below w.heap.size w w5) := Lib.hid (bnext HB4.out hb5)
  obtain ⟨L9, hL9⟩ : ∃ L9, hashP nodeT [A9, C9] = L9 := ⟨_, rfl⟩
  have SL9 : Hid (L9.size = 32) := Lib.hid (by rw [← hL9, hashP_size])
  have ZL9 : Hid (L9.size ≤ 1000000) := Lib.hid (by rw [SL9.out]; decide)
  have QL9 := Lib.hid hL9
  rw [hL9]
  clear hb5 hL9
  go_wp2_with fail
  refine (hash2_any nodeT B9 N9 w5 (by decide) (by decide) ZB9.out ZN9.out).mono ?_
  rintro e w6 ⟨rfl, hb6⟩
  have HB6 : Hid (Below w.heap.size w w6) := Lib.hid (bnext HB5.out hb6)
  obtain ⟨T9, hT9⟩ : ∃ T9, hashP nodeT [B9, N9] = T9 := ⟨_, rfl⟩
  have ST9 : Hid (T9.size = 32) := Lib.hid (by rw [← hT9, hashP_size])
  have ZT9 : Hid (T9.size ≤ 1000000) := Lib.hid (by rw [ST9.out]; decide)
  have QT9 := Lib.hid hT9
  rw [hT9]
  clear hb6 hT9
  go_wp2_with fail
  refine (hash2_any nodeT L9 T9 w6 (by decide) (by decide) ZL9.out ZT9.out).mono ?_
  rintro e w7 ⟨rfl, hb7⟩
  have HB7 : Hid (Below w.heap.size w w7) := Lib.hid (bnext HB6.out hb7)
  obtain ⟨R9, hR9⟩ : ∃ R9, hashP nodeT [L9, T9] = R9 := ⟨_, rfl⟩
  have SR9 : Hid (R9.size = 32) := Lib.hid (by rw [← hR9, hashP_size])
  have ZR9 : Hid (R9.size ≤ 1000000) := Lib.hid (by rw [SR9.out]; decide)
  have QR9 := Lib.hid hR9
  rw [hR9]
  clear hb7 hR9
  go_upto_region 5 with fail
  obtain ⟨q1, hq1⟩ : ∃ q1, w7.heap.size = q1 := ⟨_, rfl⟩
  obtain ⟨q2, hq2⟩ : ∃ q2, w7.heap.size + 1 = q2 := ⟨_, rfl⟩
  obtain ⟨v0, hv0⟩ : ∃ V, (w7.alloc (.cells #[.int .u64 1] 27)).alloc (.cells #[.string ⟨#[98]⟩] 9) = V := ⟨_, rfl⟩
  have P0 : Hid (U64s v0 (some ⟨q1, 0, none⟩) [1]) := Lib.hid (u64s_cells [1] (by rw [← hv0]; exact block_alloc (alloc_new_at _ hq1) _))
  have E0 : Hid (Txts v0 (some ⟨q2, 0, none⟩) [bT]) := Lib.hid (txts_rcells [bT] (by rw [← hv0]; exact alloc_new_at _ (by rw [alloc_size _ rfl]; exact hq2)))
  have W0 : Hid (Below w.heap.size w v0) := Lib.hid (by rw [← hv0]; exact balloc (balloc HB7.out _) _)
  rw [hq2, hq1, hv0]
  clear hq2 hq1 hv0
  have r32 : ((R9.size : Nat) : Int) = 32 := by have := SR9.out; omega
  have n32 : ((N9.size : Nat) : Int) = 32 := by have := SN9.out; omega
  go_wp2_with fail
  refine (is_any R9 3 [1] [bT] [N9, L9] _ _ _ _ _ _ _ ⟨(P0.out.below (balloc (Below.refl _ _) _)), (E0.out.below (balloc (Below.refl _ _) _)), (txts_rcells [N9, L9] (heap_alloc_new _ _)), by show 1 ≤ 100; decide, pu_of (by decide), by show 1 ≤ 1000000; decide, by show 2 ≤ 1000000; decide, Nat.le_refl _, ez_of (by decide)⟩ (by decide) (by decide) (ex_one N9 L9 SN9.out SL9.out).1 ((ex_one N9 L9 SN9.out SL9.out).2.trans (by rw [← QR9.out, ← QT9.out, QB9.out]))).mono ?_
  rintro e v1 ⟨rfl, hb⟩
  have hbb : Below v0.heap.size v0 v1 := bnext (balloc (Below.refl _ _) _) hb
  have P1 := Lib.hid (P0.out.below hbb)
  have E1 := Lib.hid (E0.out.below hbb)
  have W1 : Hid (Below w.heap.size w v1) := Lib.hid (bnext W0.out hbb)
  clear hb hbb P0 E0 W0 r32
  go_wp2_with fail
  refine (is_any A9 1 [0] [aT] [] _ _ _ _ _ _ _ ⟨(u64s_cells [0] (block_alloc (heap_alloc_new _ _) _)), (txts_rcells [aT] (alloc_new_at _ (by simp))), (Txts.nil _ _), by show 1 ≤ 100; decide, pu_of (by decide), by show 1 ≤ 1000000; decide, by show 0 ≤ 1000000; decide, Nat.le_refl _, ez_of (by decide)⟩ (by decide) (by decide) ex_two.1 (ex_two.2.trans QA9.out)).mono ?_
  rintro e v2 ⟨rfl, hb⟩
  have hbb : Below v1.heap.size v1 v2 := bnext (balloc (balloc (Below.refl _ _) _) _) hb
  have P2 := Lib.hid (P1.out.below hbb)
  have E2 := Lib.hid (E1.out.below hbb)
  have W2 : Hid (Below w.heap.size w v2) := Lib.hid (bnext W1.out hbb)
  clear hb hbb P1 E1 W1
  go_wp2_with fail
  refine (is_any R9 3 [0, 1, 2] [aT, bT, cT] [N9] _ _ _ _ _ _ _ ⟨(u64s_cells [0, 1, 2] (block_alloc (block_alloc (heap_alloc_new _ _) _) _)), (txts_rcells [aT, bT, cT] (block_alloc (alloc_new_at _ (by simp)) _)), (txts_rcells [N9] (alloc_new_at _ (by simp))), by show 3 ≤ 100; decide, pu_of (by decide), by show 3 ≤ 1000000; decide, by show 1 ≤ 1000000; decide, Nat.le_refl _, ez_of (by decide)⟩ (by decide) (by decide) (ex_three N9 SN9.out).1 ((ex_three N9 SN9.out).2.trans (by rw [QA9.out, QC9.out, QB9.out, QL9.out, QT9.out, QR9.out]))).mono ?_
  rintro e v3 ⟨rfl, hb⟩
  have hbb : Below v2.heap.size v2 v3 := bnext (balloc (balloc (balloc (Below.refl _ _) _) _) _) hb
  have P3 := Lib.hid (P2.out.below hbb)
  have E3 := Lib.hid (E2.out.below hbb)
  have W3 : Hid (Below w.heap.size w v3) := Lib.hid (bnext W2.out hbb)
  clear hb hbb P2 E2 W2
  go_wp2_with fail
  refine (fails_any 4 3 [1] [bT] [N9] _ _ _ _ _ _ _ ⟨(P3.out.below (balloc (Below.refl _ _) _)), (E3.out.below (balloc (Below.refl _ _) _)), (txts_rcells [N9] (heap_alloc_new _ _)), by show 1 ≤ 100; decide, pu_of (by decide), by show 1 ≤ 1000000; decide, by show 1 ≤ 1000000; decide, Nat.le_refl _, ez_of (by decide)⟩ (by decide) (by decide) (ex_short N9 SN9.out) (by decide)).mono ?_
  rintro e v4 ⟨rfl, hb⟩
  have hbb : Below v3.heap.size v3 v4 := bnext (balloc (Below.refl _ _) _) hb
  have P4 := Lib.hid (P3.out.below hbb)
  have E4 := Lib.hid (E3.out.below hbb)
  have W4 : Hid (Below w.heap.size w v4) := Lib.hid (bnext W3.out hbb)
  clear hb hbb P3 E3 W3
  go_wp2_with fail
  refine (fails_any 3 3 [1] [bT] [N9, L9, L9] _ _ _ _ _ _ _ ⟨(P4.out.below (balloc (Below.refl _ _) _)), (E4.out.below (balloc (Below.refl _ _) _)), (txts_rcells [N9, L9, L9] (heap_alloc_new _ _)), by show 1 ≤ 100; decide, pu_of (by decide), by show 1 ≤ 1000000; decide, by show 3 ≤ 1000000; decide, Nat.le_refl _, ez_of (by decide)⟩ (by decide) (by decide) (ex_long N9 L9 SN9.out SL9.out) (by decide)).mono ?_
  rintro e v5 ⟨rfl, hb⟩
  have hbb : Below v4.heap.size v4 v5 := bnext (balloc (Below.refl _ _) _) hb
  have P5 := Lib.hid (P4.out.below hbb)
  have E5 := Lib.hid (E4.out.below hbb)
  have W5 : Hid (Below w.heap.size w v5) := Lib.hid (bnext W4.out hbb)
  clear hb hbb P4 E4 W4
  go_wp2_with fail
  refine (fails_any 2 3 [1, 1] [bT, bT] [N9, L9] _ _ _ _ _ _ _ ⟨(u64s_cells [1, 1] (block_alloc (block_alloc (heap_alloc_new _ _) _) _)), (txts_rcells [bT, bT] (block_alloc (alloc_new_at _ (by simp)) _)), (txts_rcells [N9, L9] (alloc_new_at _ (by simp))), by show 2 ≤ 100; decide, pu_of (by decide), by show 2 ≤ 1000000; decide, by show 2 ≤ 1000000; decide, Nat.le_refl _, ez_of (by decide)⟩ (by decide) (by decide) (ex_twice N9 L9) (by decide)).mono ?_
  rintro e v6 ⟨rfl, hb⟩
  have hbb : Below v5.heap.size v5 v6 := bnext (balloc (balloc (balloc (Below.refl _ _) _) _) _) hb
  have P6 := Lib.hid (P5.out.below hbb)
  have E6 := Lib.hid (E5.out.below hbb)
  have W6 : Hid (Below w.heap.size w v6) := Lib.hid (bnext W5.out hbb)
  clear hb hbb P5 E5 W5
  go_wp2_with fail
  refine (fails_any 2 3 [3] [bT] [N9, L9] _ _ _ _ _ _ _ ⟨(u64s_cells [3] (block_alloc (heap_alloc_new _ _) _)), (E6.out.below (balloc (balloc (Below.refl _ _) _) _)), (txts_rcells [N9, L9] (alloc_new_at _ (by simp))), by show 1 ≤ 100; decide, pu_of (by decide), by show 1 ≤ 1000000; decide, by show 2 ≤ 1000000; decide, Nat.le_refl _, ez_of (by decide)⟩ (by decide) (by decide) (ex_far N9 L9) (by decide)).mono ?_
  rintro e v7 ⟨rfl, hb⟩
  have hbb : Below v6.heap.size v6 v7 := bnext (balloc (balloc (Below.refl _ _) _) _) hb
  have P7 := Lib.hid (P6.out.below hbb)
  have E7 := Lib.hid (E6.out.below hbb)
  have W7 : Hid (Below w.heap.size w v7) := Lib.hid (bnext W6.out hbb)
  clear hb hbb P6 E6 W6
  go_wp2_with fail
  refine (fails_any 2 3 [1] [] [N9, L9] _ _ _ _ _ _ _ ⟨(P7.out.below (balloc (Below.refl _ _) _)), (Txts.nil _ _), (txts_rcells [N9, L9] (heap_alloc_new _ _)), by show 1 ≤ 100; decide, pu_of (by decide), by show 0 ≤ 1000000; decide, by show 2 ≤ 1000000; decide, Nat.le_refl _, ez_of (by decide)⟩ (by decide) (by decide) (ex_none N9 L9) (by decide)).mono ?_
  rintro e v8 ⟨rfl, hb⟩
  have hbb : Below v7.heap.size v7 v8 := bnext (balloc (Below.refl _ _) _) hb
  have P8 := Lib.hid (P7.out.below hbb)
  have E8 := Lib.hid (E7.out.below hbb)
  have W8 : Hid (Below w.heap.size w v8) := Lib.hid (bnext W7.out hbb)
  clear hb hbb P7 E7 W7
  go_wp2_with fail
  obtain ⟨M9, hM9⟩ : ∃ M9, N9.extract 1 N9.size = M9 := ⟨_, rfl⟩
  have HM9 : Hid (M9.size ≠ 32) := Lib.hid (by rw [← hM9, ByteArray.size_extract]; have := SN9.out; omega)
  rw [hM9]
  clear hM9 n32
  refine (fails_any 5 3 [1] [bT] [M9, L9] _ _ _ _ _ _ _ ⟨(P8.out.below (balloc (Below.refl _ _) _)), (E8.out.below (balloc (Below.refl _ _) _)), (txts_rcells [M9, L9] (heap_alloc_new _ _)), by show 1 ≤ 100; decide, pu_of (by decide), by show 1 ≤ 1000000; decide, by show 2 ≤ 1000000; decide, Nat.le_refl _, ez_of (by decide)⟩ (by decide) (by decide) (ex_form M9 L9 HM9.out) (by decide)).mono ?_
  rintro e v9 ⟨rfl, hb⟩
  have hbb : Below v8.heap.size v8 v9 := bnext (balloc (Below.refl _ _) _) hb
  have P9 := Lib.hid (P8.out.below hbb)
  have E9 := Lib.hid (E8.out.below hbb)
  have W9 : Hid (Below w.heap.size w v9) := Lib.hid (bnext W8.out hbb)
  clear hb hbb P8 E8 W8
  go_wp2
  go_ret
  exact ⟨by first | rfl | simp, W9.out⟩
end Go.Proofs.Ytmikkhfklmmkaaa
namespace Go.Proofs.Ytmikkhfklmmkaaa
open Go.RowKit
set_option linter.unusedSimpArgs false
set_option linter.unusedVariables false
def choL (n b : Nat) : List Int := ((List.range n).filter (fun i => b.testBit (i % 64))).map (fun i => ((i : Nat) : Int))
theorem choL_snoc (m b : Nat) : choL (m + 1) b = choL m b ++ (if b.testBit (m % 64) = true then [((m : Nat) : Int)] else []) := by
  unfold choL
  rw [List.range_succ, List.filter_append, List.map_append]
  congr 1
  by_cases h : b.testBit (m % 64) = true
  · simp [h]
  · simp [h]
theorem choL_le (n b : Nat) : len (choL n b) ≤ n := by
  unfold choL
  rw [len_eq, List.length_map]
  exact Nat.le_trans (List.length_filter_le _ _) (by simp)
theorem choL_mem {n b : Nat} {k : Int} (h : k ∈ choL n b) : 0 ≤ k ∧ k < n := by
  unfold choL at h
  obtain ⟨i, hi, rfl⟩ := List.mem_map.1 h
  have := List.mem_range.1 (List.mem_filter.1 hi).1
  omega
theorem choL_rise (n b : Nat) : (choL n b).Pairwise (· < ·) := by
  unfold choL
  rw [List.pairwise_map]
  refine List.Pairwise.imp (R := (· < ·)) (fun h => by omega) ?_
  exact List.pairwise_lt_range.sublist (List.filter_sublist ..)
def choP (n b : Nat) : List Int := if len (choL n b) = 0 then [((b % n : Nat) : Int)] else choL n b
theorem choP_may (n b : Nat) (hn : 0 < n) : MayOk (n : Nat) (choP n b) ∧ (∀ k ∈ choP n b, 0 ≤ k ∧ k < n) ∧ len (choP n b) ≤ n := by
  have hb : b % n < n := Nat.mod_lt _ hn
  unfold choP
  by_cases h : len (choL n b) = 0
  · rw [if_pos h]
    refine ⟨may_of (show 0 < len [((b % n : Nat) : Int)] from Nat.zero_lt_one) (List.pairwise_singleton _ _) (fun k hk => ?_), fun k hk => ?_, hn⟩
    · rw [List.mem_singleton] at hk; omega
    · rw [List.mem_singleton] at hk; omega
  · rw [if_neg h]
    exact ⟨may_of (by omega) (choL_rise n b) (fun k hk => (choL_mem hk).2), fun k hk => choL_mem hk, choL_le n b⟩
def ChoIs (n b : Nat) (w : World) (e : Ending) (w' : World) : Prop := ∃ v, e = .returned v ∧ w'.ownsRow w.heap.size 27 1 v (len (choP n b)) ((choP n b).map (Value.int .u64)) ∧ Below w.heap.size w w'
set_option maxRecDepth 100000 in
set_option maxHeartbeats 4000000 in
theorem chosen_any (n b : Nat) (w : World) (hn : 0 < n) (hn2 : n ≤ 80) (hb : b < 18446744073709551616) : Calls Try.prog 12 #[.int .i64 (n : Nat), .int .u64 (b : Nat)] w (ChoIs n b w) := by
  have HN := Lib.hid (And.intro hn hn2)
  have HB := Lib.hid hb
  obtain ⟨i0, hi, hz0, hz1, hz2⟩ := info_parts info_u64
  have HZ := Lib.hid hz0
  clear hn hn2 hb hz0
  go_enter Try.func12, Try.ntmps12
  go_wp2
  go_loopg [6, 5] n (fun g i v wr => ∃ m : Nat, g + m = n ∧ i = .int .i64 m ∧ Hid (wr.ownsRow w.heap.size 27 1 v (len (choL m b)) ((choL m b).map (Value.int .u64))) ∧ Hid (Below w.heap.size w wr))
  case atStart => exact ⟨0, rfl, rfl, Lib.hid (World.ownsRow_nil _ _ _ _), Lib.hid (Below.refl _ _)⟩
  case round =>
    obtain ⟨m, hm, rfl, HO, HW⟩ := hrel
    have hnn := HN.out.2
    by_cases hlt : m < n
    · have b0 : (m : Int) < n := by omega
      obtain ⟨m6, hm6⟩ : ∃ m6, m % 64 = m6 := ⟨_, rfl⟩
      have r1 : ((m : Nat) : Int) % 64 = ((m6 : Nat) : Int) := by omega
      have r2 : ((m : Nat) : Int).tmod 64 = ((m6 : Nat) : Int) := by rw [Int.tmod_eq_emod_of_nonneg (by omega)]; exact r1
      have b2 : ¬ (m6 : Int) < 0 := by omega
      have b3 : min m6 64 = m6 := by omega
      obtain ⟨x, hx⟩ : ∃ x, b / 2 ^ m6 = x := ⟨_, rfl⟩
      have s2 : ((b : Nat) : Int) / 2 ^ m6 = ((x : Nat) : Int) := by rw [pow_cast, ← hx]; rfl
      have hxl : x < 18446744073709551616 := by rw [← hx]; exact Nat.lt_of_le_of_lt (Nat.div_le_self _ _) HB.out
      obtain ⟨y, hy⟩ : ∃ y, x % 2 = y := ⟨_, rfl⟩
      have s3 : bits .and .u64 ((x : Nat) : Int) 1 = ((y : Nat) : Int) := by
        rw [show (1 : Int) = ((1 : Nat) : Int) from rfl, u64_and_nat _ _ hxl (by omega), Nat.and_one_is_mod, hy]
      have HT : Hid (b.testBit (m % 64) = decide (y = 1)) := Lib.hid (by rw [hm6, Nat.testBit_eq_decide_div_mod_eq, hx, hy])
      have HS := Lib.hid (choL_snoc m b)
      have HLE : Hid (len (choL m b) ≤ m) := Lib.hid (choL_le m b)
      have u1 : IntKind.u64.wrap (m : Int) = (m : Int) := IntWalk.u64_in _ (by omega)
      clear hx hxl hm6
      by_cases hy1 : y = 1
      · have y1 : ((y : Nat) : Int) = 1 := by omega
        have HT1 : Hid (choL (m + 1) b = choL m b ++ [((m : Nat) : Int)]) := Lib.hid (by rw [HS.out, HT.out, if_pos (decide_eq_true hy1)])
        have hle := HLE.out
        clear hy hy1
        go_wp2_with (at_builtin; refine wpList_append_own _ rfl _ _ 28 rfl w.heap.size 27 i0 (.int .u64 0) 1 8 Try.underlying28 hi HZ.out hz1 hz2 rfl (by decide) _ _ _ rfl (HO.out.alloc _) ⟨wr.heap.size, 0, none⟩ 1 1 [.int .u64 (m : Nat)] rfl rfl (World.news_of_block (heap_alloc_new _ _)) (by intro u hu9; simp at hu9; subst hu9; rfl) (by unfold maxLen; omega) (by omega) (by have := HW.out.size; simp; omega) ?_; intro v2 w4 hown2 hgrow2 _)
        have HO2 : Hid (w4.ownsRow w.heap.size 27 1 v2 (len (choL (m + 1) b)) ((choL (m + 1) b).map (Value.int .u64))) := Lib.hid (by
          have e9 : len (choL m b ++ [((m : Nat) : Int)]) = len (choL m b) + 1 := by rw [len_eq, List.length_append]; rfl
          rw [HT1.out, List.map_append, e9]
          exact hown2)
        have HB2 : Hid (Below w.heap.size w w4) := Lib.hid (grownBy_below (balloc HW.out _) hgrow2 (fun k hk' => (HO.out.lt k hk').1))
        clear hown2 hgrow2
        go_wp2
        go_roundg (n - (m + 1))
        case rel => exact ⟨m + 1, by omega, by go_num, HO2, HB2⟩
        case measure => omega
      · have y1 : ¬ ((y : Nat) : Int) = 1 := by omega
        have HO2 : Hid (wr.ownsRow w.heap.size 27 1 u5 (len (choL (m + 1) b)) ((choL (m + 1) b).map (Value.int .u64))) := Lib.hid (by
          rw [HS.out, HT.out, if_neg (by rw [decide_eq_false hy1]; simp), List.append_nil]
          exact HO.out)
        clear hy hy1
        go_wp2
        go_roundg (n - (m + 1))
        case rel => exact ⟨m + 1, by omega, by go_num, HO2, HW⟩
        case measure => omega
    · obtain rfl : m = n := by omega
      have b0 : ¬ ((m : Nat) : Int) < (m : Nat) := by omega
      have hm0 := HN.out.1
      have u2 : IntKind.u64.wrap ((m : Nat) : Int) = (m : Int) := IntWalk.u64_in _ (by omega)
      obtain ⟨aa, cc, rfl, hU, _, _⟩ := own_u64 HO.out
      by_cases hz : len (choL m b) = 0
      · have HPP : Hid (choP m b = [((b % m : Nat) : Int)]) := Lib.hid (by unfold choP; rw [if_pos hz])
        have z1 : ((len (choL m b) : Nat) : Int) = 0 := by omega
        have z2 : (((len (choL m b) : Nat) : Int) == 0) = true := by simp; omega
        obtain ⟨r9, hr9⟩ : ∃ r9, b % m = r9 := ⟨_, rfl⟩
        rw [hr9] at HPP
        have q1 : ((b : Nat) : Int) % ((m : Nat) : Int) = ((r9 : Nat) : Int) := by rw [← hr9]; rfl
        have q2 : ((b : Nat) : Int).tmod ((m : Nat) : Int) = ((r9 : Nat) : Int) := by rw [Int.tmod_eq_emod_of_nonneg (by omega)]; exact q1
        have q3 : ¬ ((m : Nat) : Int) = 0 := by omega
        have HNIL : Hid (choL m b = []) := Lib.hid (List.eq_nil_of_length_eq_zero (by rw [← len_eq]; exact hz))
        clear hz hr9 hU
        go_wp2_with (at_builtin; refine wpList_append_own _ rfl _ _ 28 rfl w.heap.size 27 i0 (.int .u64 0) 1 8 Try.underlying28 hi HZ.out hz1 hz2 rfl (by decide) _ _ _ rfl (HO.out.alloc _) ⟨wr.heap.size, 0, none⟩ 1 1 [.int .u64 (r9 : Nat)] rfl rfl (World.news_of_block (heap_alloc_new _ _)) (by intro u hu9; simp at hu9; subst hu9; rfl) (by unfold maxLen; omega) (by omega) (by have := HW.out.size; simp; omega) ?_; intro v2 w4 hown2 hgrow2 _)
        have HO2 : Hid (w4.ownsRow w.heap.size 27 1 v2 (len (choP m b)) ((choP m b).map (Value.int .u64))) := Lib.hid (by
          rw [HPP.out]
          rw [HNIL.out] at hown2
          exact hown2)
        have HB2 : Hid (Below w.heap.size w w4) := Lib.hid (grownBy_below (balloc HW.out _) hgrow2 (fun k hk' => (HO.out.lt k hk').1))
        clear hown2 hgrow2
        go_wp2
        go_ret
        exact ⟨_, rfl, HO2.out, HB2.out⟩
      · have HPP : Hid (choP m b = choL m b) := Lib.hid (by unfold choP; rw [if_neg hz])
        have z1 : ¬ ((len (choL m b) : Nat) : Int) = 0 := by omega
        have z2 : (((len (choL m b) : Nat) : Int) == 0) = false := by simp; omega
        clear hz hU
        go_wp2
        go_ret
        exact ⟨_, rfl, by rw [HPP.out]; exact HO.out, HW.out⟩
end Go.Proofs.Ytmikkhfklmmkaaa
namespace Go.Proofs.Ytmikkhfklmmkaaa
open Go.RowKit
set_option linter.unusedSimpArgs false
set_option linter.unusedVariables false
theorem len_appP {α : Type} (a b : List α) : len (a ++ b) = len a + len b := by rw [len_eq, List.length_append]; rfl
theorem tree_ok {els : List ByteArray} {ps : List Int} (hn : len els ≤ 65536) (hm : MayOk (len els : Nat) ps) :
    (∀ d ∈ dgsL els (plcL (len els : Nat) ps), d.size = 32) ∧ len (dgsL els (plcL (len els : Nat) ps)) = neededP (len els : Nat) ps := by
  obtain ⟨d, hdd⟩ : ∃ d, depN els = d := ⟨_, rfl⟩
  have hd : d ≤ 16 := by rw [← hdd]; exact depN_le hn
  have hdz : depthZ (len els : Nat) = ((d : Nat) : Int) := by rw [depthZ_len hn, hdd]
  refine ⟨fun x hx => ?_, ?_⟩
  · unfold dgsL at hx
    obtain ⟨y, _, rfl⟩ := List.mem_map.1 hx
    exact plD_size _ _ _ _
  · have hrw : rowsP (len els : Nat) ps = rowsOf (leavesL ps (d : Nat)) d := by unfold rowsP; rw [hdz, needs_rows hd hm.1]
    have hpl : plcL (len els : Nat) ps = flatLv (rowsOf (leavesL ps (d : Nat)) d) := by unfold plcL; rw [hdz, needs_rows hd hm.1]
    unfold neededP
    rw [hrw, hpl, dgs_all]
theorem arg_ok {n : Nat} {ps : List Int} {es : List ByteArray} (hn : n ≤ 65536) (h0 : 0 < n) (hm : MayOk (n : Nat) ps) (hel : len es = len ps) : ArgOk (n : Nat) ps es := ⟨⟨by omega, by omega, hm⟩, hel⟩
theorem pex_more {n : Nat} {ps : List Int} {es D : List ByteArray} {x : ByteArray} (hA : ArgOk (n : Nat) ps es) (h1 : ∀ d ∈ D, d.size = 32) (h2 : len D = neededP (n : Nat) ps) (hx : x.size = 32) : rootE (n : Nat) ps es (D ++ [x]) = 3 :=
  rootE_long hA (bad_no (fun d hd => by
    rcases List.mem_append.1 hd with h | h
    · exact h1 d h
    · rw [List.mem_singleton] at h; rw [h]; exact hx)) (by rw [len_appP, ← h2]; show len D < len D + 1; omega)
theorem pex_arg {n : Nat} {ps : List Int} {es D : List ByteArray} (h : len es ≠ len ps) : rootE (n : Nat) ps es D = 2 := rootE_arg (fun h9 => h h9.2)
theorem pex_less {n k : Nat} {ps : List Int} {es D : List ByteArray} (hA : ArgOk (n : Nat) ps es) (h1 : ∀ d ∈ D, d.size = 32) (h2 : len D = neededP (n : Nat) ps) (hk : k < len D) : rootE (n : Nat) ps es (D.take k ++ D.drop (k + 1)) = 4 :=
  rootE_short hA (bad_no (fun d hd => by
    rcases List.mem_append.1 hd with h | h
    · exact h1 d (List.mem_of_mem_take h)
    · exact h1 d (List.mem_of_mem_drop h))) (by
    rw [len_appP, ← h2, len_eq, len_eq, List.length_take, List.length_drop]
    have : D.length = len D := rfl
    omega)
theorem pex_cut {n k : Nat} {ps : List Int} {es D : List ByteArray} {x : ByteArray} (hA : ArgOk (n : Nat) ps es) (hk : k < len D) (hx : x.size = 31) : rootE (n : Nat) ps es (D.set k x) = 5 :=
  rootE_form hA (decide_eq_true ⟨x, List.mem_set (show k < D.length from hk) x, by omega⟩)
def elP (L : List ByteArray) (P : List Int) (m : Nat) : List ByteArray := (P.take m).map (fun k => tth L k.toNat)
theorem elP_snoc (L : List ByteArray) (P : List Int) (m : Nat) (h : m < len P) : elP L P (m + 1) = elP L P m ++ [tth L (nth P m).toNat] := by
  have h2 : m < P.length := h
  unfold elP
  rw [List.take_succ_eq_append_getElem h2, List.map_append, nth_eq P m h2]
  rfl
theorem elP_len (L : List ByteArray) (P : List Int) (m : Nat) (h : m ≤ len P) : len (elP L P m) = m := by
  have h2 : m ≤ P.length := h
  unfold elP
  rw [len_eq, List.length_map, List.length_take]
  omega
theorem elP_at (L : List ByteArray) (P : List Int) (m i : Nat) (h : m ≤ len P) (hi : i < m) : tth (elP L P m) i = tth L (nth P i).toNat := by
  have h2 : m ≤ P.length := h
  have h3 : i < (elP L P m).length := by have := elP_len L P m h; rw [len_eq] at this; omega
  unfold elP at h3 ⊢
  rw [tth_eq _ i h3, List.getElem_map, List.getElem_take, nth_eq P i (by omega)]
theorem elP_size (L : List ByteArray) (P : List Int) (m : Nat) (h : m ≤ len P) (hz : ∀ j, (tth L j).size ≤ 1000000) : ∀ i, i < len (elP L P m) → (tth (elP L P m) i).size ≤ 1000000 := fun i hi => by
  rw [elP_len L P m h] at hi
  rw [elP_at L P m i h hi]
  exact hz _
theorem tth_small {L : List ByteArray} {B : Nat} (h : ∀ j, j < len L → (tth L j).size ≤ B) : ∀ j, (tth L j).size ≤ B := fun j => by
  by_cases hj : j < len L
  · exact h j hj
  · have : tth L j = ⟨#[]⟩ := by
      unfold tth
      rw [List.getD_eq_getElem?_getD, List.getElem?_eq_none (show L.length ≤ j from by have : L.length = len L := rfl; omega)]
      rfl
    rw [this]
    exact Nat.zero_le _
end Go.Proofs.Ytmikkhfklmmkaaa
namespace Go.Proofs.Ytmikkhfklmmkaaa
open Go.RowKit
set_option linter.unusedSimpArgs false
set_option linter.unusedVariables false
theorem own_set {base n c g m : Nat} {w : World} {e : TypeId} {xs : List Value} {u : Value} (h : w.ownsRow base e 1 (.slice (some ⟨g, 0, none⟩) n c) n xs) : (w.setCell ⟨g, m, none⟩ u).ownsRow base e 1 (.slice (some ⟨g, 0, none⟩) n c) n (xs.set m u) := by
  refine ⟨by rw [List.length_set]; exact h.1, ?_⟩
  rcases h.2 with ⟨hz, _⟩ | ⟨g9, cap, cur, hv, hg, hh, h1, h2, h3, h4⟩
  · cases hz
  · cases hv
    refine Or.inr ⟨g, c, cur.setIfInBounds m u, rfl, hg, block_setCell hh u, h1, h2, by rw [Array.size_setIfInBounds]; exact h3, ?_⟩
    rw [Array.toList_setIfInBounds, ← h4, List.take_set]
theorem own_at {base n c : Nat} {w : World} {a : Option Addr} {l : List ByteArray} (h : w.ownsRow base 9 1 (.slice a n c) n (l.map Value.string)) (m : Nat) (hm : m < n) : ∃ g, a = some ⟨g, 0, none⟩ ∧ base ≤ g ∧ w.cell? ⟨g, m, none⟩ = some (.string (tth l m)) ∧ w.frozen? ⟨g, m, none⟩ = false ∧ g < w.heap.size := by
  have hn : l.length = n := by have := h.1; simpa using this
  rcases h.2 with ⟨hz, h9⟩ | ⟨g9, cap, cur, hv, hg, hh, h1, h2, h3, h4⟩
  · omega
  · cases hv
    refine ⟨g9, rfl, hg, ?_, block_free hh m, lt_of_block hh⟩
    have h5 := h.cellAt m (by omega)
    have hi2 : m < l.length := by omega
    rw [h5, List.getElem?_map, List.getElem?_eq_getElem hi2, tth_eq l m hi2]; rfl
end Go.Proofs.Ytmikkhfklmmkaaa
namespace Go.Proofs.Ytmikkhfklmmkaaa
open Go.RowKit
set_option linter.unusedSimpArgs false
set_option linter.unusedVariables false
theorem txts_news {w : World} {ad : Addr} {l : List ByteArray} (h : Txts w (some ad) l) : ∀ j u, (l.map Value.string)[j]? = some u → w.cell? (ad.add j) = some u := by
  intro j u hu
  have hj : j < l.length := by have := (List.getElem?_eq_some_iff.1 hu).1; simpa using this
  rw [List.getElem?_map, List.getElem?_eq_getElem hj] at hu
  cases hu
  obtain ⟨b, off, e, hc⟩ := h j hj
  cases e
  rw [tth_eq l j hj] at hc
  by_cases hj0 : j = 0
  · subst hj0; simpa [Addr.add] using hc
  · simpa [Addr.add, hj0] using hc
theorem one_txts (l : List ByteArray) : ∀ u ∈ l.map Value.string, u.oneCell' = true := by
  intro u hu
  obtain ⟨x, _, rfl⟩ := List.mem_map.1 hu
  rfl
theorem len_appT {α : Type} (a b : List α) : len (a ++ b) = len a + len b := by rw [len_eq, List.length_append]; rfl
theorem wpList_append_txts {w : World} {ops : Array Oper} {rest : List Oper} {o : Oper} {a : Act} {Q : Exit → Act → World → Prop} (hgd : o.guard = none) (s x : Operand)
    (ho : o.op = .call { callee := .builtin .append, args := #[s, x], argTypes := #[26, 26] })
    (base : Nat) (v : Value) (xs l : List ByteArray) (ad : Option Addr) (c : Nat) (hs : a.eval s = v) (hown : w.ownsRow base 9 1 v (len xs) (xs.map Value.string))
    (hx : a.eval x = .slice ad (len l) c) (hl : Txts w ad l) (hc : ad = none → c = 0) (hlen : len xs + len l ≤ 100000) (hbase : base ≤ w.heap.size)
    (h : ∀ v' w', w'.ownsRow base 9 1 v' (len (xs ++ l)) ((xs ++ l).map Value.string) → w.grownBy w' v.ownBlock → wpList Try.prog ops Q rest (a.put o.dst v') w') : wpList Try.prog ops Q (o :: rest) a w := by
  obtain ⟨i0, hi, hz0, hz1, hz2⟩ := info_parts info_str
  cases ad with
  | none =>
    obtain rfl : l = [] := by
      cases l with
      | nil => rfl
      | cons y l => obtain ⟨b, off, e, _⟩ := hl 0 (by simp [len]); cases e
    rw [hc rfl] at hx
    refine wpList_append_own_none hgd s x 26 ho base 9 i0 1 Try.underlying26 hi v _ _ hs hown hx ?_
    exact h v w (by rw [List.append_nil]; exact hown) ⟨rfl, rfl, rfl, Nat.le_refl _, fun _ _ _ => rfl⟩
  | some ad =>
    refine wpList_append_own _ hgd s x 26 ho base 9 i0 (.string ⟨#[]⟩) 1 16 Try.underlying26 hi hz0 hz1 hz2 rfl (by decide) v _ _ hs hown ad (len l) c (l.map Value.string) hx (by simp [len]) (txts_news hl) (one_txts l) (by unfold maxLen; omega) (by omega) hbase ?_
    intro v' w' h1 h2 _
    refine h v' w' ?_ h2
    rw [len_appT, List.map_append]; exact h1
theorem txts_take {w : World} {a : Option Addr} {l : List ByteArray} (h : Txts w a l) (m : Nat) : Txts w a (l.take m) := fun i hi => by
  have h2 : i < (l.take m).length := hi
  have h3 : i < m ∧ i < l.length := by rw [List.length_take] at h2; omega
  obtain ⟨b, off, e1, e2⟩ := h i h3.2
  refine ⟨b, off, e1, ?_⟩
  rw [e2, tth_eq l i h3.2, tth_eq _ i h2, List.getElem_take]
def Apart (u v : Value) : Prop := ∀ k, u.ownBlock = some k → v.ownBlock ≠ some k
theorem Apart.symm {u v : Value} (h : Apart u v) : Apart v u := fun k h1 h2 => h k h2 h1
theorem Apart.keep {w w1 : World} {u v : Value} {base e size n : Nat} {xs : List Value} (h : Apart u v) (ho : w.ownsRow base e size u n xs) (hg : w.grownBy w1 v.ownBlock) : w1.ownsRow base e size u n xs :=
  ho.kept hg (by
    cases hp : Value.ownBlock u with
    | none => exact .inl rfl
    | some k => exact .inr (fun e => h k hp e.symm))
set_option maxRecDepth 100000 in
theorem slice_toT {n c k : Nat} (b0 : Option Addr) (hk : k ≤ c) (W : World) : (Instr.slice 26 (.slice b0 n c) none (some (.int .i64 (k : Int))) none).run Try.prog W = .ok (.slice b0 k c) W := by
  have hsz : (sizeOf (Try.prog.elem 26)).run Try.prog W = .ok 1 W := by kernel_rfl
  rw [run_slice_h (P := Try.prog) W 26 b0 n c Try.underlying26 .i64 (k : Int) (by omega) (by omega), hsz]
  simp only [Result.andThen, sliced, Int.toNat_natCast, Nat.sub_zero, Nat.zero_mul]
  have e : (b0.map (·.add 0)) = b0 := by cases b0 <;> simp [Addr.add]
  rw [e]
  split <;> rfl
set_option maxRecDepth 100000 in
theorem slice_offT {n c k : Nat} {C : List ByteArray} {b0 : Option Addr} {w : World} (hk : k ≤ n) (hn : n ≤ c) (hC : len C = n) (hu : Txts w b0 C) : ∃ da, (∀ W : World, (Instr.slice 26 (.slice b0 n c) (some (.int .i64 (k : Int))) none none).run Try.prog W = .ok (.slice da (n - k) (c - k)) W) ∧ (∀ w' : World, Below w.heap.size w w' → Txts w' da (C.drop k)) ∧ len (C.drop k) = n - k ∧ (b0 ≠ none → da ≠ none) := by
  have hl : len (C.drop k) = n - k := by rw [len_eq, List.length_drop, ← len_eq, hC]
  refine ⟨if c = k then b0 else b0.map (·.add k), fun W => ?_, fun w' hb => Txts.below (fun i hi => ?_) hb, hl, fun h => ?_⟩
  · have hsz : (sizeOf (Try.prog.elem 26)).run Try.prog W = .ok 1 W := by kernel_rfl
    rw [run_slice_l (P := Try.prog) W 26 b0 n c Try.underlying26 .i64 (k : Int) (by omega) (by omega), hsz]
    simp only [Result.andThen, sliced, Int.toNat_natCast, Nat.mul_one]
  · rw [hl] at hi
    obtain ⟨b, off, rfl, hc⟩ := hu (k + i) (by omega)
    have hck : ¬ c = k := by omega
    refine ⟨b, off + k, ?_, ?_⟩
    · rw [if_neg hck]
      by_cases h0 : k = 0
      · subst h0; simp [Addr.add]
      · simp [Addr.add, h0]
    · rw [Nat.add_assoc, hc, tth_drop]
  · cases b0 with
    | none => exact absurd rfl h
    | some q =>
      split
      · exact fun e => by cases e
      · exact fun e => by cases e
theorem own_empty {w : World} {b base : Nat} (hb : w.heap[b]? = some (.cells #[] 9 (0, 0))) (hB : base ≤ b) : w.ownsRow base 9 1 (.slice (some ⟨b, 0, none⟩) 0 0) 0 [] :=
  ⟨rfl, .inr ⟨b, 0, #[], rfl, hB, hb, Nat.le_refl _, Nat.zero_le _, rfl, rfl⟩⟩
theorem wp_append_fresh {w : World} {o : Oper} {a : Act} {K : Act → World → Prop} {Q : Exit → Act → World → Prop} (s x : Operand)
    (ho : o.op = .call { callee := .builtin .append, args := #[s, x], argTypes := #[26, 26] })
    (base b : Nat) (l : List ByteArray) (ad : Option Addr) (c : Nat) (hb : w.heap[b]? = some (.cells #[] 9 (0, 0))) (hB : base ≤ b) (hs : a.eval s = .slice (some ⟨b, 0, none⟩) 0 0)
    (hx : a.eval x = .slice ad (len l) c) (hl : Txts w ad l) (hc : ad = none → c = 0) (hlen : len l ≤ 100000)
    (h : ∀ v' w', w'.ownsRow base 9 1 v' (len l) (l.map Value.string) → Below w.heap.size w w' → K (a.put o.dst v') w') : o.wp Try.prog a w K Q := by
  obtain ⟨i0, hi, hz0, hz1, hz2⟩ := info_parts info_str
  have hown := own_empty hb hB
  have hbl := lt_of_block hb
  cases ad with
  | none =>
    obtain rfl : l = [] := by
      cases l with
      | nil => rfl
      | cons y l => obtain ⟨b, off, e, _⟩ := hl 0 (by simp [len]); cases e
    have hx' : a.eval x = .slice none 0 0 := by rw [hx, hc rfl]; rfl
    have hrun := run_append_owned_none (P := Try.prog) (w := w) base 26 o.type 9 i0 1 Try.underlying26 hi _ _ _ hown
    unfold Oper.wp
    simp [execOp, ho, resolve, invoke, builtin, hs, hx', hrun, Result.andThen]
    exact h _ w hown (Below.refl _ _)
  | some ad =>
    by_cases h0 : len l = 0
    · obtain rfl : l = [] := List.eq_nil_of_length_eq_zero (by rw [← len_eq]; exact h0)
      have hx' : a.eval x = .slice (some ad) 0 c := hx
      have hrun := run_append_room_cells (P := Try.prog) w 26 o.type 9 i0 Try.underlying26 hi b 0 0 0 ad 0 c [] (by simp) (by intro j u hj; cases hj) (by intro u hu; cases hu) (Nat.le_refl _) (by intro j hj; cases hj) (by intro j hj; cases hj)
      unfold Oper.wp
      simp [execOp, ho, resolve, invoke, builtin, hs, hx', hrun, Result.andThen]
      exact h _ _ hown (Below.refl _ _)
    · obtain ⟨v', w', hrun, r1, r2⟩ := run_append_arg_grows (P := Try.prog) w 26 o.type 9 i0 (.string ⟨#[]⟩) 1 16 Try.underlying26 hi hz0 hz1 hz2 rfl (by decide) ⟨b, 0, none⟩ 0 0 [] rfl (by intro j u hj; cases hj) ad (len l) c (l.map Value.string) (by simp [len]) (txts_news hl) (by omega) (by unfold maxLen; omega) (by omega)
      unfold Oper.wp
      simp [execOp, ho, resolve, invoke, builtin, hs, hx, hrun, Result.andThen]
      refine h _ _ ?_ (grownBy_below (Below.refl _ _) r2 (fun k hk => by cases hk))
      have e : 0 + len l = len l := Nat.zero_add _
      rw [e, List.nil_append] at r1
      obtain ⟨q1, q2⟩ := r1
      refine ⟨q1, q2.imp id ?_⟩
      rintro ⟨g, cap, cur, e1, e2, e3⟩
      exact ⟨g, cap, cur, e1, by omega, e3⟩
end Go.Proofs.Ytmikkhfklmmkaaa
namespace Go.Proofs.Ytmikkhfklmmkaaa
open Go.RowKit
set_option linter.unusedSimpArgs false
set_option linter.unusedVariables false
theorem cut_call (l : List ByteArray) (n : Nat) (a : Option Addr) (cap : Nat) (w : World) (hnn : n ≤ 100) (hl : Txts w a l) (hn : len l ≤ 9223372036854775807) :
    Calls Try.prog 11 #[.slice a (len l) cap, .int .i64 (n : Nat)] w fun e w2 => ∃ u, e = .returned u ∧ (∃ a c, u = .slice a (len (cutL l n)) c ∧ Txts w2 a (cutL l n) ∧ len (cutL l n) ≤ c) ∧ Below w.heap.size w w2 := by
  refine (cut_any l n a cap w hnn hl hn).mono ?_
  rintro e w2 ⟨v, rfl, ho, hb⟩
  obtain ⟨a2, c2, rfl, hT⟩ := own_txts ho
  refine ⟨_, rfl, ⟨a2, c2, rfl, hT, ?_⟩, hb⟩
  rcases ho.2 with ⟨e1, e2⟩ | ⟨g, cap, cur, e1, _, _, h3, _⟩
  · injection e1 with _ e3 e4
    omega
  · injection e1 with _ e3 e4
    omega
end Go.Proofs.Ytmikkhfklmmkaaa
namespace Go.Proofs.Ytmikkhfklmmkaaa
open Go.RowKit
set_option linter.unusedSimpArgs false
set_option linter.unusedVariables false
theorem own_capT {w : World} {base n c : Nat} {a : Option Addr} {xs : List Value} {m : Nat} (h : w.ownsRow base 9 1 (.slice a m c) n xs) : m ≤ c ∧ (a = none → c = 0) := by
  rcases h.2 with ⟨e, _⟩ | ⟨g, cap, cur, e, _, _, h3, _⟩
  · injection e with e1 e2 e3; exact ⟨by omega, fun _ => e3⟩
  · injection e with e1 e2 e3; exact ⟨by omega, fun e9 => by rw [e9] at e1; cases e1⟩
set_option maxRecDepth 100000 in
set_option maxHeartbeats 8000000 in
theorem exact_law (l : List ByteArray) (a0 : Option Addr) (c0 : Nat) (M A : Nat) (w : World) (hl : Txts w a0 l) (hn : len l ≤ 9223372036854775807) (hM : M < 18446744073709551616) (hA : A < 256) :
    Calls Try.prog 4 #[.slice a0 (len l) c0, .int .u64 (M : Nat), .int .u8 (A : Nat)] w fun e w' => e = .returned (.bool true) ∧ Below w.heap.size w w' := by
  have HL := Lib.hid hl
  have HN := Lib.hid hn
  have HM := Lib.hid hM
  have HA := Lib.hid hA
  obtain ⟨i0, hi, hz0, hz1, hz2⟩ := info_parts info_str
  have HZ := Lib.hid hz0
  clear hl hn hM hA hz0
  go_enter Try.func4, Try.ntmps4
  go_wp2_with fail
  refine (works11_any w).mono ?_
  rintro e w1 ⟨rfl, hb1⟩
  have HB1 := Lib.hid hb1
  clear hb1
  go_wp2_with fail
  refine (cut_call l 80 a0 c0 w1 (by decide) (HL.out.below HB1.out) HN.out).mono ?_
  rintro e w2 ⟨v, rfl, ⟨a, c, rfl, htx, hc⟩, hb2⟩
  obtain ⟨L, hL⟩ : ∃ L, cutL l 80 = L := ⟨_, rfl⟩
  have H80 : Hid (len L ≤ 80) := Lib.hid (by rw [← hL]; exact (cutL_len _ _).1)
  have HSZ : Hid (∀ j, j < len L → (tth L j).size ≤ 1000000) := Lib.hid (by rw [← hL]; exact fun i hi => Nat.le_trans (cutL_size _ _ i hi) (by decide))
  rw [hL] at htx hc ⊢
  have HTX := Lib.hid htx
  have HB2 : Hid (Below w.heap.size w w2) := Lib.hid (bnext HB1.out hb2)
  clear hL htx hb2 HB1 hc
  by_cases hz : len L = 0
  · have z1 : ((len L : Nat) : Int) = 0 := by omega
    have z2 : (((len L : Nat) : Int) == 0) = true := by simp; omega
    go_wp2
    go_ret
    exact ⟨by first | rfl | simp, HB2.out⟩
  · have z1 : ¬ ((len L : Nat) : Int) = 0 := by omega
    have z2 : (((len L : Nat) : Int) == 0) = false := by simp; omega
    have HNZ : Hid (0 < len L) := Lib.hid (by omega)
    clear hz
    go_wp2_with fail
    refine (build_any L a c w2 HTX.out (by have := H80.out; omega) (fun j hj => by have := HSZ.out j hj; omega)).mono ?_
    rintro e w3 ⟨b, rfl, hbs, htr, hb3⟩
    have HT3 := Lib.hid htr
    have HTX3 := Lib.hid (HTX.out.below hb3)
    have HB3 : Hid (Below w.heap.size w w3) := Lib.hid (bnext HB2.out hb3)
    clear htr hb3 hbs HTX HB2 z1 z2
    go_wp2_with fail
    refine (chosen_any (len L) M w3 HNZ.out H80.out HM.out).mono ?_
    rintro e w4 ⟨vp, rfl, ho4, hb4⟩
    obtain ⟨ap, cp, rfl, hp4, hcp1, hcp2⟩ := own_u64 ho4
    obtain ⟨P, hP⟩ : ∃ P, choP (len L) M = P := ⟨_, rfl⟩
    have HU : Hid (∀ k ∈ P, U64 k) := Lib.hid (by
      rw [← hP]
      intro k hk
      have h1 := (choP_may (len L) M HNZ.out).2.1 k hk
      have h2 := H80.out
      unfold U64; omega)
    have HLP : Hid (len P ≤ 80) := Lib.hid (by have h1 := (choP_may (len L) M HNZ.out).2.2; rw [hP] at h1; have := H80.out; omega)
    have HMY : Hid (MayOk (len L : Nat) P) := Lib.hid (by rw [← hP]; exact (choP_may (len L) M HNZ.out).1)
    rw [hP] at hp4 ⊢
    have HP4 := Lib.hid hp4
    have HB4 : Hid (Below w.heap.size w w4) := Lib.hid (bnext HB3.out hb4)
    have HT4 := Lib.hid (HT3.out.below hb4)
    have HTX4 := Lib.hid (HTX3.out.below hb4)
    clear ho4 hp4 hb4 hP hcp1 hcp2 HT3 HTX3 HB3
    have HPR := Lib.hid (prove_ok L b P ap cp w4 HT4.out (by have := H80.out; omega) HP4.out (by have := HLP.out; omega) HU.out HMY.out)
    go_wp2_with fail
    refine HPR.out.mono ?_
    rintro e w5 ⟨v5, rfl, ho5, hb5⟩
    obtain ⟨a5, c5, rfl, hp5⟩ := own_txts ho5
    have HC5 := Lib.hid (own_capT ho5)
    obtain ⟨D, hD⟩ : ∃ D, dgsL L (plcL (len L : Nat) P) = D := ⟨_, rfl⟩
    have HD5 : Hid (Txts w5 a5 D) := Lib.hid (by rw [← hD]; exact hp5)
    have HTO := Lib.hid (tree_ok (els := L) (ps := P) (by have := H80.out; omega) HMY.out)
    have HPL : Hid (len D ≤ 1600) := Lib.hid (by rw [← hD, dgs_len]; exact plc_len _ _ (by have := HLP.out; omega))
    rw [hD] at HTO HC5 ⊢
    have HB5 : Hid (Below w.heap.size w w5) := Lib.hid (bnext HB4.out hb5)
    have HTX5 := Lib.hid (HTX4.out.below hb5)
    have HP5 := Lib.hid (HP4.out.below hb5)
    clear ho5 hp5 hb5 hD HPR HT4 HTX4 HP4 HB4
    go_upto_region 14 with fail
    go_wp2_with fail
    go_loopg [12, 13] (len P) (fun g v i wr => ∃ m : Nat, g + m = len P ∧ i = .int .i64 m ∧ Hid (wr.ownsRow w5.heap.size 9 1 v m ((elP L P m).map Value.string)) ∧ Hid (Below w5.heap.size w5 wr))
    case atStart => exact ⟨0, rfl, rfl, Lib.hid (World.ownsRow_nil _ _ _ _), Lib.hid (Below.refl _ _)⟩
    case round =>
      obtain ⟨m, hm, rfl, HO, HW⟩ := hrel
      by_cases hlt : m < len P
      · have b0 : (m : Int) < len P := by omega
        have hp80 := HLP.out
        obtain ⟨pb, po, rfl, cp1⟩ := HP5.out m hlt
        have hk := HMY.out.2 m hlt
        have hu := HU.out _ (mem_nth hlt)
        obtain ⟨x, hx⟩ : ∃ x : Nat, nth P m = (x : Nat) := Int.eq_ofNat_of_zero_le hu.1
        rw [hx] at cp1 hk hu
        have hxl : x < len L := by omega
        have hx80 : x < 80 := by have := H80.out; omega
        obtain ⟨lb, lo, rfl, cl1⟩ := HTX5.out x hxl
        have cp2 : wr.cell? ⟨pb, po + m, none⟩ = some (.int .u64 (x : Nat)) := by rw [HW.out.cell (p := ⟨pb, po + m, none⟩) (lt_of_cell cp1)]; exact cp1
        have cl2 : wr.cell? ⟨lb, lo + x, none⟩ = some (.string (tth L x)) := by rw [HW.out.cell (p := ⟨lb, lo + x, none⟩) (lt_of_cell cl1)]; exact cl1
        obtain ⟨s, hs⟩ : ∃ s, tth L x = s := ⟨_, rfl⟩
        rw [hs] at cl2
        have HSN : Hid (elP L P (m + 1) = elP L P m ++ [s]) := Lib.hid (by rw [elP_snoc L P m hlt, hx, Int.toNat_natCast, hs])
        have bl : ¬ len P ≤ m := by omega
        have bk : ¬ len L ≤ x := by omega
        have HLT := Lib.hid hlt
        clear cp1 cl1 hk hu hx hs
        go_wp2_with (at_builtin; refine wpList_append_own_at _ rfl _ _ 26 rfl w5.heap.size 9 i0 (.string ⟨#[]⟩) 1 16 Try.underlying26 hi HZ.out hz1 hz2 rfl (by decide) _ _ _ rfl (HO.out.alloc _) ⟨wr.heap.size, 0, none⟩ 1 1 [.string s] rfl rfl (cell_one_new _ _ _) (by simp [Value.oneCell']) (by unfold maxLen; omega) (by omega) (by have := HW.out.size; simp; omega) ?_)
        intro v' x2 hown' hgrow _ hat
        have HW2 : Hid (Below w5.heap.size w5 x2) := Lib.hid (grownBy_below (balloc HW.out _) hgrow (fun k hk => (HO.out.lt k hk).1))
        have HO2 : Hid (x2.ownsRow w5.heap.size 9 1 v' (m + 1) ((elP L P (m + 1)).map Value.string)) := Lib.hid (by
          rw [HSN.out, List.map_append]; exact hown')
        clear hown' hgrow hat HO HW cp2 cl2
        go_wp2
        go_roundg (len P - (m + 1))
        case rel => exact ⟨m + 1, by omega, by go_num, HO2, HW2⟩
        case measure => omega
      · obtain rfl : m = len P := by omega
        have b0 : ¬ ((len P : Nat) : Int) < len P := by omega
        obtain ⟨E, hE9⟩ : ∃ E, elP L P (len P) = E := ⟨_, rfl⟩
        have HE : Hid (len E = len P ∧ ∀ i, i < len E → (tth E i).size ≤ 1000000) := Lib.hid (by
          rw [← hE9]
          exact ⟨elP_len L P _ (Nat.le_refl _), elP_size L P _ (Nat.le_refl _) (tth_small HSZ.out)⟩)
        rw [hE9] at HO
        obtain ⟨ae, ce, hev, hte⟩ := own_txts HO.out
        subst hev
        have HCE := Lib.hid (own_capT HO.out)
        have HTE := Lib.hid hte
        have HD6 := Lib.hid (HD5.out.below HW.out)
        have HP6 := Lib.hid (HP5.out.below HW.out)
        have HB6 : Hid (Below w.heap.size w wr) := Lib.hid (bnext HB5.out HW.out)
        have HP0 : Hid (0 < len P) := Lib.hid HMY.out.1
        have HAR : Hid (ArgOk (len L : Nat) P E) := Lib.hid (arg_ok (by have := H80.out; omega) HNZ.out HMY.out HE.out.1)
        have E0 : Hid ((wr.alloc (.cells #[] 9)).ownsRow wr.heap.size 9 1 (.slice (some ⟨wr.heap.size, 0, none⟩) 0 0) (len ([] : List ByteArray)) (([] : List ByteArray).map Value.string)) := Lib.hid (World.ownsRow_lit wr #[] 0 (Nat.le_refl _) (Nat.zero_le _) rfl)
        clear hE9 hte HO HD5 HP5 HTX5 HB5 HW hlt hm
        go_wp2_with (at_builtin; refine wpList_append_txts rfl _ _ rfl wr.heap.size _ [] D a5 c5 rfl E0.out rfl (HD6.out.below (balloc (Below.refl _ _) _)) HC5.out.2 (show 0 + len D ≤ 100000 by have := HPL.out; omega) (by simp) ?_)
        intro mv w6 hown hgrow
        have VB6 : Hid (Below wr.heap.size wr w6) := Lib.hid (grownBy_below (balloc (Below.refl _ _) _) hgrow (fun k hk => by simp [Value.ownBlock] at hk; omega))
        have HO6 : Hid (w6.ownsRow wr.heap.size 9 1 mv (len D) (D.map Value.string)) := Lib.hid hown
        clear hown hgrow E0
        go_wp2_with fail
        refine (hash0_any noneT w6 (by decide) (by decide)).mono ?_
        rintro e w7 ⟨rfl, hb7⟩
        obtain ⟨X, hX⟩ : ∃ X, hashP noneT [] = X := ⟨_, rfl⟩
        have HXS : Hid (X.size = 32) := Lib.hid (by rw [← hX]; exact hashP_size _ _)
        rw [hX]
        have HO7 := Lib.hid (own_below HO6.out hb7)
        have VB7 : Hid (Below wr.heap.size wr w7) := Lib.hid (bnext VB6.out hb7)
        have hdl := HPL.out
        clear hX hb7 HO6 VB6
        go_wp2_with (at_builtin; refine wpList_append_own _ rfl _ _ 26 rfl wr.heap.size 9 i0 (.string ⟨#[]⟩) 1 16 Try.underlying26 hi HZ.out hz1 hz2 rfl (by decide) _ _ _ rfl (HO7.out.alloc _) ⟨w7.heap.size, 0, none⟩ 1 1 [.string X] rfl rfl (cell_one_new _ _ _) (by simp [Value.oneCell']) (by unfold maxLen; omega) (by omega) (by have := VB7.out.size; simp; omega) ?_)
        intro mv2 w8 hown hgrow _
        have VB8 : Hid (Below wr.heap.size wr w8) := Lib.hid (grownBy_below (balloc VB7.out _) hgrow (fun k hk => (HO7.out.lt k hk).1))
        have HO8 : Hid (w8.ownsRow wr.heap.size 9 1 mv2 (len (D ++ [X])) ((D ++ [X]).map Value.string)) := Lib.hid (by
          rw [len_appT, List.map_append]; exact hown)
        clear hown hgrow HO7 VB7
        obtain ⟨am, cm, hmv, htm⟩ := own_txts HO8.out
        subst hmv
        have HF1 : Hid (Calls Try.prog 14 #[.int .i64 3, .int .i64 (len L : Nat), .slice ap (len P) cp, .slice ae (len E) ce, .slice am (len (D ++ [X])) cm] w8 fun e w' => e = .returned (.bool true) ∧ Below w8.heap.size w8 w') := Lib.hid (
          fails_any 3 (len L : Nat) P E (D ++ [X]) ap ae am cp ce cm w8 ⟨HP6.out.below VB8.out, HTE.out.below VB8.out, htm, by have := HLP.out; omega, HU.out, by have := HE.out.1; have := HLP.out; omega, by rw [len_appT]; show len D + 1 ≤ _; have := HPL.out; omega, (own_capT HO8.out).1, HE.out.2⟩ (by omega) (by have := H80.out; omega) (pex_more HAR.out HTO.out.1 HTO.out.2 HXS.out) (by decide))
        obtain ⟨N1, hN1⟩ : ∃ N1, len (D ++ [X]) = N1 := ⟨_, rfl⟩
        rw [hN1] at HF1 ⊢
        clear htm hN1 HO8
        obtain ⟨eN, heN⟩ : ∃ eN, len E = eN := ⟨_, rfl⟩
        have hePn : eN = len P := by rw [← heN]; exact HE.out.1
        have he0 := HP0.out
        have hce := HCE.out.1
        rw [heN] at hce
        obtain ⟨da1, hsl1, htd1, hln1, _⟩ := slice_offT (n := eN) (c := ce) (k := 1) (C := E) (b0 := ae) (w := wr) (by omega) hce heN HTE.out
        have HF2 : Hid (∀ w9, Below wr.heap.size wr w9 → Calls Try.prog 14 #[.int .i64 2, .int .i64 (len L : Nat), .slice ap (len P) cp, .slice da1 (eN - 1) (ce - 1), .slice a5 (len D) c5] w9 fun e w' => e = .returned (.bool true) ∧ Below w9.heap.size w9 w') := Lib.hid (fun w9 hb9 => by
          have h := fails_any 2 (len L : Nat) P (E.drop 1) D ap da1 a5 cp (ce - 1) c5 w9 ⟨HP6.out.below hb9, htd1 w9 hb9, HD6.out.below hb9, by have := HLP.out; omega, HU.out, by rw [hln1]; have := HLP.out; omega, by have := HPL.out; omega, HC5.out.1, fun i hi => by
            rw [tth_drop]
            exact HE.out.2 _ (by rw [hln1] at hi; omega)⟩ (by omega) (by have := H80.out; omega) (pex_arg (by rw [hln1]; omega)) (by decide)
          rw [hln1] at h
          exact h)
        rw [heN] at HF1 ⊢
        have HSL1 := Lib.hid hsl1
        have sl0 : ∀ W : World, (Instr.slice 26 (.slice ae eN ce) (some (.int .i64 1)) none none).run Try.prog W = .ok (.slice da1 (eN - 1) (ce - 1)) W := HSL1.out
        clear hePn he0 hce htd1 hln1 hsl1
        go_wp2_with fail
        refine HF1.out.mono ?_
        rintro e w9 ⟨rfl, hb9⟩
        have VB9 : Hid (Below wr.heap.size wr w9) := Lib.hid (bnext VB8.out hb9)
        clear hb9 VB8 HF1
        go_wp2_with fail
        refine (HF2.out w9 VB9.out).mono ?_
        rintro e w10 ⟨rfl, hb10⟩
        have VB10 : Hid (Below wr.heap.size wr w10) := Lib.hid (bnext VB9.out hb10)
        clear hb10 VB9 HF2 sl0
        by_cases hd0 : len D = 0
        · have z1 : ((len D : Nat) : Int) = 0 := by omega
          have z2 : (((len D : Nat) : Int) == 0) = true := by simp; omega
          go_wp2
          go_ret
          exact ⟨by first | rfl | simp, bnext HB6.out VB10.out⟩
        · have z1 : ¬ ((len D : Nat) : Int) = 0 := by omega
          have z2 : (((len D : Nat) : Int) == 0) = false := by simp; omega
          obtain ⟨k, hk⟩ : ∃ k, A % len D = k := ⟨_, rfl⟩
          have hkl : k < len D := by rw [← hk]; exact Nat.mod_lt _ (by omega)
          have ha := HA.out
          have u1 : IntKind.i64.wrap ((A : Nat) : Int) = ((A : Nat) : Int) := IntWalk.i64_in _ (by omega)
          have q1 : ((A : Nat) : Int) % ((len D : Nat) : Int) = ((k : Nat) : Int) := by rw [← hk]; rfl
          have q2 : ((A : Nat) : Int).tmod ((len D : Nat) : Int) = ((k : Nat) : Int) := by rw [Int.tmod_eq_emod_of_nonneg (by omega)]; exact q1
          have q3 : IntKind.i64.wrap ((k : Nat) : Int) = ((k : Nat) : Int) := IntWalk.i64_in _ (by omega)
          clear hk
          go_upto_region 24 with fail
          clear z1 z2 u1 q1 q2 q3
          have hka : ∃ d0 : Addr, a5 = some d0 := by
            obtain ⟨b9, o9, e9, _⟩ := HD6.out 0 (by omega)
            exact ⟨_, e9⟩
          have hcc := HC5.out.1
          obtain ⟨k9, hk9⟩ : ∃ k9, k + 1 = k9 := ⟨_, rfl⟩
          obtain ⟨da, hsl2, htd2, hln2, hne2⟩ := slice_offT (n := len D) (c := c5) (k := k9) (C := D) (b0 := a5) (w := wr) (by omega) hcc rfl HD6.out
          have hne3 : da ≠ none := hne2 (by obtain ⟨d0, rfl⟩ := hka; simp)
          have sl1 : ∀ W : World, (Instr.slice 26 (.slice a5 (len D) c5) none (some (.int .i64 (k : Int))) none).run Try.prog W = .ok (.slice a5 k c5) W := fun W => slice_toT a5 (by omega) W
          have sl2 : ∀ W : World, (Instr.slice 26 (.slice a5 (len D) c5) (some (.int .i64 (k9 : Nat))) none none).run Try.prog W = .ok (.slice da (len D - k9) (c5 - k9)) W := hsl2
          have k1 : IntKind.i64.wrap ((k : Int) + 1) = ((k9 : Nat) : Int) := by rw [IntWalk.i64_in _ (by have := HPL.out; omega)]; omega
          have HK9 := Lib.hid hk9
          have HTK : Hid (len (D.take k) = k) := Lib.hid (by rw [len_eq, List.length_take]; have : D.length = len D := rfl; omega)
          have HTT := Lib.hid (txts_take HD6.out k)
          have HTD := Lib.hid htd2
          have HLN := Lib.hid hln2
          have HN3 := Lib.hid hne3
          have HKL := Lib.hid hkl
          have HDL := HPL.out
          obtain ⟨BW, hBW⟩ : ∃ BW, w10.heap.size = BW := ⟨_, rfl⟩
          have HBW : Hid (∀ wv, Below w10.heap.size w10 wv → BW ≤ wv.heap.size) := Lib.hid (fun wv h => by rw [← hBW]; exact h.size)
          have HBB := VB10
          have HBWE : Hid (w10.heap.size = BW) := Lib.hid hBW
          clear hsl2 htd2 hln2 hne2 hne3 hka hBW hkl hk9
          refine wp_region_tail 9 1000 (none) (phis [fun u w' => ∃ b, u = .slice (some ⟨b, 0, none⟩) 0 0 ∧ w'.heap[b]? = some (.cells #[] 9 (0, 0)) ∧ BW ≤ b, fun u _ => u = (.slice a5 (len D) c5), fun u _ => u = (.int .i64 (k : Nat)), fun u _ => u = (.slice a5 k c5), fun u w' => w'.ownsRow BW 9 1 u (len (D.take k)) ((D.take k).map Value.string), fun u _ => u = (.slice a5 (len D) c5), fun u _ => u = (.int .i64 (k : Nat)), fun u _ => u = (.int .i64 (k9 : Nat)), fun u _ => u = (.slice da (len D - k9) (c5 - k9))]) rfl (by kernel_rfl) (by kernel_rfl) (mono_of ⟨?m0, mono_eq, mono_eq, mono_eq, ?m4, mono_eq, mono_eq, mono_eq, mono_eq, trivial⟩) (steps_of 9 ⟨?s0, ?s1, ?s2, ?s3, ?s4, ?s5, ?s6, ?s7, ?s8, trivial⟩) ?_
          case m0 =>
            exact ⟨fun u w1 w' h ⟨b, h1, hb, h9⟩ => ⟨b, h1, ext_block h hb, h9⟩, fun _ u w1 w' h ⟨b, h1, hb, h9⟩ => ⟨b, h1, extB_block h (by simp) hb, h9⟩⟩
          case m4 =>
            exact ⟨fun u w1 w' h hu => own_below hu h, fun hn => fun u w1 w' h hu => own_below hu (extB_none h)⟩
          case s0 =>
            refine step_wp (fun av wv hE hS hO hD => ?_)
            refine ⟨rfl, ?_⟩
            exact wp_of_run (v := .slice (some ⟨wv.heap.size, 0, none⟩) 0 0) (w' := wv.alloc (.cells #[] 9)) (by simp [go_sem]) ⟨_, rfl, es_of_ext (balloc (Ext_refl _) _), wv.heap.size, rfl, heap_alloc_new _ _, HBW.out wv (of_drew hE)⟩
          case s1 =>
            refine step_val (v := (.slice a5 (len D) c5)) (fun av wv hE hS hO hD => ?_) (fun _ => rfl)
            have h10 : av.eval (.tmp 10) = (.slice a5 (len D) c5) := hO.2.2 10 rfl
            have f10 := (ev_form av 10).symm.trans h10
            refine ⟨rfl, ?_⟩
            simp [go_sem, f10, sl1, sl2, k1]
          case s2 =>
            refine step_val (v := (.int .i64 (k : Nat))) (fun av wv hE hS hO hD => ?_) (fun _ => rfl)
            have h15 : av.eval (.tmp 15) = (.int .i64 (k : Nat)) := hO.2.2 15 rfl
            have f15 := (ev_form av 15).symm.trans h15
            refine ⟨rfl, ?_⟩
            simp [go_sem, f15, sl1, sl2, k1]
          case s3 =>
            refine step_val (v := (.slice a5 k c5)) (fun av wv hE hS hO hD => ?_) (fun _ => rfl)
            have d96 : av.eval (.tmp 96) = (.slice a5 (len D) c5) := hD.1 rfl _ rfl
            have f96 := (ev_form av 96).symm.trans d96
            have d97 : av.eval (.tmp 97) = (.int .i64 (k : Nat)) := hD.2.1 rfl _ rfl
            have f97 := (ev_form av 97).symm.trans d97
            refine ⟨rfl, ?_⟩
            simp [go_sem, f96, f97, sl1, sl2, k1]
          case s4 =>
            refine step_wp (fun av wv hE hS hO hD => ?_)
            have d95 : (fun u w' => ∃ b, u = .slice (some ⟨b, 0, none⟩) 0 0 ∧ w'.heap[b]? = some (.cells #[] 9 (0, 0)) ∧ BW ≤ b) (av.eval (.tmp 95)) wv := hD.1 rfl _ rfl
            have d98 : av.eval (.tmp 98) = (.slice a5 k c5) := hD.2.1 rfl _ rfl
            have f98 := (ev_form av 98).symm.trans d98
            refine ⟨rfl, ?_⟩
            obtain ⟨b0, h0, hb0, hB0⟩ := d95
            refine wp_append_fresh _ _ rfl BW b0 (D.take k) a5 c5 hb0 hB0 h0 (by rw [HTK.out]; exact d98) ((HTT.out).below (bnext HBB.out (of_drew hE))) HC5.out.2 (by rw [HTK.out]; have := HKL.out; omega) ?_
            intro v' w2 h1 h2
            exact ⟨_, rfl, es_of_ext h2, h1⟩
          case s5 =>
            refine step_val (v := (.slice a5 (len D) c5)) (fun av wv hE hS hO hD => ?_) (fun _ => rfl)
            have h10 : av.eval (.tmp 10) = (.slice a5 (len D) c5) := hO.2.2 10 rfl
            have f10 := (ev_form av 10).symm.trans h10
            refine ⟨rfl, ?_⟩
            simp [go_sem, f10, sl1, sl2, k1]
          case s6 =>
            refine step_val (v := (.int .i64 (k : Nat))) (fun av wv hE hS hO hD => ?_) (fun _ => rfl)
            have h15 : av.eval (.tmp 15) = (.int .i64 (k : Nat)) := hO.2.2 15 rfl
            have f15 := (ev_form av 15).symm.trans h15
            refine ⟨rfl, ?_⟩
            simp [go_sem, f15, sl1, sl2, k1]
          case s7 =>
            refine step_val (v := (.int .i64 (k9 : Nat))) (fun av wv hE hS hO hD => ?_) (fun _ => rfl)
            have d101 : av.eval (.tmp 101) = (.int .i64 (k : Nat)) := hD.1 rfl _ rfl
            have f101 := (ev_form av 101).symm.trans d101
            refine ⟨rfl, ?_⟩
            simp [go_sem, f101, sl1, sl2, k1]
          case s8 =>
            refine step_val (v := (.slice da (len D - k9) (c5 - k9))) (fun av wv hE hS hO hD => ?_) (fun _ => rfl)
            have d100 : av.eval (.tmp 100) = (.slice a5 (len D) c5) := hD.1 rfl _ rfl
            have f100 := (ev_form av 100).symm.trans d100
            have d102 : av.eval (.tmp 102) = (.int .i64 (k9 : Nat)) := hD.2.1 rfl _ rfl
            have f102 := (ev_form av 102).symm.trans d102
            refine ⟨rfl, ?_⟩
            simp [go_sem, f100, f102, sl1, sl2, k1]
          intro a' w' hE hO hall
          have hA := act_of_outer (ds := [95, 96, 97, 98, 99, 100, 101, 102, 103]) rfl hO (by kernel_rfl)
          have e95 : (fun u w' => ∃ b, u = .slice (some ⟨b, 0, none⟩) 0 0 ∧ w'.heap[b]? = some (.cells #[] 9 (0, 0)) ∧ BW ≤ b) (a'.eval (.tmp 95)) w' := hall.1 _ rfl
          have e96 : (fun u _ => u = (.slice a5 (len D) c5)) (a'.eval (.tmp 96)) w' := hall.2.1 _ rfl
          have e97 : (fun u _ => u = (.int .i64 (k : Nat))) (a'.eval (.tmp 97)) w' := hall.2.2.1 _ rfl
          have e98 : (fun u _ => u = (.slice a5 k c5)) (a'.eval (.tmp 98)) w' := hall.2.2.2.1 _ rfl
          have e99 : (fun u w' => w'.ownsRow BW 9 1 u (len (D.take k)) ((D.take k).map Value.string)) (a'.eval (.tmp 99)) w' := hall.2.2.2.2.1 _ rfl
          have e100 : (fun u _ => u = (.slice a5 (len D) c5)) (a'.eval (.tmp 100)) w' := hall.2.2.2.2.2.1 _ rfl
          have e101 : (fun u _ => u = (.int .i64 (k : Nat))) (a'.eval (.tmp 101)) w' := hall.2.2.2.2.2.2.1 _ rfl
          have e102 : (fun u _ => u = (.int .i64 (k9 : Nat))) (a'.eval (.tmp 102)) w' := hall.2.2.2.2.2.2.2.1 _ rfl
          have e103 : (fun u _ => u = (.slice da (len D - k9) (c5 - k9))) (a'.eval (.tmp 103)) w' := hall.2.2.2.2.2.2.2.2.1 _ rfl
          obtain ⟨v95, hv95⟩ : ∃ v, a'.eval (.tmp 95) = v := ⟨_, rfl⟩
          rw [hv95] at e95
          obtain ⟨v99, hv99⟩ : ∃ v, a'.eval (.tmp 99) = v := ⟨_, rfl⟩
          rw [hv99] at e99
          simp only [List.foldl_cons, List.foldl_nil, Act.put, List.setIfInBounds_toArray, List.set_cons_succ, List.set_cons_zero, hv95, e96, e97, e98, hv99, e100, e101, e102, e103] at hA
          clear hO hall hv95 e96 e97 e98 hv99 e100 e101 e102 e103
          subst hA
          obtain ⟨q, hq⟩ : ∃ q, len D - k9 = q := ⟨_, rfl⟩
          obtain ⟨cq, hcq⟩ : ∃ cq, c5 - k9 = cq := ⟨_, rfl⟩
          have hlq : len (D.drop k9) = q := by rw [HLN.out, hq]
          rw [hq, hcq]
          have VB11 : Hid (Below wr.heap.size wr w') := Lib.hid (bnext VB10.out (of_drew hE))
          have HBW2 : Hid (BW ≤ w'.heap.size) := Lib.hid (HBW.out w' (of_drew hE))
          have HOT := Lib.hid e99
          have hq9 : q ≤ 1600 := by omega
          clear hE e95 e99 sl1 sl2 k1 hcc
          simp only [List.drop_succ_cons, List.drop_zero]
          go_wp2_with (at_builtin; refine wpList_append_txts rfl _ _ rfl BW _ (D.take k) (D.drop k9) da cq rfl HOT.out (by rw [hlq]; rfl) (HTD.out _ VB11.out) (fun h9 => absurd h9 HN3.out) (by rw [HTK.out, hlq]; have := HKL.out; omega) HBW2.out ?_)
          intro mv3 w12 hown hgrow
          have VB12 : Hid (Below wr.heap.size wr w12) := Lib.hid (grownBy_below VB11.out hgrow (fun k8 hk8 => Nat.le_trans (VB10.out.size) (by have := (HOT.out.lt k8 hk8).1; exact Nat.le_trans (Nat.le_of_eq HBWE.out) this)))
          have HOL : Hid (w12.ownsRow BW 9 1 mv3 (len (D.take k ++ D.drop k9)) ((D.take k ++ D.drop k9).map Value.string)) := Lib.hid (by rw [List.map_append, List.map_take, List.map_drop]; exact hown)
          obtain ⟨al, cl, hml, htl⟩ := own_txts HOL.out
          subst hml
          have HTL := Lib.hid htl
          have HCL := Lib.hid (own_capT HOL.out)
          have HNL : Hid (rootE (len L : Nat) P E (D.take k ++ D.drop k9) = 4 ∧ len (D.take k ++ D.drop k9) ≤ 1000000) := Lib.hid ⟨by rw [← HK9.out]; exact pex_less HAR.out HTO.out.1 HTO.out.2 HKL.out, by rw [len_appT, HTK.out, hlq]; have := HKL.out; omega⟩
          obtain ⟨DL, hDL⟩ : ∃ DL, D.take k ++ D.drop k9 = DL := ⟨_, rfl⟩
          rw [hDL] at HNL HTL HCL ⊢
          have E1 : Hid ((w12.alloc (.cells #[] 9)).ownsRow w12.heap.size 9 1 (.slice (some ⟨w12.heap.size, 0, none⟩) 0 0) (len ([] : List ByteArray)) (([] : List ByteArray).map Value.string)) := Lib.hid (World.ownsRow_lit w12 #[] 0 (Nat.le_refl _) (Nat.zero_le _) rfl)
          clear hown hgrow htl hDL HOL HOT hq hcq hlq hq9 HLN HTD HTT
          go_wp2_with (at_builtin; refine wpList_append_txts rfl _ _ rfl w12.heap.size _ [] D a5 c5 rfl E1.out rfl ((HD6.out.below VB12.out).below (balloc (Below.refl _ _) _)) HC5.out.2 (show 0 + len D ≤ 100000 by have := HPL.out; omega) (by simp) ?_)
          intro mv4 w13 hown hgrow
          have VB13 : Hid (Below w12.heap.size w12 w13) := Lib.hid (grownBy_below (balloc (Below.refl _ _) _) hgrow (fun k hk => by simp [Value.ownBlock] at hk; omega))
          have HO13 : Hid (w13.ownsRow w12.heap.size 9 1 mv4 (len D) (D.map Value.string)) := Lib.hid hown
          clear hown hgrow E1
          obtain ⟨ac, cc, hmc, _⟩ := own_txts HO13.out
          subst hmc
          have hkl := HKL.out
          obtain ⟨gc, rfl, hgb, cx, cfz, cgl⟩ := own_at HO13.out k hkl
          obtain ⟨x, hx⟩ : ∃ x, tth D k = x := ⟨_, rfl⟩
          rw [hx] at cx
          have hxs : x.size = 32 := by
            rw [← hx, tth_eq D k hkl]
            exact HTO.out.1 _ (List.getElem_mem _)
          have HCU : Hid (rootE (len L : Nat) P E (D.set k (x.extract 0 31)) = 5 ∧ len (D.set k (x.extract 0 31)) = len D) := Lib.hid ⟨pex_cut HAR.out hkl (by rw [ByteArray.size_extract, hxs]; rfl), by rw [len_eq, List.length_set]; rfl⟩
          have kx : ¬ x.size < 31 := by omega
          have bl : ¬ len D ≤ k := by omega
          have b0 : (k : Int) < len D := by omega
          have b1 : ¬ (k : Int) < 0 := by omega
          have HGB := Lib.hid hgb
          have HTLV : Hid (∀ V, w13.setCell ⟨gc, k, none⟩ (.string (x.extract 0 31)) = V → Txts V al DL) := Lib.hid (fun V hV => by
            rw [← hV]
            exact HTL.out.below (bset VB13.out hgb _))
          clear hx hxs hkl hgb
          go_upto_region 27 with fail
          obtain ⟨y, hy⟩ : ∃ y, x.extract 0 31 = y := ⟨_, rfl⟩
          rw [hy] at HCU HTLV ⊢
          obtain ⟨V, hV⟩ : ∃ V, w13.setCell ⟨gc, k, none⟩ (.string y) = V := ⟨_, rfl⟩
          have HOV : Hid (V.ownsRow w12.heap.size 9 1 (.slice (some ⟨gc, 0, none⟩) (len D) cc) (len D) ((D.set k y).map Value.string)) := Lib.hid (by
            rw [← hV, List.map_set]
            exact own_set HO13.out)
          have VBV : Hid (Below wr.heap.size wr V) := Lib.hid (by
            rw [← hV]
            exact bset (bnext VB12.out VB13.out) (Nat.le_trans VB12.out.size HGB.out) _)
          rw [hV]
          obtain ⟨ac2, cc2, hm2, htv⟩ := own_txts HOV.out
          injection hm2 with e91 e92 e93
          subst e91 e93
          have HCV := Lib.hid (own_capT HOV.out)
          have HF1 : Hid (Calls Try.prog 14 #[.int .i64 4, .int .i64 (len L : Nat), .slice ap (len P) cp, .slice ae (len E) ce, .slice al (len DL) cl] V fun e w' => e = .returned (.bool true) ∧ Below V.heap.size V w') := Lib.hid (
            fails_any 4 (len L : Nat) P E DL ap ae al cp ce cl V ⟨HP6.out.below VBV.out, HTE.out.below VBV.out, HTLV.out V hV, by have := HLP.out; omega, HU.out, by have := HE.out.1; have := HLP.out; omega, HNL.out.2, HCL.out.1, HE.out.2⟩ (by omega) (by have := H80.out; omega) HNL.out.1 (by decide))
          have HF2 : Hid (∀ w9, Below V.heap.size V w9 → Calls Try.prog 14 #[.int .i64 5, .int .i64 (len L : Nat), .slice ap (len P) cp, .slice ae (len E) ce, .slice (some ⟨gc, 0, none⟩) (len D) cc] w9 fun e w' => e = .returned (.bool true) ∧ Below w9.heap.size w9 w') := Lib.hid (fun w9 hb9 => by
            have h := fails_any 5 (len L : Nat) P E (D.set k y) ap ae (some ⟨gc, 0, none⟩) cp ce cc w9 ⟨(HP6.out.below VBV.out).below hb9, (HTE.out.below VBV.out).below hb9, htv.below hb9, by have := HLP.out; omega, HU.out, by have := HE.out.1; have := HLP.out; omega, by rw [HCU.out.2]; have := HPL.out; omega, by rw [HCU.out.2]; exact HCV.out.1, HE.out.2⟩ (by omega) (by have := H80.out; omega) HCU.out.1 (by decide)
            rw [HCU.out.2] at h
            exact h)
          rw [heN] at HF1 HF2
          try clear hm2
          clear hV hy HOV htv cx cfz cgl kx bl b0 b1 HO13 e92
          go_wp2_with fail
          refine HF1.out.mono ?_
          rintro e w14 ⟨rfl, hb14⟩
          have VB14 := Lib.hid hb14
          clear hb14 HF1
          go_wp2_with fail
          refine (HF2.out w14 VB14.out).mono ?_
          rintro e w15 ⟨rfl, hb15⟩
          clear HF2
          go_wp2
          go_ret
          exact ⟨by first | rfl | simp, bnext HB6.out (bnext VBV.out (bnext VB14.out hb15))⟩
end Go.Proofs.Ytmikkhfklmmkaaa
namespace Go.Proofs.Ytmikkhfklmmkaaa
set_option linter.unusedSimpArgs false
set_option linter.unusedVariables false
open Go.RowKit Go.ChangeShapes Go.WideShapes Go.ChangeAt Go.Deep
section
variable {H : Type} {enc : TypeId × Value → H} {P : Program} {w : World}
theorem below_trodAll (hl : laidOutB P = true) {W W' : World} (hb : Below W.heap.size W W') : ∀ {ts : List TypeId} {vs : List Value} {ds : List (DataW H)} {ps : List MemPlace},
    (∀ t ∈ ts, P.readableRec t = true ∧ t < P.types.size) → DataW.TrodAll enc P W 0 (fun _ => true) true ts vs ds ps → DataW.TrodAll enc P W' 0 (fun b => decide (b < W.heap.size)) true ts vs ds ps
  | [], vs, ds, ps, _, h => by
    obtain ⟨rfl, rfl, rfl⟩ := trodAll_nil h
    exact trodAll_mk0
  | t :: ts, vs, ds, ps, ht, h => by
    obtain ⟨v, vs', d, ds', p, q, rfl, rfl, rfl, h0, r0⟩ := trodAll_cons h
    have lt0 : ∀ x ∈ p, x.block < W.heap.size := by obtain ⟨m, hm⟩ := h0; exact DataW.trod_lt m _ _ _ hm
    exact trodAll_cons_mk (Below.trod hl (ht t (List.mem_cons_self ..)).1 (ht t (List.mem_cons_self ..)).2 h0 hb lt0) (below_trodAll hl hb (fun t' h' => ht t' (List.mem_cons_of_mem _ h')) r0)
theorem list_of {α : Type} {n : Nat} {p : Nat → α → Prop} (h : ∀ i, i < n → ∃ x, p i x) : ∃ l : List α, l.length = n ∧ ∀ i (hi : i < l.length), p i l[i] := by
  induction n with
  | zero => exact ⟨[], rfl, fun i hi => by simp at hi⟩
  | succ n ih =>
    obtain ⟨l, hl, hp⟩ := ih (fun i hi => h i (by omega))
    obtain ⟨x, hx⟩ := h n (by omega)
    refine ⟨l ++ [x], by simp [hl], fun i hi => ?_⟩
    rcases Nat.lt_or_ge i l.length with h' | h'
    · rw [List.getElem_append_left h']; exact hp i h'
    · have e : i = l.length := by simp at hi; omega
      subst e
      simp only [List.getElem_append_right (Nat.le_refl _), Nat.sub_self, List.getElem_cons_zero]
      rw [hl]; exact hx
theorem open_elems {α : Type} {t e : TypeId} (k : Nat) (cells : α → List Value) (ok : α → Prop) (ht : P.underlying t = some (.slice e)) (hC : P.cellsOf e = k) (hk : 0 < k)
    (hel : ∀ n cs' y, cs'.length = k → DataW.trod enc P w 0 (fun _ => true) true n e cs' = some y → ∃ x, cs' = cells x ∧ ok x)
    {v : Value} {d : DataW H} {p : List MemPlace} {r : Reach} {base : Nat} (hv : Value.okWide P w r base t v) (h : DataW.Trod enc P w 0 (fun _ => true) true t v d p) :
    ∃ a c, ∃ l : List α, v = .slice a (len l) c ∧ len l ≤ c ∧ c ≤ maxLen ∧ ∀ i (hi : i < l.length), ok l[i] ∧ ∃ b off, a = some ⟨b, off, none⟩ ∧ ∀ j, j < k → w.cell? ⟨b, off + i * k + j, none⟩ = (cells l[i])[j]? := by
  obtain ⟨a0, n0, c0, rfl⟩ := okWide_slice ht hv
  obtain ⟨fuel, hf⟩ := h
  rcases open_slice ht hf with ⟨hcs, _⟩ | ⟨a, n, c, m, q, D, Pl, hcs, _, hl, hm, hmm, _, hi⟩
  · simp [Value.cells] at hcs
    obtain ⟨rfl, rfl, rfl⟩ := hcs
    exact ⟨none, 0, [], rfl, Nat.le_refl _, Nat.zero_le _, fun i hi => by simp at hi⟩
  · simp [Value.cells] at hcs
    obtain ⟨rfl, rfl, rfl⟩ := hcs
    have hnm : n0 ≤ m := by rw [hmm]; simp; exact hl
    have each : ∀ i, i < n0 → ∃ x, ok x ∧ ∃ b off, some a = some ⟨b, off, none⟩ ∧ ∀ j, j < k → w.cell? ⟨b, off + i * k + j, none⟩ = (cells x)[j]? := by
      intro i hin
      obtain ⟨cs', hc, htr⟩ := hi i (by omega)
      rw [hC] at hc
      obtain ⟨_, hcl, hat⟩ := World.cells?_some hc
      obtain ⟨x, rfl, hx⟩ := hel q cs' _ hcl htr
      obtain ⟨b, off, spot⟩ := a
      have hspot : spot = none := by
        obtain ⟨cs0, hc0, htr0⟩ := hi 0 (by omega)
        rw [hC] at hc0
        obtain ⟨_, hcl0, hat0⟩ := World.cells?_some hc0
        have h1 := hat0 0 hk
        have h2 : cs0[0]? = some (cs0[0]'(by omega)) := List.getElem?_eq_getElem (by omega)
        rw [h2] at h1
        simpa [Addr.add] using World.cell?_spot h1
      subst hspot
      refine ⟨x, hx, b, off, rfl, fun j hj => ?_⟩
      have h1 := hat j hj
      rw [Go.Deep.add_add] at h1
      have e : (⟨b, off, none⟩ : Addr).add (i * k + j) = ⟨b, off + i * k + j, none⟩ := by
        unfold Addr.add; split
        · rename_i h0; simp <;> omega
        · simp [Nat.add_assoc]
      rw [e] at h1; exact h1
    obtain ⟨l, hll, hp⟩ := list_of each
    subst hll
    exact ⟨some a, c0, l, rfl, hl, hm, hp⟩
theorem wf_u64 {x : Int} (h : (Lit.int .u64 x).wf = true) : 0 ≤ x ∧ x < 18446744073709551616 := by
  simp [Lit.wf, IntKind.min, IntKind.max, IntKind.bits, IntKind.signed] at h; omega
theorem wf_u8 {x : Int} (h : (Lit.int .u8 x).wf = true) : 0 ≤ x ∧ x ≤ 255 := by
  simp [Lit.wf, IntKind.min, IntKind.max, IntKind.bits, IntKind.signed] at h; omega
end
end Go.Proofs.Ytmikkhfklmmkaaa
namespace Go.Proofs.Ytmikkhfklmmkaaa
set_option linter.unusedSimpArgs false
set_option linter.unusedVariables false
open Go.RowKit Go.ChangeShapes Go.WideShapes Go.ChangeAt
theorem own : ownKnob Try.prog.godebug = none := by kernel_rfl
theorem laidOut : laidOutB Try.prog = true := by kernel_rfl
end Go.Proofs.Ytmikkhfklmmkaaa
namespace Go.Proofs.Ytmikkhfklmmkaaa
set_option linter.unusedSimpArgs false
set_option linter.unusedVariables false
open Go.RowKit Go.ChangeShapes Go.WideShapes Go.ChangeAt Go.ChangeMaps
section
variable {P : Program} {H : Type} {enc : TypeId × Value → H} {w : World}
theorem str_readx {n : Nat} {e : TypeId} {v : Value} {y : DataW H × List MemPlace} (he : P.underlying e = some .string) (h : DataW.trod enc P w 0 (fun _ => true) true n e [v] = some y) : ∃ s : ByteArray, v = .string s ∧ s.size ≤ maxLen := by
  obtain ⟨s, hx, _, hw⟩ := DataW.trod_string he h
  exact ⟨s, by simpa using hx, hw⟩
theorem open_txts {t e : TypeId} (ht : P.underlying t = some (.slice e)) (he : P.underlying e = some .string) (hC : P.cellsOf e = 1)
    {v : Value} {d : DataW H} {p : List MemPlace} {r : Reach} {base : Nat} (hv : Value.okWide P w r base t v) (h : DataW.Trod enc P w 0 (fun _ => true) true t v d p) :
    ∃ a c, ∃ l : List ByteArray, v = .slice a (len l) c ∧ len l ≤ c ∧ c ≤ maxLen ∧ Txts w a l := by
  obtain ⟨a, c, l, rfl, h1, h2, h3⟩ := open_elems 1 (fun x => [Value.string x]) (fun _ => True) ht hC (by decide) (fun n cs' y hl hy => by
    match cs', hl with
    | [v0], _ =>
      obtain ⟨s, rfl, _⟩ := str_readx he hy
      exact ⟨s, rfl, trivial⟩) hv h
  refine ⟨a, c, l, rfl, h1, h2, fun i hi => ?_⟩
  obtain ⟨_, b, off, e1, e2⟩ := h3 i hi
  refine ⟨b, off, e1, ?_⟩
  have := e2 0 (by decide)
  rw [Nat.mul_one, Nat.add_zero] at this
  rw [this, tth_eq l i hi]; rfl
end
end Go.Proofs.Ytmikkhfklmmkaaa
