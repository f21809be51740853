/- The reference of layer 5: how things are laid. -/
import Derived.Test.YtihiaopilnjonaaGreatDoorWireP
import Derived.Laws.BytesArg
import Derived.WalkMore
namespace Go.Proofs.YtihiaopilnjonaaGreatDoor
open Go.RowKit
set_option linter.unusedSimpArgs false
set_option linter.unusedVariables false

theorem hi8_size (n : Int) (k : Nat) : (baL ((hiL n k).map toB)).size = k := by rw [baL_size, List.length_map, hiL_len]
set_option maxRecDepth 100000 in
theorem rone_any (n : Int) (w : World) (h0 : 0 ≤ n) (h1 : n ≤ 255) : Calls Tryz.prog 232 #[.int .u64 n] w fun e w' => e = .returned (.string (baL [toB n])) ∧ Below w.heap.size w w' := by
  have y0 : IntKind.u8.wrap n = n := IntWalk.u8_in _ (by omega)
  have y1 : n % 256 = n := by omega
  have hc : (convert 106 9 (.slice (some ⟨w.heap.size, 0, none⟩) 1 1)).run Tryz.prog (w.alloc (.cells #[.int .u8 n] 5)) = .ok (.string (baL [toB n])) (w.alloc (.cells #[.int .u8 n] 5)) :=
    run_convert_bytes_arg (P := Tryz.prog) _ 106 5 Tryz.underlying106 Tryz.underlying5 w.heap.size 0 1 1 [n] rfl (fun i hi => by
      obtain rfl : i = 0 := by omega
      exact block_cell (heap_alloc_new _ _) 0) 9 Tryz.underlying9
  go_enter Tryz.func232, Tryz.ntmps232
  go_wp2
  go_ret
  exact ⟨rfl, by (repeat (first | exact Below.refl _ _ | assumption | (refine bdrew ?_) | (refine bdrewN ?_ _) | (refine balloc ?_ _) | (refine bset ?_ (by first | omega | (simp; done) | (simp; omega)) _) | (refine bnext ?_ (by assumption))))⟩
set_option maxRecDepth 100000 in
set_option maxHeartbeats 2000000 in
theorem rbytes_any (n : Int) (k : Nat) (w : World) (hk : k ≤ 8) (h0 : 0 ≤ n) (h1 : n ≤ 18446744073709551615) : Calls Tryz.prog 233 #[.int .u64 n, .int .i64 k] w fun e w' => e = .returned (.string (baL ((hiL n k).map toB))) ∧ Below w.heap.size w w' := by
  go_enter Tryz.func233, Tryz.ntmps233
  go_wp2
  go_loopg [0, 5, 6] k (fun g nn s i wr => ∃ j : Nat, ∃ N : Int, ∃ b : ByteArray, g + j = k ∧ nn = .int .u64 N ∧ s = .string b ∧ i = .int .i64 j ∧ Hid (N = n / 256 ^ j ∧ 0 ≤ N ∧ N ≤ 18446744073709551615) ∧ Hid (b = baL ((hiL n j).map toB)) ∧ Hid (Below w.heap.size w wr))
  case atStart => exact ⟨0, n, _, rfl, rfl, rfl, rfl, ⟨by simp, h0, h1⟩, rfl, Below.refl _ _⟩
  case round =>
    obtain ⟨j, N, b, hj, rfl, rfl, rfl, HN, HS, HB⟩ := hrel
    by_cases hlt : j < k
    · have i1 : (j : Int) < k := by omega
      have hn0 := HN.out.2.1
      have hn1 := HN.out.2.2
      obtain ⟨x, hx⟩ : ∃ x, N % 256 = x := ⟨_, rfl⟩
      have hx0 : 0 ≤ x ∧ x ≤ 255 := by omega
      have y0 : N.tmod 256 = x := by rw [Int.tmod_eq_emod_of_nonneg hn0]; exact hx
      have y1 : IntKind.u8.wrap x = x := IntWalk.u8_in _ (by omega)
      have y2 : N.tdiv 256 = N / 256 := Int.tdiv_eq_ediv_of_nonneg hn0
      have y3 : x % 256 = x := by omega
      obtain ⟨M, hM⟩ : ∃ M, N / 256 = M := ⟨_, rfl⟩
      have hM0 : 0 ≤ M ∧ M ≤ 18446744073709551615 := by omega
      have HM : Hid (M = n / 256 ^ (j + 1)) := Lib.hid (by
        have hp : (0 : Int) < 256 ^ j := Int.pow_pos (by decide)
        rw [← hM, HN.out.1, Int.pow_succ, Int.ediv_ediv, if_neg (by omega), Int.sub_zero])
      have HX : Hid (baL ((hiL n (j + 1)).map toB) = baL [toB x] ++ b) := Lib.hid (by
        rw [hiL, List.map_cons, HS.out, ← baL_app, ← HN.out.1, hx]; rfl)
      have hbs : b.size = j := by rw [HS.out, hi8_size]
      have hbz : (baL [toB x]).size = 1 := rfl
      have hc := run_convert_bytes_arg (P := Tryz.prog) (wr.alloc (.cells #[.int .u8 x] 5)) 106 5 Tryz.underlying106 Tryz.underlying5 wr.heap.size 0 1 1 [x] rfl (fun i hi => by
        obtain rfl : i = 0 := by omega
        exact block_cell (heap_alloc_new _ _) 0) 9 Tryz.underlying9
      rw [show strOfNums [x] = baL [toB x] from rfl] at hc
      have HBB : Hid (Below w.heap.size w (wr.alloc (.cells #[.int .u8 x] 5))) := Lib.hid (balloc HB.out _)
      obtain ⟨z, hz⟩ : ∃ z, baL [toB x] = z := ⟨_, rfl⟩
      rw [hz] at hc hbz HX
      rw [hM] at y2
      clear hz HN HS
      go_wp2
      go_roundg (k - (j + 1))
      case rel => exact ⟨j + 1, M, z ++ b, by omega, by first | rfl | simp [hM], rfl, by go_num, ⟨HM.out, hM0⟩, HX.out.symm, HBB.out⟩
      case measure => omega
    · obtain rfl : j = k := by omega
      have i1 : ¬ (j : Int) < j := by omega
      go_wp2
      go_ret
      exact ⟨by rw [HS.out]; rfl, HB.out⟩

set_option maxRecDepth 100000 in
theorem rnum5_any (n : Int) (w : World) (h0 : 0 ≤ n) (h1 : n ≤ 18446744073709551615) : Calls Tryz.prog 158 #[.int .u64 n] w fun e w' => e = .returned (.string (baL (headP 0 n))) ∧ Below w.heap.size w w' := by
  have EQ := Lib.hid (headP0 n)
  by_cases c1 : n < 128
  · have EQ : Hid (headP 0 n = [toB n]) := Lib.hid (by rw [EQ.out, if_pos c1])
    go_enter Tryz.func158, Tryz.ntmps158
    go_wp2_with fail
    refine (rone_any (n) w (by omega) (by omega)).mono ?_
    rintro e w1 ⟨rfl, hb⟩
    have HB := Lib.hid hb
    clear hb
    go_wp2
    go_ret
    exact ⟨congrArg (fun s => Ending.returned (.string s)) (ba_ext (by rw [EQ.out])), HB.out⟩
  by_cases c2 : n < 256
  · have EQ : Hid (headP 0 n = toB 204 :: (hiL n 1).map toB) := Lib.hid (by rw [EQ.out, if_neg c1, if_pos c2])
    go_enter Tryz.func158, Tryz.ntmps158
    have zz := hi8_size n 1
    go_wp2_with fail
    refine (rbytes_any n 1 w (by decide) h0 h1).mono ?_
    rintro e w1 ⟨rfl, hb⟩
    have HB := Lib.hid hb
    clear hb
    go_wp2
    go_ret
    exact ⟨congrArg (fun s => Ending.returned (.string s)) (ba_ext (by rw [EQ.out]; simp [baL]; rfl)), HB.out⟩
  by_cases c3 : n < 65536
  · have EQ : Hid (headP 0 n = toB 205 :: (hiL n 2).map toB) := Lib.hid (by rw [EQ.out, if_neg c1, if_neg c2, if_pos c3])
    go_enter Tryz.func158, Tryz.ntmps158
    have zz := hi8_size n 2
    go_wp2_with fail
    refine (rbytes_any n 2 w (by decide) h0 h1).mono ?_
    rintro e w1 ⟨rfl, hb⟩
    have HB := Lib.hid hb
    clear hb
    go_wp2
    go_ret
    exact ⟨congrArg (fun s => Ending.returned (.string s)) (ba_ext (by rw [EQ.out]; simp [baL]; rfl)), HB.out⟩
  by_cases c4 : n < 4294967296
  · have EQ : Hid (headP 0 n = toB 206 :: (hiL n 4).map toB) := Lib.hid (by rw [EQ.out, if_neg c1, if_neg c2, if_neg c3, if_pos c4])
    go_enter Tryz.func158, Tryz.ntmps158
    have zz := hi8_size n 4
    go_wp2_with fail
    refine (rbytes_any n 4 w (by decide) h0 h1).mono ?_
    rintro e w1 ⟨rfl, hb⟩
    have HB := Lib.hid hb
    clear hb
    go_wp2
    go_ret
    exact ⟨congrArg (fun s => Ending.returned (.string s)) (ba_ext (by rw [EQ.out]; simp [baL]; rfl)), HB.out⟩
  have EQ : Hid (headP 0 n = toB 207 :: (hiL n 8).map toB) := Lib.hid (by rw [EQ.out, if_neg c1, if_neg c2, if_neg c3, if_neg c4])
  go_enter Tryz.func158, Tryz.ntmps158
  have zz := hi8_size n 8
  go_wp2_with fail
  refine (rbytes_any n 8 w (by decide) h0 h1).mono ?_
  rintro e w1 ⟨rfl, hb⟩
  have HB := Lib.hid hb
  clear hb
  go_wp2
  go_ret
  exact ⟨congrArg (fun s => Ending.returned (.string s)) (ba_ext (by rw [EQ.out]; simp [baL]; rfl)), HB.out⟩

set_option maxRecDepth 100000 in
set_option maxHeartbeats 2000000 in
theorem rhead_any (sort : Nat) (n : Int) (w : World) (hs1 : 1 ≤ sort) (hs5 : sort < 5) (h0 : 0 ≤ n) (hn : n < 65536) : Calls Tryz.prog 159 #[.int .i64 sort, .int .u64 n] w fun e w' => e = .returned (.string (baL (headP sort n))) ∧ Below w.heap.size w w' := by
  have h1 : n ≤ 18446744073709551615 := by omega
  have hs : sort = 1 ∨ sort = 2 ∨ sort = 3 ∨ sort = 4 := by omega
  rcases hs with rfl | rfl | rfl | rfl
  · have EQ := Lib.hid (headP1 hn)
    by_cases c1 : n < 256
    · have EQ : Hid (headP 1 n = toB 196 :: (hiL n 1).map toB) := Lib.hid (by rw [EQ.out, if_pos c1])
      show Calls Tryz.prog 159 #[.int .i64 1, .int .u64 n] w _
      go_enter Tryz.func159, Tryz.ntmps159
      have zz := hi8_size n 1
      go_wp2_with fail
      refine (rbytes_any n 1 w (by decide) h0 h1).mono ?_
      rintro e w1 ⟨rfl, hb⟩
      have HB := Lib.hid hb
      clear hb
      go_wp2
      go_ret
      exact ⟨congrArg (fun s => Ending.returned (.string s)) (ba_ext (by rw [EQ.out]; simp [baL]; rfl)), HB.out⟩
    have EQ : Hid (headP 1 n = toB 197 :: (hiL n 2).map toB) := Lib.hid (by rw [EQ.out, if_neg c1])
    show Calls Tryz.prog 159 #[.int .i64 1, .int .u64 n] w _
    go_enter Tryz.func159, Tryz.ntmps159
    have zz := hi8_size n 2
    go_wp2_with fail
    refine (rbytes_any n 2 w (by decide) h0 h1).mono ?_
    rintro e w1 ⟨rfl, hb⟩
    have HB := Lib.hid hb
    clear hb
    go_wp2
    go_ret
    exact ⟨congrArg (fun s => Ending.returned (.string s)) (ba_ext (by rw [EQ.out]; simp [baL]; rfl)), HB.out⟩
  · have EQ := Lib.hid (headP2 hn)
    by_cases c1 : n < 32
    · have EQ : Hid (headP 2 n = [toB (160 + n)]) := Lib.hid (by rw [EQ.out, if_pos c1])
      show Calls Tryz.prog 159 #[.int .i64 2, .int .u64 n] w _
      go_enter Tryz.func159, Tryz.ntmps159
      go_wp2_with fail
      refine (rone_any (160 + n) w (by omega) (by omega)).mono ?_
      rintro e w1 ⟨rfl, hb⟩
      have HB := Lib.hid hb
      clear hb
      go_wp2
      go_ret
      exact ⟨congrArg (fun s => Ending.returned (.string s)) (ba_ext (by rw [EQ.out])), HB.out⟩
    by_cases c2 : n < 256
    · have EQ : Hid (headP 2 n = toB 217 :: (hiL n 1).map toB) := Lib.hid (by rw [EQ.out, if_neg c1, if_pos c2])
      show Calls Tryz.prog 159 #[.int .i64 2, .int .u64 n] w _
      go_enter Tryz.func159, Tryz.ntmps159
      have zz := hi8_size n 1
      go_wp2_with fail
      refine (rbytes_any n 1 w (by decide) h0 h1).mono ?_
      rintro e w1 ⟨rfl, hb⟩
      have HB := Lib.hid hb
      clear hb
      go_wp2
      go_ret
      exact ⟨congrArg (fun s => Ending.returned (.string s)) (ba_ext (by rw [EQ.out]; simp [baL]; rfl)), HB.out⟩
    have EQ : Hid (headP 2 n = toB 218 :: (hiL n 2).map toB) := Lib.hid (by rw [EQ.out, if_neg c1, if_neg c2])
    show Calls Tryz.prog 159 #[.int .i64 2, .int .u64 n] w _
    go_enter Tryz.func159, Tryz.ntmps159
    have zz := hi8_size n 2
    go_wp2_with fail
    refine (rbytes_any n 2 w (by decide) h0 h1).mono ?_
    rintro e w1 ⟨rfl, hb⟩
    have HB := Lib.hid hb
    clear hb
    go_wp2
    go_ret
    exact ⟨congrArg (fun s => Ending.returned (.string s)) (ba_ext (by rw [EQ.out]; simp [baL]; rfl)), HB.out⟩
  · have EQ := Lib.hid (headP3 hn)
    by_cases c1 : n < 16
    · have EQ : Hid (headP 3 n = [toB (144 + n)]) := Lib.hid (by rw [EQ.out, if_pos c1])
      show Calls Tryz.prog 159 #[.int .i64 3, .int .u64 n] w _
      go_enter Tryz.func159, Tryz.ntmps159
      go_wp2_with fail
      refine (rone_any (144 + n) w (by omega) (by omega)).mono ?_
      rintro e w1 ⟨rfl, hb⟩
      have HB := Lib.hid hb
      clear hb
      go_wp2
      go_ret
      exact ⟨congrArg (fun s => Ending.returned (.string s)) (ba_ext (by rw [EQ.out])), HB.out⟩
    have EQ : Hid (headP 3 n = toB 220 :: (hiL n 2).map toB) := Lib.hid (by rw [EQ.out, if_neg c1])
    show Calls Tryz.prog 159 #[.int .i64 3, .int .u64 n] w _
    go_enter Tryz.func159, Tryz.ntmps159
    have zz := hi8_size n 2
    go_wp2_with fail
    refine (rbytes_any n 2 w (by decide) h0 h1).mono ?_
    rintro e w1 ⟨rfl, hb⟩
    have HB := Lib.hid hb
    clear hb
    go_wp2
    go_ret
    exact ⟨congrArg (fun s => Ending.returned (.string s)) (ba_ext (by rw [EQ.out]; simp [baL]; rfl)), HB.out⟩
  · have EQ := Lib.hid (headP4 hn)
    by_cases c1 : n < 16
    · have EQ : Hid (headP 4 n = [toB (128 + n)]) := Lib.hid (by rw [EQ.out, if_pos c1])
      show Calls Tryz.prog 159 #[.int .i64 4, .int .u64 n] w _
      go_enter Tryz.func159, Tryz.ntmps159
      go_wp2_with fail
      refine (rone_any (128 + n) w (by omega) (by omega)).mono ?_
      rintro e w1 ⟨rfl, hb⟩
      have HB := Lib.hid hb
      clear hb
      go_wp2
      go_ret
      exact ⟨congrArg (fun s => Ending.returned (.string s)) (ba_ext (by rw [EQ.out])), HB.out⟩
    have EQ : Hid (headP 4 n = toB 222 :: (hiL n 2).map toB) := Lib.hid (by rw [EQ.out, if_neg c1])
    show Calls Tryz.prog 159 #[.int .i64 4, .int .u64 n] w _
    go_enter Tryz.func159, Tryz.ntmps159
    have zz := hi8_size n 2
    go_wp2_with fail
    refine (rbytes_any n 2 w (by decide) h0 h1).mono ?_
    rintro e w1 ⟨rfl, hb⟩
    have HB := Lib.hid hb
    clear hb
    go_wp2
    go_ret
    exact ⟨congrArg (fun s => Ending.returned (.string s)) (ba_ext (by rw [EQ.out]; simp [baL]; rfl)), HB.out⟩

/-- Laid, of what can be laid. -/
def Laid5 (b : ByteArray) (w : World) (e : Ending) (w' : World) : Prop := e = .returned (.tuple #[.string b, .int .i64 0]) ∧ Below w.heap.size w w'
set_option maxRecDepth 100000 in
theorem rlaidnum_any (n : Int) (t : ByteArray) (w : World) (h0 : 0 ≤ n) (h1 : n ≤ 18446744073709551615) : Calls Tryz.prog 97 #[.int .i64 0, .int .u64 n, .string t] w (Laid5 (numP n) w) := by
  have H := Lib.hid (rnum5_any n w h0 h1)
  have e : numP n = baL (headP 0 n) := by unfold numP laidP; exact ba_ext (by simp)
  rw [e]
  clear e
  go_enter Tryz.func97, Tryz.ntmps97
  go_wp2_with fail
  refine H.out.mono ?_
  rintro e w1 ⟨rfl, hb⟩
  have HB := Lib.hid hb
  clear hb
  go_wp2
  go_ret2
  exact ⟨rfl, HB.out⟩
set_option maxRecDepth 100000 in
theorem rlaidtext_any (sort : Nat) (n : Int) (t : ByteArray) (w : World) (hs : sort = 1 ∨ sort = 2) (ht : t.size < 65536) : Calls Tryz.prog 97 #[.int .i64 sort, .int .u64 n, .string t] w (Laid5 (laidP sort t.size t) w) := by
  have H := Lib.hid (rhead_any sort t.size w (by omega) (by omega) (by omega) (by omega))
  have e : laidP sort t.size t = baL (headP sort t.size) ++ t := by
    unfold laidP; rw [if_pos hs]
  rw [e]
  have hl := headP_len sort t.size
  have hz : (baL (headP sort t.size)).size ≤ 9 := by rw [baL_size]; exact hl
  have hw : IntKind.u64.wrap (t.size : Int) = t.size := IntWalk.u64_in _ (by omega)
  obtain ⟨z, hzz⟩ : ∃ z, baL (headP sort t.size) = z := ⟨_, rfl⟩
  rw [hzz] at H hz ⊢
  have hd : decide ((65536 : Int) ≤ (t.size : Int)) = false := decide_eq_false (by omega)
  have hi : (t.size : Int) ≤ 70000 := by omega
  clear e hl hzz ht
  rcases hs with rfl | rfl
  · show Calls Tryz.prog 97 #[.int .i64 1, .int .u64 n, .string t] w _
    go_enter Tryz.func97, Tryz.ntmps97
    go_wp2_with fail
    refine H.out.mono ?_
    rintro e w1 ⟨rfl, hb⟩
    have HB := Lib.hid hb
    clear hb
    go_wp2
    go_ret2
    exact ⟨rfl, HB.out⟩
  · show Calls Tryz.prog 97 #[.int .i64 2, .int .u64 n, .string t] w _
    go_enter Tryz.func97, Tryz.ntmps97
    go_wp2_with fail
    refine H.out.mono ?_
    rintro e w1 ⟨rfl, hb⟩
    have HB := Lib.hid hb
    clear hb
    go_wp2
    go_ret2
    exact ⟨rfl, HB.out⟩
set_option maxRecDepth 100000 in
theorem rlaidmany_any (sort n : Nat) (t : ByteArray) (w : World) (hs : sort = 3 ∨ sort = 4) (hn : n < 65536) : Calls Tryz.prog 97 #[.int .i64 sort, .int .u64 n, .string t] w (Laid5 (laidP sort n ByteArray.empty) w) := by
  have H := Lib.hid (rhead_any sort n w (by omega) (by omega) (by omega) (by omega))
  have e : laidP sort n ByteArray.empty = baL (headP sort n) := by
    unfold laidP; rw [if_neg (by omega)]; exact ba_ext (by simp)
  rw [e]
  have hw : IntKind.i64.wrap (n : Int) = n := IntWalk.i64_in _ (by omega)
  have hd : decide ((65536 : Int) ≤ (n : Int)) = false := decide_eq_false (by omega)
  clear e hn
  rcases hs with rfl | rfl
  · show Calls Tryz.prog 97 #[.int .i64 3, .int .u64 n, .string t] w _
    go_enter Tryz.func97, Tryz.ntmps97
    go_wp2_with fail
    refine H.out.mono ?_
    rintro e w1 ⟨rfl, hb⟩
    have HB := Lib.hid hb
    clear hb
    go_wp2
    go_ret2
    exact ⟨rfl, HB.out⟩
  · show Calls Tryz.prog 97 #[.int .i64 4, .int .u64 n, .string t] w _
    go_enter Tryz.func97, Tryz.ntmps97
    go_wp2_with fail
    refine H.out.mono ?_
    rintro e w1 ⟨rfl, hb⟩
    have HB := Lib.hid hb
    clear hb
    go_wp2
    go_ret2
    exact ⟨rfl, HB.out⟩
end Go.Proofs.YtihiaopilnjonaaGreatDoor
