/- Parts of the proof, one behind the other. -/
import Derived.Test.YtoafjbillcooiaaGreatLsgP3
namespace Go.Proofs.YtoafjbillcooiaaGreat
open Go.RowKit
set_option linter.unusedSimpArgs false
set_option linter.unusedVariables false
structure RLadAt (seed : ByteArray) (f L K b : Nat) (la : Option Addr) (lc : Nat) (w : World) : Prop where
  c : w.heap[b]? = some (.cells #[.string seed, .int .u64 (f : Nat), .int .u64 (L : Nat), .slice la K lc] 77 (0, 0))
  t : Txts w la (rungL seed K)
theorem RLadAt.below {seed : ByteArray} {f L K b : Nat} {la : Option Addr} {lc : Nat} {w w' : World} (h : RLadAt seed f L K b la lc w) (hb : Below w.heap.size w w') : RLadAt seed f L K b la lc w' :=
  ⟨(hb.block _ (lt_of_block h.c)).trans h.c, h.t.below hb⟩
set_option maxRecDepth 100000 in
theorem rroot14_any (seed : ByteArray) (f L K b : Nat) (la : Option Addr) (lc : Nat) (w : World) (h : RLadAt seed f L K b la lc w) (hK : K ≤ 64) : Calls Tryz.prog 36 #[.pointer (some ⟨b, 0, none⟩)] w fun e w' => e = .returned (.string (ladR seed K)) ∧ Below w.heap.size w w' := by
  have H := Lib.hid h
  have HK := Lib.hid hK
  have c3 : w.cell? ⟨b, 3, none⟩ = some (.slice la K lc) := block_cell h.c 3
  have HD : Hid (depthZ (K : Nat) = ((depN (rungL seed K) : Nat) : Int)) := Lib.hid (by have h1 := depthZ_len (els := rungL seed K) (by rw [rungL_len]; omega); rw [rungL_len] at h1; exact h1)
  have HDL : Hid (depN (rungL seed K) ≤ 16) := Lib.hid (depN_le (by rw [rungL_len]; omega))
  clear h hK
  go_enter Tryz.func36, Tryz.ntmps36
  go_wp2_with fail
  refine (refDepth_any (K : Nat) w (by omega) (by have := HK.out; omega)).mono ?_
  rintro e w1 ⟨rfl, rfl⟩
  rw [HD.out]
  go_wp2_with fail
  have h9 := rdigest_any (rungL seed K) la lc (depN (rungL seed K)) HDL.out (by rw [rungL_len]; have := HK.out; omega) (fun i hi => by rw [rungL_len] at hi; rw [rungL_at _ _ _ hi, rungP_size]; decide) (depN (rungL seed K)) 0 w (Nat.le_refl _) (by rw [Nat.sub_self]; decide) H.out.t
  rw [rungL_len, show ((0 : Nat) : Int) = 0 from rfl] at h9
  refine h9.mono ?_
  rintro e w2 ⟨rfl, hb⟩
  have HB := Lib.hid hb
  clear hb h9 c3
  go_wp2
  go_ret
  exact ⟨rfl, HB.out⟩
set_option maxRecDepth 100000 in
set_option maxHeartbeats 4000000 in
theorem rkeyM_any (seed : ByteArray) (f L K b r : Nat) (la : Option Addr) (lc : Nat) (w : World) (h : RLadAt seed f L K b la lc w) (hK : K ≤ 64) (hf : f < 18446744073709551616) (hr : r < 18446744073709551616) (hL : 0 < L) : Calls Tryz.prog 38 #[.pointer (some ⟨b, 0, none⟩), .int .u64 (r : Nat)] w fun e w' => e = .returned (keyV (keyO f L K r)) ∧ Below w.heap.size w w' := by
  have c1 : w.cell? ⟨b, 1, none⟩ = some (.int .u64 (f : Nat)) := block_cell h.c 1
  have c2 : w.cell? ⟨b, 2, none⟩ = some (.int .u64 (L : Nat)) := block_cell h.c 2
  have c3 : w.cell? ⟨b, 3, none⟩ = some (.slice la K lc) := block_cell h.c 3
  have k2 : IntKind.u64.wrap ((K : Nat) : Int) = (K : Int) := IntWalk.u64_in _ (by omega)
  unfold keyV
  obtain ⟨x, hx⟩ : ∃ x, Value.int .u64 (((keyO f L K r).getD 0 : Nat) : Int) = x := ⟨_, rfl⟩
  obtain ⟨y, hy⟩ : ∃ y, Value.bool (keyO f L K r).isSome = y := ⟨_, rfl⟩
  rw [hx, hy]
  have HK9 : Hid (∀ wv : World, Calls Tryz.prog 79 #[.int .u64 (f : Nat), .int .u64 (L : Nat), .int .u64 (K : Nat), .int .u64 (r : Nat)] wv fun e w' => e = .returned (.tuple #[x, y]) ∧ Below wv.heap.size wv w') := Lib.hid (fun wv => by
    have h9 := rkey14_any f L K r wv hf hr hL
    unfold keyV at h9
    rw [hx, hy] at h9
    exact h9)
  clear h hx hy
  go_enter Tryz.func38, Tryz.ntmps38
  go_upto_region 1 with fail
  refine wp_region_all 1000 (none) (phis (List.map qv [.pointer (some ⟨b, 0, none⟩), .pointer (some ⟨b, 0, none⟩), .pointer (some ⟨b, 1, none⟩), .int .u64 (f : Nat), .pointer (some ⟨b, 0, none⟩), .pointer (some ⟨b, 0, none⟩), .pointer (some ⟨b, 2, none⟩), .int .u64 (L : Nat), .pointer (some ⟨b, 0, none⟩), .pointer (some ⟨b, 0, none⟩), .pointer (some ⟨b, 3, none⟩), .slice la K lc, .int .i64 (K : Nat), .int .u64 (K : Nat), .int .u64 (r : Nat), .tuple #[x, y], x, y, x, y])) rfl (by kernel_rfl) (mono_of mono_qv) (steps_of 20 ⟨?s0, ?s1, ?s2, ?s3, ?s4, ?s5, ?s6, ?s7, ?s8, ?s9, ?s10, ?s11, ?s12, ?s13, ?s14, ?s15, ?s16, ?s17, ?s18, ?s19, trivial⟩) ?_
  case s0 =>
    refine qV (fun _ => rfl) rfl fun av wv hE hO hD => ?_
    simp [go_sem, qF av 0 (.pointer (some ⟨b, 0, none⟩)) (hO.2.2 0 rfl), k2]
  case s1 =>
    refine qV (fun _ => rfl) rfl fun av wv hE hO hD => ?_
    simp [go_sem, qE (hD.1 rfl _ rfl), k2]
  case s2 =>
    refine qV (fun _ => rfl) rfl fun av wv hE hO hD => ?_
    simp [go_sem, qE (hD.1 rfl _ rfl), k2]
  case s3 =>
    refine qV (fun _ => rfl) rfl fun av wv hE hO hD => ?_
    simp [go_sem, qE (hD.1 rfl _ rfl), extB_cell hE (by simp) c1, extB_cell hE (by simp) c2, extB_cell hE (by simp) c3, k2]
  case s4 =>
    refine qV (fun _ => rfl) rfl fun av wv hE hO hD => ?_
    simp [go_sem, qF av 0 (.pointer (some ⟨b, 0, none⟩)) (hO.2.2 0 rfl), k2]
  case s5 =>
    refine qV (fun _ => rfl) rfl fun av wv hE hO hD => ?_
    simp [go_sem, qE (hD.1 rfl _ rfl), k2]
  case s6 =>
    refine qV (fun _ => rfl) rfl fun av wv hE hO hD => ?_
    simp [go_sem, qE (hD.1 rfl _ rfl), k2]
  case s7 =>
    refine qV (fun _ => rfl) rfl fun av wv hE hO hD => ?_
    simp [go_sem, qE (hD.1 rfl _ rfl), extB_cell hE (by simp) c1, extB_cell hE (by simp) c2, extB_cell hE (by simp) c3, k2]
  case s8 =>
    refine qV (fun _ => rfl) rfl fun av wv hE hO hD => ?_
    simp [go_sem, qF av 0 (.pointer (some ⟨b, 0, none⟩)) (hO.2.2 0 rfl), k2]
  case s9 =>
    refine qV (fun _ => rfl) rfl fun av wv hE hO hD => ?_
    simp [go_sem, qE (hD.1 rfl _ rfl), k2]
  case s10 =>
    refine qV (fun _ => rfl) rfl fun av wv hE hO hD => ?_
    simp [go_sem, qE (hD.1 rfl _ rfl), k2]
  case s11 =>
    refine qV (fun _ => rfl) rfl fun av wv hE hO hD => ?_
    simp [go_sem, qE (hD.1 rfl _ rfl), extB_cell hE (by simp) c1, extB_cell hE (by simp) c2, extB_cell hE (by simp) c3, k2]
  case s12 =>
    refine qV (fun _ => rfl) rfl fun av wv hE hO hD => ?_
    simp [go_sem, qE (hD.1 rfl _ rfl), k2]
  case s13 =>
    refine qV (fun _ => rfl) rfl fun av wv hE hO hD => ?_
    simp [go_sem, qE (hD.1 rfl _ rfl), k2]
  case s14 =>
    refine qV (fun _ => rfl) rfl fun av wv hE hO hD => ?_
    simp [go_sem, qF av 1 (.int .u64 (r : Nat)) (hO.2.2 1 rfl), k2]
  case s15 =>
    refine step_wp (fun av wv hE hS hO hD => ⟨rfl, ?_⟩)
    have f9 := qE (hD.1 rfl _ rfl)
    have f13 := qE (hD.2.1 rfl _ rfl)
    have f19 := qE (hD.2.2.1 rfl _ rfl)
    have f20 := qE (hD.2.2.2.1 rfl _ rfl)
    refine wp_of_call (v := .tuple #[x, y]) (by simp [go_sem, f9, f13, f19, f20]) (HK9.out wv) (fun w2 hb => ⟨_, rfl, es_of_ext hb, rfl⟩)
  case s16 =>
    refine qV (fun _ => rfl) rfl fun av wv hE hO hD => ?_
    simp [go_sem, qE (hD.1 rfl _ rfl), k2]
  case s17 =>
    refine qV (fun _ => rfl) rfl fun av wv hE hO hD => ?_
    simp [go_sem, qE (hD.1 rfl _ rfl), k2]
  case s18 =>
    refine qV (fun _ => rfl) rfl fun av wv hE hO hD => ?_
    simp [go_sem, qE (hD.1 rfl _ rfl), k2]
  case s19 =>
    refine qV (fun _ => rfl) rfl fun av wv hE hO hD => ?_
    simp [go_sem, qE (hD.1 rfl _ rfl), k2]
  intro a' w' hE hO hall
  have hA := act_of_outer (ds := [6, 7, 8, 9, 10, 11, 12, 13, 14, 15, 16, 17, 18, 19, 20, 21, 22, 23, 4, 5]) rfl hO (by kernel_rfl)
  obtain ⟨j0, j1, j2, j3, j4, j5, j6, j7, j8, j9, j10, j11, j12, j13, j14, j15, j16, j17, j18, j19, -⟩ := hall
  simp only [List.foldl_cons, List.foldl_nil, Act.put, List.setIfInBounds_toArray, List.set_cons_succ, List.set_cons_zero, qJ 6 (j0 _ rfl), qJ 7 (j1 _ rfl), qJ 8 (j2 _ rfl), qJ 9 (j3 _ rfl), qJ 10 (j4 _ rfl), qJ 11 (j5 _ rfl), qJ 12 (j6 _ rfl), qJ 13 (j7 _ rfl), qJ 14 (j8 _ rfl), qJ 15 (j9 _ rfl), qJ 16 (j10 _ rfl), qJ 17 (j11 _ rfl), qJ 18 (j12 _ rfl), qJ 19 (j13 _ rfl), qJ 20 (j14 _ rfl), qJ 21 (j15 _ rfl), qJ 22 (j16 _ rfl), qJ 23 (j17 _ rfl), qJ 4 (j18 _ rfl), qJ 5 (j19 _ rfl)] at hA
  clear hO j0 j1 j2 j3 j4 j5 j6 j7 j8 j9 j10 j11 j12 j13 j14 j15 j16 j17 j18 j19
  subst hA
  have HBE := Lib.hid (of_drew hE)
  clear hE c1 c2 c3
  go_wp2
  go_ret2
  exact ⟨rfl, HBE.out⟩
end Go.Proofs.YtoafjbillcooiaaGreat
namespace Go.Proofs.YtoafjbillcooiaaGreat
open Go.RowKit
set_option linter.unusedSimpArgs false
set_option linter.unusedVariables false
def dgP (d : ByteArray) (P : Nat → Bool) : Array Value := ((List.range 67).map fun i => Value.int .i64 (if P i = true then ((digN d i : Nat) : Int) else 0)).toArray
theorem dgP_size (d : ByteArray) (P : Nat → Bool) : (dgP d P).size = 67 := by unfold dgP; simp
theorem dgP_at (d : ByteArray) (P : Nat → Bool) (i : Nat) (h : i < 67) : (dgP d P)[i]? = some (Value.int .i64 (if P i = true then ((digN d i : Nat) : Int) else 0)) := by
  unfold dgP; simp [h]
theorem dgP_set (d : ByteArray) (P Q : Nat → Bool) (m : Nat) (h : m < 67) (hq : ∀ i, Q i = (P i || decide (i = m))) : (dgP d P).setIfInBounds m (.int .i64 ((digN d m : Nat) : Int)) = dgP d Q := by
  apply Array.ext
  · rw [Array.size_setIfInBounds, dgP_size, dgP_size]
  · intro i h1 h2
    have hi : i < 67 := by rw [dgP_size] at h2; exact h2
    have e1 := dgP_at d P i hi
    have e2 := dgP_at d Q i hi
    rw [Array.getElem?_eq_getElem (by rw [dgP_size]; exact hi)] at e1 e2
    rw [Array.getElem_setIfInBounds (by rw [dgP_size]; exact hi)]
    rw [Option.some.inj e2, hq i]
    split
    · next he => subst he; simp
    · next he => rw [Option.some.inj e1, decide_eq_false (fun h => he h.symm), Bool.or_false]
set_option maxRecDepth 100000 in
theorem and15_u8 (x : Nat) (h : x < 256) : bits BinOp.and IntKind.u8 (x : Int) 15 = ((x % 16 : Nat) : Int) := by
  have key : ∀ x : Fin 256, bits BinOp.and IntKind.u8 ((x.val : Nat) : Int) 15 = ((x.val % 16 : Nat) : Int) := by decide
  exact key ⟨x, h⟩
theorem and15_i64 (x : Nat) (h : x < 1000000) : bits BinOp.and IntKind.i64 (x : Int) 15 = ((x % 16 : Nat) : Int) := by
  unfold bits
  show IntKind.i64.wrap (((BitVec.ofInt 64 (x : Int) &&& BitVec.ofInt 64 15).toNat : Nat) : Int) = _
  rw [BitVec.toNat_and, BitVec.toNat_ofInt, BitVec.toNat_ofInt]
  have e1 : ((x : Int) % ((2 ^ 64 : Nat) : Int)).toNat = x := by omega
  have e2 : ((15 : Int) % ((2 ^ 64 : Nat) : Int)).toNat = 15 := by decide
  rw [e1, e2, show (15 : Nat) = 2 ^ 4 - 1 from rfl, Nat.and_two_pow_sub_one_eq_mod]
  exact IntWalk.i64_in _ ⟨by omega, by omega⟩
end Go.Proofs.YtoafjbillcooiaaGreat
namespace Go.Proofs.YtoafjbillcooiaaGreat
open Go.RowKit
set_option linter.unusedSimpArgs false
set_option linter.unusedVariables false
def DgIs (d : ByteArray) (w : World) (e : Ending) (w' : World) : Prop := ∃ b, e = .returned (.slice (some ⟨b, 0, none⟩) 67 67) ∧ w.heap.size ≤ b ∧ w'.heap[b]? = some (.cells (dgP d fun _ => true) 231 (0, 0)) ∧ Below w.heap.size w w'
theorem dgP_zero (d : ByteArray) : dgP d (fun i => decide (i < 0)) = (List.replicate 67 (Value.int .i64 0)).toArray := by
  rfl
theorem dgP_up (d : ByteArray) (m : Nat) (h : m < 64) {x : Nat} (hx : x = digN d m) : (dgP d fun i => decide (i < m)).setIfInBounds m (.int .i64 (x : Int)) = dgP d fun i => decide (i < m + 1) := by
  subst hx
  exact dgP_set d _ _ m (by omega) (fun i => by
    by_cases h1 : i < m
    · simp [h1, Nat.lt_succ_of_lt h1]
    · by_cases h2 : i = m
      · subst h2; simp
      · have h3 : ¬ i < m + 1 := by omega
        simp [h1, h2, h3])
theorem dgP_down (d : ByteArray) (j : Nat) (h : j < 67) (h6 : 64 ≤ j) {x : Nat} (hx : x = digN d j) : (dgP d fun i => decide (i < 64) || decide (j + 1 ≤ i)).setIfInBounds j (.int .i64 (x : Int)) = dgP d fun i => decide (i < 64) || decide (j ≤ i) := by
  subst hx
  exact dgP_set d _ _ j h (fun i => by
    by_cases h2 : i = j
    · subst h2; simp
    · by_cases h1 : i < 64
      · simp [h1]
      · by_cases h3 : j ≤ i
        · have h4 : j + 1 ≤ i := by omega
          simp [h1, h2, h3, h4]
        · have h4 : ¬ j + 1 ≤ i := by omega
          simp [h1, h2, h3, h4])
theorem dgP_mid (d : ByteArray) : (dgP d fun i => decide (i < 64)) = dgP d fun i => decide (i < 64) || decide (67 ≤ i) := by
  unfold dgP
  congr 1
theorem dgP_end (d : ByteArray) : (dgP d fun i => decide (i < 64) || decide (64 ≤ i)) = dgP d fun _ => true := by
  unfold dgP
  congr 1
theorem dgP_hole (d : ByteArray) (j : Nat) (h : j < 67) (h6 : 64 ≤ j) : (dgP d fun i => decide (i < 64) || decide (j + 1 ≤ i))[j]? = some (Value.int .i64 0) := by
  rw [dgP_at d _ j h]
  have h8 : ¬ j < 64 := by omega
  have h9 : ¬ j + 1 ≤ j := by omega
  simp [h8, h9]
def leftD (d : ByteArray) (j : Nat) : Nat := lackN d 64 / 16 ^ (67 - j)
theorem leftD_dig (d : ByteArray) (j : Nat) (h : j < 67) (h6 : 64 ≤ j) : leftD d (j + 1) % 16 = digN d j := by
  unfold leftD digN
  have hl := lackN_le d 64
  rw [if_neg (by omega)]
  rcases (by omega : j = 64 ∨ j = 65 ∨ j = 66) with rfl | rfl | rfl
  · rw [if_pos rfl, show (16 : Nat) ^ (67 - (64 + 1)) = 256 from rfl]
    exact Nat.mod_eq_of_lt (by omega)
  · rw [if_neg (by decide), if_pos rfl]
  · rw [if_neg (by decide), if_neg (by decide), show (16 : Nat) ^ (67 - (66 + 1)) = 1 from rfl, Nat.div_one]
theorem leftD_next (d : ByteArray) (j : Nat) (h : j < 67) : leftD d (j + 1) / 16 = leftD d j := by
  unfold leftD
  rw [show 67 - j = (67 - (j + 1)) + 1 by omega, Nat.pow_succ, Nat.div_div_eq_div_mul]
theorem leftD_le (d : ByteArray) (j : Nat) : leftD d j ≤ 960 := by
  unfold leftD
  have := lackN_le d 64
  have h2 := Nat.div_le_self (lackN d 64) (16 ^ (67 - j))
  omega
def nibC (d : ByteArray) (m : Nat) : Nat := if m % 2 = 0 then (d.data.toList.getD (m / 2) 0).toNat / 16 else (d.data.toList.getD (m / 2) 0).toNat
theorem nibC_nib (d : ByteArray) (m : Nat) : nibC d m % 16 = nib d m := by
  unfold nibC nib
  have := UInt8.toNat_lt (d.data.toList.getD (m / 2) 0)
  split
  · exact Nat.mod_eq_of_lt (by omega)
  · rfl
theorem nibC_lt (d : ByteArray) (m : Nat) : nibC d m < 256 := by
  unfold nibC
  have := UInt8.toNat_lt (d.data.toList.getD (m / 2) 0)
  split <;> omega
set_option maxRecDepth 100000 in
set_option maxHeartbeats 4000000 in
theorem digits12_any (d : ByteArray) (w : World) (hd : d.size = 32) : Calls Tryz.prog 160 #[.string d] w (DgIs d w) := by
  have HD := Lib.hid hd
  have i1 : ((d.size : Nat) : Int) = 32 := by omega
  clear hd
  go_enter Tryz.func160, Tryz.ntmps160
  go_upto_region 4 with fail
  obtain ⟨lb, hlb⟩ : ∃ lb, w.heap.size = lb := ⟨_, rfl⟩
  change Code.wp _ _ _ _ (w.alloc (.cells (List.replicate 67 (Value.int .i64 0)).toArray 231))
  rw [← dgP_zero d]
  obtain ⟨U, hU⟩ : ∃ U, w.alloc (.cells (dgP d fun i => decide (i < 0)) 231) = U := ⟨_, rfl⟩
  have HUB : Hid (U.heap[lb]? = some (.cells (dgP d fun i => decide (i < 0)) 231 (0, 0))) := Lib.hid (by rw [← hU]; exact alloc_new_at _ hlb)
  have HUW : Hid (Below w.heap.size w U) := Lib.hid (by rw [← hU]; exact balloc (Below.refl _ _) _)
  have HLB : Hid (w.heap.size ≤ lb) := Lib.hid (Nat.le_of_eq hlb)
  rw [hU, hlb]
  clear hU hlb i1
  go_wp2
  go_loopg [11, 4, 5, 6] 64 (fun g i s _ _ wr => ∃ m : Nat, g + m = 64 ∧ i = .int .i64 (m : Nat) ∧ s = .int .i64 ((lackN d m : Nat) : Int) ∧ Hid (wr.heap[lb]? = some (.cells (dgP d fun i => decide (i < m)) 231 (0, 0))) ∧ Hid (Below w.heap.size w wr))
  case atStart => exact ⟨0, rfl, rfl, rfl, HUB, HUW⟩
  case round =>
    clear HUB HUW
    obtain ⟨m, hm, rfl, rfl, HUB, HUW⟩ := hrel
    by_cases hlt : m < 64
    · have b0 : (m : Int) < 64 := by omega
      obtain ⟨q, hq⟩ : ∃ q, m / 2 = q := ⟨_, rfl⟩
      obtain ⟨r, hr⟩ : ∃ r, m % 2 = r := ⟨_, rfl⟩
      have k1 : Int.tdiv ((m : Nat) : Int) 2 = (q : Int) := by rw [← hq]; exact (Int.ofNat_tdiv m 2).symm
      have k2 : Int.tmod ((m : Nat) : Int) 2 = (r : Int) := by rw [← hr]; exact (Int.ofNat_tmod m 2).symm
      have k3 : ((m : Nat) : Int) / 2 = (q : Int) := by omega
      have k4 : ((m : Nat) : Int) % 2 = (r : Int) := by omega
      have ix := fun wv : World => idx_byte d q (by have := HD.out; omega) wv
      have HC9 : Hid (nibC d m = if r = 0 then (d.data.toList.getD q 0).toNat / 16 else (d.data.toList.getD q 0).toNat) := Lib.hid (by unfold nibC; rw [hq, hr])
      obtain ⟨x, hx⟩ : ∃ x, (d.data.toList.getD q 0).toNat = x := ⟨_, rfl⟩
      have HX : Hid (x < 256) := Lib.hid (by rw [← hx]; exact UInt8.toNat_lt _)
      rw [hx] at ix HC9
      have HLT := Lib.hid hlt
      have HM := Lib.hid hm
      obtain ⟨c9, hc9⟩ : ∃ c9, nibC d m = c9 := ⟨_, rfl⟩
      have HNB : Hid (digN d m = c9 % 16) := Lib.hid (by rw [digN_nib d hlt, ← nibC_nib, hc9])
      have HC8 : Hid (c9 < 256) := Lib.hid (by rw [← hc9]; exact nibC_lt d m)
      rw [hc9] at HC9
      clear hx hq hr hm hlt hc9
      go_upto_if 20 with fail
      go_cut [6] (fun c wx => c = .int .u8 ((c9 : Nat) : Int) ∧ wx = wr)
      case first =>
        by_cases hr : r = 0
        · have e : c9 = x / 16 := by rw [HC9.out, if_pos hr]
          have i1 : ((r : Nat) : Int) = 0 := by omega
          have HE := Lib.hid e
          clear e HC9 HNB HC8 hr
          go_wp2
          go_meet
          exact ⟨by rw [HE.out]; simp, rfl⟩
        · have e : c9 = x := by rw [HC9.out, if_neg hr]
          have i1 : ¬ ((r : Nat) : Int) = 0 := by omega
          subst e
          clear HC9 HNB HC8 hr
          go_wp2
          go_meet
          exact ⟨rfl, rfl⟩
      case rest =>
        obtain ⟨rfl, hwc⟩ := hcut
        obtain rfl : wr = wc := hwc.symm
        clear k1 k2 k3 k4 ix
        obtain ⟨g9, hg9⟩ : ∃ g9, digN d m = g9 := ⟨_, rfl⟩
        have HG := Lib.hid hg9
        have hg15 : g9 ≤ 15 := by rw [← hg9]; exact digN_le d m
        have k1 : bits BinOp.and IntKind.u8 ((c9 : Nat) : Int) 15 = ((g9 : Nat) : Int) := by rw [and15_u8 c9 HC8.out, ← HNB.out, hg9]
        have k2 : IntKind.i64.wrap ((g9 : Nat) : Int) = (g9 : Int) := IntWalk.i64_in _ (by omega)
        have k3 : ¬ (67 : Int) ≤ (m : Int) := by have := HLT.out; omega
        obtain ⟨L, hL⟩ : ∃ L, lackN d m = L := ⟨_, rfl⟩
        have HL : Hid (lackN d (m + 1) = L + (15 - g9)) := Lib.hid (by show lackN d m + (15 - nib d m) = _; rw [hL, ← digN_nib d HLT.out, hg9])
        have hL9 : L ≤ 960 := by rw [← hL]; have := lackN_le d m; have := HLT.out; omega
        rw [hL]
        have z1 : IntKind.i64.wrap (15 - (g9 : Int)) = 15 - (g9 : Int) := IntWalk.i64_in _ (by omega)
        have z2 : IntKind.i64.wrap ((L : Int) + (15 - (g9 : Int))) = (L : Int) + (15 - (g9 : Int)) := IntWalk.i64_in _ (by omega)
        have ez : Hid ((L : Int) + (15 - (g9 : Int)) = ((L + (15 - g9) : Nat) : Int)) := Lib.hid (by omega)
        have c0 : wr.cell? ⟨lb, m, none⟩ = some (.int .i64 0) := by rw [block_cell HUB.out, dgP_at d _ m (by have := HLT.out; omega)]; simp
        have c1 : wr.frozen? ⟨lb, m, none⟩ = false := block_free HUB.out m
        have c2 : lb < wr.heap.size := lt_of_block HUB.out
        clear hg9 hL hg15 hL9
        go_upto_region 12 with fail
        clear c0 c1 c2
        have HU2 : Hid ((wr.setCell ⟨lb, m, none⟩ (.int .i64 (g9 : Nat))).heap[lb]? = some (.cells (dgP d fun i => decide (i < m + 1)) 231 (0, 0))) := Lib.hid (by
          have := block_setCell HUB.out (o := m) (.int .i64 ((g9 : Nat) : Int))
          rw [dgP_up d m HLT.out HG.out.symm] at this
          exact this)
        have HU4 : Hid (Below w.heap.size w (wr.setCell ⟨lb, m, none⟩ (.int .i64 (g9 : Nat)))) := Lib.hid (bset HUW.out HLB.out _)
        obtain ⟨V, hV⟩ : ∃ V, wr.setCell ⟨lb, m, none⟩ (.int .i64 (g9 : Nat)) = V := ⟨_, rfl⟩
        rw [hV] at HU2 HU4
        rw [hV]
        clear hV
        have c3 : V.cell? ⟨lb, m, none⟩ = some (.int .i64 (g9 : Nat)) := by rw [block_cell HU2.out, dgP_at d _ m (by have := HLT.out; omega), HG.out]; simp
        go_wp2
        go_roundg (gk - 1)
        case rel => exact ⟨m + 1, by have := HM.out; have := HLT.out; omega, by have := HLT.out; go_num, by rw [HL.out, ← ez.out], HU2, HU4⟩
        case measure => have := HM.out; have := HLT.out; omega
    · obtain rfl : m = 64 := by omega
      have b0 : ¬ ((64 : Nat) : Int) < 64 := by decide
      rw [dgP_mid] at HUB
      have e0 : leftD d 67 = lackN d 64 := by unfold leftD; simp
      rw [← e0]
      clear e0
      go_wp2
      go_loopg [7, 4] 3 (fun g j s wr => ∃ m : Nat, g + 64 = m ∧ m ≤ 67 ∧ j = .int .i64 ((m : Int) - 1) ∧ s = .int .i64 ((leftD d m : Nat) : Int) ∧ Hid (wr.heap[lb]? = some (.cells (dgP d fun i => decide (i < 64) || decide (m ≤ i)) 231 (0, 0))) ∧ Hid (Below w.heap.size w wr))
      case atStart => exact ⟨67, rfl, by decide, rfl, rfl, HUB, HUW⟩
      case round =>
        clear HUB HUW
        obtain ⟨m, hm, hm7, rfl, rfl, HUB, HUW⟩ := hrel
        by_cases hlt : 64 < m
        · obtain ⟨j, rfl⟩ : ∃ j, m = j + 1 := ⟨m - 1, by omega⟩
          have ej : ((j + 1 : Nat) : Int) - 1 = (j : Int) := by omega
          have b0 : (64 : Int) ≤ (j : Int) := by omega
          have b1 : ¬ (67 : Int) ≤ (j : Int) := by omega
          rw [ej]
          have HDG := Lib.hid (leftD_dig d j (by omega) (by omega))
          have HNX := Lib.hid (leftD_next d j (by omega))
          have hle := leftD_le d (j + 1)
          obtain ⟨g9, hg9⟩ : ∃ g9, digN d j = g9 := ⟨_, rfl⟩
          obtain ⟨S, hS⟩ : ∃ S, leftD d (j + 1) = S := ⟨_, rfl⟩
          obtain ⟨S2, hS2⟩ : ∃ S, leftD d j = S := ⟨_, rfl⟩
          have HG := Lib.hid hg9
          have HS2 := Lib.hid hS2
          rw [hS] at HDG HNX hle ⊢
          rw [hg9] at HDG
          rw [hS2] at HNX
          have k1 : bits BinOp.and IntKind.i64 ((S : Nat) : Int) 15 = ((g9 : Nat) : Int) := by rw [and15_i64 S (by omega), HDG.out]
          have k2 : ((S : Nat) : Int) / 16 = ((S2 : Nat) : Int) := by rw [← HNX.out]; omega
          have k3 : IntKind.i64.wrap ((S2 : Nat) : Int) = (S2 : Int) := IntWalk.i64_in _ (by have := HNX.out; omega)
          have k4 : IntKind.i64.wrap ((j : Int) - 1) = (j : Int) - 1 := IntWalk.i64_in _ (by omega)
          have c0 : wr.cell? ⟨lb, j, none⟩ = some (.int .i64 0) := by rw [block_cell HUB.out, dgP_hole d j (by omega) (by omega)]
          have c1 : wr.frozen? ⟨lb, j, none⟩ = false := block_free HUB.out j
          have c2 : lb < wr.heap.size := lt_of_block HUB.out
          have HU2 : Hid ((wr.setCell ⟨lb, j, none⟩ (.int .i64 (g9 : Nat))).heap[lb]? = some (.cells (dgP d fun i => decide (i < 64) || decide (j ≤ i)) 231 (0, 0))) := Lib.hid (by
            have := block_setCell HUB.out (o := j) (.int .i64 ((g9 : Nat) : Int))
            rw [dgP_down d j (by omega) (by omega) HG.out.symm] at this
            exact this)
          have HU4 : Hid (Below w.heap.size w (wr.setCell ⟨lb, j, none⟩ (.int .i64 (g9 : Nat)))) := Lib.hid (bset HUW.out HLB.out _)
          have HLT := Lib.hid hlt
          have HM := Lib.hid hm
          clear hg9 hS hS2 hlt hm hle ej
          go_wp2
          go_roundg (gk - 1)
          case rel => exact ⟨j, by have := HM.out; omega, by omega, rfl, by rw [HS2.out], HU2, HU4⟩
          case measure => have := HM.out; omega
        · obtain rfl : m = 64 := by omega
          have b0 : ¬ (64 : Int) ≤ ((64 : Nat) : Int) - 1 := by decide
          rw [dgP_end] at HUB
          go_wp2
          go_ret
          exact ⟨_, rfl, HLB.out, HUB.out, HUW.out⟩
end Go.Proofs.YtoafjbillcooiaaGreat
namespace Go.Proofs.YtoafjbillcooiaaGreat
set_option linter.unusedSimpArgs false
set_option linter.unusedVariables false
open Go.RowKit Go.ChangeMaps
def SeqB {α : Type} (F : Fence) (n : Nat) (P : Program) (g : Nat) (lb : Array Value) (encs : α → Array Value) (bx : Nat) (Kp : World → World → Prop) (S : List α → Prop) (N : Nat) (w : World) : Prop :=
  ∀ (l : Nat) (J : List α → World → Prop) (W : World), Below w.heap.size w W → AbidesFrom W.heap.size J → (∀ pre A v, J pre A → J pre (A.setCell ⟨bx, 0, none⟩ v)) →
    (∀ pre x W1, J pre W1 → pre.length < N → YieldAt F (n - 1) P l (encs x) W1 fun e W' => e = .returned (.bool true) ∧ J (pre ++ [x]) W' ∧ Kp W1 W') →
    J [] W →
    CallsIn F n P g (#[.func (.yield l) #[] #[]] ++ lb) W fun e W' => (∃ v, e = .returned v) ∧ ∃ xs, S xs ∧ J xs W'
def ownPostB {α : Type} (B : Nat) (Kp : World → World → Prop) (I : List α → World → Prop) (xs : List α) (W : World) : Exit → Act → World → Prop
  | .normal, _, W' => KeepsFrom B W W' ∧ Kp W W' ∧ I xs W'
  | _, _, _ => False
theorem wpIn_rangeFunc_B {α : Type} {F : Fence} {n : Nat} {P : Program} {g : Operand} {ps : Array Tmp} {assign body : Code} {Q : Exit → Act → World → Prop} {a : Act} {w : World}
    (hro : F.round = none) (h1 : 1 ≤ n) {gf : Nat} {lb : Array Value} (hg : a.eval g = .func (.func gf) #[] lb) (hFg : F.fn gf) (eg : ∀ args w, (callFunc gf args).run P w = .ok (.enter gf args) w)
    {encs : α → Array Value} {bx : Nat} {Kp : World → World → Prop} {S : List α → Prop} {N : Nat} (hseq : SeqB F (n - 1) P gf lb encs bx Kp S N w) (hbx : bx < w.heap.size)
    (hKt : ∀ {A B C : World}, Kp A B → Kp B C → Kp A C) (hKb : ∀ (W : World) (l : Nat) (o o' : Obj), w.heap.size ≤ l → W.heap[l]? = some o → o.isCells = false → Kp W (W.putObj l o'))
    (hps : ∀ x, (encs x).size = ps.size)
    (I : List α → World → Prop) (hI : OwnFrom w.heap.size I) (hIb : ∀ pre A v, I pre A → I pre (A.setCell ⟨bx, 0, none⟩ v)) (h0 : I [] w) (a₁ : α → Act)
    (hassign : ∀ (l : Nat) (x : α) (W : World) (K : Act → World → Prop), K (a₁ x) W →
      assign.wpIn (F.inRound l) (n - 1 - 1) P (Exit.then K (fun _ _ _ => False)) { tmps := (ps.zip (encs x)).foldl (fun t (p, v) => t.setIfInBounds p v) a.tmps, defers := [] } W)
    (hbody : ∀ (l : Nat) (pre : List α) (x : α) (W : World), I pre W → pre.length < N → body.wpIn (F.inRound l) (n - 1 - 1) P (ownPostB w.heap.size Kp I (pre ++ [x]) W) (a₁ x) W)
    (hdone : ∀ (D : Nat) (xs : List α) (W : World), w.heap.size ≤ D → S xs → I xs W → W.heap[D]? = some (.deferred (some [])) → Q .normal { a with defers := { target := .collected D, args := #[] } :: a.defers } W) :
    (Code.rangeFunc g ps assign body).wpIn F n P Q a w := by
  refine wpIn_rangeFunc ?_
  intro fn hfn
  rw [hro]
  obtain ⟨rec, hrec⟩ : ∃ rec : LoopState → Option Code → Loop, rec = fun st pe => { state := st, pending := pe, fn, tmps := a.tmps, params := ps, assign, body, defers := w.heap.size } := ⟨_, rfl⟩
  obtain ⟨W1, hW1⟩ : ∃ W1, (w.alloc (.deferred (some []))).alloc (.loop (rec .ready none)) = W1 := ⟨_, rfl⟩
  have hL1 : W1.heap[w.heap.size + 1]? = some (.loop (rec .ready none)) := by
    rw [← hW1]; have := World.alloc_heap_new (w.alloc (.deferred (some []))) (.loop (rec .ready none)); rwa [World.size_alloc] at this
  have hK1 : W1.heap[w.heap.size]? = some (.deferred (some [])) := by
    rw [← hW1]; exact (Below.heap_alloc _ _ _ (by simp)).trans (World.alloc_heap_new w _)
  have hI1 : I [] W1 := by rw [← hW1]; exact hI.alloc _ (hI.alloc _ h0)
  have hb1 : Below w.heap.size w W1 := by
    rw [← hW1]; exact ((Below.refl _ w).alloc (Nat.le_refl _) _).alloc (by simp) _
  refine ⟨w.heap.size + 1, [{ target := .collected w.heap.size, args := #[] }], W1, { target := .fn (.func gf) lb, args := #[.func (.yield (w.heap.size + 1)) #[] #[]] }, W1, gf,
    #[.func (.yield (w.heap.size + 1)) #[] #[]] ++ lb, W1, ?_, ?_, ?_, ?_, fun _ => h1, ?_⟩
  · rw [← hW1, hrec]; exact run_enterLoop_outer _ _ _ _ _
  · simp only [resolve, hg]
    simp [go_sem]
  · intro f' hf'; simp [Target.leads] at hf'; subst hf'; exact hFg
  · simp [invoke, go_sem, eg]
  · have hnw : ∀ {A B : World} {row : Option Nat}, (∀ r, row = some r → W1.heap.size ≤ r ∧ ∃ o : Obj, A.heap[r]? = some o ∧ o.isWalk = true) → (∀ r, row = some r → w.heap.size ≤ r ∧ ∃ o : Obj, A.heap[r]? = some o ∧ o.isCells = false) :=
      fun hr r e => by obtain ⟨hB, o, ho, hw⟩ := hr r e; exact ⟨by rw [← hW1] at hB; simp at hB; omega, o, ho, Obj.not_cells_of_walk hw⟩
    refine (hseq (w.heap.size + 1)
      (fun pre W => I pre W ∧ W.heap[w.heap.size + 1]? = some (.loop (rec .ready none)) ∧ W.heap[w.heap.size]? = some (.deferred (some [])))
      W1 hb1
      (fun s A B row hs hg' hr => ⟨hI s A B row hs.1 hg' (hnw (B := B) hr), (grownBy_keeps hg' (fun r e => (hr r e).2) hs.2.1 rfl).trans hs.2.1, (grownBy_keeps hg' (fun r e => (hr r e).2) hs.2.2 rfl).trans hs.2.2⟩)
      (fun pre A v ⟨h, hl, hd⟩ => ⟨hIb pre A v h, (Below.heap_setCell _ _ _ _ (fun e => by have : w.heap.size + 1 = bx := e; omega)).trans hl, (Below.heap_setCell _ _ _ _ (fun e => by have : w.heap.size = bx := e; omega)).trans hd⟩)
      ?_ ⟨hI1, hL1, hK1⟩).mono ?_
    · rintro pre x W ⟨hi, hl, hk⟩ hlen
      have hlt : w.heap.size + 1 < W.heap.size := (Array.getElem?_eq_some_iff.1 hl).1
      have hy := run_yield (P := P) (args := encs x) hl (by rw [hrec]; exact hps x)
      rw [hrec] at hy
      refine ⟨fn, _, assign, body, hy, roundIn_of_wpIn hfn (hassign _ x W _ ⟨_, run_beginRound hl (by rw [hrec]), ?_⟩)⟩
      have hl2 : (W.putObj (w.heap.size + 1) (.loop { rec .ready none with state := .busy })).heap[w.heap.size + 1]? = some (.loop { rec .ready none with state := .busy }) := World.putObj_heap_same hlt
      have hk2 : (W.putObj (w.heap.size + 1) (.loop { rec .ready none with state := .busy })).heap[w.heap.size]? = some (.deferred (some [])) := (World.putObj_heap_other (by omega)).trans hk
      have hw2 : Kp W (W.putObj (w.heap.size + 1) (.loop { rec .ready none with state := .busy })) := hKb _ _ _ _ (by omega) hl rfl
      refine wpIn_mono (hbody _ pre x _ (hI.putObj _ hi (by omega) hl rfl) hlen) ?_
      rintro e a3 W3 hp
      cases e with
      | normal =>
        obtain ⟨hk3, hkp3, hi3⟩ := hp
        have hl3 := hk3.same _ _ (by omega) hl2 rfl
        have hr : (Instr.endRound (w.heap.size + 1) none).run P W3 = .ok (.bool true) (W3.putObj (w.heap.size + 1) (.loop (rec .ready none))) := by
          have := run_endRound (P := P) none hl3
          rw [hrec] at this ⊢
          exact this
        have hl4 : (W3.putObj (w.heap.size + 1) (.loop (rec .ready none))).heap[w.heap.size + 1]? = some (.loop (rec .ready none)) := World.putObj_heap_same (Array.getElem?_eq_some_iff.1 hl3).1
        have hk4 : (W3.putObj (w.heap.size + 1) (.loop (rec .ready none))).heap[w.heap.size]? = some (.deferred (some [])) := (World.putObj_heap_other (by omega)).trans (hk3.same _ _ (Nat.le_refl _) hk2 rfl)
        exact ⟨_, _, hr, rfl, ⟨hI.putObj _ hi3 (by omega) hl3 rfl, hl4, hk4⟩, hKt (hKt hw2 hkp3) (hKb _ _ _ _ (by omega) hl3 rfl)⟩
      | _ => exact hp.elim
    · rintro e W2 ⟨⟨v, rfl⟩, xs, hS, hi, hl, hk⟩
      exact ⟨none, _, by have := run_endLoop (P := P) hl (by rw [hrec]; simp); rw [hrec] at this; exact this, hdone _ xs _ (Nat.le_refl _) hS (hI.putObj _ hi (by omega) hl rfl) ((World.putObj_heap_other (by omega)).trans hk)⟩
end Go.Proofs.YtoafjbillcooiaaGreat
namespace Go.Proofs.YtoafjbillcooiaaGreat
open Go.RowKit Go.ChangeMaps
set_option linter.unusedSimpArgs false
set_option linter.unusedVariables false
attribute [local go_sem] Oper.semAt_some
structure KpE (o : Nat) (A B : World) : Prop where
  size : A.heap.size ≤ B.heap.size
  same : ∀ b cs t fr, b ≠ o → A.heap[b]? = some (.cells cs t fr) → B.heap[b]? = some (.cells cs t fr)
theorem KpE.trans {o : Nat} {A B C : World} (h : KpE o A B) (k : KpE o B C) : KpE o A C := ⟨Nat.le_trans h.size k.size, fun b cs t fr hb hc => k.same b cs t fr hb (h.same b cs t fr hb hc)⟩
theorem KpE.putObj (o : Nat) (W : World) (l : Nat) (x x' : Obj) (hl : W.heap[l]? = some x) (hx : x.isCells = false) : KpE o W (W.putObj l x') :=
  ⟨by simp, fun b cs t fr _ hc => by
    have : b ≠ l := fun e => by subst e; rw [hl] at hc; cases hc; cases hx
    exact (World.putObj_heap_other this).trans hc⟩
theorem KpE.setCell (o : Nat) (W : World) (k : Nat) (v : Value) : KpE o W (W.setCell ⟨o, k, none⟩ v) :=
  ⟨by simp [World.setCell], fun b cs t fr hb hc => (Below.heap_setCell _ _ _ _ (fun e => hb e)).trans hc⟩
def stepsL (i f n : Nat) (x : ByteArray) : List ByteArray := (List.range n).map fun m => walkC i f m x
theorem stepsL_len (i f n : Nat) (x : ByteArray) : (stepsL i f n x).length = n := by unfold stepsL; simp
theorem stepsL_snoc (i f n : Nat) (x : ByteArray) : stepsL i f (n + 1) x = stepsL i f n x ++ [walkC i f n x] := by unfold stepsL; rw [List.range_succ, List.map_append]; rfl
structure StB (i f t : Nat) (x : ByteArray) (bF bX bT bI : Nat) (w : World) : Prop where
  f : w.heap[bF]? = some (.cells #[.int .i64 (f : Nat)] 3 (0, 0))
  x : w.heap[bX]? = some (.cells #[.string x] 9 (0, 0))
  t : w.heap[bT]? = some (.cells #[.int .i64 (t : Nat)] 3 (0, 0))
  i : w.heap[bI]? = some (.cells #[.int .i64 (i : Nat)] 3 (0, 0))
theorem StB.below {i f t : Nat} {x : ByteArray} {bF bX bT bI : Nat} {w w' : World} (h : StB i f t x bF bX bT bI w) (hb : Below w.heap.size w w') : StB i f t x bF bX bT bI w' :=
  ⟨(hb.block _ (lt_of_block h.f)).trans h.f, (hb.block _ (lt_of_block h.x)).trans h.x, (hb.block _ (lt_of_block h.t)).trans h.t, (hb.block _ (lt_of_block h.i)).trans h.i⟩
theorem StB.keep {i f t : Nat} {x : ByteArray} {o bF bX bT bI : Nat} {w w' : World} (h : StB i f t x bF bX bT bI w) (hb : KpE o w w') (h1 : bF ≠ o) (h2 : bX ≠ o) (h3 : bT ≠ o) (h4 : bI ≠ o) : StB i f t x bF bX bT bI w' :=
  ⟨hb.same _ _ _ _ h1 h.f, hb.same _ _ _ _ h2 h.x, hb.same _ _ _ _ h3 h.t, hb.same _ _ _ _ h4 h.i⟩
theorem StB.ne {i f t : Nat} {x : ByteArray} {bF bX bT bI : Nat} {w : World} (h : StB i f t x bF bX bT bI w) : bF ≠ bX ∧ bT ≠ bX ∧ bI ≠ bX :=
  ⟨fun e => (by have h9 := h.f; rw [e, h.x] at h9; cases h9), fun e => (by have h9 := h.t; rw [e, h.x] at h9; cases h9), fun e => (by have h9 := h.i; rw [e, h.x] at h9; cases h9)⟩
theorem StB.set {i f t : Nat} {x : ByteArray} {bF bX bT bI : Nat} {w : World} (h : StB i f t x bF bX bT bI w) (y : ByteArray) : StB i f t y bF bX bT bI (w.setCell ⟨bX, 0, none⟩ (.string y)) :=
  ⟨block_setCell_ne h.f (h.ne.1) _, block_setCell h.x (o := 0) (.string y), block_setCell_ne h.t (h.ne.2.1) _, block_setCell_ne h.i (h.ne.2.2) _⟩
set_option maxRecDepth 100000 in
set_option maxHeartbeats 4000000 in
theorem steps_seq (i f n : Nat) (x : ByteArray) (nn : Nat) (hn1 : 1 ≤ nn) (o bF bX bT bI : Nat) (w : World) (hi : i ≤ 66) (hn : f + n ≤ 15) (hx : x.size ≤ 1000) (h : StB i f (f + n) x bF bX bT bI w) (h1 : bF ≠ o) (h2 : bX ≠ o) (h3 : bT ≠ o) (h4 : bI ≠ o) :
    SeqB Fence.wide nn Tryz.prog 175 #[.pointer (some ⟨bF, 0, none⟩), .pointer (some ⟨bX, 0, none⟩), .pointer (some ⟨bT, 0, none⟩), .pointer (some ⟨bI, 0, none⟩)] (fun s : ByteArray => #[.string s]) bX (KpE o) (fun xs => xs = stepsL i f (n + 1) x) (n + 1) w := by
  intro l J W hW hJ hJb hY h0
  have HS0 := Lib.hid (h.below hW)
  have HJ := Lib.hid hJ
  have HJB := Lib.hid hJb
  have HY := Lib.hid hY
  have H0 := Lib.hid h0
  have HI := Lib.hid hi
  have HN := Lib.hid hn
  have HX := Lib.hid hx
  have HNE := Lib.hid (And.intro h1 (And.intro h2 (And.intro h3 h4)))
  obtain ⟨t, ht⟩ : ∃ t, f + n = t := ⟨_, rfl⟩
  rw [ht] at HS0
  have HT := Lib.hid ht
  clear h hW hJ hJb hY h0 hi hn hx h1 h2 h3 h4 ht
  refine callsIn_of_wp Tryz.func175 rfl trivial ?_ rfl
  simp only [Tryz.ntmps175, List.size_toArray, List.length_cons, List.length_nil, Nat.reduceAdd, Nat.reduceSub, Array.replicate_succ, Array.replicate_zero, List.push_toArray, List.append_toArray, List.nil_append, List.cons_append]
  have cF : W.cell? ⟨bF, 0, none⟩ = some (.int .i64 (f : Nat)) := block_cell HS0.out.f 0
  gi_wp2
  clear cF
  gi_loopw [6] (fun j wr => ∃ m : Nat, m ≤ n ∧ j = .int .i64 ((f + m : Nat) : Int) ∧ Hid (StB i f t (walkC i f m x) bF bX bT bI wr) ∧ Hid (J (stepsL i f m x) wr)) (fun j _ => n + f - (intOf j).toNat)
  case atStart => exact ⟨0, Nat.zero_le _, rfl, HS0, H0⟩
  case round =>
    clear HS0 H0
    obtain ⟨m, hm, rfl, HS0, H0⟩ := hrel
    obtain ⟨y, hy⟩ : ∃ y, walkC i f m x = y := ⟨_, rfl⟩
    have HYY := Lib.hid hy
    rw [hy] at HS0
    have HMM := Lib.hid hm
    have cX : wr.cell? ⟨bX, 0, none⟩ = some (.string y) := block_cell HS0.out.x 0
    obtain ⟨fn, tmps, assign, body, hyy, hR⟩ := HY.out (stepsL i f m x) y wr H0.out (by rw [stepsL_len]; omega)
    have HR := Lib.hid hR
    clear hR hy hm
    gi_wp2
    refine HR.out.mono ?_
    rintro e W3 ⟨rfl, hJ3, hk3⟩
    have S3 : Hid (StB i f t y bF bX bT bI W3) := Lib.hid (HS0.out.keep hk3 HNE.out.1 HNE.out.2.1 HNE.out.2.2.1 HNE.out.2.2.2)
    have J3 : Hid (J (stepsL i f (m + 1) x) W3) := Lib.hid (by rw [stepsL_snoc, HYY.out]; exact hJ3)
    have cT : W3.cell? ⟨bT, 0, none⟩ = some (.int .i64 (t : Nat)) := block_cell S3.out.t 0
    clear hJ3 hk3 hyy HR cX
    by_cases hlt : m < n
    · obtain ⟨c, hc⟩ : ∃ c, f + m = c := ⟨_, rfl⟩
      have HC := Lib.hid hc
      rw [hc]
      have hc15 : c < 15 := by have := HN.out; omega
      have b0 : (c : Int) < (t : Int) := by have := HT.out; omega
      have cX : W3.cell? ⟨bX, 0, none⟩ = some (.string y) := block_cell S3.out.x 0
      have cI : W3.cell? ⟨bI, 0, none⟩ = some (.int .i64 (i : Nat)) := block_cell S3.out.i 0
      have cX9 : ∀ A B : Obj, ((W3.alloc A).alloc B).cell? ⟨bX, 0, none⟩ = some (.string y) := fun A B => block_cell (block_alloc (block_alloc S3.out.x A) B) 0
      have k1 : IntKind.u8.wrap ((i : Nat) : Int) = (i : Int) := by have := HI.out; exact IntWalk.u8_in _ (by omega)
      have k2 : IntKind.u8.wrap ((c : Nat) : Int) = (c : Int) := IntWalk.u8_in _ (by omega)
      have v1 := conv_one i (by have := HI.out; omega) W3
      have v2 := conv_one c (by omega) (W3.alloc (.cells #[.int .u8 (i : Int)] 5))
      rw [show (W3.alloc (.cells #[.int .u8 (i : Int)] 5)).heap.size = W3.heap.size + 1 by simp] at v2
      have HYS : Hid (y.size ≤ 1000) := Lib.hid (by
        rw [← HYY.out]
        cases m with
        | zero => exact HX.out
        | succ m => exact Nat.le_trans (Nat.le_of_eq (hashP_size _ _)) (by decide))
      have HLT := Lib.hid hlt
      clear hc hlt
      gi_wp2_with fail
      refine ⟨trivial, (callsIn_wide.2 (hash_any chainT [oneB i, oneB c, y] _ 3 _ (by decide) (by decide) (txts3 (alloc_new_at _ (by simp))) (step_size i c HYS.out))).mono ?_⟩
      rintro e w2 ⟨rfl, hb⟩
      have HB2 : Hid (Below W3.heap.size W3 w2) := Lib.hid (bnext (balloc (balloc (balloc (Below.refl _ _) _) _) _) hb)
      have HW : Hid (hashP chainT [oneB i, oneB c, y] = walkC i f (m + 1) x) := Lib.hid (by rw [← HYY.out, ← HC.out]; rfl)
      rw [HW.out]
      have S4 := Lib.hid (S3.out.below HB2.out)
      have J4 : Hid (J (stepsL i f (m + 1) x) w2) := Lib.hid (HJ.out _ _ _ none J3.out (below_grown HB2.out) (fun r e => by cases e))
      have cX2 : w2.cell? ⟨bX, 0, none⟩ = some (.string y) := block_cell S4.out.x 0
      have cf : w2.frozen? ⟨bX, 0, none⟩ = false := block_free S4.out.x 0
      have cl : bX < w2.heap.size := lt_of_block S4.out.x
      obtain ⟨z, hz⟩ : ∃ z, walkC i f (m + 1) x = z := ⟨_, rfl⟩
      rw [hz]
      have HZ := Lib.hid hz
      clear hb k1 k2 v1 v2 cX cI cT hz cX9
      gi_wp2
      have S5 := Lib.hid (S4.out.set z)
      have J5 := Lib.hid (HJB.out _ _ (.string z) J4.out)
      have ec : IntKind.i64.wrap ((c : Int) + 1) = (c : Int) + 1 := IntWalk.i64_in _ (by omega)
      go_roundw
      case rel => exact ⟨m + 1, HLT.out, by rw [← HC.out]; go_num, by rw [HZ.out]; exact S5, J5⟩
      case measure => have := HLT.out; have := HC.out; simp [intOf]; omega
    · obtain rfl : m = n := by have := HMM.out; omega
      have b0 : ¬ ((f + m : Nat) : Int) < (t : Int) := by have := HT.out; omega
      gi_wp2
      go_end0
      exact ⟨⟨_, rfl⟩, _, rfl, J3.out⟩
theorem steps_any (i f t : Nat) (x : ByteArray) (w : World) : Calls Tryz.prog 159 #[.int .i64 (i : Nat), .int .i64 (f : Nat), .int .i64 (t : Nat), .string x] w fun e w' => e = .returned (.func (.func 175) #[] #[.pointer (some ⟨w.heap.size + 1, 0, none⟩), .pointer (some ⟨w.heap.size + 3, 0, none⟩), .pointer (some ⟨w.heap.size + 2, 0, none⟩), .pointer (some ⟨w.heap.size, 0, none⟩)]) ∧ StB i f t x (w.heap.size + 1) (w.heap.size + 3) (w.heap.size + 2) w.heap.size w' ∧ Below w.heap.size w w' := by
  go_enter Tryz.func159, Tryz.ntmps159
  go_wp2
  go_ret
  exact ⟨rfl, ⟨block_alloc (block_alloc (alloc_new_at _ (by simp)) _) _, alloc_new_at _ (by simp), block_alloc (alloc_new_at _ (by simp)) _, block_alloc (block_alloc (block_alloc (heap_alloc_new _ _) _) _) _⟩, by (repeat (first | exact Below.refl _ _ | assumption | (refine bdrew ?_) | (refine bdrewN ?_ _) | (refine balloc ?_ _) | (refine bset ?_ (by first | omega | (simp; done) | (simp; omega)) _) | (refine bnext ?_ (by assumption))))⟩
def lastT (l : List ByteArray) : ByteArray := l.getLast?.getD ⟨#[]⟩
theorem lastT_snoc (l : List ByteArray) (x : ByteArray) : lastT (l ++ [x]) = x := by unfold lastT; rw [List.getLast?_concat]; rfl
set_option maxRecDepth 100000 in
set_option maxHeartbeats 4000000 in
theorem walk12_any (i f n : Nat) (x : ByteArray) (w : World) (hi : i ≤ 66) (hn : f + n ≤ 15) (hx : x.size ≤ 1000) : Calls Tryz.prog 123 #[.int .i64 (i : Nat), .int .i64 (f : Nat), .int .i64 ((f + n : Nat) : Int), .string x] w fun e w' => e = .returned (.string (walkC i f n x)) ∧ Below w.heap.size w w' := by
  obtain ⟨t, ht⟩ : ∃ t, f + n = t := ⟨_, rfl⟩
  rw [ht]
  have HT := Lib.hid ht
  have i1 : ¬ (i : Int) < 0 := by omega
  have i2 : ¬ (67 : Int) ≤ (i : Int) := by omega
  have i3 : ¬ (f : Int) < 0 := by omega
  have i4 : ¬ (t : Int) < (f : Int) := by omega
  have i5 : ¬ (15 : Int) < (t : Int) := by omega
  have HI := Lib.hid hi
  have HN := Lib.hid hn
  have HX := Lib.hid hx
  clear hi hn hx ht
  refine (callsIn_wide (n := 9)).1 ?_
  refine callsIn_of_wp_marks Tryz.func123 rfl trivial ?_ rfl
  simp only [Tryz.ntmps123, List.size_toArray, List.length_cons, List.length_nil, Nat.reduceAdd, Nat.reduceSub, Array.replicate_succ, Array.replicate_zero, List.push_toArray, List.append_toArray, List.nil_append, List.cons_append]
  gi_wp2_with fail
  refine ⟨trivial, (callsIn_wide.2 (steps_any i f t x _)).mono ?_⟩
  rintro e w1 ⟨rfl, hst, hb⟩
  obtain ⟨o, ho⟩ : ∃ o, w.heap.size = o := ⟨_, rfl⟩
  have e1 : (w.alloc (.cells #[.string ⟨#[]⟩] 9)).heap.size = o + 1 := by simp; omega
  rw [e1] at hst ⊢
  rw [ho]
  have HS := Lib.hid hst
  have Z1 : Hid (w1.heap[o]? = some (.cells #[.string (lastT [])] 9 (0, 0))) := Lib.hid ((hb.block _ (lt_of_block (alloc_new_at _ ho))).trans (alloc_new_at _ ho))
  have ZB : Hid (Below w.heap.size w w1) := Lib.hid (bnext (balloc (Below.refl _ _) _) hb)
  have HO : Hid (w.heap.size ≤ o) := Lib.hid (Nat.le_of_eq ho)
  clear hst hb e1 i1 i2 i3 i4 i5 ho
  have HS1 := HS.out
  have hbX : o + 1 + 3 < w1.heap.size := lt_of_block HS1.x
  gi_wp2_with fail
  refine wpIn_rangeFunc_B rfl (by omega) (gf := 175) (lb := #[.pointer (some ⟨o + 1 + 1, 0, none⟩), .pointer (some ⟨o + 1 + 3, 0, none⟩), .pointer (some ⟨o + 1 + 2, 0, none⟩), .pointer (some ⟨o + 1, 0, none⟩)]) rfl trivial (enters_of Tryz.func175 (by kernel_rfl) rfl)
    (steps_seq i f n x 8 (by omega) o (o + 1 + 1) (o + 1 + 3) (o + 1 + 2) (o + 1) w1 HI.out HN.out HX.out (by rw [HT.out]; exact HS1) (by omega) (by omega) (by omega) (by omega)) hbX
    KpE.trans (fun W l9 x x' _ hl hx => KpE.putObj o W l9 x x' hl hx) (fun _ => rfl)
    (fun pre W => W.heap[o]? = some (.cells #[.string (lastT pre)] 9 (0, 0)) ∧ Below w.heap.size w W)
    (OwnFrom.and (own_one _ o 9 (fun pre : List ByteArray => .string (lastT pre))) (ownFrom_below (Nat.le_refl _) ZB.out.size))
    (fun pre A v ⟨h1, h2⟩ => ⟨block_setCell_ne h1 (show o ≠ o + 1 + 3 by omega) _, bset h2 (show w.heap.size ≤ o + 1 + 3 by have := HO.out; omega) _⟩)
    ⟨Z1.out, ZB.out⟩ (fun s => { tmps := #[.int .i64 (i : Nat), .int .i64 (f : Nat), .int .i64 (t : Nat), .string x, undef, undef, undef, undef, .pointer (some ⟨o, 0, none⟩), .string s, .int .i64 (i : Nat), .bool false, .bool false, .int .i64 (i : Nat), .bool false, .bool false, .bool false, .int .i64 (f : Nat), .bool false, .bool false, .bool false, .int .i64 (f : Nat), .int .i64 (t : Nat), .bool false, .bool false, .bool false, .int .i64 (t : Nat), .bool false, .bool false, .int .i64 (i : Nat), .int .i64 (f : Nat), .int .i64 (t : Nat), .string x, .func (.func 175) #[] #[.pointer (some ⟨o + 1 + 1, 0, none⟩), .pointer (some ⟨o + 1 + 3, 0, none⟩), .pointer (some ⟨o + 1 + 2, 0, none⟩), .pointer (some ⟨o + 1, 0, none⟩)], .string s, undef, undef], defers := [] }) ?assign ?body ?done
  case assign =>
    intro l9 s W K hK
    gi_wp2
    exact hK
  case body =>
    rintro l9 pre s W ⟨hO, hB⟩ hlt
    have cs : W.cell? ⟨o, 0, none⟩ = some (.string (lastT pre)) := block_cell hO 0
    have cf := block_free hO 0
    have cl := lt_of_block hO
    have HO2 := Lib.hid hO
    have HB := Lib.hid hB
    clear hO hB hlt
    gi_wp2
    refine ⟨(KeepsOthers.setCell _ _ _).from _, KpE.setCell _ _ _ _, ?_, bset HB.out HO.out _⟩
    have h9 := block_setCell HO2.out (o := 0) (.string s)
    rw [lastT_snoc]
    exact h9
  case done =>
    rintro D ys W hD rfl ⟨hO, hB⟩ hK
    rw [stepsL_snoc, lastT_snoc] at hO
    have cs : W.cell? ⟨o, 0, none⟩ = some (.string (walkC i f n x)) := block_cell hO 0
    have cf := block_free hO 0
    have cl := lt_of_block hO
    have HK := Lib.hid hK
    have HB := Lib.hid hB
    have HO2 := Lib.hid hO
    clear hK hB hO
    gi_wp2
    have hlo : D ≠ o := fun e => by have h9 := HO2.out; rw [← e, HK.out] at h9; cases h9
    have hk2 : (W.setCell ⟨o, 0, none⟩ (.string (walkC i f n x))).heap[D]? = some (.deferred (some [])) := (Below.heap_setCell _ _ _ _ hlo).trans HK.out
    refine ⟨by simp, .inl ⟨_, _, rfl, run_takeDeferred hk2, ?_⟩⟩
    have hc9 : ((W.setCell ⟨o, 0, none⟩ (.string (walkC i f n x))).putObj D (.deferred none)).cell? ⟨o, 0, none⟩ = some (.string (walkC i f n x)) := by
      have h9 := block_setCell HO2.out (o := 0) (.string (walkC i f n x))
      exact block_cell ((World.putObj_heap_other (fun e => hlo e.symm)).trans h9) 0
    refine ⟨.string (walkC i f n x), by simp [results, Tryz.results123, go_sem, hc9], rfl, ?_⟩
    exact (bset HB.out HO.out _).trans (belowK_b (w := w) (Nat.le_refl _) _ D _ _ (Nat.le_trans ZB.out.size hD) hk2 rfl rfl)
end Go.Proofs.YtoafjbillcooiaaGreat
namespace Go.Proofs.YtoafjbillcooiaaGreat
open Go.RowKit Go.ChangeMaps
set_option linter.unusedSimpArgs false
set_option linter.unusedVariables false
attribute [local go_sem] Oper.semAt_some
theorem secretT_hash (seed : ByteArray) (k i : Nat) : hashP secretT [seed, num8S k, oneB i] = secretP seed k i := rfl
set_option maxRecDepth 100000 in
set_option maxHeartbeats 4000000 in
theorem at13_any (seed : ByteArray) (k i q : Nat) (w : World) (hs : seed.size ≤ 1000) (hi : i ≤ 66) (hq : q ≤ 15) : Calls Tryz.prog 90 #[.agg #[.string seed, .string (num8S k)], .int .i64 (i : Nat), .int .i64 (q : Nat)] w fun e w' => e = .returned (.string (walkC i 0 q (secretP seed k i))) ∧ Below w.heap.size w w' := by
  have HS := Lib.hid hs
  have HI := Lib.hid hi
  have HQ := Lib.hid hq
  have k1 : IntKind.u8.wrap ((i : Nat) : Int) = (i : Int) := IntWalk.u8_in _ (by omega)
  have v1 := conv_one i (by omega) (w.alloc (.cells #[.string seed, .string (num8S k)] 134))
  rw [show (w.alloc (.cells #[.string seed, .string (num8S k)] 134)).heap.size = w.heap.size + 1 by simp] at v1
  clear hs hi hq
  go_enter Tryz.func90, Tryz.ntmps90
  go_wp2_with fail
  refine (hash_any secretT [seed, num8S k, oneB i] _ 3 _ (by decide) (by decide) (txts3 (alloc_new_at _ (by simp))) (sec_size k i HS.out)).mono ?_
  rintro e w2 ⟨rfl, hb⟩
  have HB2 : Hid (Below w.heap.size w w2) := Lib.hid (bnext (balloc (balloc (balloc (Below.refl _ _) _) _) _) hb)
  rw [secretT_hash]
  clear hb v1 k1
  go_wp2_with fail
  have h9 := walk12_any i 0 q (secretP seed k i) w2 HI.out (by have := HQ.out; omega) (by rw [secretP_size]; decide)
  rw [show ((0 : Nat) : Int) = 0 from rfl, Nat.zero_add] at h9
  refine h9.mono ?_
  rintro e w3 ⟨rfl, hb⟩
  have HB3 : Hid (Below w.heap.size w w3) := Lib.hid (bnext HB2.out hb)
  clear hb h9
  go_wp2
  go_ret
  exact ⟨rfl, HB3.out⟩
set_option maxRecDepth 100000 in
theorem key13_any (seed : ByteArray) (k : Nat) (w : World) (hk : k < 18446744073709551616) : Calls Tryz.prog 89 #[.string seed, .int .u64 (k : Nat)] w fun e w' => e = .returned (.agg #[.string seed, .string (num8S k)]) ∧ Below w.heap.size w w' := by
  have HK := Lib.hid hk
  clear hk
  go_enter Tryz.func89, Tryz.ntmps89
  go_wp2_with fail
  obtain ⟨rb, hrb⟩ : ∃ rb, w.heap.size = rb := ⟨_, rfl⟩
  refine (dnum_any k _ HK.out).mono ?_
  rintro e w2 ⟨rfl, hb⟩
  have HRB : Hid (w.heap.size ≤ rb) := Lib.hid (Nat.le_of_eq hrb)
  have HB2 : Hid (Below w.heap.size w w2) := Lib.hid (bnext (balloc (Below.refl _ _) _) hb)
  have HB3 : Hid (w2.heap[rb]? = some (.cells #[.string ⟨#[]⟩, .string ⟨#[]⟩] 134 (0, 0))) := Lib.hid ((hb.block _ (lt_of_block (alloc_new_at _ hrb))).trans (alloc_new_at _ hrb))
  rw [hrb]
  clear hb hrb
  have z0 := fun o => block_cell HB3.out o
  have z1 : ∀ o, w2.frozen? ⟨rb, o, none⟩ = false := block_free HB3.out
  have z2 : rb < w2.heap.size := lt_of_block HB3.out
  go_wp2
  have hk := block_setCell (block_setCell HB3.out (o := 0) (.string seed)) (o := 1) (.string (num8S k))
  have e0 := block_cell hk 0
  have e1 := block_cell hk 1
  refine bodyPost_ret (v := .agg #[.string seed, .string (num8S k)]) ?_ rfl ⟨rfl, bset (bset HB2.out HRB.out _) HRB.out _⟩
  simp [results, Tryz.results89, go_sem, e0, e1]
def digD (d : ByteArray) (i : Nat) : Nat := if d.size = 32 then digN d i else 15
theorem digD_le (d : ByteArray) (i : Nat) : digD d i ≤ 15 := by
  unfold digD
  split
  · exact digN_le d i
  · exact Nat.le_refl _
structure ChB (d : ByteArray) (bb : Nat) (sl : Value) (w : World) : Prop where
  b : w.heap[bb]? = some (.cells #[sl] 162 (0, 0))
  y : d.size = 32 → ∃ db, sl = .slice (some ⟨db, 0, none⟩) 67 67 ∧ w.heap[db]? = some (.cells (dgP d fun _ => true) 231 (0, 0))
  n : d.size ≠ 32 → sl = .slice none 0 0
theorem ChB.below {d : ByteArray} {bb : Nat} {sl : Value} {w w' : World} (h : ChB d bb sl w) (hb : Below w.heap.size w w') : ChB d bb sl w' :=
  ⟨(hb.block _ (lt_of_block h.b)).trans h.b, fun e => by
    obtain ⟨db, h1, h2⟩ := h.y e
    exact ⟨db, h1, (hb.block _ (lt_of_block h2)).trans h2⟩, h.n⟩
theorem ChB.keep {d : ByteArray} {o bb : Nat} {sl : Value} {w w' : World} (h : ChB d bb sl w) (hb : KpO o w w') (h1 : bb ≠ o) (h2 : ∀ db, sl = .slice (some ⟨db, 0, none⟩) 67 67 → db ≠ o) : ChB d bb sl w' :=
  ⟨hb.same _ _ _ _ h1 (by decide) h.b, fun e => by
    obtain ⟨db, h3, h4⟩ := h.y e
    exact ⟨db, h3, hb.same _ _ _ _ (h2 db h3) (by decide) h4⟩, h.n⟩
set_option maxRecDepth 100000 in
set_option maxHeartbeats 4000000 in
theorem digits12_no (d : ByteArray) (w : World) (hd : d.size ≠ 32) : Calls Tryz.prog 160 #[.string d] w fun e w' => e = .returned (.slice none 0 0) ∧ Below w.heap.size w w' := by
  have i1 : ¬ ((d.size : Nat) : Int) = 32 := by omega
  clear hd
  go_enter Tryz.func160, Tryz.ntmps160
  go_wp2
  go_ret
  exact ⟨rfl, by (repeat (first | exact Below.refl _ _ | assumption | (refine bdrew ?_) | (refine bdrewN ?_ _) | (refine balloc ?_ _) | (refine bset ?_ (by first | omega | (simp; done) | (simp; omega)) _) | (refine bnext ?_ (by assumption))))⟩
set_option maxRecDepth 100000 in
set_option maxHeartbeats 4000000 in
theorem chains_any (d : ByteArray) (w : World) : Calls Tryz.prog 130 #[.string d] w fun e w' => ∃ bb sl, e = .returned (.func (.func 161) #[] #[.pointer (some ⟨bb, 0, none⟩)]) ∧ w.heap.size ≤ bb ∧ ChB d bb sl w' ∧ Below w.heap.size w w' := by
  by_cases h32 : d.size = 32
  · have HD := Lib.hid h32
    clear h32
    go_enter Tryz.func130, Tryz.ntmps130
    go_wp2_with fail
    refine (digits12_any d w HD.out).mono ?_
    rintro e w1 ⟨db, rfl, h1, h2, hb⟩
    have HB := Lib.hid hb
    have HDB := Lib.hid h2
    clear hb h2 h1
    go_wp2
    go_ret
    exact ⟨_, _, rfl, HB.out.size, ⟨heap_alloc_new _ _, fun _ => ⟨db, rfl, block_alloc HDB.out _⟩, fun h9 => absurd HD.out h9⟩, balloc HB.out _⟩
  · have HD := Lib.hid h32
    clear h32
    go_enter Tryz.func130, Tryz.ntmps130
    go_wp2_with fail
    refine (digits12_no d w HD.out).mono ?_
    rintro e w1 ⟨rfl, hb⟩
    have HB := Lib.hid hb
    clear hb
    go_wp2
    go_ret
    exact ⟨_, _, rfl, HB.out.size, ⟨heap_alloc_new _ _, fun h9 => absurd h9 HD.out, fun _ => rfl⟩, balloc HB.out _⟩
abbrev ChN := {i : Nat // i < 67}
theorem digD_yes {d : ByteArray} (h : d.size = 32) (i : Nat) : digD d i = digN d i := if_pos h
theorem digD_no {d : ByteArray} (h : d.size ≠ 32) (i : Nat) : digD d i = 15 := if_neg h
set_option maxRecDepth 100000 in
set_option maxHeartbeats 4000000 in
theorem chains_seq (d : ByteArray) (n : Nat) (hn1 : 1 ≤ n) (o bb : Nat) (sl : Value) (w : World) (h : ChB d bb sl w) (h1 : bb ≠ o) (h2 : ∀ db, sl = .slice (some ⟨db, 0, none⟩) 67 67 → db ≠ o) :
    SeqStopsK Fence.wide n Tryz.prog 161 #[.pointer (some ⟨bb, 0, none⟩)] (fun x : ChN => #[.int .i64 (x.val : Nat), .int .i64 (digD d x.val : Nat)]) (KpO o) (fun xs => xs.map Subtype.val = List.range 67) (fun _ => True) 67 w := by
  intro l0 J Jx W hW hJ hJx hY h0
  have HC := Lib.hid (h.below hW)
  have HJ := Lib.hid hJ
  have HJX := Lib.hid hJx
  have HY := Lib.hid hY
  have H0 := Lib.hid h0
  have HNE := Lib.hid (And.intro h1 h2)
  clear h hW hJ hJx hY h0 h1 h2
  refine callsIn_of_wp Tryz.func161 rfl trivial ?_ rfl
  simp only [Tryz.ntmps161, List.size_toArray, List.length_cons, List.length_nil, Nat.reduceAdd, Nat.reduceSub, Array.replicate_succ, Array.replicate_zero, List.push_toArray, List.append_toArray, List.nil_append, List.cons_append]
  gi_wp2
  gi_loopw [5] (fun i wr => ∃ (m : Nat) (pre : List ChN), m ≤ 67 ∧ i = .int .i64 (m : Nat) ∧ Hid (ChB d bb sl wr) ∧ Hid (J pre wr) ∧ Hid (pre.map Subtype.val = List.range m)) (fun i _ => 67 - (intOf i).toNat)
  case atStart => exact ⟨0, [], Nat.zero_le _, rfl, HC, H0, Lib.hid rfl⟩
  case round =>
    clear HC H0
    obtain ⟨m, pre, hm, rfl, HC, H0, HP⟩ := hrel
    by_cases hlt : m < 67
    · have b0 : (m : Int) < 67 := by omega
      have HLT := Lib.hid hlt
      have cb : wr.cell? ⟨bb, 0, none⟩ = some sl := block_cell HC.out.b 0
      obtain ⟨fn, tmps, assign, body, hyy, hR⟩ := HY.out pre ⟨m, hlt⟩ wr H0.out (by have h9 := congrArg List.length HP.out; rw [List.length_map, List.length_range] at h9; omega)
      dsimp only at hyy
      obtain ⟨pr2, hpr2⟩ : ∃ pr2, pre ++ [⟨m, hlt⟩] = pr2 := ⟨_, rfl⟩
      have HP2 : Hid (pr2.map Subtype.val = List.range (m + 1)) := Lib.hid (by rw [← hpr2, List.map_append, HP.out, List.range_succ]; rfl)
      rw [hpr2] at hR
      have HR := Lib.hid hR
      have fin : ∀ W3, J pr2 W3 → KpO o wr W3 → Hid (ChB d bb sl W3) ∧ Hid (J pr2 W3) := fun W3 hj hk => ⟨Lib.hid (HC.out.keep hk HNE.out.1 HNE.out.2), Lib.hid hj⟩
      have FIN := Lib.hid fin
      clear hR hlt fin hm hpr2
      by_cases h32 : d.size = 32
      · obtain ⟨db, hsl, hdb⟩ := HC.out.y h32
        rw [hsl] at cb
        have cd : wr.cell? ⟨db, m, none⟩ = some (.int .i64 ((digN d m : Nat) : Int)) := by rw [block_cell hdb, dgP_at d _ m HLT.out]; rfl
        rw [digD_yes h32] at hyy
        have bl : ¬ (67 : Int) ≤ (m : Int) := by omega
        have HSL := Lib.hid hsl
        clear h32 hdb hsl
        gi_wp2
        refine HR.out.mono ?_
        rintro e W3 (⟨rfl, hJ3, hk3⟩ | ⟨rfl, hJx3⟩)
        · obtain ⟨C3, J3⟩ := FIN.out W3 hJ3 hk3
          clear hJ3 hk3 hyy HR cb cd FIN
          gi_wp2
          go_roundw
          case rel => exact ⟨m + 1, pr2, by have := HLT.out; omega, by have := HLT.out; go_num, C3, J3, HP2⟩
          case measure => have := HLT.out; simp [intOf]; omega
        · have JX := Lib.hid hJx3
          clear hJx3 hyy HR FIN cb cd
          gi_wp2
          refine bodyPost_ret (results_none rfl _ _ _) rfl ?_
          exact ⟨⟨_, rfl⟩, Or.inr ⟨_, trivial, JX.out⟩⟩
      · have hsl := HC.out.n h32
        rw [hsl] at cb
        rw [digD_no h32, show ((15 : Nat) : Int) = 15 from rfl] at hyy
        have bl : ¬ (m : Int) < 0 := by omega
        have HSL := Lib.hid hsl
        clear h32 hsl
        gi_wp2
        refine HR.out.mono ?_
        rintro e W3 (⟨rfl, hJ3, hk3⟩ | ⟨rfl, hJx3⟩)
        · obtain ⟨C3, J3⟩ := FIN.out W3 hJ3 hk3
          clear hJ3 hk3 hyy HR cb FIN
          gi_wp2
          go_roundw
          case rel => exact ⟨m + 1, pr2, by have := HLT.out; omega, by have := HLT.out; go_num, C3, J3, HP2⟩
          case measure => have := HLT.out; simp [intOf]; omega
        · have JX := Lib.hid hJx3
          clear hJx3 hyy HR FIN cb
          gi_wp2
          refine bodyPost_ret (results_none rfl _ _ _) rfl ?_
          exact ⟨⟨_, rfl⟩, Or.inr ⟨_, trivial, JX.out⟩⟩
    · obtain rfl : m = 67 := by omega
      have b0 : ¬ ((67 : Nat) : Int) < 67 := by decide
      gi_wp2
      go_end0
      exact ⟨⟨_, rfl⟩, Or.inl ⟨pre, HP.out, H0.out⟩⟩
end Go.Proofs.YtoafjbillcooiaaGreat
namespace Go.Proofs.YtoafjbillcooiaaGreat
open Go.RowKit Go.ChangeMaps
set_option linter.unusedSimpArgs false
set_option linter.unusedVariables false
attribute [local go_sem] Oper.semAt_some
def alL (F : Nat → ByteArray) (pre : List ChN) : List ByteArray := pre.map fun x => F x.val
theorem alL_len (F : Nat → ByteArray) (pre : List ChN) : len (alL F pre) = pre.length := by unfold alL; rw [len_eq, List.length_map]
theorem alL_snoc (F : Nat → ByteArray) (pre : List ChN) (x : ChN) : alL F (pre ++ [x]) = alL F pre ++ [F x.val] := by unfold alL; rw [List.map_append]; rfl
theorem alL_all (F : Nat → ByteArray) (pre : List ChN) (h : pre.map Subtype.val = List.range 67) : alL F pre = chL F 67 := by
  unfold alL chL
  rw [← h, List.map_map]
  rfl
theorem boxed_app {W w1 : World} {n₀ B : Nat} {t e : TypeId} {size : Nat} {v v' : Value} {k m : Nat} {xs ys : List Value} (hv : Boxed W B t v) (hte : t ≠ e) (hrow : W.ownsRow n₀ e size v k xs) (hn₀ : n₀ ≤ W.heap.size) (hB : n₀ ≤ B) (hown' : w1.ownsRow n₀ e size v' m ys) (hgrow : W.grownBy w1 v.ownBlock) :
    Boxed w1 B t v ∧ Boxed (w1.setCell ⟨B, 0, none⟩ v') B t v' ∧ (w1.setCell ⟨B, 0, none⟩ v').ownsRow n₀ e size v' m ys ∧ KeepsOthers W (w1.setCell ⟨B, 0, none⟩ v') ∧ Below n₀ W (w1.setCell ⟨B, 0, none⟩ v') := by
  have hv1 : Boxed w1 B t v := hv.kept hgrow (hv.not_row hte hrow)
  refine ⟨hv1, hv1.set v', hown'.kept (grownBy_setCell' w1 B v') (.inr (hv1.not_row hte hown').symm), ?_, ?_⟩
  · refine (KeepsOthers.of_grownBy hgrow fun j o ej hj => ?_).trans (KeepsOthers.setCell _ _ _)
    rcases hrow.2 with ⟨rfl, _⟩ | ⟨g, cap, cur, rfl, _, hgb, _⟩
    · simp [Value.ownBlock] at ej
    · obtain rfl : g = j := by simpa [Value.ownBlock] using ej
      rw [hgb] at hj; cases hj; rfl
  · refine ((Below.refl n₀ W).grown hgrow (by omega) fun j ej => ?_).setCell (p := ⟨B, 0, none⟩) hB v'
    rcases hrow.2 with ⟨rfl, _⟩ | ⟨g, cap, cur, rfl, hb, _, _⟩
    · simp [Value.ownBlock] at ej
    · obtain rfl : g = j := by simpa [Value.ownBlock] using ej
      exact hb
theorem kpo_app {o base k : Nat} {W w4 : World} {v v' : Value} {xs : List Value} (hrow : W.ownsRow base 9 1 v k xs) (hg : W.grownBy w4 v.ownBlock) : KpO o W (w4.setCell ⟨o, 0, none⟩ v') := by
  have hs := hg.size
  refine ⟨by simp [World.setCell]; omega, fun b cs t fr hb ht hc => ?_⟩
  have hlt := lt_of_block hc
  refine (Below.heap_setCell _ _ _ _ (fun e => hb e)).trans ?_
  refine (hg.block b hlt (fun e => ?_)).trans hc
  rcases hrow.2 with ⟨rfl, _⟩ | ⟨g, cap, cur, rfl, _, hgb, _⟩
  · simp [Value.ownBlock] at e
  · obtain rfl : b = g := by simpa [Value.ownBlock] using e
    rw [hgb] at hc; cases hc; exact ht rfl
def AlIs (F : Nat → ByteArray) (w : World) (e : Ending) (w' : World) : Prop := ∃ v, e = .returned v ∧ w'.ownsRow w.heap.size 9 1 v 67 ((chL F 67).map Value.string) ∧ Below w.heap.size w w'
set_option maxRecDepth 100000 in
set_option maxHeartbeats 4000000 in
theorem along_any (d : ByteArray) (g : FuncId) (bnd cap : Array Value) (F : Nat → ByteArray) (w : World) (eg : ∀ args w, (callFunc g args).run Tryz.prog w = .ok (.enter g args) w)
    (hc : ∀ i, i < 67 → ∀ w1, Below w.heap.size w w1 → Calls Tryz.prog g (bnd ++ #[.int .i64 (i : Nat), .int .i64 (digD d i : Nat)] ++ cap) w1 fun e w' => e = .returned (.string (F i)) ∧ Below w1.heap.size w1 w') :
    Calls Tryz.prog 88 #[.string d, .func (.func g) bnd cap] w (AlIs F w) := by
  have HC := Lib.hid hc
  have EG := Lib.hid eg
  clear hc eg
  obtain ⟨i0, hi, hz0, hz1, hz2⟩ := info_parts info_str
  have HZ := Lib.hid hz0
  clear hz0
  refine (callsIn_wide (n := 9)).1 ?_
  refine callsIn_of_wp_marks Tryz.func88 rfl trivial ?_ rfl
  simp only [Tryz.ntmps88, List.size_toArray, List.length_cons, List.length_nil, Nat.reduceAdd, Nat.reduceSub, Array.replicate_succ, Array.replicate_zero, List.push_toArray, List.append_toArray, List.nil_append, List.cons_append]
  gi_wp2_with fail
  refine ⟨trivial, (callsIn_wide.2 (chains_any d _)).mono ?_⟩
  rintro e w1 ⟨bb, sl, rfl, hbb, hch, hb⟩
  obtain ⟨fb, hfb⟩ : ∃ fb, w.heap.size = fb := ⟨_, rfl⟩
  have e1 : (w.alloc (.cells #[.func (.func g) bnd cap] 132)).heap.size = fb + 1 := by simp; omega
  have e2 : ((w.alloc (.cells #[.func (.func g) bnd cap] 132)).alloc (.cells #[.slice none 0 0] 22)).heap.size = fb + 1 + 1 := by simp; omega
  rw [e2] at hbb
  rw [hfb]
  have ha1 := block_alloc (alloc_new_at (.cells #[.func (.func g) bnd cap] 132) hfb) (.cells #[.slice none 0 0] 22)
  have ha2 := alloc_new_at (.cells #[.slice none 0 0] 22) e1
  have Z1 : Hid (w1.heap[fb]? = some (.cells #[.func (.func g) bnd cap] 132 (0, 0))) := Lib.hid ((hb.block _ (lt_of_block ha1)).trans ha1)
  have Z0 : Hid (Boxed w1 (fb + 1) 22 (.slice none 0 0)) := Lib.hid ((hb.block _ (lt_of_block ha2)).trans ha2)
  have HCH := Lib.hid hch
  have HBB := Lib.hid hbb
  have ZB : Hid (Below w.heap.size w w1) := Lib.hid (bnext (balloc (balloc (Below.refl _ _) _) _) hb)
  have HO : Hid (w.heap.size ≤ fb) := Lib.hid (Nat.le_of_eq hfb)
  have HDB : Hid (∀ db, sl = .slice (some ⟨db, 0, none⟩) 67 67 → db ≠ fb + 1) := Lib.hid (fun db e9 => by
    rintro rfl
    by_cases h32 : d.size = 32
    · obtain ⟨db, h1, h2⟩ := hch.y h32
      rw [h1] at e9
      cases e9
      have h3 : w1.heap[fb + 1]? = some (.cells #[.slice none 0 0] 22 (0, 0)) := Z0.out
      rw [h2] at h3
      cases h3
    · rw [hch.n h32] at e9
      cases e9)
  clear hch hbb hb hfb e1 e2 ha1 ha2
  gi_wp2_with fail
  refine wpIn_rangeFunc_ownF rfl (by omega) (gf := 161) (lb := #[.pointer (some ⟨bb, 0, none⟩)]) rfl trivial (enters_of Tryz.func161 (by kernel_rfl) rfl)
    (chains_seq d 8 (by omega) (fb + 1) bb sl w1 HCH.out (by have := HBB.out; omega) HDB.out)
    KpO.trans (fun W l9 x x' _ hl hx _ => KpO.putObj (fb + 1) W l9 x x' hl hx) (Below.refl _ _) (fun _ => rfl)
    (fun pre W => (∃ v, Boxed W (fb + 1) 22 v ∧ W.ownsRow w.heap.size 9 1 v (len (alL F pre)) ((alL F pre).map Value.string) ∧ True) ∧ W.heap[fb]? = some (.cells #[.func (.func g) bnd cap] 132 (0, 0)) ∧ Below w.heap.size w W) (fun _ _ _ => False)
    (OwnFrom.and (Own.from (holdsRow_own w.heap.size (fb + 1) 22 9 1 (fun pre : List ChN => len (alL F pre)) (fun pre => (alL F pre).map Value.string) (fun _ _ => True)) _) (OwnFrom.and (own_one _ fb 132 (fun _ : List ChN => .func (.func g) bnd cap)) (ownFrom_below (Nat.le_refl _) ZB.out.size))) (fun _ _ _ _ _ h _ _ => h)
    ⟨⟨_, Z0.out, World.ownsRow_nil _ _ _ _, trivial⟩, Z1.out, ZB.out⟩ ?a1 ?assign ?body ?done ?stop
  case assign =>
    intro l9 x W K hK
    gi_wp2
    exact hK
  case body =>
    rintro l9 pre ⟨i, hi67⟩ W ⟨⟨v, hv, hrow, -⟩, hO, hB⟩ hlt
    dsimp only
    have HV := Lib.hid hv
    have HRW := Lib.hid hrow
    have HF := Lib.hid hO
    have HB := Lib.hid hB
    have HCI := Lib.hid (fun w9 h9 => HC.out i hi67 w9 h9)
    have HLN : Hid (len (alL F pre) ≤ 66) := Lib.hid (by rw [alL_len]; omega)
    have HSN := Lib.hid (alL_snoc F pre ⟨i, hi67⟩)
    dsimp only at HSN
    obtain ⟨P9, hP9⟩ : ∃ P9, alL F pre = P9 := ⟨_, rfl⟩
    obtain ⟨X9, hX9⟩ : ∃ X9, F i = X9 := ⟨_, rfl⟩
    obtain ⟨q, hq⟩ : ∃ q, digD d i = q := ⟨_, rfl⟩
    rw [hP9] at HRW HLN HSN
    rw [hX9] at HSN
    rw [hX9, hq] at HCI
    rw [hq]
    clear hv hrow hO hB hlt hP9 hX9 hq
    have cf : W.cell? ⟨fb, 0, none⟩ = some (.func (.func g) bnd cap) := block_cell HF.out 0
    have cv : W.cell? ⟨fb + 1, 0, none⟩ = some v := HV.out.cell
    gi_upto_region 5 with (fail)
    refine wpIn_region_tail (fun _ => trivial) 6 1000 none (phis [fun u _ => u = v, fun u _ => u = .func (.func g) bnd cap, fun u _ => u = .int .i64 (i : Nat), fun u _ => u = .int .i64 (q : Nat), fun u _ => u = .string X9,
      fun u w' => ∃ b, u = .slice (some ⟨b, 0, none⟩) 1 1 ∧ w'.heap[b]? = some (.cells #[.string X9] 9 (0, 0))]) rfl (by kernel_rfl) (by kernel_rfl)
      (mono_of ⟨mono_eq, mono_eq, mono_eq, mono_eq, mono_eq, ?m5, trivial⟩) (stepsIn_of 6 ⟨?s0, ?s1, ?s2, ?s3, ?s4, ?s5, trivial⟩) ?_
    case m5 =>
      exact ⟨fun u w1 w' h ⟨b, h1, h2⟩ => ⟨b, h1, ext_block h h2⟩, fun _ u w1 w' h ⟨b, h1, h2⟩ => ⟨b, h1, ext_block (extB_none h) h2⟩⟩
    case s0 =>
      refine stepIn_wp (fun av wv hE hS hO hD => ⟨rfl, wpIn_of_run (fun _ => trivial) (by intro c hc; cases hc) (w' := wv) (v := v) ?_ ⟨v, rfl, es_of_ext (Ext_refl _), rfl⟩⟩)
      have h5 : av.eval (.tmp 5) = .pointer (some ⟨fb + 1, 0, none⟩) := hO.2.2 5 rfl
      have f5 := (ev_form av 5).symm.trans h5
      have hc0 := extB_cell hE (by simp) cv
      simp [go_sem, f5, hc0]
    case s1 =>
      refine stepIn_wp (fun av wv hE hS hO hD => ⟨rfl, wpIn_of_run (fun _ => trivial) (by intro c hc; cases hc) (w' := wv) (v := .func (.func g) bnd cap) ?_ ⟨_, rfl, es_of_ext (Ext_refl _), rfl⟩⟩)
      have h5 : av.eval (.tmp 3) = .pointer (some ⟨fb, 0, none⟩) := hO.2.2 3 rfl
      have f5 := (ev_form av 3).symm.trans h5
      have hc0 := extB_cell hE (by simp) cf
      simp [go_sem, f5, hc0]
    case s2 =>
      refine stepIn_wp (fun av wv hE hS hO hD => ⟨rfl, wpIn_of_run (fun _ => trivial) (by intro c hc; cases hc) (w' := wv) (v := .int .i64 (i : Nat)) ?_ ⟨_, rfl, es_of_ext (Ext_refl _), rfl⟩⟩)
      have h5 : av.eval (.tmp 6) = .int .i64 (i : Nat) := hO.2.2 6 rfl
      have f5 := (ev_form av 6).symm.trans h5
      simp [go_sem, f5]
    case s3 =>
      refine stepIn_wp (fun av wv hE hS hO hD => ⟨rfl, wpIn_of_run (fun _ => trivial) (by intro c hc; cases hc) (w' := wv) (v := .int .i64 (q : Nat)) ?_ ⟨_, rfl, es_of_ext (Ext_refl _), rfl⟩⟩)
      have h5 : av.eval (.tmp 7) = .int .i64 (q : Nat) := hO.2.2 7 rfl
      have f5 := (ev_form av 7).symm.trans h5
      simp [go_sem, f5]
    case s4 =>
      refine stepIn_wp (fun av wv hE hS hO hD => ?_)
      have d13 : av.eval (.tmp 13) = .func (.func g) bnd cap := hD.1 rfl _ rfl
      have d14 : av.eval (.tmp 14) = .int .i64 (i : Nat) := hD.2.1 rfl _ rfl
      have d15 : av.eval (.tmp 15) = .int .i64 (q : Nat) := hD.2.2.1 rfl _ rfl
      have f13 := (ev_form av 13).symm.trans d13
      have f14 := (ev_form av 14).symm.trans d14
      have f15 := (ev_form av 15).symm.trans d15
      have key : (execOp av.eval { dst := some 16, op := .call { callee := .value (.tmp 13), args := #[.tmp 14, .tmp 15], argTypes := #[3, 3] }, type := 9, pos := "wots.go:48", after := #[{ on := 1, ground := .data }, { on := 2, ground := .data }, { on := 3, ground := .data }], guard := none }).run Tryz.prog wv = .ok (.enter g (bnd ++ #[.int .i64 (i : Nat), .int .i64 (q : Nat)] ++ cap)) wv := by
        simp [go_sem, f13, f14, f15, -Array.append_assoc, -Array.append_eq_append]
        exact EG.out _ _
      have hcc := HCI.out wv (HB.out.trans ((of_drew hE).mono HB.out.size))
      refine ⟨rfl, wpIn_of_call (by intro c hc; cases hc) key hcc ?_⟩
      rintro e w' ⟨rfl, hb⟩
      exact ⟨_, rfl, _, rfl, es_of_ext hb, rfl⟩
    case s5 =>
      refine stepIn_wp (fun av wv hE hS hO hD => ?_)
      have d16 : av.eval (.tmp 16) = .string X9 := hD.1 rfl _ rfl
      have f16 := (ev_form av 16).symm.trans d16
      refine ⟨rfl, wpIn_of_run (fun _ => trivial) (by intro c hc; cases hc) (w' := wv.alloc (.cells #[.string X9] 9)) (v := .slice (some ⟨wv.heap.size, 0, none⟩) 1 1) ?_ ⟨_, rfl, es_of_ext (balloc (Ext_refl _) _), wv.heap.size, rfl, heap_alloc_new _ _⟩⟩
      simp [go_sem, f16]
    intro a' w' hE hO hall
    have hA := act_of_outer (ds := [12, 13, 14, 15, 16, 17]) rfl hO (by kernel_rfl)
    obtain ⟨j0, j1, j2, j3, j4, j5, -⟩ := hall
    have e17 : (fun u w' => ∃ b, u = .slice (some ⟨b, 0, none⟩) 1 1 ∧ w'.heap[b]? = some (.cells #[.string X9] 9 (0, 0))) (a'.eval (.tmp 17)) w' := j5 _ rfl
    obtain ⟨v17, hv17⟩ : ∃ v, a'.eval (.tmp 17) = v := ⟨_, rfl⟩
    rw [hv17] at e17
    simp only [List.foldl_cons, List.foldl_nil, Act.put, List.setIfInBounds_toArray, List.set_cons_succ, List.set_cons_zero, qJ 12 (j0 _ rfl), qJ 13 (j1 _ rfl), qJ 14 (j2 _ rfl), qJ 15 (j3 _ rfl), qJ 16 (j4 _ rfl), hv17] at hA
    clear hO j5 j0 j1 j2 j3 j4 hv17
    subst hA
    obtain ⟨b17, rfl, hc17⟩ := e17
    have HWW := Lib.hid (of_drew hE)
    have HC17 := Lib.hid hc17
    clear hE cf cv hc17
    have HV2 : Hid (Boxed w' (fb + 1) 22 v) := Lib.hid ((HWW.out.block _ HV.out.lt).trans HV.out)
    have HR2 : Hid (w'.ownsRow w.heap.size 9 1 v (len P9) (P9.map Value.string)) := Lib.hid (own_below HRW.out HWW.out)
    have HO2 : Hid (w'.heap[fb]? = some (.cells #[.func (.func g) bnd cap] 132 (0, 0))) := Lib.hid ((HWW.out.block _ (lt_of_block HF.out)).trans HF.out)
    have HB2 : Hid (Below w.heap.size w w') := Lib.hid (bnext HB.out HWW.out)
    have hc := HV2.out.cell
    have hpb := HLN.out
    simp only [List.drop_succ_cons, List.drop_zero]
    gi_wp2_with (gi_at_builtin; refine wpListIn_append_own _ rfl _ _ 22 rfl w.heap.size 9 i0 (.string ⟨#[]⟩) 1 16 Tryz.underlying22 hi HZ.out hz1 hz2 rfl (by decide) _ _ _ rfl HR2.out ⟨b17, 0, none⟩ 1 1 [.string X9] rfl rfl (World.news_of_block HC17.out) (by intro u hu9; simp at hu9; subst hu9; rfl) (by unfold maxLen; omega) (by omega) (by have := HB2.out.size; simp; omega) ?_; intro v' w4 hown' hgrow _; obtain ⟨g', cap', rfl⟩ := ownsRow_succ hown'; obtain ⟨hv1, hv2, hr2, hk2, hb3⟩ := boxed_app HV2.out (by decide) HR2.out HB2.out.size (by have := HO.out; omega) hown' hgrow; have hc1 := hv1.cell; have hf1 := hv1.frozen; have HQ1 := Lib.hid hv2; have HQ2 := Lib.hid hr2; have HQ3 := Lib.hid hk2; have HQ4 := Lib.hid hb3; have HQ5 := Lib.hid (kpo_app (o := fb + 1) (v' := .slice (some ⟨g', 0, none⟩) (len P9 + 1) cap') HR2.out hgrow); clear hv2 hr2 hk2 hb3 hown' hgrow)
    have HKO : Hid (KeepsOthers W w') := Lib.hid (KeepsOthers.of_grownBy (below_grown HWW.out) (fun j o h => by cases h))
    have HKP : Hid (KpO (fb + 1) W w') := Lib.hid ⟨HWW.out.size, fun b9 cs t fr _ _ hc9 => (HWW.out.block _ (lt_of_block hc9)).trans hc9⟩
    refine ⟨HKO.out.trans HQ3.out, HKP.out.trans HQ5.out, ⟨_, HQ1.out, ?_, trivial⟩, ?_, HB2.out.trans HQ4.out⟩
    · have e9 : len (P9 ++ [X9]) = len P9 + 1 := by rw [len_eq, List.length_append]; rfl
      rw [HSN.out, List.map_append, e9]
      exact HQ2.out
    · exact HQ5.out.same _ _ _ _ (by omega) (by decide) HO2.out
  case done =>
    rintro D ys W hD hys ⟨⟨v, hv, hrow, -⟩, hO, hB⟩ hK
    have hc := hv.cell
    rw [alL_all F ys hys, chL_len] at hrow
    have HR := Lib.hid (ownsRow_putObj hrow (.deferred none) hK rfl)
    have HB : Hid (Below w.heap.size w (W.putObj D (.deferred none))) := Lib.hid (hB.trans (belowK_b (w := w) (Nat.le_refl _) W D _ _ (Nat.le_trans ZB.out.size hD) hK rfl rfl))
    have HK := Lib.hid hK
    clear hO hB hrow hys
    gi_wp2
    refine ⟨by simp, .inl ⟨_, _, rfl, run_takeDeferred HK.out, ?_⟩⟩
    exact ⟨_, results_tmp rfl _ _ _, v, rfl, HR.out, HB.out⟩
  case stop =>
    intro D c pre W _ _ h _
    exact h.elim
end Go.Proofs.YtoafjbillcooiaaGreat
namespace Go.Proofs.YtoafjbillcooiaaGreat
open Go.RowKit
set_option linter.unusedSimpArgs false
set_option linter.unusedVariables false
theorem at_eg : ∀ args w, (callFunc 90 args).run Tryz.prog w = .ok (.enter 90 args) w := enters_of Tryz.func90 (by kernel_rfl) rfl
theorem alongK_any (d seed : ByteArray) (k : Nat) (F : Nat → ByteArray) (w : World) (hs : seed.size ≤ 1000) (hF : ∀ i, walkC i 0 (digD d i) (secretP seed k i) = F i) : Calls Tryz.prog 88 #[.string d, .func (.func 90) #[.agg #[.string seed, .string (num8S k)]] #[]] w (AlIs F w) :=
  along_any d _ _ _ F w at_eg (fun i hi w1 _ => by
    have h9 := at13_any seed k i (digD d i) w1 hs (by omega) (digD_le d i)
    rw [hF i] at h9
    exact h9)
set_option maxRecDepth 100000 in
set_option maxHeartbeats 4000000 in
theorem public_any (seed : ByteArray) (k : Nat) (w : World) (hk : k < 18446744073709551616) (hs : seed.size ≤ 1000) : Calls Tryz.prog 41 #[.string seed, .int .u64 (k : Nat)] w fun e w' => e = .returned (.string (publicP seed k)) ∧ Below w.heap.size w w' := by
  have HS := Lib.hid hs
  have HK := Lib.hid hk
  obtain ⟨F, hF⟩ : ∃ F : Nat → ByteArray, (fun i => walkC i 0 15 (secretP seed k i)) = F := ⟨_, rfl⟩
  have HF : Hid (∀ i, walkC i 0 (digD ⟨#[]⟩ i) (secretP seed k i) = F i) := Lib.hid (fun i => by rw [← hF]; rfl)
  have HFS : Hid (∀ i, (F i).size = 32) := Lib.hid (fun i => by rw [← hF]; exact walkC_size _ _ _ _ (secretP_size _ _ _))
  have HP : Hid (hashP publicT (chL F 67) = publicP seed k) := Lib.hid (by rw [← hF]; rfl)
  clear hs hk hF
  go_enter Tryz.func41, Tryz.ntmps41
  go_wp2_with fail
  refine (key13_any seed k w HK.out).mono ?_
  rintro e w1 ⟨rfl, hb⟩
  have HB1 := Lib.hid hb
  clear hb
  go_wp2_with fail
  refine (alongK_any ⟨#[]⟩ seed k F w1 HS.out HF.out).mono ?_
  rintro e w2 ⟨v, rfl, hrow, hb⟩
  obtain ⟨aa, ca, hv, hta, hca, -⟩ := TextsAre.own hrow
  rw [chL_len] at hv
  subst hv
  have HTA := Lib.hid hta
  have HB2 := Lib.hid (bnext HB1.out hb)
  clear hb hrow hta hca
  go_wp2_with fail
  have h9 := hash_any publicT (chL F 67) aa ca w2 (by decide) (by decide) HTA.out (chL_parts F HFS.out)
  rw [chL_len, HP.out] at h9
  refine h9.mono ?_
  rintro e w3 ⟨rfl, hb⟩
  have HB3 : Hid (Below w.heap.size w w3) := Lib.hid (bnext HB2.out hb)
  clear hb h9
  go_wp2
  go_ret
  exact ⟨rfl, HB3.out⟩
def TextsAt (B : Nat) (L : List ByteArray) (v : Value) (w : World) : Prop := ∃ a c, v = .slice a (len L) c ∧ (∀ i, i < len L → ∃ b off, a = some ⟨b, off, none⟩ ∧ B ≤ b ∧ w.cell? ⟨b, off + i, none⟩ = some (.string (tth L i))) ∧ len L ≤ c ∧ (a = none → c = 0)
theorem TextsAt.are {B : Nat} {L : List ByteArray} {v : Value} {w : World} (h : TextsAt B L v w) : TextsAre L v w := by
  obtain ⟨a, c, h1, h2, h3⟩ := h
  exact ⟨a, c, h1, fun i hi => by obtain ⟨b, off, h4, -, h6⟩ := h2 i hi; exact ⟨b, off, h4, h6⟩, h3⟩
theorem TextsAt.low {B C : Nat} {L : List ByteArray} {v : Value} {w : World} (h : TextsAt B L v w) (hc : C ≤ B) : TextsAt C L v w := by
  obtain ⟨a, c, h1, h2, h3⟩ := h
  exact ⟨a, c, h1, fun i hi => by obtain ⟨b, off, h4, h5, h6⟩ := h2 i hi; exact ⟨b, off, h4, Nat.le_trans hc h5, h6⟩, h3⟩
theorem TextsAt.below {B : Nat} {L : List ByteArray} {v : Value} {w w' : World} (h : TextsAt B L v w) (hb : Below w.heap.size w w') : TextsAt B L v w' := by
  obtain ⟨a, c, h1, h2, h3⟩ := h
  exact ⟨a, c, h1, fun i hi => by
    obtain ⟨b, off, h4, h5, h6⟩ := h2 i hi
    exact ⟨b, off, h4, h5, by rw [hb.cell (p := ⟨b, off + i, none⟩) (lt_of_cell h6)]; exact h6⟩, h3⟩
theorem TextsAt.own {w : World} {base n : Nat} {v : Value} {L : List ByteArray} (h : w.ownsRow base 9 1 v n (L.map Value.string)) : TextsAt base L v w := by
  obtain ⟨a, c, hv, h2, h3⟩ := TextsAre.own h
  refine ⟨a, c, hv, fun i hi => ?_, h3⟩
  obtain ⟨b, off, rfl, h4⟩ := h2 i hi
  refine ⟨b, off, rfl, ?_, h4⟩
  subst hv
  exact (h.lt b rfl).1
theorem TextsAt.nil (B : Nat) (w : World) : TextsAt B [] (.slice none 0 0) w := ⟨none, 0, rfl, fun i hi => absurd hi (Nat.not_lt_zero i), Nat.le_refl _, fun _ => rfl⟩
def SgAt (L : List ByteArray) (x : Int) (w : World) (e : Ending) (w' : World) : Prop := ∃ v, e = .returned (.tuple #[v, .int .i64 x]) ∧ TextsAt w.heap.size L v w' ∧ Below w.heap.size w w'
set_option maxRecDepth 100000 in
set_option maxHeartbeats 4000000 in
theorem sign13_at (seed : ByteArray) (k : Nat) (d : ByteArray) (w : World) (hk : k < 18446744073709551616) (hs : seed.size ≤ 1000) : Calls Tryz.prog 85 #[.string seed, .int .u64 (k : Nat), .string d] w (SgAt (sgL seed k d) (sgE d) w) := by
  have HS := Lib.hid hs
  have HK := Lib.hid hk
  by_cases h32 : d.size = 32
  · obtain ⟨F, hF⟩ : ∃ F : Nat → ByteArray, (fun i => walkC i 0 (digD d i) (secretP seed k i)) = F := ⟨_, rfl⟩
    have HF : Hid (∀ i, walkC i 0 (digD d i) (secretP seed k i) = F i) := Lib.hid (fun i => by rw [← hF])
    have HP : Hid (chL F 67 = sgL seed k d ∧ sgE d = 0) := Lib.hid ⟨by
      unfold sgL signP
      rw [if_pos h32, ← hF]
      simp only [digD_yes h32], if_pos h32⟩
    have i1 : ((d.size : Nat) : Int) = 32 := by omega
    clear hs hk hF h32
    go_enter Tryz.func85, Tryz.ntmps85
    go_wp2_with fail
    refine (key13_any seed k w HK.out).mono ?_
    rintro e w1 ⟨rfl, hb⟩
    have HB1 := Lib.hid hb
    clear hb i1
    go_wp2_with fail
    refine (alongK_any d seed k F w1 HS.out HF.out).mono ?_
    rintro e w2 ⟨v, rfl, hrow, hb⟩
    have HTA := Lib.hid ((TextsAt.own hrow).low HB1.out.size)
    have HB2 := Lib.hid (bnext HB1.out hb)
    clear hb hrow
    go_wp2
    go_ret2
    exact ⟨v, by rw [HP.out.2]; rfl, by rw [← HP.out.1]; exact HTA.out, HB2.out⟩
  · have i1 : ¬ ((d.size : Nat) : Int) = 32 := by omega
    have HP : Hid (sgL seed k d = [] ∧ sgE d = 2) := Lib.hid ⟨if_neg h32, if_neg h32⟩
    clear hs hk h32
    go_enter Tryz.func85, Tryz.ntmps85
    go_wp2
    go_ret2
    exact ⟨_, by rw [HP.out.2]; rfl, by rw [HP.out.1]; exact TextsAt.nil _ _, by (repeat (first | exact Below.refl _ _ | assumption | (refine bdrew ?_) | (refine bdrewN ?_ _) | (refine balloc ?_ _) | (refine bset ?_ (by first | omega | (simp; done) | (simp; omega)) _) | (refine bnext ?_ (by assumption))))⟩
theorem len32w_any (s : ByteArray) (w : World) : Calls Tryz.prog 121 #[.string s] w fun e w' => e = .returned (.bool (!decide ((s.size : Int) = 32))) ∧ w = w' := by
  go_enter Tryz.func121, Tryz.ntmps121
  go_wp2
  go_ret
  exact ⟨by first | rfl | simp, rfl⟩
set_option maxRecDepth 100000 in
set_option maxHeartbeats 4000000 in
theorem rec2_any (ws : List ByteArray) (b : Nat) (a : Option Addr) (c : Nat) (i q : Nat) (w : World) (hb : w.heap[b]? = some (.cells #[.slice a (len ws) c] 22 (0, 0))) (hw : Txts w a ws) (hi : i < 67) (hn : len ws = 67) (hz : (tth ws i).size = 32) (hq : q ≤ 15) : Calls Tryz.prog 122 #[.int .i64 (i : Nat), .int .i64 (q : Nat), .pointer (some ⟨b, 0, none⟩)] w fun e w' => e = .returned (.string (walkC i q (15 - q) (tth ws i))) ∧ Below w.heap.size w w' := by
  obtain ⟨sb, so, rfl, hc⟩ := hw i (by omega)
  rw [hn] at hb
  have c0 : w.cell? ⟨b, 0, none⟩ = some (.slice (some ⟨sb, so, none⟩) 67 c) := block_cell hb 0
  have bl : ¬ (67 : Int) ≤ (i : Int) := by omega
  obtain ⟨s, hs⟩ : ∃ s, tth ws i = s := ⟨_, rfl⟩
  rw [hs] at hc hz ⊢
  have HZ := Lib.hid hz
  have HI := Lib.hid hi
  have HQ := Lib.hid hq
  clear hb hw hn hz hs hi hq
  go_enter Tryz.func122, Tryz.ntmps122
  go_wp2_with fail
  have h9 := walk12_any i q (15 - q) s w (by have := HI.out; omega) (by have := HQ.out; omega) (by rw [HZ.out]; decide)
  rw [show q + (15 - q) = 15 by have := HQ.out; omega, show ((15 : Nat) : Int) = 15 from rfl] at h9
  refine h9.mono ?_
  rintro e w1 ⟨rfl, hb⟩
  have HB := Lib.hid hb
  clear hb h9
  go_wp2
  go_ret
  exact ⟨rfl, HB.out⟩
theorem wotsB_bad {ws : List ByteArray} (h : badB ws = true) : wotsB ws = false := by
  obtain ⟨s, hs, hz⟩ := of_decide_eq_true h
  cases e : wotsB ws with
  | false => rfl
  | true =>
    have h1 := (wotsB_at e)
    unfold wotsB at e
    rw [Bool.and_eq_true] at e
    exact absurd (of_decide_eq_true (List.all_eq_true.1 e.2 s hs)) hz
theorem wotsB_good {ws : List ByteArray} (h : len ws = 67) (hb : badB ws = false) : wotsB ws = true ∧ ∀ i, i < 67 → (tth ws i).size = 32 := by
  have h0 : ∀ s ∈ ws, s.size = 32 := fun s hs => by
    by_cases e : s.size = 32
    · exact e
    · exact absurd ⟨s, hs, e⟩ (of_decide_eq_false hb)
  refine ⟨by unfold wotsB; rw [Bool.and_eq_true]; exact ⟨decide_eq_true h, List.all_eq_true.2 fun s hs => decide_eq_true (h0 s hs)⟩, fun i hi => ?_⟩
  have hi2 : i < ws.length := by rw [← len_eq, h]; exact hi
  rw [tth_eq ws i hi2]
  exact h0 _ (List.getElem_mem hi2)
set_option maxRecDepth 100000 in
set_option maxHeartbeats 4000000 in
theorem recover_any (ws : List ByteArray) (a : Option Addr) (sc : Nat) (d : ByteArray) (w : World) (hw : Txts w a ws) (hn : len ws ≤ 1000000) : Calls Tryz.prog 74 #[.slice a (len ws) sc, .string d] w fun e w' => e = .returned (.tuple #[.string (recS ws d), .int .i64 (recE ws d)]) ∧ Below w.heap.size w w' := by
  have HW := Lib.hid hw
  have HN := Lib.hid hn
  clear hw
  by_cases h32 : d.size = 32
  · have HD := Lib.hid h32
    have i1 : ((d.size : Nat) : Int) = 32 := by omega
    by_cases h67 : len ws = 67
    · have HW67 := Lib.hid h67
      have HBA := Lib.hid (fun w9 (hx : Txts w9 a ws) => badF_any _ (enters_of Tryz.func121 (by kernel_rfl) rfl) len32w_any a sc ws w9 hx (by omega))
      rw [h67] at HBA ⊢
      clear h67 h32 hn
      go_enter Tryz.func74, Tryz.ntmps74
      go_wp2_with fail
      refine (HBA.out _ (HW.out.below (balloc (Below.refl _ _) _))).mono ?_
      rintro e w1 ⟨rfl, rfl⟩
      cases hbb : badB ws with
      | true =>
        have HX : Hid (recS ws d = ⟨#[]⟩ ∧ recE ws d = 10) := Lib.hid (by unfold recS recE; rw [wotsB_bad hbb, if_pos HD.out]; exact ⟨if_neg (fun h => by cases h.2), rfl⟩)
        clear hbb
        go_wp2
        go_ret2
        exact ⟨by rw [HX.out.1, HX.out.2]; rfl, by (repeat (first | exact Below.refl _ _ | assumption | (refine bdrew ?_) | (refine bdrewN ?_ _) | (refine balloc ?_ _) | (refine bset ?_ (by first | omega | (simp; done) | (simp; omega)) _) | (refine bnext ?_ (by assumption))))⟩
      | false =>
        have hg := wotsB_good HW67.out hbb
        have HX : Hid (recS ws d = recovP ws d ∧ recE ws d = 0) := Lib.hid (by unfold recS recE; rw [hg.1, if_pos HD.out]; exact ⟨if_pos ⟨HD.out, rfl⟩, rfl⟩)
        have HSZ := Lib.hid hg.2
        obtain ⟨F, hF⟩ : ∃ F : Nat → ByteArray, (fun i => walkC i (digN d i) (15 - digN d i) (tth ws i)) = F := ⟨_, rfl⟩
        have HFS : Hid (∀ i, i < 67 → (F i).size = 32) := Lib.hid (fun i hi => by rw [← hF]; exact walkC_size _ _ _ _ (hg.2 i hi))
        have HP : Hid (hashP publicT (chL F 67) = recovP ws d) := Lib.hid (by rw [← hF]; rfl)
        have HAL : Hid (∀ w2 b, w2.heap[b]? = some (.cells #[.slice a 67 sc] 22 (0, 0)) → Txts w2 a ws → Calls Tryz.prog 88 #[.string d, .func (.func 122) #[] #[.pointer (some ⟨b, 0, none⟩)]] w2 (AlIs F w2)) := Lib.hid (fun w2 b hb hx =>
          along_any d _ _ _ F w2 (enters_of Tryz.func122 (by kernel_rfl) rfl) (fun i hi w3 hb3 => by
            have h9 := rec2_any ws b a sc i (digD d i) w3 (by rw [HW67.out]; exact (hb3.block _ (lt_of_block hb)).trans hb) (hx.below hb3) hi HW67.out (HSZ.out i hi) (digD_le d i)
            rw [show walkC i (digD d i) (15 - digD d i) (tth ws i) = F i by rw [← hF, digD_yes HD.out]] at h9
            exact h9))
        clear hF hg hbb
        go_wp2_with fail
        refine (HAL.out _ _ (heap_alloc_new _ _) (HW.out.below (balloc (Below.refl _ _) _))).mono ?_
        rintro e w2 ⟨v, rfl, hrow, hb⟩
        obtain ⟨aa, ca, hv, hta, hca, -⟩ := TextsAre.own hrow
        rw [chL_len] at hv
        subst hv
        have HTA := Lib.hid hta
        have HB2 : Hid (Below w.heap.size w w2) := Lib.hid (bnext (balloc (Below.refl _ _) _) hb)
        clear hb hrow hta hca
        go_wp2_with fail
        have h9 := hash_any publicT (chL F 67) aa ca w2 (by decide) (by decide) HTA.out (chL_parts2 F HFS.out)
        rw [chL_len, HP.out] at h9
        refine h9.mono ?_
        rintro e w3 ⟨rfl, hb⟩
        have HB3 : Hid (Below w.heap.size w w3) := Lib.hid (bnext HB2.out hb)
        clear hb h9
        go_wp2
        go_ret2
        exact ⟨by rw [HX.out.1, HX.out.2]; rfl, HB3.out⟩
    · have i2 : ¬ ((len ws : Nat) : Int) = 67 := by omega
      have HX : Hid (recS ws d = ⟨#[]⟩ ∧ recE ws d = 10) := Lib.hid (by unfold recS recE; rw [wotsB_len h67, if_pos HD.out]; exact ⟨if_neg (fun h => by cases h.2), rfl⟩)
      go_enter Tryz.func74, Tryz.ntmps74
      go_wp2
      go_ret2
      exact ⟨by rw [HX.out.1, HX.out.2]; rfl, by (repeat (first | exact Below.refl _ _ | assumption | (refine bdrew ?_) | (refine bdrewN ?_ _) | (refine balloc ?_ _) | (refine bset ?_ (by first | omega | (simp; done) | (simp; omega)) _) | (refine bnext ?_ (by assumption))))⟩
  · have i1 : ¬ ((d.size : Nat) : Int) = 32 := by omega
    have HX : Hid (recS ws d = ⟨#[]⟩ ∧ recE ws d = 2) := Lib.hid (by unfold recS recE; rw [if_neg h32]; exact ⟨if_neg (fun h => h32 h.1), rfl⟩)
    go_enter Tryz.func74, Tryz.ntmps74
    go_wp2
    go_ret2
    exact ⟨by rw [HX.out.1, HX.out.2]; rfl, by (repeat (first | exact Below.refl _ _ | assumption | (refine bdrew ?_) | (refine bdrewN ?_ _) | (refine balloc ?_ _) | (refine bset ?_ (by first | omega | (simp; done) | (simp; omega)) _) | (refine bnext ?_ (by assumption))))⟩
end Go.Proofs.YtoafjbillcooiaaGreat
namespace Go.Proofs.YtoafjbillcooiaaGreat
open Go.RowKit
set_option linter.unusedSimpArgs false
set_option linter.unusedVariables false
set_option maxRecDepth 100000 in
set_option maxHeartbeats 4000000 in
theorem lfirst_any (n rb : Nat) (F : Nat → FuncId) (C : Nat → Array Value) (I : Nat → World → Prop) (Q : Int → World → Prop) (w : World)
    (hn : n ≤ 100)
    (eg : ∀ k args w, (callFunc (F k) args).run Tryz.prog w = .ok (.enter (F k) args) w)
    (hI : ∀ k w1 w2, I k w1 → Below w1.heap.size w1 w2 → I k w2)
    (hc : ∀ k, k < n → ∀ w1, I k w1 → w1.cell? ⟨rb, k, none⟩ = some (.func (.func (F k)) #[] (C k)))
    (h0 : I 0 w)
    (hs : ∀ k, k < n → ∀ w1, w.heap.size ≤ w1.heap.size → I k w1 → Calls Tryz.prog (F k) (C k) w1 fun e w2 => ∃ x, e = .returned (.int .i64 x) ∧ (x = 0 → I (k + 1) w2) ∧ (x ≠ 0 → Q x w2) ∧ w.heap.size ≤ w2.heap.size)
    (hq : ∀ w1, I n w1 → Q 0 w1) :
    Calls Tryz.prog 78 #[.slice (some ⟨rb, 0, none⟩) n n] w fun e w' => ∃ x, e = .returned (.int .i64 x) ∧ Q x w' := by
  have HI := Lib.hid hI
  have HC := Lib.hid hc
  have H0 := Lib.hid h0
  have HS := Lib.hid hs
  have HQ := Lib.hid hq
  have HN := Lib.hid hn
  have EG := Lib.hid eg
  clear hI hc h0 hs hq hn eg
  go_enter Tryz.func78, Tryz.ntmps78
  go_wp2
  go_loopg [8] n (fun gg i wr => ∃ m : Nat, gg + m = n ∧ i = .int .i64 (m : Nat) ∧ Hid (I m wr) ∧ Hid (w.heap.size ≤ wr.heap.size))
  case atStart => exact ⟨0, rfl, rfl, H0, Lib.hid (Nat.le_refl _)⟩
  case round =>
    obtain ⟨m, hm, rfl, HM, HW⟩ := hrel
    by_cases hlt : m < n
    · have b0 : (m : Int) < n := by omega
      have c0 := HC.out m hlt wr HM.out
      have HLT := Lib.hid hlt
      have HNN := HN.out
      have egm := EG.out m
      go_wp2_with fail
      refine (HS.out m HLT.out wr HW.out HM.out).mono ?_
      rintro e w1 ⟨x, rfl, hy, hn, hk⟩
      have HK1 : Hid (w.heap.size ≤ w1.heap.size) := Lib.hid hk
      clear hk egm c0
      by_cases hx : x = 0
      · have HI1 := Lib.hid (hy hx)
        subst hx
        clear hy hn
        go_wp2
        go_roundg (gk - 1)
        case rel => exact ⟨m + 1, by have := HLT.out; omega, by have := HLT.out; go_num, HI1, HK1⟩
        case measure => have := HLT.out; omega
      · have HQ1 := Lib.hid (hn hx)
        clear hy hn
        go_wp2
        go_ret
        exact ⟨_, rfl, HQ1.out⟩
    · obtain rfl : m = n := by omega
      have b0 : ¬ ((m : Nat) : Int) < (m : Nat) := by omega
      go_wp2
      go_ret
      exact ⟨0, rfl, HQ.out _ HM.out⟩
end Go.Proofs.YtoafjbillcooiaaGreat
namespace Go.Proofs.YtoafjbillcooiaaGreat
open Go.RowKit
set_option linter.unusedSimpArgs false
set_option linter.unusedVariables false
theorem txts1 {w : World} {b : Nat} {x : ByteArray} {T : TypeId} {fr : Nat × Nat} (h : w.heap[b]? = some (.cells #[.string x] T fr)) : Txts w (some ⟨b, 0, none⟩) [x] := fun i hi => ⟨b, 0, rfl, by
  have hi : i < 1 := hi
  obtain rfl : i = 0 := by omega
  exact block_cell h 0⟩
theorem all32_one (s : ByteArray) : all32 [s] = decide (s.size = 32) := by unfold all32; simp
structure NwB (seed : ByteArray) (f L : Nat) (K : Int) (b0 b1 b2 b3 : Nat) (w : World) : Prop where
  s : w.heap[b0]? = some (.cells #[.string seed] 9 (0, 0))
  f : w.heap[b1]? = some (.cells #[.int .u64 (f : Nat)] 37 (0, 0))
  l : w.heap[b2]? = some (.cells #[.int .u64 (L : Nat)] 37 (0, 0))
  k : w.heap[b3]? = some (.cells #[.int .i64 K] 3 (0, 0))
theorem NwB.below {seed : ByteArray} {f L : Nat} {K : Int} {b0 b1 b2 b3 : Nat} {w w' : World} (h : NwB seed f L K b0 b1 b2 b3 w) (hb : Below w.heap.size w w') : NwB seed f L K b0 b1 b2 b3 w' :=
  ⟨(hb.block _ (lt_of_block h.s)).trans h.s, (hb.block _ (lt_of_block h.f)).trans h.f, (hb.block _ (lt_of_block h.l)).trans h.l, (hb.block _ (lt_of_block h.k)).trans h.k⟩
set_option maxRecDepth 100000 in
set_option maxHeartbeats 4000000 in
theorem new1_any (seed : ByteArray) (f L : Nat) (K : Int) (b0 b1 b2 b3 : Nat) (w : World) (h : NwB seed f L K b0 b1 b2 b3 w) : Calls Tryz.prog 82 #[.pointer (some ⟨b0, 0, none⟩), .pointer (some ⟨b2, 0, none⟩), .pointer (some ⟨b3, 0, none⟩)] w fun e w' => e = .returned (.int .i64 (if mayL seed.size L K = true then 0 else 2)) ∧ Below w.heap.size w w' := by
  have H := Lib.hid h
  have c0 : w.cell? ⟨b0, 0, none⟩ = some (.string seed) := block_cell h.s 0
  clear h
  obtain ⟨R, hR⟩ : ∃ R : Int, (if mayL seed.size L K = true then 0 else 2) = R := ⟨_, rfl⟩
  have HM : Hid (R = if (all32 [seed] && decide (0 < L) && decide (1 ≤ K) && decide (K ≤ 64)) = true then 0 else 2) := Lib.hid (by rw [all32_one]; exact hR.symm)
  rw [hR]
  clear hR
  go_enter Tryz.func82, Tryz.ntmps82
  go_wp2_with fail
  refine (digests_any [seed] (some ⟨w.heap.size, 0, none⟩) 1 _ (txts1 (heap_alloc_new _ _)) (show 1 ≤ 1000000 by decide)).mono ?_
  rintro e w1 ⟨rfl, hb⟩
  have HB : Hid (Below w.heap.size w w1) := Lib.hid (bnext (balloc (Below.refl _ _) _) hb)
  have H1 := H.out.below HB.out
  have c1 : w1.cell? ⟨b2, 0, none⟩ = some (.int .u64 (L : Nat)) := block_cell H1.l 0
  have c2 : w1.cell? ⟨b3, 0, none⟩ = some (.int .i64 K) := block_cell H1.k 0
  clear hb c0 H1
  obtain ⟨x1, e1⟩ : ∃ b, all32 [seed] = b := ⟨_, rfl⟩
  obtain ⟨x2, e2⟩ : ∃ b, decide (0 < L) = b := ⟨_, rfl⟩
  obtain ⟨x3, e3⟩ : ∃ b, decide (1 ≤ K) = b := ⟨_, rfl⟩
  obtain ⟨x4, e4⟩ : ∃ b, decide (K ≤ 64) = b := ⟨_, rfl⟩
  rw [e1, e2, e3, e4] at HM
  rw [e1]
  clear e1
  cases x1 <;> cases x2 <;> cases x3 <;> cases x4
  all_goals
    go_wp2_with fail
    refine (unless_any _ 2 w1).mono ?_
    rintro e w2 ⟨rfl, hb⟩
    have HB2 := Lib.hid (bnext HB.out hb)
    clear hb c1 c2
    go_wp2
    go_ret
    exact ⟨by rw [HM.out]; rfl, HB2.out⟩
set_option maxRecDepth 100000 in
set_option maxHeartbeats 4000000 in
theorem new2_any (seed : ByteArray) (f L K : Nat) (b0 b1 b2 b3 : Nat) (w : World) (h : NwB seed f L (K : Nat) b0 b1 b2 b3 w) (hf : f < 18446744073709551616) (hK0 : 0 < K) (hK : K ≤ 64) : Calls Tryz.prog 83 #[.pointer (some ⟨b2, 0, none⟩), .pointer (some ⟨b1, 0, none⟩), .pointer (some ⟨b3, 0, none⟩)] w fun e w' => e = .returned (.int .i64 (if fitsL f L K = true then 0 else 21)) ∧ Below w.heap.size w w' := by
  have c0 : w.cell? ⟨b2, 0, none⟩ = some (.int .u64 (L : Nat)) := block_cell h.l 0
  have c1 : w.cell? ⟨b1, 0, none⟩ = some (.int .u64 (f : Nat)) := block_cell h.f 0
  have c2 : w.cell? ⟨b3, 0, none⟩ = some (.int .i64 (K : Nat)) := block_cell h.k 0
  obtain ⟨x, hx0⟩ : ∃ x, fitsL f L K = x := ⟨_, rfl⟩
  rw [hx0]
  unfold fitsL at hx0
  obtain ⟨d, hd⟩ : ∃ d, 18446744073709551615 - f = d := ⟨_, rfl⟩
  obtain ⟨q, hq⟩ : ∃ q, d / K = q := ⟨_, rfl⟩
  rw [hd, hq] at hx0
  have hx : decide (L ≤ q) = x := hx0
  have k1 : IntKind.u64.wrap (18446744073709551615 - ((f : Nat) : Int)) = (d : Int) := by rw [IntWalk.u64_in _ (by omega)]; omega
  have k2 : IntKind.u64.wrap ((K : Nat) : Int) = (K : Int) := IntWalk.u64_in _ (by omega)
  have k3 : Int.tdiv ((d : Nat) : Int) ((K : Nat) : Int) = (q : Int) := by rw [← hq]; exact (Int.ofNat_tdiv d K).symm
  have k4 : ((d : Nat) : Int) / ((K : Nat) : Int) = (q : Int) := by rw [← hq]; exact (Int.natCast_ediv d K).symm
  have hqd : q ≤ d := by rw [← hq]; exact Nat.div_le_self _ _
  have k5 : IntKind.u64.wrap ((q : Nat) : Int) = (q : Int) := IntWalk.u64_in _ (by omega)
  have k6 : K ≠ 0 := by omega
  obtain ⟨R, hR⟩ : ∃ R : Int, (if x = true then 0 else 21) = R := ⟨_, rfl⟩
  rw [hR]
  have HU : Hid (∀ wv : World, Calls Tryz.prog 69 #[.bool x, .int .i64 21] wv fun e w' => e = .returned (.int .i64 R) ∧ Below wv.heap.size wv w') := Lib.hid (fun wv => by
    have h9 := unless_any x 21 wv
    rw [hR] at h9
    exact h9)
  clear h hx0 hd hq hqd hR
  go_enter Tryz.func83, Tryz.ntmps83
  go_upto_region 1 with fail
  refine wp_region_all 1000 (none) (phis (List.map qv [.int .u64 (L : Nat), .int .u64 (f : Nat), .int .u64 (d : Nat), .int .i64 (K : Nat), .int .u64 (K : Nat), .int .u64 (q : Nat), .bool x, .int .i64 R, .int .i64 R])) rfl (by kernel_rfl) (mono_of mono_qv) (steps_of 9 ⟨?s0, ?s1, ?s2, ?s3, ?s4, ?s5, ?s6, ?s7, ?s8, trivial⟩) ?_
  case s0 =>
    refine qV (fun _ => rfl) rfl fun av wv hE hO hD => ?_
    simp [go_sem, qF av 0 (.pointer (some ⟨b2, 0, none⟩)) (hO.2.2 0 rfl), extB_cell hE (by simp) c0, extB_cell hE (by simp) c1, extB_cell hE (by simp) c2, k1, k2, k3, k4, k5, k6, hx]
  case s1 =>
    refine qV (fun _ => rfl) rfl fun av wv hE hO hD => ?_
    simp [go_sem, qF av 1 (.pointer (some ⟨b1, 0, none⟩)) (hO.2.2 1 rfl), extB_cell hE (by simp) c0, extB_cell hE (by simp) c1, extB_cell hE (by simp) c2, k1, k2, k3, k4, k5, k6, hx]
  case s2 =>
    refine qV (fun _ => rfl) rfl fun av wv hE hO hD => ?_
    simp [go_sem, qE (hD.1 rfl _ rfl), k1, k2, k3, k4, k5, k6, hx]
  case s3 =>
    refine qV (fun _ => rfl) rfl fun av wv hE hO hD => ?_
    simp [go_sem, qF av 2 (.pointer (some ⟨b3, 0, none⟩)) (hO.2.2 2 rfl), extB_cell hE (by simp) c0, extB_cell hE (by simp) c1, extB_cell hE (by simp) c2, k1, k2, k3, k4, k5, k6, hx]
  case s4 =>
    refine qV (fun _ => rfl) rfl fun av wv hE hO hD => ?_
    simp [go_sem, qE (hD.1 rfl _ rfl), k1, k2, k3, k4, k5, k6, hx]
  case s5 =>
    refine qV (fun _ => rfl) rfl fun av wv hE hO hD => ?_
    simp [go_sem, qE (hD.1 rfl _ rfl), qE (hD.2.1 rfl _ rfl), k1, k2, k3, k4, k5, k6, hx]
  case s6 =>
    refine qV (fun _ => rfl) rfl fun av wv hE hO hD => ?_
    simp [go_sem, qE (hD.1 rfl _ rfl), qE (hD.2.1 rfl _ rfl), k1, k2, k3, k4, k5, k6, hx]
  case s7 =>
    refine step_wp (fun av wv hE hS hO hD => ⟨rfl, ?_⟩)
    have f10 := qE (hD.1 rfl _ rfl)
    refine wp_of_call (v := .int .i64 R) (by simp [go_sem, f10]) (HU.out wv) (fun w2 hb => ⟨_, rfl, es_of_ext hb, rfl⟩)
  case s8 =>
    refine qV (fun _ => rfl) rfl fun av wv hE hO hD => ?_
    simp [go_sem, qE (hD.1 rfl _ rfl), k1, k2, k3, k4, k5, k6, hx]
  intro a' w' hE hO hall
  have hA := act_of_outer (ds := [4, 5, 6, 7, 8, 9, 10, 11, 3]) rfl hO (by kernel_rfl)
  obtain ⟨j0, j1, j2, j3, j4, j5, j6, j7, j8, -⟩ := hall
  simp only [List.foldl_cons, List.foldl_nil, Act.put, List.setIfInBounds_toArray, List.set_cons_succ, List.set_cons_zero, qJ 4 (j0 _ rfl), qJ 5 (j1 _ rfl), qJ 6 (j2 _ rfl), qJ 7 (j3 _ rfl), qJ 8 (j4 _ rfl), qJ 9 (j5 _ rfl), qJ 10 (j6 _ rfl), qJ 11 (j7 _ rfl), qJ 3 (j8 _ rfl)] at hA
  clear hO j0 j1 j2 j3 j4 j5 j6 j7 j8
  subst hA
  have HBE := Lib.hid (of_drew hE)
  clear hE
  go_wp2
  go_ret
  exact ⟨rfl, HBE.out⟩
end Go.Proofs.YtoafjbillcooiaaGreat
namespace Go.Proofs.YtoafjbillcooiaaGreat
open Go.RowKit
set_option linter.unusedSimpArgs false
set_option linter.unusedVariables false
def ne9 (x : Int) : Prop := x ≠ 0
def NewIs (seed : ByteArray) (f L : Nat) (K : Int) (w : World) (e : Ending) (w' : World) : Prop :=
  (ne9 (newE seed.size f L K) ∧ e = .returned (.tuple #[.pointer none, .int .i64 (newE seed.size f L K)]) ∨ newE seed.size f L K = 0 ∧ ∃ b tb, e = .returned (.tuple #[.pointer (some ⟨b, 0, none⟩), .int .i64 0]) ∧ LadAt seed f L K.toNat b tb w' ∧ w.heap.size ≤ b) ∧ Below w.heap.size w w'
structure NwQ (seed : ByteArray) (f L : Nat) (K : Int) (b0 : Nat) (w0 : World) (k : Nat) (w : World) : Prop where
  b : NwB seed f L K b0 (b0 + 1) (b0 + 2) (b0 + 3) w
  r : w.heap[b0 + 4]? = some (.cells #[.func (.func 82) #[] #[.pointer (some ⟨b0, 0, none⟩), .pointer (some ⟨b0 + 2, 0, none⟩), .pointer (some ⟨b0 + 3, 0, none⟩)], .func (.func 83) #[] #[.pointer (some ⟨b0 + 2, 0, none⟩), .pointer (some ⟨b0 + 1, 0, none⟩), .pointer (some ⟨b0 + 3, 0, none⟩)]] 120 (0, 0))
  w : Below w0.heap.size w0 w
  m : 1 ≤ k → mayL seed.size L K = true
  e : 2 ≤ k → newE seed.size f L K = 0
theorem NwQ.below {seed : ByteArray} {f L : Nat} {K : Int} {b0 : Nat} {w0 : World} {k : Nat} {w w' : World} (h : NwQ seed f L K b0 w0 k w) (hb : Below w.heap.size w w') : NwQ seed f L K b0 w0 k w' :=
  ⟨h.b.below hb, (hb.block _ (lt_of_block h.r)).trans h.r, bnext h.w hb, h.m, h.e⟩
def nwF (k : Nat) : FuncId := if k = 0 then 82 else 83
def nwC (b0 k : Nat) : Array Value := if k = 0 then #[.pointer (some ⟨b0, 0, none⟩), .pointer (some ⟨b0 + 2, 0, none⟩), .pointer (some ⟨b0 + 3, 0, none⟩)] else #[.pointer (some ⟨b0 + 2, 0, none⟩), .pointer (some ⟨b0 + 1, 0, none⟩), .pointer (some ⟨b0 + 3, 0, none⟩)]
theorem mayL_K {z L : Nat} {K : Int} (h : mayL z L K = true) : 1 ≤ K ∧ K ≤ 64 ∧ 0 < L ∧ z = 32 := by
  unfold mayL at h
  simp only [Bool.and_eq_true, decide_eq_true_eq] at h
  exact ⟨h.1.2, h.2, h.1.1.2, h.1.1.1⟩
theorem newfirst_any (seed : ByteArray) (f L : Nat) (K : Int) (b0 : Nat) (w0 w : World) (h : NwQ seed f L K b0 w0 0 w) (hf : f < 18446744073709551616) :
    Calls Tryz.prog 78 #[.slice (some ⟨b0 + 4, 0, none⟩) 2 2] w fun e w' => ∃ x, e = .returned (.int .i64 x) ∧ (x = newE seed.size f L K ∧ Below w0.heap.size w0 w' ∧ (x = 0 → NwQ seed f L K b0 w0 2 w')) :=
  lfirst_any 2 (b0 + 4) nwF (nwC b0) (NwQ seed f L K b0 w0) (fun x w' => x = newE seed.size f L K ∧ Below w0.heap.size w0 w' ∧ (x = 0 → NwQ seed f L K b0 w0 2 w')) w (by decide)
    (fun k => by
      unfold nwF
      split
      · exact enters_of Tryz.func82 (by kernel_rfl) rfl
      · exact enters_of Tryz.func83 (by kernel_rfl) rfl)
    (fun k w1 w2 h hb => h.below hb)
    (fun k hk w1 h => by
      rcases (by omega : k = 0 ∨ k = 1) with rfl | rfl
      · exact block_cell h.r 0
      · exact block_cell h.r 1)
    h
    (fun k hk w1 hw h => by
      rcases (by omega : k = 0 ∨ k = 1) with rfl | rfl
      · refine (new1_any seed f L K b0 (b0 + 1) (b0 + 2) (b0 + 3) w1 h.b).mono ?_
        rintro e w2 ⟨rfl, hb⟩
        refine ⟨_, rfl, fun hx => ?_, fun hx => ⟨?_, bnext h.w hb, fun hz => absurd hz hx⟩, Nat.le_trans hw hb.size⟩
        · have hm : mayL seed.size L K = true := by
            cases e : mayL seed.size L K with
            | true => rfl
            | false => rw [e] at hx; cases hx
          have h2 := h.below hb
          exact ⟨h2.b, h2.r, h2.w, fun _ => hm, fun h9 => by omega⟩
        · unfold newE
          cases e : mayL seed.size L K with
          | true => rw [e] at hx; exact absurd rfl hx
          | false => rfl
      · have hm := h.m (Nat.le_refl _)
        have hk1 := mayL_K hm
        obtain ⟨k9, rfl⟩ : ∃ k9 : Nat, K = (k9 : Int) := ⟨K.toNat, by omega⟩
        refine (new2_any seed f L k9 b0 (b0 + 1) (b0 + 2) (b0 + 3) w1 h.b hf (by omega) (by omega)).mono ?_
        rintro e w2 ⟨rfl, hb⟩
        have hn : newE seed.size f L (k9 : Int) = if fitsL f L k9 = true then 0 else 21 := by
          unfold newE
          rw [if_pos hm]
          rfl
        refine ⟨_, rfl, fun hx => ?_, fun hx => ⟨hn.symm, bnext h.w hb, fun hz => absurd hz hx⟩, Nat.le_trans hw hb.size⟩
        have h2 := h.below hb
        exact ⟨h2.b, h2.r, h2.w, fun _ => hm, fun _ => by rw [hn]; exact hx⟩)
    (fun w1 h => ⟨(h.e (Nat.le_refl _)).symm, h.w, fun _ => h⟩)
set_option maxRecDepth 100000 in
set_option maxHeartbeats 4000000 in
theorem new14_any (seed : ByteArray) (f L : Nat) (K : Int) (w : World) (hf : f < 18446744073709551616) : Calls Tryz.prog 30 #[.string seed, .int .u64 (f : Nat), .int .u64 (L : Nat), .int .i64 K] w (NewIs seed f L K w) := by
  have HF := Lib.hid hf
  obtain ⟨i0, hi, hz0, hz1, hz2⟩ := info_parts info_str
  have HZ := Lib.hid hz0
  clear hf hz0
  go_enter Tryz.func30, Tryz.ntmps30
  go_upto_region 3 with fail
  obtain ⟨b0, hb0⟩ : ∃ b0, w.heap.size = b0 := ⟨_, rfl⟩
  obtain ⟨V, hV⟩ : ∃ V, ((((w.alloc (.cells #[.string seed] 9)).alloc (.cells #[.int .u64 (f : Nat)] 37)).alloc (.cells #[.int .u64 (L : Nat)] 37)).alloc (.cells #[.int .i64 K] 3)) = V := ⟨_, rfl⟩
  have HVS : Hid (V.heap.size = b0 + 4) := Lib.hid (by rw [← hV, ← hb0]; simp)
  have HNB : Hid (NwB seed f L K b0 (b0 + 1) (b0 + 2) (b0 + 3) V) := Lib.hid (by
    rw [← hV]
    exact ⟨block_alloc (block_alloc (block_alloc (alloc_new_at _ hb0) _) _) _, block_alloc (block_alloc (alloc_new_at _ (by simp; omega)) _) _, block_alloc (alloc_new_at _ (by simp; omega)) _, alloc_new_at _ (by simp; omega)⟩)
  have HVW : Hid (Below w.heap.size w V) := Lib.hid (by rw [← hV]; exact balloc (balloc (balloc (balloc (Below.refl _ _) _) _) _) _)
  have HB0 : Hid (w.heap.size ≤ b0) := Lib.hid (Nat.le_of_eq hb0)
  have h04 : w.heap.size + 1 + 1 + 1 = b0 + 3 := by omega
  have h03 : w.heap.size + 1 + 1 = b0 + 2 := by omega
  have h02 : w.heap.size + 1 = b0 + 1 := by omega
  rw [hV, h04, h03, h02, hb0]
  clear hV hb0 h04 h03 h02
  go_wp2_with fail
  rw [HVS.out]
  refine (newfirst_any seed f L K b0 w _ ⟨⟨block_alloc HNB.out.s _, block_alloc HNB.out.f _, block_alloc HNB.out.l _, block_alloc HNB.out.k _⟩, alloc_new_at _ HVS.out, balloc HVW.out _, fun h => by omega, fun h => by omega⟩ HF.out).mono ?_
  rintro e w1 ⟨x, rfl, hx, hb, hq⟩
  have HX := Lib.hid hx
  have HB1 := Lib.hid hb
  by_cases h0 : x = 0
  · have HQ := Lib.hid (hq h0)
    subst h0
    have hm := mayL_K (HQ.out.m (by decide))
    obtain ⟨k, rfl⟩ : ∃ k9 : Nat, K = (k9 : Int) := ⟨K.toNat, by omega⟩
    have HK64 : Hid (1 ≤ k ∧ k ≤ 64) := Lib.hid (by omega)
    have HSD : Hid (seed.size ≤ 1000) := Lib.hid (by omega)
    have HL0 : Hid (0 < L) := Lib.hid hm.2.2.1
    have k2 : IntKind.u64.wrap ((k : Nat) : Int) = (k : Int) := IntWalk.u64_in _ (by omega)
    have c3 : w1.cell? ⟨b0 + 3, 0, none⟩ = some (.int .i64 (k : Nat)) := block_cell HQ.out.b.k 0
    clear hx hb hq hm
    go_wp2
    clear c3 k2
    go_loopg [28, 13] k (fun gg i v wr => ∃ m : Nat, gg + m = k ∧ i = .int .u64 (m : Nat) ∧ Hid (Below w1.heap.size w1 wr) ∧ Hid (wr.ownsRow w1.heap.size 9 1 v m ((rungL seed m).map Value.string)))
    case atStart => exact ⟨0, by omega, rfl, Lib.hid (Below.refl _ _), Lib.hid (World.ownsRow_nil _ _ _ _)⟩
    case round =>
      obtain ⟨m, hm, rfl, HW, HO⟩ := hrel
      by_cases hlt : m < k
      · have b0x : (m : Int) < (k : Int) := by omega
        have cS : wr.cell? ⟨b0, 0, none⟩ = some (.string seed) := block_cell (HQ.out.below HW.out).b.s 0
        have HM := Lib.hid hm
        have HLT := Lib.hid hlt
        clear hm hlt
        go_wp2_with fail
        refine (public_any seed m wr (by have := HLT.out; have := HK64.out; omega) HSD.out).mono ?_
        rintro e w2 ⟨rfl, hb⟩
        have HW2 := Lib.hid (bnext HW.out hb)
        have HO2 := Lib.hid (own_below HO.out hb)
        clear hb cS
        go_wp2_with fail
        refine (rung_any m (publicP seed m) w2 (by have := HLT.out; have := HK64.out; omega) (by rw [publicP_size]; decide)).mono ?_
        rintro e w3 ⟨rfl, hb⟩
        have HW3 := Lib.hid (bnext HW2.out hb)
        have HO3 := Lib.hid (own_below HO2.out hb)
        clear hb
        obtain ⟨y, hy⟩ : ∃ y, num8S m ++ publicP seed m = y := ⟨_, rfl⟩
        have HY : Hid (rungP seed m = y) := Lib.hid (by rw [← hy]; rfl)
        rw [hy]
        clear hy
        go_wp2_with (at_builtin; refine wpList_append_own _ rfl _ _ 22 rfl w1.heap.size 9 i0 (.string ⟨#[]⟩) 1 16 Tryz.underlying22 hi HZ.out hz1 hz2 rfl (by decide) _ _ _ rfl (HO3.out.alloc _) ⟨w3.heap.size, 0, none⟩ 1 1 [.string y] rfl rfl ?c1 ?c2 ?c3 ?c4 ?c5 ?_)
        case c1 => exact World.news_of_block (alloc_new_at _ rfl)
        case c2 => intro u hu; simp at hu; subst hu; rfl
        case c3 => unfold maxLen; have := HLT.out; have := HK64.out; omega
        case c4 => have := HLT.out; have := HK64.out; omega
        case c5 => have := HW3.out.size; simp; omega
        intro v' w4 hown' hgrow _
        have HW4 : Hid (Below w1.heap.size w1 w4) := Lib.hid (grownBy_below (balloc HW3.out _) hgrow (fun k9 hk' => (HO3.out.lt k9 hk').1))
        have HO4 : Hid (w4.ownsRow w1.heap.size 9 1 v' (m + 1) ((rungL seed (m + 1)).map Value.string)) := Lib.hid (by
          unfold rungL
          rw [chL_snoc, List.map_append, HY.out]
          exact hown')
        have k3 : IntKind.u64.wrap (((m : Nat) : Int) + 1) = (m : Int) + 1 := IntWalk.u64_in _ (by have := HLT.out; have := HK64.out; omega)
        clear hown' hgrow
        go_wp2
        go_roundg (gk - 1)
        case rel => exact ⟨m + 1, by have := HM.out; have := HLT.out; omega, by have := HLT.out; go_num, HW4, HO4⟩
        case measure => have := HM.out; have := HLT.out; omega
      · obtain rfl : m = k := by omega
        have b0x : ¬ ((m : Nat) : Int) < (m : Int) := by omega
        obtain ⟨aa, ca, hv, hta, hca, -⟩ := TextsAre.own HO.out
        have hbl := build_any (rungL seed m) aa ca wr hta (by rw [rungL_len]; have := HK64.out; omega) (fun i hi => by rw [rungL_len] at hi; rw [rungL_at _ _ _ hi, rungP_size]; decide)
        rw [rungL_len] at hbl hv
        have HBL := Lib.hid hbl
        subst hv
        clear hta hca hbl hm hlt
        go_wp2_with fail
        refine HBL.out.mono ?_
        rintro e w4 ⟨tb, rfl, htb, htr, hb⟩
        have HW4 := Lib.hid (bnext HW.out hb)
        have HTR := Lib.hid htr
        have HQ4 := HQ.out.below HW4.out
        have c0 : w4.cell? ⟨b0, 0, none⟩ = some (.string seed) := block_cell HQ4.b.s 0
        have c1 : w4.cell? ⟨b0 + 1, 0, none⟩ = some (.int .u64 (f : Nat)) := block_cell HQ4.b.f 0
        have c2 : w4.cell? ⟨b0 + 2, 0, none⟩ = some (.int .u64 (L : Nat)) := block_cell HQ4.b.l 0
        have c3 : w4.cell? ⟨b0 + 3, 0, none⟩ = some (.int .i64 (m : Nat)) := block_cell HQ4.b.k 0
        have k2 : IntKind.u64.wrap ((m : Nat) : Int) = (m : Int) := IntWalk.u64_in _ (by have := HK64.out; omega)
        clear hb htr htb HQ4
        go_wp2
        go_ret2
        exact ⟨Or.inr ⟨HX.out.symm, w4.heap.size, tb, rfl, ⟨heap_alloc_new _ _, HTR.out.below (balloc (Below.refl _ _) _)⟩, Nat.le_trans HB1.out.size HW4.out.size⟩, balloc (HB1.out.trans (HW4.out.mono HB1.out.size)) _⟩
  · have hx2 : ¬ (x : Int) = 0 := h0
    have HN : Hid (ne9 (newE seed.size f L K) ∧ newE seed.size f L K = x) := Lib.hid ⟨by rw [← hx]; exact h0, hx.symm⟩
    clear hx hb hq h0
    go_wp2
    go_ret2
    exact ⟨Or.inl ⟨HN.out.1, by rw [HN.out.2]; rfl⟩, HB1.out⟩
end Go.Proofs.YtoafjbillcooiaaGreat
namespace Go.Proofs.YtoafjbillcooiaaGreat
open Go.RowKit
set_option linter.unusedSimpArgs false
set_option linter.unusedVariables false
def SigB (sb : Nat) (k : Nat) (v p : Value) (w : World) : Prop := w.heap[sb]? = some (.cells #[.int .u64 (k : Nat), v, p] 54 (0, 0))
theorem grownBy_setO (W : World) (b o : Nat) (v : Value) : W.grownBy (W.setCell ⟨b, o, none⟩ v) (some b) :=
  ⟨rfl, rfl, rfl, by simp [World.setCell], fun k _ hk => Below.heap_setCell _ _ _ k (fun e => hk (by rw [e]))⟩
theorem TextsAt.lit {B : Nat} {L : List ByteArray} {v : Value} {w : World} (h : TextsAt B L v w) : ∃ a c, v = .slice a (len L) c ∧ TextsAt B L (.slice a (len L) c) w := by
  obtain ⟨a, c, rfl, h2⟩ := h
  exact ⟨a, c, rfl, a, c, rfl, h2⟩
theorem TextsAt.keep {sb : Nat} {L : List ByteArray} {v : Value} {w w' : World} (h : TextsAt (sb + 1) L v w) (hb : ExtB (some sb) w w') : TextsAt (sb + 1) L v w' := by
  obtain ⟨a, c, h1, h2, h3⟩ := h
  refine ⟨a, c, h1, fun i hi => ?_, h3⟩
  obtain ⟨b, off, h4, h5, h6⟩ := h2 i hi
  refine ⟨b, off, h4, h5, ?_⟩
  rw [World.cell?_of_block (w := w) (a := ⟨b, off + i, none⟩) (hb.block b (lt_of_cell h6) (fun e => by have : b = sb := Option.some.inj e; omega))]
  exact h6
theorem TextsAt.set {sb o : Nat} {L : List ByteArray} {v : Value} {w : World} (h : TextsAt (sb + 1) L v w) (x : Value) : TextsAt (sb + 1) L v (w.setCell ⟨sb, o, none⟩ x) := by
  obtain ⟨a, c, h1, h2, h3⟩ := h
  refine ⟨a, c, h1, fun i hi => ?_, h3⟩
  obtain ⟨b, off, h4, h5, h6⟩ := h2 i hi
  refine ⟨b, off, h4, h5, ?_⟩
  rw [World.cell?_of_block (w := w) (a := ⟨b, off + i, none⟩) (Below.heap_setCell _ _ _ _ (fun e => by have : b = sb := e; omega))]
  exact h6
theorem sig_ne {sb b : Nat} {k : Nat} {v p : Value} {cs : Array Value} {t : TypeId} {w : World} (hs : SigB sb k v p w) (h : w.heap[b]? = some (.cells cs t (0, 0))) (ht : t ≠ 54) : some b ≠ some sb := fun e => by
  cases e
  rw [hs] at h
  cases h
  exact ht rfl
theorem PlaceIs.sig {els : List ByteArray} {d sb k9 : Nat} {v p : Value} {w w' : World} (hs : SigB sb k9 v p w) (hb : ExtB (some sb) w w') : ∀ {l k b : Nat}, PlaceIs els d l k b w → PlaceIs els d l k b w'
  | 0, _, _, h => extB_block hb (sig_ne hs h (by decide)) h
  | l + 1, _, _, ⟨b0, b1, h, h0, h1⟩ => ⟨b0, b1, extB_block hb (sig_ne hs h (by decide)) h, PlaceIs.sig hs hb h0, PlaceIs.sig hs hb h1⟩
theorem TreeAt.sig {els : List ByteArray} {sb k9 b : Nat} {v p : Value} {w w' : World} (h : TreeAt els b w) (hs : SigB sb k9 v p w) (hb : ExtB (some sb) w w') : TreeAt els b w' := by
  obtain ⟨q, h1, h2⟩ := h
  exact ⟨q, extB_block hb (sig_ne hs h1 (by decide)) h1, h2.sig hs hb⟩
structure SgB (seed d : ByteArray) (f L K k lb tb xb kb db : Nat) (w : World) : Prop where
  l : LadAt seed f L K lb tb w
  x : w.heap[xb]? = some (.cells #[.pointer (some ⟨lb, 0, none⟩)] 68 (0, 0))
  k : w.heap[kb]? = some (.cells #[.int .u64 (k : Nat)] 37 (0, 0))
  d : w.heap[db]? = some (.cells #[.string d] 9 (0, 0))
theorem SgB.below {seed d : ByteArray} {f L K k lb tb xb kb db : Nat} {w w' : World} (h : SgB seed d f L K k lb tb xb kb db w) (hb : Below w.heap.size w w') : SgB seed d f L K k lb tb xb kb db w' :=
  ⟨h.l.below hb, (hb.block _ (lt_of_block h.x)).trans h.x, (hb.block _ (lt_of_block h.k)).trans h.k, (hb.block _ (lt_of_block h.d)).trans h.d⟩
set_option maxRecDepth 100000 in
set_option maxHeartbeats 4000000 in
theorem sign1_any (seed d : ByteArray) (f L K k lb tb xb kb db sb : Nat) (a1 a2 : Option Addr) (m1 m2 p1 p2 : Nat) (w : World) (h : SgB seed d f L K k lb tb xb kb db w) (hs : SigB sb k (.slice a1 m1 p1) (.slice a2 m2 p2) w) (hk : k < 18446744073709551616) (hsd : seed.size ≤ 1000) :
    Calls Tryz.prog 84 #[.pointer (some ⟨xb, 0, none⟩), .pointer (some ⟨kb, 0, none⟩), .pointer (some ⟨db, 0, none⟩), .pointer (some ⟨sb, 0, none⟩)] w fun e w' => e = .returned (.int .i64 (sgE d)) ∧ (∃ v, SigB sb k v (.slice a2 m2 p2) w' ∧ TextsAt (sb + 1) (sgL seed k d) v w') ∧ ExtB (some sb) w w' := by
  have HSG := Lib.hid (fun wv => sign13_at seed k d wv hk hsd)
  obtain ⟨L9, hL9⟩ : ∃ L9, sgL seed k d = L9 := ⟨_, rfl⟩
  obtain ⟨E, hE9⟩ : ∃ E, sgE d = E := ⟨_, rfl⟩
  rw [hL9, hE9] at HSG ⊢
  have HS := Lib.hid hs
  have c0 : w.cell? ⟨xb, 0, none⟩ = some (.pointer (some ⟨lb, 0, none⟩)) := block_cell h.x 0
  have c1 : w.cell? ⟨lb, 4, none⟩ = some (.string seed) := block_cell h.l.c 4
  have c2 : w.cell? ⟨kb, 0, none⟩ = some (.int .u64 (k : Nat)) := block_cell h.k 0
  have c3 : w.cell? ⟨db, 0, none⟩ = some (.string d) := block_cell h.d 0
  have q0 : some xb ≠ some sb := fun e => by cases e; have h9 := h.x; rw [hs] at h9; cases h9
  have q1 : some lb ≠ some sb := fun e => by cases e; have h9 := h.l.c; rw [hs] at h9; cases h9
  have q2 : some kb ≠ some sb := fun e => by cases e; have h9 := h.k; rw [hs] at h9; cases h9
  have q3 : some db ≠ some sb := fun e => by cases e; have h9 := h.d; rw [hs] at h9; cases h9
  have HSB : Hid (sb < w.heap.size) := Lib.hid (lt_of_block hs)
  clear h hs hk hsd hL9 hE9
  go_enter Tryz.func84, Tryz.ntmps84
  go_upto_region 1 with fail
  refine wp_region_all 11 ((some sb)) (phis [fun u _ => u = (.pointer (some ⟨lb, 0, none⟩)), fun u _ => u = (.pointer (some ⟨lb, 0, none⟩)), fun u _ => u = (.pointer (some ⟨lb, 4, none⟩)), fun u _ => u = (.string seed), fun u _ => u = (.int .u64 (k : Nat)), fun u _ => u = (.string d), fun u w' => ∃ v, u = .tuple #[v, .int .i64 E] ∧ TextsAt (sb + 1) L9 v w', fun u w' => ∃ v, u = .tuple #[v, .int .i64 E] ∧ TextsAt (sb + 1) L9 v w', fun u w' => TextsAt (sb + 1) L9 u w', fun u _ => u = (.int .i64 E), fun u _ => u = (.pointer (some ⟨sb, 1, none⟩)), fun _ w' => ∃ v, SigB sb k v (.slice a2 m2 p2) w' ∧ TextsAt (sb + 1) L9 v w', fun u _ => u = (.int .i64 E)]) rfl (by kernel_rfl) (mono_of ⟨mono_eq, mono_eq, mono_eq, mono_eq, mono_eq, mono_eq, ?m6, ?m7, ?m8, mono_eq, mono_eq, ?m11, mono_eq, trivial⟩) (steps_of 13 ⟨?s0, ?s1, ?s2, ?s3, ?s4, ?s5, ?s6, ?s7, ?s8, ?s9, ?s10, ?s11, ?s12, trivial⟩) ?_
  case m6 =>
    exact ⟨fun u w1 w' h ⟨v, h1, h2⟩ => ⟨v, h1, h2.below h⟩, fun _ u w1 w' h ⟨v, h1, h2⟩ => ⟨v, h1, h2.keep h⟩⟩
  case m7 =>
    exact ⟨fun u w1 w' h ⟨v, h1, h2⟩ => ⟨v, h1, h2.below h⟩, fun _ u w1 w' h ⟨v, h1, h2⟩ => ⟨v, h1, h2.keep h⟩⟩
  case m8 =>
    exact ⟨fun u w1 w' h h1 => h1.below h, fun _ u w1 w' h h1 => h1.keep h⟩
  case m11 =>
    exact ⟨fun u w1 w' h ⟨v, h1, h2⟩ => ⟨v, ext_block h h1, h2.below h⟩, fun hn => absurd rfl hn⟩
  case s0 =>
    refine qV (fun _ => rfl) rfl fun av wv hE hO hD => ?_
    simp [go_sem, qF av 0 (.pointer (some ⟨xb, 0, none⟩)) (hO.2.2 0 rfl), extB_cell hE q0 c0, extB_cell hE q1 c1, extB_cell hE q2 c2, extB_cell hE q3 c3]
  case s1 =>
    refine qV (fun _ => rfl) rfl fun av wv hE hO hD => ?_
    simp [go_sem, qE (hD.1 rfl _ rfl)]
  case s2 =>
    refine qV (fun _ => rfl) rfl fun av wv hE hO hD => ?_
    simp [go_sem, qE (hD.1 rfl _ rfl)]
  case s3 =>
    refine qV (fun _ => rfl) rfl fun av wv hE hO hD => ?_
    simp [go_sem, qE (hD.1 rfl _ rfl), extB_cell hE q0 c0, extB_cell hE q1 c1, extB_cell hE q2 c2, extB_cell hE q3 c3]
  case s4 =>
    refine qV (fun _ => rfl) rfl fun av wv hE hO hD => ?_
    simp [go_sem, qF av 1 (.pointer (some ⟨kb, 0, none⟩)) (hO.2.2 1 rfl), extB_cell hE q0 c0, extB_cell hE q1 c1, extB_cell hE q2 c2, extB_cell hE q3 c3]
  case s5 =>
    refine qV (fun _ => rfl) rfl fun av wv hE hO hD => ?_
    simp [go_sem, qF av 2 (.pointer (some ⟨db, 0, none⟩)) (hO.2.2 2 rfl), extB_cell hE q0 c0, extB_cell hE q1 c1, extB_cell hE q2 c2, extB_cell hE q3 c3]
  case s6 =>
    refine step_wp (fun av wv hE hS hO hD => ⟨rfl, ?_⟩)
    have f9 := qE (hD.1 rfl _ rfl)
    have f10 := qE (hD.2.1 rfl _ rfl)
    have f11 := qE (hD.2.2.1 rfl _ rfl)
    refine wp_of_callV (R := fun u w2 => (∃ v, u = .tuple #[v, .int .i64 E] ∧ TextsAt (sb + 1) L9 v w2) ∧ Below wv.heap.size wv w2) (f := 85) (args := #[.string seed, .int .u64 (k : Nat), .string d]) (by simp [go_sem, f9, f10, f11]) ((HSG.out wv).mono ?_) (fun v w2 h => ⟨_, rfl, es_of_ext h.2, h.1⟩)
    rintro e w2 ⟨v, rfl, h1, h2⟩
    have hz := hE.size
    exact ⟨_, rfl, ⟨v, rfl, h1.low (by simp at hz; have := HSB.out; omega)⟩, h2⟩
  case s7 =>
    refine step_wp (fun av wv hE hS hO hD => ⟨rfl, ?_⟩)
    have d12 : (fun u w' => ∃ v, u = .tuple #[v, .int .i64 E] ∧ TextsAt (sb + 1) L9 v w') (av.eval (.tmp 12)) wv := hD.1 rfl _ rfl
    obtain ⟨v, hv, ht⟩ := d12
    have fv := (ev_form av 12).symm.trans hv
    exact wp_of_run (v := .tuple #[v, .int .i64 E]) (w' := wv) (by simp [go_sem, fv]) ⟨_, rfl, es_of_ext (Ext_refl _), v, rfl, ht⟩
  case s8 =>
    refine step_wp (fun av wv hE hS hO hD => ⟨rfl, ?_⟩)
    have d5 : (fun u w' => ∃ v, u = .tuple #[v, .int .i64 E] ∧ TextsAt (sb + 1) L9 v w') (av.eval (.tmp 5)) wv := hD.1 rfl _ rfl
    obtain ⟨v, hv, ht⟩ := d5
    have fv := (ev_form av 5).symm.trans hv
    exact wp_of_run (v := v) (w' := wv) (by simp [go_sem, fv]) ⟨_, rfl, es_of_ext (Ext_refl _), ht⟩
  case s9 =>
    refine step_wp (fun av wv hE hS hO hD => ⟨rfl, ?_⟩)
    have d5 : (fun u w' => ∃ v, u = .tuple #[v, .int .i64 E] ∧ TextsAt (sb + 1) L9 v w') (av.eval (.tmp 5)) wv := hD.1 rfl _ rfl
    obtain ⟨v, hv, ht⟩ := d5
    have fv := (ev_form av 5).symm.trans hv
    exact wp_of_run (v := .int .i64 E) (w' := wv) (by simp [go_sem, fv]) ⟨_, rfl, es_of_ext (Ext_refl _), rfl⟩
  case s10 =>
    refine qV (fun _ => rfl) rfl fun av wv hE hO hD => ?_
    simp [go_sem, qF av 3 (.pointer (some ⟨sb, 0, none⟩)) (hO.2.2 3 rfl)]
  case s11 =>
    refine step_wp (fun av wv hE hS hO hD => ⟨rfl, ?_⟩)
    have f15 := qE (hD.1 rfl _ rfl)
    have d13 : (fun u w' => TextsAt (sb + 1) L9 u w') (av.eval (.tmp 13)) wv := hD.2.1 rfl _ rfl
    obtain ⟨a, c, hv, ht⟩ : ∃ a c, av.eval (.tmp 13) = .slice a (len L9) c ∧ TextsAt (sb + 1) L9 (.slice a (len L9) c) wv := d13.lit
    have fv := (ev_form av 13).symm.trans hv
    have hsb : SigB sb k (.slice a1 m1 p1) (.slice a2 m2 p2) wv := ext_block (hS rfl) HS.out
    have e0 : wv.cell? ⟨sb, 1, none⟩ = some (.slice a1 m1 p1) := block_cell hsb 1
    have e1 := block_free hsb 1
    have e2 := lt_of_block hsb
    unfold Oper.wp
    simp [go_sem, fv, f15, e0, e1, e2]
    exact ⟨es_sp (grownBy_setO _ _ _ _), undef, _, block_setCell hsb _, ht.set _⟩
  case s12 =>
    refine qV (fun _ => rfl) rfl fun av wv hE hO hD => ?_
    simp [go_sem, qE (hD.1 rfl _ rfl)]
  intro a' w' hE hO hall
  have hA := act_of_outer (ds := [6, 7, 8, 9, 10, 11, 12, 5, 13, 14, 15, 4]) rfl hO (by kernel_rfl)
  obtain ⟨j0, j1, j2, j3, j4, j5, j6, j7, j8, j9, j10, j11, j12, -⟩ := hall
  have e12 : (fun u w' => ∃ v, u = .tuple #[v, .int .i64 E] ∧ TextsAt (sb + 1) L9 v w') (a'.eval (.tmp 12)) w' := j6 _ rfl
  have e5 : (fun u w' => ∃ v, u = .tuple #[v, .int .i64 E] ∧ TextsAt (sb + 1) L9 v w') (a'.eval (.tmp 5)) w' := j7 _ rfl
  have e13 : (fun u w' => TextsAt (sb + 1) L9 u w') (a'.eval (.tmp 13)) w' := j8 _ rfl
  have z11 : (fun _ w' => ∃ v, SigB sb k v (.slice a2 m2 p2) w' ∧ TextsAt (sb + 1) L9 v w') undef w' := j11 _ rfl
  obtain ⟨v12, hv12⟩ : ∃ v, a'.eval (.tmp 12) = v := ⟨_, rfl⟩
  rw [hv12] at e12
  obtain ⟨v5, hv5⟩ : ∃ v, a'.eval (.tmp 5) = v := ⟨_, rfl⟩
  rw [hv5] at e5
  obtain ⟨v13, hv13⟩ : ∃ v, a'.eval (.tmp 13) = v := ⟨_, rfl⟩
  rw [hv13] at e13
  simp only [List.foldl_cons, List.foldl_nil, Act.put, List.setIfInBounds_toArray, List.set_cons_succ, List.set_cons_zero, qJ 6 (j0 _ rfl), qJ 7 (j1 _ rfl), qJ 8 (j2 _ rfl), qJ 9 (j3 _ rfl), qJ 10 (j4 _ rfl), qJ 11 (j5 _ rfl), hv12, hv5, hv13, qJ 14 (j9 _ rfl), qJ 15 (j10 _ rfl), qJ 4 (j12 _ rfl)] at hA
  clear hO j6 j7 j8 j11 j0 j1 j2 j3 j4 j5 hv12 hv5 hv13 j9 j10 j12
  subst hA
  have HEX : Hid (ExtB (some sb) w w') := Lib.hid (ExtB_trans _ _ _ _ (show ExtB (some sb) w w.drew from ⟨rfl, rfl, rfl, Nat.le_refl _, fun _ _ _ => rfl⟩) hE)
  have HV := Lib.hid z11
  clear hE c0 c1 c2 c3 z11 q0 q1 q2 q3
  go_wp2
  go_ret
  exact ⟨rfl, HV.out, HEX.out⟩
theorem prove1_at (els : List ByteArray) (tb k b : Nat) (w : World) (ht : TreeAt els tb w) (hn : len els ≤ 65536) (hk : k < len els) (hb : w.heap[b]? = some (.cells #[.int .u64 (k : Nat)] 37 (0, 0))) : Calls Tryz.prog 20 #[.pointer (some ⟨tb, 0, none⟩), .slice (some ⟨b, 0, none⟩) 1 1] w fun e w' => ∃ v, e = .returned (.tuple #[v, .int .i64 0]) ∧ TextsAt w.heap.size (oneD els k) v w' ∧ Below w.heap.size w w' := by
  refine (prove_ok els tb [((k : Nat) : Int)] (some ⟨b, 0, none⟩) 1 w ht hn (fun i hi => ⟨b, 0, rfl, by
    have hi : i < 1 := hi
    obtain rfl : i = 0 := by omega
    exact block_cell hb 0⟩) (show 1 ≤ 12 by decide) (fun x hx => by
      have hx : x = ((k : Nat) : Int) := by simpa using hx
      subst hx
      unfold U64
      omega) (one_may hk)).mono ?_
  rintro e w' ⟨v, rfl, hr, hbb⟩
  exact ⟨v, rfl, TextsAt.own hr, hbb⟩
set_option maxRecDepth 100000 in
set_option maxHeartbeats 4000000 in
theorem sign2_any (seed d : ByteArray) (f L K k lb tb xb kb db sb : Nat) (a1 a2 : Option Addr) (m1 m2 p1 p2 : Nat) (w : World) (h : SgB seed d f L K k lb tb xb kb db w) (hs : SigB sb k (.slice a1 m1 p1) (.slice a2 m2 p2) w) (hk : k < K) (hK : K ≤ 64) :
    Calls Tryz.prog 86 #[.pointer (some ⟨xb, 0, none⟩), .pointer (some ⟨kb, 0, none⟩), .pointer (some ⟨sb, 0, none⟩)] w fun e w' => e = .returned (.int .i64 0) ∧ (∃ v, SigB sb k (.slice a1 m1 p1) v w' ∧ TextsAt (sb + 1) (oneD (rungL seed K) k) v w') ∧ ExtB (some sb) w w' := by
  obtain ⟨L9, hL9⟩ : ∃ L9, oneD (rungL seed K) k = L9 := ⟨_, rfl⟩
  have HS := Lib.hid hs
  have HSB : Hid (sb < w.heap.size) := Lib.hid (lt_of_block hs)
  have HPR : Hid (∀ (wv : World) (b : Nat), ExtB (some sb) w.drew wv → wv.heap[b]? = some (.cells #[.int .u64 (k : Nat)] 37 (0, 0)) → Calls Tryz.prog 20 #[.pointer (some ⟨tb, 0, none⟩), .slice (some ⟨b, 0, none⟩) 1 1] wv fun e w' => ∃ u, e = .returned u ∧ (∃ v, u = .tuple #[v, .int .i64 0] ∧ TextsAt (sb + 1) L9 v w') ∧ Below wv.heap.size wv w') := Lib.hid (fun wv b hb hc => by
    have hx : ExtB (some sb) w wv := ExtB_trans _ _ _ _ (show ExtB (some sb) w w.drew from ⟨rfl, rfl, rfl, Nat.le_refl _, fun _ _ _ => rfl⟩) hb
    have ht : TreeAt (rungL seed K) tb wv := h.l.t.sig hs hx
    refine (prove1_at (rungL seed K) tb k b wv ht (by rw [rungL_len]; omega) (by rw [rungL_len]; exact hk) hc).mono ?_
    rintro e w2 ⟨v, rfl, h1, h2⟩
    rw [hL9] at h1
    exact ⟨_, rfl, ⟨v, rfl, h1.low (by have h3 := hx.size; have h4 := lt_of_block hs; omega)⟩, h2⟩)
  rw [hL9]
  have c0 : w.cell? ⟨xb, 0, none⟩ = some (.pointer (some ⟨lb, 0, none⟩)) := block_cell h.x 0
  have c1 : w.cell? ⟨lb, 3, none⟩ = some (.pointer (some ⟨tb, 0, none⟩)) := block_cell h.l.c 3
  have c2 : w.cell? ⟨kb, 0, none⟩ = some (.int .u64 (k : Nat)) := block_cell h.k 0
  have q0 : some xb ≠ some sb := fun e => by cases e; have h9 := h.x; rw [hs] at h9; cases h9
  have q1 : some lb ≠ some sb := fun e => by cases e; have h9 := h.l.c; rw [hs] at h9; cases h9
  have q2 : some kb ≠ some sb := fun e => by cases e; have h9 := h.k; rw [hs] at h9; cases h9
  clear h hs hk hK hL9
  go_enter Tryz.func86, Tryz.ntmps86
  go_upto_region 1 with fail
  refine wp_region_all 11 ((some sb)) (phis [fun u _ => u = (.pointer (some ⟨lb, 0, none⟩)), fun u _ => u = (.pointer (some ⟨lb, 0, none⟩)), fun u _ => u = (.pointer (some ⟨lb, 3, none⟩)), fun u _ => u = (.pointer (some ⟨tb, 0, none⟩)), fun u _ => u = (.int .u64 (k : Nat)), fun u w' => ∃ b, u = .slice (some ⟨b, 0, none⟩) 1 1 ∧ some b ≠ some sb ∧ w'.heap[b]? = some (.cells #[.int .u64 (k : Nat)] 37 (0, 0)), fun u w' => ∃ v, u = .tuple #[v, .int .i64 0] ∧ TextsAt (sb + 1) L9 v w', fun u w' => ∃ v, u = .tuple #[v, .int .i64 0] ∧ TextsAt (sb + 1) L9 v w', fun u w' => TextsAt (sb + 1) L9 u w', fun u _ => u = (.int .i64 0), fun u _ => u = (.pointer (some ⟨sb, 2, none⟩)), fun _ w' => ∃ v, SigB sb k (.slice a1 m1 p1) v w' ∧ TextsAt (sb + 1) L9 v w', fun u _ => u = (.int .i64 0)]) rfl (by kernel_rfl) (mono_of ⟨mono_eq, mono_eq, mono_eq, mono_eq, mono_eq, ?m5, ?m6, ?m7, ?m8, mono_eq, mono_eq, ?m11, mono_eq, trivial⟩) (steps_of 13 ⟨?s0, ?s1, ?s2, ?s3, ?s4, ?s5, ?s6, ?s7, ?s8, ?s9, ?s10, ?s11, ?s12, trivial⟩) ?_
  case m5 =>
    exact ⟨fun u w1 w' h ⟨b, h1, hn, hb⟩ => ⟨b, h1, hn, ext_block h hb⟩, fun _ u w1 w' h ⟨b, h1, hn, hb⟩ => ⟨b, h1, hn, extB_block h hn hb⟩⟩
  case m6 =>
    exact ⟨fun u w1 w' h ⟨v, h1, h2⟩ => ⟨v, h1, h2.below h⟩, fun _ u w1 w' h ⟨v, h1, h2⟩ => ⟨v, h1, h2.keep h⟩⟩
  case m7 =>
    exact ⟨fun u w1 w' h ⟨v, h1, h2⟩ => ⟨v, h1, h2.below h⟩, fun _ u w1 w' h ⟨v, h1, h2⟩ => ⟨v, h1, h2.keep h⟩⟩
  case m8 =>
    exact ⟨fun u w1 w' h h1 => h1.below h, fun _ u w1 w' h h1 => h1.keep h⟩
  case m11 =>
    exact ⟨fun u w1 w' h ⟨v, h1, h2⟩ => ⟨v, ext_block h h1, h2.below h⟩, fun hn => absurd rfl hn⟩
  case s0 =>
    refine qV (fun _ => rfl) rfl fun av wv hE hO hD => ?_
    simp [go_sem, qF av 0 (.pointer (some ⟨xb, 0, none⟩)) (hO.2.2 0 rfl), extB_cell hE q0 c0, extB_cell hE q1 c1, extB_cell hE q2 c2]
  case s1 =>
    refine qV (fun _ => rfl) rfl fun av wv hE hO hD => ?_
    simp [go_sem, qE (hD.1 rfl _ rfl)]
  case s2 =>
    refine qV (fun _ => rfl) rfl fun av wv hE hO hD => ?_
    simp [go_sem, qE (hD.1 rfl _ rfl)]
  case s3 =>
    refine qV (fun _ => rfl) rfl fun av wv hE hO hD => ?_
    simp [go_sem, qE (hD.1 rfl _ rfl), extB_cell hE q0 c0, extB_cell hE q1 c1, extB_cell hE q2 c2]
  case s4 =>
    refine qV (fun _ => rfl) rfl fun av wv hE hO hD => ?_
    simp [go_sem, qF av 1 (.pointer (some ⟨kb, 0, none⟩)) (hO.2.2 1 rfl), extB_cell hE q0 c0, extB_cell hE q1 c1, extB_cell hE q2 c2]
  case s5 =>
    refine step_wp (fun av wv hE hS hO hD => ⟨rfl, ?_⟩)
    have f9 := qE (hD.1 rfl _ rfl)
    have hz := hE.size
    exact wp_of_run (v := .slice (some ⟨wv.heap.size, 0, none⟩) 1 1) (w' := wv.alloc (.cells #[.int .u64 (k : Nat)] 37)) (by simp [go_sem, f9]) ⟨_, rfl, es_of_ext (balloc (Ext_refl _) _), wv.heap.size, rfl, (fun e => by have e9 : wv.heap.size = sb := Option.some.inj e; simp at hz; have := HSB.out; omega), heap_alloc_new _ _⟩
  case s6 =>
    refine step_wp (fun av wv hE hS hO hD => ⟨rfl, ?_⟩)
    have f8 := qE (hD.1 rfl _ rfl)
    have d10 : (fun u w' => ∃ b, u = .slice (some ⟨b, 0, none⟩) 1 1 ∧ some b ≠ some sb ∧ w'.heap[b]? = some (.cells #[.int .u64 (k : Nat)] 37 (0, 0))) (av.eval (.tmp 10)) wv := hD.2.1 rfl _ rfl
    obtain ⟨b, hq, -, hcq⟩ := d10
    have fq := (ev_form av 10).symm.trans hq
    refine wp_of_callV (R := fun u w2 => (∃ v, u = .tuple #[v, .int .i64 0] ∧ TextsAt (sb + 1) L9 v w2) ∧ Below wv.heap.size wv w2) (f := 20) (args := #[.pointer (some ⟨tb, 0, none⟩), .slice (some ⟨b, 0, none⟩) 1 1]) (by simp [go_sem, f8, fq]) (HPR.out wv b hE hcq) (fun v w2 h => ⟨_, rfl, es_of_ext h.2, h.1⟩)
  case s7 =>
    refine step_wp (fun av wv hE hS hO hD => ⟨rfl, ?_⟩)
    have d11 : (fun u w' => ∃ v, u = .tuple #[v, .int .i64 0] ∧ TextsAt (sb + 1) L9 v w') (av.eval (.tmp 11)) wv := hD.1 rfl _ rfl
    obtain ⟨v, hv, ht⟩ := d11
    have fv := (ev_form av 11).symm.trans hv
    exact wp_of_run (v := .tuple #[v, .int .i64 0]) (w' := wv) (by simp [go_sem, fv]) ⟨_, rfl, es_of_ext (Ext_refl _), v, rfl, ht⟩
  case s8 =>
    refine step_wp (fun av wv hE hS hO hD => ⟨rfl, ?_⟩)
    have d4 : (fun u w' => ∃ v, u = .tuple #[v, .int .i64 0] ∧ TextsAt (sb + 1) L9 v w') (av.eval (.tmp 4)) wv := hD.1 rfl _ rfl
    obtain ⟨v, hv, ht⟩ := d4
    have fv := (ev_form av 4).symm.trans hv
    exact wp_of_run (v := v) (w' := wv) (by simp [go_sem, fv]) ⟨_, rfl, es_of_ext (Ext_refl _), ht⟩
  case s9 =>
    refine step_wp (fun av wv hE hS hO hD => ⟨rfl, ?_⟩)
    have d4 : (fun u w' => ∃ v, u = .tuple #[v, .int .i64 0] ∧ TextsAt (sb + 1) L9 v w') (av.eval (.tmp 4)) wv := hD.1 rfl _ rfl
    obtain ⟨v, hv, ht⟩ := d4
    have fv := (ev_form av 4).symm.trans hv
    exact wp_of_run (v := .int .i64 0) (w' := wv) (by simp [go_sem, fv]) ⟨_, rfl, es_of_ext (Ext_refl _), rfl⟩
  case s10 =>
    refine qV (fun _ => rfl) rfl fun av wv hE hO hD => ?_
    simp [go_sem, qF av 2 (.pointer (some ⟨sb, 0, none⟩)) (hO.2.2 2 rfl)]
  case s11 =>
    refine step_wp (fun av wv hE hS hO hD => ⟨rfl, ?_⟩)
    have f14 := qE (hD.1 rfl _ rfl)
    have d12 : (fun u w' => TextsAt (sb + 1) L9 u w') (av.eval (.tmp 12)) wv := hD.2.1 rfl _ rfl
    obtain ⟨a, c, hv, ht⟩ : ∃ a c, av.eval (.tmp 12) = .slice a (len L9) c ∧ TextsAt (sb + 1) L9 (.slice a (len L9) c) wv := d12.lit
    have fv := (ev_form av 12).symm.trans hv
    have hsb : SigB sb k (.slice a1 m1 p1) (.slice a2 m2 p2) wv := ext_block (hS rfl) HS.out
    have e0 : wv.cell? ⟨sb, 2, none⟩ = some (.slice a2 m2 p2) := block_cell hsb 2
    have e1 := block_free hsb 2
    have e2 := lt_of_block hsb
    unfold Oper.wp
    simp [go_sem, fv, f14, e0, e1, e2]
    exact ⟨es_sp (grownBy_setO _ _ _ _), undef, _, block_setCell hsb _, ht.set _⟩
  case s12 =>
    refine qV (fun _ => rfl) rfl fun av wv hE hO hD => ?_
    simp [go_sem, qE (hD.1 rfl _ rfl)]
  intro a' w' hE hO hall
  have hA := act_of_outer (ds := [5, 6, 7, 8, 9, 10, 11, 4, 12, 13, 14, 3]) rfl hO (by kernel_rfl)
  obtain ⟨j0, j1, j2, j3, j4, j5, j6, j7, j8, j9, j10, j11, j12, -⟩ := hall
  have e10 : (fun u w' => ∃ b, u = .slice (some ⟨b, 0, none⟩) 1 1 ∧ some b ≠ some sb ∧ w'.heap[b]? = some (.cells #[.int .u64 (k : Nat)] 37 (0, 0))) (a'.eval (.tmp 10)) w' := j5 _ rfl
  have e11 : (fun u w' => ∃ v, u = .tuple #[v, .int .i64 0] ∧ TextsAt (sb + 1) L9 v w') (a'.eval (.tmp 11)) w' := j6 _ rfl
  have e4 : (fun u w' => ∃ v, u = .tuple #[v, .int .i64 0] ∧ TextsAt (sb + 1) L9 v w') (a'.eval (.tmp 4)) w' := j7 _ rfl
  have e12 : (fun u w' => TextsAt (sb + 1) L9 u w') (a'.eval (.tmp 12)) w' := j8 _ rfl
  have z11 : (fun _ w' => ∃ v, SigB sb k (.slice a1 m1 p1) v w' ∧ TextsAt (sb + 1) L9 v w') undef w' := j11 _ rfl
  obtain ⟨v10, hv10⟩ : ∃ v, a'.eval (.tmp 10) = v := ⟨_, rfl⟩
  rw [hv10] at e10
  obtain ⟨v11, hv11⟩ : ∃ v, a'.eval (.tmp 11) = v := ⟨_, rfl⟩
  rw [hv11] at e11
  obtain ⟨v4, hv4⟩ : ∃ v, a'.eval (.tmp 4) = v := ⟨_, rfl⟩
  rw [hv4] at e4
  obtain ⟨v12, hv12⟩ : ∃ v, a'.eval (.tmp 12) = v := ⟨_, rfl⟩
  rw [hv12] at e12
  simp only [List.foldl_cons, List.foldl_nil, Act.put, List.setIfInBounds_toArray, List.set_cons_succ, List.set_cons_zero, qJ 5 (j0 _ rfl), qJ 6 (j1 _ rfl), qJ 7 (j2 _ rfl), qJ 8 (j3 _ rfl), qJ 9 (j4 _ rfl), hv10, hv11, hv4, hv12, qJ 13 (j9 _ rfl), qJ 14 (j10 _ rfl), qJ 3 (j12 _ rfl)] at hA
  clear hO j5 j6 j7 j8 j11 j0 j1 j2 j3 j4 hv10 hv11 hv4 hv12 j9 j10 j12
  subst hA
  have HEX : Hid (ExtB (some sb) w w') := Lib.hid (ExtB_trans _ _ _ _ (show ExtB (some sb) w w.drew from ⟨rfl, rfl, rfl, Nat.le_refl _, fun _ _ _ => rfl⟩) hE)
  have HV := Lib.hid z11
  clear hE c0 c1 c2 z11 q0 q1 q2
  go_wp2
  go_ret
  exact ⟨rfl, HV.out, HEX.out⟩
end Go.Proofs.YtoafjbillcooiaaGreat
namespace Go.Proofs.YtoafjbillcooiaaGreat
open Go.RowKit
set_option linter.unusedSimpArgs false
set_option linter.unusedVariables false
def RNewIs (seed : ByteArray) (f L : Nat) (K : Int) (w : World) (e : Ending) (w' : World) : Prop :=
  (newE seed.size f L K ≠ 0 ∧ e = .returned (.tuple #[.pointer none, .int .i64 (newE seed.size f L K)]) ∨ newE seed.size f L K = 0 ∧ ∃ b la lc, e = .returned (.tuple #[.pointer (some ⟨b, 0, none⟩), .int .i64 0]) ∧ RLadAt seed f L K.toNat b la lc w' ∧ K.toNat ≤ lc) ∧ Below w.heap.size w w'
theorem rnewE_may {z f L : Nat} {K : Int} (h : mayL z L K = false) : newE z f L K = 2 := by
  unfold newE
  rw [h]
  rfl
theorem rnewE_over {z f L K : Nat} (h : mayL z L (K : Int) = true) (hf : fitsL f L K = false) : newE z f L (K : Int) = 21 := by
  unfold newE
  rw [if_pos h, Int.toNat_natCast, hf]
  rfl
theorem rnewE_ok {z f L K : Nat} (h : mayL z L (K : Int) = true) (hf : fitsL f L K = true) : newE z f L (K : Int) = 0 := by
  unfold newE
  rw [if_pos h, Int.toNat_natCast, hf]
  rfl
set_option maxRecDepth 100000 in
set_option maxHeartbeats 8000000 in
theorem rnew14_may (seed : ByteArray) (f L : Nat) (K : Int) (w : World) (h : mayL seed.size L K = false) : Calls Tryz.prog 22 #[.string seed, .int .u64 (f : Nat), .int .u64 (L : Nat), .int .i64 K] w fun e w' => e = .returned (.tuple #[.pointer none, .int .i64 2]) ∧ Below w.heap.size w w' := by
  by_cases h1 : seed.size = 32
  · have i1 : ((seed.size : Nat) : Int) = 32 := by omega
    by_cases h2 : L = 0
    · subst h2
      clear h
      go_enter Tryz.func22, Tryz.ntmps22
      go_wp2
      go_ret2
      exact ⟨rfl, by (repeat (first | exact Below.refl _ _ | assumption | (refine bdrew ?_) | (refine bdrewN ?_ _) | (refine balloc ?_ _) | (refine bset ?_ (by first | omega | (simp; done) | (simp; omega)) _) | (refine bnext ?_ (by assumption))))⟩
    · have i2 : ((L : Nat) : Int) ≠ 0 := by omega
      have i2' : (((L : Nat) : Int) == 0) = false := by simpa using h2
      by_cases h3 : K < 1
      · clear h
        go_enter Tryz.func22, Tryz.ntmps22
        go_wp2
        go_ret2
        exact ⟨rfl, by (repeat (first | exact Below.refl _ _ | assumption | (refine bdrew ?_) | (refine bdrewN ?_ _) | (refine balloc ?_ _) | (refine bset ?_ (by first | omega | (simp; done) | (simp; omega)) _) | (refine bnext ?_ (by assumption))))⟩
      · have h4 : 64 < K := by
          unfold mayL at h
          have e1 : decide (seed.size = 32) = true := decide_eq_true h1
          have e2 : decide (0 < L) = true := decide_eq_true (by omega)
          have e3 : decide (1 ≤ K) = true := decide_eq_true (by omega)
          rw [e1, e2, e3] at h
          have := of_decide_eq_false (show decide (K ≤ 64) = false from h)
          omega
        clear h
        go_enter Tryz.func22, Tryz.ntmps22
        go_wp2
        go_ret2
        exact ⟨rfl, by (repeat (first | exact Below.refl _ _ | assumption | (refine bdrew ?_) | (refine bdrewN ?_ _) | (refine balloc ?_ _) | (refine bset ?_ (by first | omega | (simp; done) | (simp; omega)) _) | (refine bnext ?_ (by assumption))))⟩
  · have i1 : ¬ ((seed.size : Nat) : Int) = 32 := by omega
    clear h
    go_enter Tryz.func22, Tryz.ntmps22
    go_wp2
    go_ret2
    exact ⟨rfl, by (repeat (first | exact Below.refl _ _ | assumption | (refine bdrew ?_) | (refine bdrewN ?_ _) | (refine balloc ?_ _) | (refine bset ?_ (by first | omega | (simp; done) | (simp; omega)) _) | (refine bnext ?_ (by assumption))))⟩
set_option maxRecDepth 100000 in
set_option maxHeartbeats 8000000 in
theorem rnew14_main (seed : ByteArray) (f L K : Nat) (w : World) (h : mayL seed.size L (K : Int) = true) (hf : f < 18446744073709551616) (hL : L < 18446744073709551616) : Calls Tryz.prog 22 #[.string seed, .int .u64 (f : Nat), .int .u64 (L : Nat), .int .i64 (K : Nat)] w (RNewIs seed f L (K : Nat) w) := by
  have HM := Lib.hid h
  have hm : 1 ≤ (K : Int) ∧ (K : Int) ≤ 64 ∧ 0 < L ∧ seed.size = 32 := by
    unfold mayL at h
    simp only [Bool.and_eq_true, decide_eq_true_eq] at h
    exact ⟨h.1.2, h.2, h.1.1.2, h.1.1.1⟩
  have HK : Hid (1 ≤ K ∧ K ≤ 64 ∧ 0 < L ∧ seed.size = 32 ∧ f < 18446744073709551616 ∧ L < 18446744073709551616) := Lib.hid ⟨by omega, by omega, hm.2.2.1, hm.2.2.2, hf, hL⟩
  have i1 : ((seed.size : Nat) : Int) = 32 := by have := hm.2.2.2; omega
  have i2 : ((L : Nat) : Int) ≠ 0 := by have := hm.2.2.1; omega
  have i2' : (((L : Nat) : Int) == 0) = false := by have := hm.2.2.1; simp; omega
  have i3 : ¬ (K : Int) < 1 := by omega
  have i4 : ¬ 64 < (K : Int) := by omega
  obtain ⟨i0, hi, hz0, hz1, hz2⟩ := info_parts info_str
  have HZ := Lib.hid hz0
  clear hz0 hm h hf hL
  go_enter Tryz.func22, Tryz.ntmps22
  go_upto_region 4 with fail
  clear i1 i2 i2' i3 i4
  go_wp2
  go_loopg [11, 10] K (fun gg i a wr => ∃ m : Nat, gg + m = K ∧ i = .int .i64 (m : Nat) ∧ a = .int .u64 ((f + m * L : Nat) : Int) ∧ Hid (f + m * L ≤ 18446744073709551615) ∧ Hid (Below w.heap.size w wr))
  case atStart => exact ⟨0, by omega, rfl, by rw [Nat.zero_mul]; rfl, Lib.hid (by have := HK.out; omega), Lib.hid (Below.refl _ _)⟩
  case round =>
    obtain ⟨m, hm, rfl, rfl, HF, HB⟩ := hrel
    by_cases hlt : m < K
    · have b0 : (m : Int) < (K : Int) := by omega
      obtain ⟨t, ht⟩ : ∃ t, f + m * L = t := ⟨_, rfl⟩
      rw [ht]
      have hF := HF.out
      rw [ht] at hF
      by_cases hov : t + L ≤ 18446744073709551615
      · obtain ⟨t2, ht2⟩ : ∃ t2, t + L = t2 := ⟨_, rfl⟩
        have s1 : ((t : Nat) : Int) + (L : Int) = (t2 : Int) := by omega
        have s2 : IntKind.u64.wrap ((t2 : Nat) : Int) = (t2 : Int) := IntWalk.u64_in _ (by omega)
        have s3 : ¬ ((t2 : Nat) : Int) < (t : Int) := by omega
        have HT2 : Hid (f + (m + 1) * L = t2) := Lib.hid (by rw [Nat.add_mul]; omega)
        have HT3 : Hid (t2 ≤ 18446744073709551615) := Lib.hid (by omega)
        have HMM := Lib.hid hm
        have HLT := Lib.hid hlt
        clear ht ht2 hov hF hm hlt
        go_wp2
        go_roundg (gk - 1)
        case rel => exact ⟨m + 1, by have := HMM.out; have := HLT.out; omega, congrArg (Value.int .i64) (by have := HLT.out; have := HK.out; rw [IntWalk.wrap64_in _ (by omega)]; omega), by rw [HT2.out], Lib.hid (by rw [HT2.out]; exact HT3.out), HB⟩
        case measure => have := HMM.out; have := HLT.out; omega
      · obtain ⟨t2, ht2⟩ : ∃ t2, t + L - 18446744073709551616 = t2 := ⟨_, rfl⟩
        have hk := HK.out
        have s1 : IntKind.u64.wrap (((t : Nat) : Int) + (L : Int)) = (t2 : Int) := by
          simp [IntKind.wrap, IntKind.bits, IntKind.signed]
          omega
        have s3 : ((t2 : Nat) : Int) < (t : Int) := by omega
        have HO : Hid (newE seed.size f L ((K : Nat) : Int) = 21) := Lib.hid (rnewE_over HM.out (by
          cases hfl : fitsL f L K with
          | false => rfl
          | true =>
            have h9 := fitsL_mono (m := m + 1) (by omega) (by omega) hfl (by omega)
            rw [Nat.add_mul] at h9
            omega))
        clear ht ht2 hov hF hk
        go_wp2
        go_ret2
        exact ⟨Or.inl ⟨by rw [HO.out]; decide, by rw [HO.out]; rfl⟩, HB.out⟩
    · obtain rfl : m = K := by omega
      have b0 : ¬ ((m : Nat) : Int) < (m : Int) := by omega
      have HN0 : Hid (newE seed.size f L ((m : Nat) : Int) = 0) := Lib.hid (rnewE_ok HM.out ((fitsL_iff (by have := HK.out; omega) (by have := HK.out; omega)).2 HF.out))
      clear hm hlt HM
      obtain ⟨wz, hwz⟩ : ∃ wz, wz = wr := ⟨_, rfl⟩
      subst hwz
      go_upto_region 11 with fail
      obtain ⟨lb, hlb⟩ : ∃ lb, wz.heap.size = lb := ⟨_, rfl⟩
      obtain ⟨w1, hw1⟩ : ∃ w1, wz.alloc (.cells #[.string seed, .int .u64 (f : Nat), .int .u64 (L : Nat), .slice none 0 0] 77) = w1 := ⟨_, rfl⟩
      have HLB : Hid (w1.heap[lb]? = some (.cells #[.string seed, .int .u64 (f : Nat), .int .u64 (L : Nat), .slice none 0 0] 77 (0, 0))) := Lib.hid (by rw [← hw1]; exact alloc_new_at _ hlb)
      have HB1 : Hid (Below w.heap.size w w1) := Lib.hid (by rw [← hw1]; exact balloc HB.out _)
      have HLO : Hid (w.heap.size ≤ lb) := Lib.hid (by rw [← hlb]; exact HB.out.size)
      have HLS : Hid (lb < w1.heap.size) := Lib.hid (lt_of_block HLB.out)
      rw [hw1, hlb]
      clear hw1 hlb HB HF
      clear b0
      go_wp2
      go_loopg [13] m (fun gg i wr => ∃ j : Nat, gg + j = m ∧ i = .int .i64 (j : Nat) ∧ ∃ vv, Hid (wr.heap[lb]? = some (.cells #[.string seed, .int .u64 (f : Nat), .int .u64 (L : Nat), vv] 77 (0, 0))) ∧ Hid (wr.ownsRow w1.heap.size 9 1 vv j ((rungL seed j).map Value.string)) ∧ Hid (Below w.heap.size w wr) ∧ Hid (w1.heap.size ≤ wr.heap.size))
      case atStart => exact ⟨0, by omega, rfl, _, HLB, Lib.hid (World.ownsRow_nil _ _ _ _), HB1, Lib.hid (Nat.le_refl _)⟩
      case round =>
        clear HLB HB1
        obtain ⟨j, hm, rfl, vv, HLB, HO, HB, HBS⟩ := hrel
        by_cases hlt : j < m
        · have b0 : (j : Int) < (m : Int) := by omega
          have bl : ¬ m ≤ j := by omega
          have k2 : IntKind.u64.wrap ((j : Nat) : Int) = (j : Int) := IntWalk.u64_in _ (by have := HK.out; omega)
          have c3 : wr.cell? ⟨lb, 3, none⟩ = some vv := block_cell HLB.out 3
          have hne : some lb ≠ vv.ownBlock := own_lo HO.out HLS.out
          have HPB : Hid (∀ wv, Calls Tryz.prog 64 #[.string seed, .int .u64 (j : Nat)] wv fun e w' => e = .returned (.string (publicP seed j)) ∧ Below wv.heap.size wv w') := Lib.hid (fun wv => rpublic_any seed j wv (by have := HK.out; omega) (by have := HK.out; omega))
          have HRG : Hid (∀ wv, Calls Tryz.prog 63 #[.int .u64 (j : Nat), .string (publicP seed j)] wv fun e w' => e = .returned (.string (num8S j ++ publicP seed j)) ∧ Below wv.heap.size wv w') := Lib.hid (fun wv => rrung_any j (publicP seed j) wv (by have := HK.out; omega) (by rw [publicP_size]; decide))
          obtain ⟨P, hP⟩ : ∃ P, publicP seed j = P := ⟨_, rfl⟩
          obtain ⟨y, hy⟩ : ∃ y, num8S j ++ P = y := ⟨_, rfl⟩
          have HY : Hid (rungP seed j = y) := Lib.hid (by rw [← hy, ← hP]; rfl)
          rw [hP] at HPB HRG
          rw [hy] at HRG
          have hk64 := HK.out.2.1
          have HM := Lib.hid hm
          have HLT := Lib.hid hlt
          clear hP hy hm
          go_upto_region 14 with fail
          clear b0
          refine wp_region_tail 14 13 (vv.ownBlock) (phis [fun u _ => u = (.pointer (some ⟨lb, 0, none⟩)), fun u _ => u = (.pointer (some ⟨lb, 0, none⟩)), fun u _ => u = (.pointer (some ⟨lb, 0, none⟩)), fun u _ => u = (.pointer (some ⟨lb, 3, none⟩)), fun u _ => u = (vv), fun u _ => u = (.int .i64 (j : Nat)), fun u _ => u = (.int .u64 (j : Nat)), fun u _ => u = (.string seed), fun u _ => u = (.int .i64 (j : Nat)), fun u _ => u = (.int .u64 (j : Nat)), fun u _ => u = (.string P), fun u _ => u = (.string y), fun u w' => ∃ b, u = .slice (some ⟨b, 0, none⟩) 1 1 ∧ some b ≠ vv.ownBlock ∧ w'.heap[b]? = some (.cells #[.string y] 9 (0, 0)), fun u w' => w'.ownsRow w1.heap.size 9 1 u (j + 1) ((rungL seed j).map Value.string ++ [.string y])]) rfl (by kernel_rfl) (by kernel_rfl) (mono_of ⟨mono_eq, mono_eq, mono_eq, mono_eq, mono_eq, mono_eq, mono_eq, mono_eq, mono_eq, mono_eq, mono_eq, mono_eq, ?m12, ?m13, trivial⟩) (steps_of 14 ⟨?s0, ?s1, ?s2, ?s3, ?s4, ?s5, ?s6, ?s7, ?s8, ?s9, ?s10, ?s11, ?s12, ?s13, trivial⟩) ?_
          case m12 =>
            exact ⟨fun u w1 w' h ⟨b, h1, hb, hb'⟩ => ⟨b, h1, hb, ext_block h hb'⟩, fun _ u w1 w' h ⟨b, h1, hb, hb'⟩ => ⟨b, h1, hb, extB_block h hb hb'⟩⟩
          case m13 =>
            exact ⟨fun u w1 w' h hu => own_below hu h, fun hn => absurd rfl hn⟩
          case s0 =>
            refine qV (fun _ => rfl) rfl fun av wv hE hO hD => ?_
            simp [go_sem, qF av 12 (.pointer (some ⟨lb, 0, none⟩)) (hO.2.2 12 rfl), k2, bl]
          case s1 =>
            refine qV (fun _ => rfl) rfl fun av wv hE hO hD => ?_
            simp [go_sem, qF av 12 (.pointer (some ⟨lb, 0, none⟩)) (hO.2.2 12 rfl), k2, bl]
          case s2 =>
            refine qV (fun _ => rfl) rfl fun av wv hE hO hD => ?_
            simp [go_sem, qE (hD.1 rfl _ rfl), k2, bl]
          case s3 =>
            refine qV (fun _ => rfl) rfl fun av wv hE hO hD => ?_
            simp [go_sem, qE (hD.1 rfl _ rfl), k2, bl]
          case s4 =>
            refine qV (fun _ => rfl) rfl fun av wv hE hO hD => ?_
            simp [go_sem, qE (hD.1 rfl _ rfl), extB_cell hE hne c3, k2, bl]
          case s5 =>
            refine qV (fun _ => rfl) rfl fun av wv hE hO hD => ?_
            simp [go_sem, qF av 13 (.int .i64 (j : Nat)) (hO.2.2 13 rfl), k2, bl]
          case s6 =>
            refine qV (fun _ => rfl) rfl fun av wv hE hO hD => ?_
            simp [go_sem, qE (hD.1 rfl _ rfl), k2, bl]
          case s7 =>
            refine qV (fun _ => rfl) rfl fun av wv hE hO hD => ?_
            simp [go_sem, qF av 0 (.string seed) (hO.2.2 0 rfl), k2, bl]
          case s8 =>
            refine qV (fun _ => rfl) rfl fun av wv hE hO hD => ?_
            simp [go_sem, qF av 13 (.int .i64 (j : Nat)) (hO.2.2 13 rfl), k2, bl]
          case s9 =>
            refine qV (fun _ => rfl) rfl fun av wv hE hO hD => ?_
            simp [go_sem, qE (hD.1 rfl _ rfl), k2, bl]
          case s10 =>
            refine step_wp (fun av wv hE hS hO hD => ⟨rfl, ?_⟩)
            have f60 := qE (hD.1 rfl _ rfl)
            have f62 := qE (hD.2.1 rfl _ rfl)
            refine wp_of_call (v := .string P) (by simp [go_sem, f60, f62]) (HPB.out wv) (fun w2 hb => ⟨_, rfl, es_of_ext hb, rfl⟩)
          case s11 =>
            refine step_wp (fun av wv hE hS hO hD => ⟨rfl, ?_⟩)
            have f59 := qE (hD.1 rfl _ rfl)
            have f63 := qE (hD.2.1 rfl _ rfl)
            refine wp_of_call (v := .string y) (by simp [go_sem, f59, f63]) (HRG.out wv) (fun w2 hb => ⟨_, rfl, es_of_ext hb, rfl⟩)
          case s12 =>
            refine step_wp (fun av wv hE hS hO hD => ⟨rfl, ?_⟩)
            have f64 := qE (hD.1 rfl _ rfl)
            refine wp_of_run (v := .slice (some ⟨wv.heap.size, 0, none⟩) 1 1) (w' := wv.alloc (.cells #[.string y] 9)) (by simp [go_sem, f64]) ⟨_, rfl, es_of_ext (balloc (Ext_refl _) _), wv.heap.size, rfl, ?_, heap_alloc_new _ _⟩
            exact own_ge HO.out (by have := hE.size; simp at this; omega)
          case s13 =>
            refine step_wp (fun av wv hE hS hO hD => ⟨rfl, ?_⟩)
            have d57 : av.eval (.tmp 57) = (vv) := hD.1 rfl _ rfl
            have d65 : (fun u w' => ∃ b, u = .slice (some ⟨b, 0, none⟩) 1 1 ∧ some b ≠ vv.ownBlock ∧ w'.heap[b]? = some (.cells #[.string y] 9 (0, 0))) (av.eval (.tmp 65)) wv := hD.2.1 rfl _ rfl
            obtain ⟨b27, h27, hb27, hc27⟩ := d65
            have hown1 : wv.ownsRow w1.heap.size 9 1 vv j ((rungL seed j).map Value.string) := own_below (w := wr.drew) HO.out (hS rfl)
            refine wp_append_lies wv _ _ _ rfl w1.heap.size 9 i0 (.string ⟨#[]⟩) 1 16 Tryz.underlying22 hi HZ.out hz1 hz2 rfl (by decide) vv j _ d57 hown1 ⟨b27, 0, none⟩ 1 1 [.string y] (by exact h27) rfl (World.news_of_block hc27) (by intro u hu; simp at hu; rcases hu with rfl; rfl) (by decide) (by unfold maxLen; omega) (by omega) (by have := hE.size; have := HBS.out; simp at *; omega) _ rfl ?_
            intro g2 cap2 w2 hown2 hgrow hat hlt2
            exact ⟨_, rfl, es_sp hgrow, hown2⟩
          intro a' w' hE hO hall
          have hA := act_of_outer (ds := [53, 54, 55, 56, 57, 58, 59, 60, 61, 62, 63, 64, 65, 66]) rfl hO (by kernel_rfl)
          obtain ⟨j0, j1, j2, j3, j4, j5, j6, j7, j8, j9, j10, j11, j12, j13, -⟩ := hall
          have e65 : (fun u w' => ∃ b, u = .slice (some ⟨b, 0, none⟩) 1 1 ∧ some b ≠ vv.ownBlock ∧ w'.heap[b]? = some (.cells #[.string y] 9 (0, 0))) (a'.eval (.tmp 65)) w' := j12 _ rfl
          have e66 : (fun u w' => w'.ownsRow w1.heap.size 9 1 u (j + 1) ((rungL seed j).map Value.string ++ [.string y])) (a'.eval (.tmp 66)) w' := j13 _ rfl
          obtain ⟨v65, hv65⟩ : ∃ v, a'.eval (.tmp 65) = v := ⟨_, rfl⟩
          rw [hv65] at e65
          obtain ⟨v66, hv66⟩ : ∃ v, a'.eval (.tmp 66) = v := ⟨_, rfl⟩
          rw [hv66] at e66
          simp only [List.foldl_cons, List.foldl_nil, Act.put, List.setIfInBounds_toArray, List.set_cons_succ, List.set_cons_zero, qJ 53 (j0 _ rfl), qJ 54 (j1 _ rfl), qJ 55 (j2 _ rfl), qJ 56 (j3 _ rfl), qJ 57 (j4 _ rfl), qJ 58 (j5 _ rfl), qJ 59 (j6 _ rfl), qJ 60 (j7 _ rfl), qJ 61 (j8 _ rfl), qJ 62 (j9 _ rfl), qJ 63 (j10 _ rfl), qJ 64 (j11 _ rfl), hv65, hv66] at hA
          clear hO j12 j13 j0 j1 j2 j3 j4 j5 j6 j7 j8 j9 j10 j11 hv65 hv66
          subst hA
          obtain ⟨g9, c9, rfl⟩ := ownsRow_succ e66
          have HLB2 : Hid (w'.heap[lb]? = some (.cells #[.string seed, .int .u64 (f : Nat), .int .u64 (L : Nat), vv] 77 (0, 0))) := Lib.hid (extB_block hE hne HLB.out)
          have HO2 : Hid (w'.ownsRow w1.heap.size 9 1 (.slice (some ⟨g9, 0, none⟩) (j + 1) c9) (j + 1) ((rungL seed (j + 1)).map Value.string)) := Lib.hid (by
            unfold rungL
            rw [chL_snoc, List.map_append, HY.out]
            exact e66)
          have HB2 : Hid (Below w.heap.size w w') := Lib.hid (grownBy_below (bdrew HB.out) hE (fun k9 hk' => Nat.le_trans (Nat.le_of_lt (Nat.lt_of_le_of_lt HLO.out HLS.out)) (HO.out.lt k9 hk').1))
          have HBS2 : Hid (w1.heap.size ≤ w'.heap.size) := Lib.hid (Nat.le_trans HBS.out hE.size)
          clear hE e65 e66 c3 hne
          simp only [List.drop_succ_cons, List.drop_zero]
          have z0 := fun o => block_cell HLB2.out o
          have z1 : ∀ o, w'.frozen? ⟨lb, o, none⟩ = false := block_free HLB2.out
          have z2 : lb < w'.heap.size := lt_of_block HLB2.out
          go_wp2
          have HLB3 := Lib.hid (block_setCell HLB2.out (o := 3) (.slice (some ⟨g9, 0, none⟩) (j + 1) c9))
          have HO3 : Hid ((w'.setCell ⟨lb, 3, none⟩ (.slice (some ⟨g9, 0, none⟩) (j + 1) c9)).ownsRow w1.heap.size 9 1 (.slice (some ⟨g9, 0, none⟩) (j + 1) c9) (j + 1) ((rungL seed (j + 1)).map Value.string)) := Lib.hid (HO2.out.kept (grownBy_setO _ _ _ _) (.inr (fun e => by
            have h9 := HO2.out.lt g9 rfl
            have h8 := HLS.out
            have h7 : g9 = lb := by simpa [Value.ownBlock] using e
            omega)))
          go_roundg (gk - 1)
          case rel => exact ⟨j + 1, by have := HM.out; have := HLT.out; omega, congrArg (Value.int .i64) (by omega), _, HLB3, HO3, Lib.hid (bset HB2.out HLO.out _), Lib.hid (by simp [World.setCell]; exact HBS2.out)⟩
          case measure => have := HM.out; have := HLT.out; omega
        · obtain rfl : m = j := by omega
          have b0 : ¬ ((m : Nat) : Int) < (m : Int) := by omega
          obtain ⟨aa, ca, hv, hta, hca, -⟩ := TextsAre.own HO.out
          rw [rungL_len] at hv hca
          subst hv
          have HTA := Lib.hid hta
          have HCA := Lib.hid hca
          clear hta hca hm hlt
          go_wp2
          go_ret2
          exact ⟨Or.inr ⟨HN0.out, lb, aa, ca, rfl, ⟨HLB.out, by rw [Int.toNat_natCast]; exact HTA.out⟩, by rw [Int.toNat_natCast]; exact HCA.out⟩, HB.out⟩
end Go.Proofs.YtoafjbillcooiaaGreat
namespace Go.Proofs.YtoafjbillcooiaaGreat
open Go.RowKit
set_option linter.unusedSimpArgs false
set_option linter.unusedVariables false
def SignIs (S : SigD) (E : Int) (w : World) (e : Ending) (w' : World) : Prop := ∃ v p, e = .returned (.tuple #[.agg #[.int .u64 S.ix, v, p], .int .i64 E]) ∧ TextsAre S.ws v w' ∧ TextsAre S.ps p w' ∧ Below w.heap.size w w'
theorem TextsAt.setL {B b o : Nat} {L : List ByteArray} {v : Value} {w : World} (h : TextsAt B L v w) (hlt : b < B) (x : Value) : TextsAt B L v (w.setCell ⟨b, o, none⟩ x) := by
  obtain ⟨a, c, h1, h2, h3⟩ := h
  refine ⟨a, c, h1, fun i hi => ?_, h3⟩
  obtain ⟨b9, off, h4, h5, h6⟩ := h2 i hi
  refine ⟨b9, off, h4, h5, ?_⟩
  rw [World.cell?_of_block (w := w) (a := ⟨b9, off + i, none⟩) (Below.heap_setCell _ _ _ _ (fun e => by have : b9 = b := e; omega))]
  exact h6
theorem SgB.sig {seed d : ByteArray} {f L K k lb tb xb kb db sb k9 : Nat} {v p : Value} {w w' : World} (h : SgB seed d f L K k lb tb xb kb db w) (hs : SigB sb k9 v p w) (hb : ExtB (some sb) w w') : SgB seed d f L K k lb tb xb kb db w' :=
  ⟨⟨extB_block hb (sig_ne hs h.l.c (by decide)) h.l.c, h.l.t.sig hs hb⟩, extB_block hb (sig_ne hs h.x (by decide)) h.x, extB_block hb (sig_ne hs h.k (by decide)) h.k, extB_block hb (sig_ne hs h.d (by decide)) h.d⟩
def sgF (j : Nat) : FuncId := if j = 0 then 84 else 86
def sgC (xb kb db sb j : Nat) : Array Value := if j = 0 then #[.pointer (some ⟨xb, 0, none⟩), .pointer (some ⟨kb, 0, none⟩), .pointer (some ⟨db, 0, none⟩), .pointer (some ⟨sb, 0, none⟩)] else #[.pointer (some ⟨xb, 0, none⟩), .pointer (some ⟨kb, 0, none⟩), .pointer (some ⟨sb, 0, none⟩)]
structure SgQ (seed d : ByteArray) (f L K k lb tb xb kb db sb rb fb : Nat) (w0 : World) (j : Nat) (w : World) : Prop where
  b : SgB seed d f L K k lb tb xb kb db w
  r : w.heap[fb]? = some (.cells #[.func (.func 84) #[] (sgC xb kb db sb 0), .func (.func 86) #[] (sgC xb kb db sb 1)] 120 (0, 0))
  z : w.heap[rb]? = some (.cells #[.int .u64 0, .slice none 0 0, .slice none 0 0] 54 (0, 0))
  s : ∃ a1 m1 p1 a2 m2 p2, SigB sb k (.slice a1 m1 p1) (.slice a2 m2 p2) w ∧ (1 ≤ j → TextsAt (sb + 1) (sgL seed k d) (.slice a1 m1 p1) w ∧ d.size = 32) ∧ (2 ≤ j → TextsAt (sb + 1) (oneD (rungL seed K) k) (.slice a2 m2 p2) w)
  w : Below w0.heap.size w0 w
theorem SgQ.below {seed d : ByteArray} {f L K k lb tb xb kb db sb rb fb : Nat} {w0 : World} {j : Nat} {w w' : World} (h : SgQ seed d f L K k lb tb xb kb db sb rb fb w0 j w) (hb : Below w.heap.size w w') : SgQ seed d f L K k lb tb xb kb db sb rb fb w0 j w' := by
  obtain ⟨a1, m1, p1, a2, m2, p2, h1, h2, h3⟩ := h.s
  exact ⟨h.b.below hb, (hb.block _ (lt_of_block h.r)).trans h.r, (hb.block _ (lt_of_block h.z)).trans h.z, ⟨a1, m1, p1, a2, m2, p2, (hb.block _ (lt_of_block h1)).trans h1, fun hj => ⟨(h2 hj).1.below hb, (h2 hj).2⟩, fun hj => (h3 hj).below hb⟩, bnext h.w hb⟩
def SgA (seed d : ByteArray) (f L K k lb tb xb kb db sb rb fb : Nat) (w0 : World) (x : Int) (w' : World) : Prop := x = sgE d ∧ Below w0.heap.size w0 w' ∧ w'.heap[rb]? = some (.cells #[.int .u64 0, .slice none 0 0, .slice none 0 0] 54 (0, 0)) ∧ (x = 0 → SgQ seed d f L K k lb tb xb kb db sb rb fb w0 2 w')
theorem sgfirst_any (seed d : ByteArray) (f L K k lb tb xb kb db sb rb fb : Nat) (w0 w : World) (h : SgQ seed d f L K k lb tb xb kb db sb rb fb w0 0 w) (hsb : w0.heap.size ≤ sb) (hrs : rb ≠ sb) (hk : k < K) (hK : K ≤ 64) (hsd : seed.size ≤ 1000) :
    Calls Tryz.prog 78 #[.slice (some ⟨fb, 0, none⟩) 2 2] w fun e w' => ∃ x, e = .returned (.int .i64 x) ∧ SgA seed d f L K k lb tb xb kb db sb rb fb w0 x w' :=
  lfirst_any 2 fb sgF (sgC xb kb db sb) (SgQ seed d f L K k lb tb xb kb db sb rb fb w0) (SgA seed d f L K k lb tb xb kb db sb rb fb w0) w (by decide)
    (fun k => by
      unfold sgF
      split
      · exact enters_of Tryz.func84 (by kernel_rfl) rfl
      · exact enters_of Tryz.func86 (by kernel_rfl) rfl)
    (fun j w1 w2 h hb => h.below hb)
    (fun j hj w1 h => by
      rcases (by omega : j = 0 ∨ j = 1) with rfl | rfl
      · exact block_cell h.r 0
      · exact block_cell h.r 1)
    h
    (fun j hj w1 hw h => by
      obtain ⟨a1, m1, p1, a2, m2, p2, h1, h2, h3⟩ := h.s
      have keep : ∀ w2, ExtB (some sb) w1 w2 → SgB seed d f L K k lb tb xb kb db w2 ∧ w2.heap[fb]? = w1.heap[fb]? ∧ w2.heap[rb]? = w1.heap[rb]? ∧ Below w0.heap.size w0 w2 := fun w2 hx =>
        ⟨h.b.sig h1 hx, hx.block _ (lt_of_block h.r) (sig_ne h1 h.r (by decide)), hx.block _ (lt_of_block h.z) (fun e => hrs (Option.some.inj e)), grownBy_below h.w hx (fun q hq => by cases hq; exact hsb)⟩
      rcases (by omega : j = 0 ∨ j = 1) with rfl | rfl
      · refine (sign1_any seed d f L K k lb tb xb kb db sb a1 a2 m1 m2 p1 p2 w1 h.b h1 (by omega) hsd).mono ?_
        rintro e w2 ⟨rfl, ⟨v, h4, h5⟩, hx⟩
        obtain ⟨k1, k2, k3, k4⟩ := keep w2 hx
        obtain ⟨a3, c3, rfl, h6⟩ := h5.lit
        refine ⟨_, rfl, fun h0 => ⟨k1, k2.trans h.r, k3.trans h.z, ⟨a3, _, c3, a2, m2, p2, h4, fun _ => ⟨h6, ?_⟩, fun h9 => by omega⟩, k4⟩, fun h0 => ⟨rfl, k4, k3.trans h.z, fun hz => absurd hz h0⟩, Nat.le_trans hw hx.size⟩
        unfold sgE at h0
        by_cases h32 : d.size = 32
        · exact h32
        · rw [if_neg h32] at h0; cases h0
      · refine (sign2_any seed d f L K k lb tb xb kb db sb a1 a2 m1 m2 p1 p2 w1 h.b h1 hk hK).mono ?_
        rintro e w2 ⟨rfl, ⟨v, h4, h5⟩, hx⟩
        obtain ⟨k1, k2, k3, k4⟩ := keep w2 hx
        obtain ⟨a3, c3, rfl, h6⟩ := h5.lit
        have h7 := h2 (Nat.le_refl _)
        exact ⟨0, rfl, fun _ => ⟨k1, k2.trans h.r, k3.trans h.z, ⟨a1, m1, p1, a3, _, c3, h4, fun _ => ⟨h7.1.keep hx, h7.2⟩, fun _ => h6⟩, k4⟩, fun h0 => absurd rfl h0, Nat.le_trans hw hx.size⟩)
    (fun w1 h => by
      obtain ⟨a1, m1, p1, a2, m2, p2, h1, h2, h3⟩ := h.s
      exact ⟨by unfold sgE; rw [if_pos (h2 (by decide)).2], h.w, h.z, fun _ => h⟩)
theorem signD_no {seed d : ByteArray} {f L K r : Nat} (h : keyO f L K r = none) : signD seed f L K r d = ⟨0, [], []⟩ ∧ signE f L K r d = 16 := by
  unfold signD signE
  rw [h]
  exact ⟨rfl, rfl⟩
theorem signD_bad {seed d : ByteArray} {f L K r k : Nat} (h : keyO f L K r = some k) (hd : d.size ≠ 32) : signD seed f L K r d = ⟨0, [], []⟩ ∧ signE f L K r d = 2 := by
  unfold signD signE
  rw [h]
  exact ⟨if_neg hd, if_neg hd⟩
theorem signD_ok {seed d : ByteArray} {f L K r k : Nat} (h : keyO f L K r = some k) (hd : d.size = 32) : signD seed f L K r d = ⟨(k : Nat), sgL seed k d, oneD (rungL seed K) k⟩ ∧ signE f L K r d = 0 := by
  unfold signD signE sgL
  rw [h, if_pos hd]
  exact ⟨if_pos hd, if_pos hd⟩
set_option maxRecDepth 100000 in
set_option maxHeartbeats 4000000 in
theorem sign14_any (seed d : ByteArray) (f L K lb tb r : Nat) (w : World) (h : LadAt seed f L K lb tb w) (hf : f < 18446744073709551616) (hr : r < 18446744073709551616) (hL : 0 < L) (hK : K ≤ 64) (hsd : seed.size ≤ 1000) :
    Calls Tryz.prog 31 #[.pointer (some ⟨lb, 0, none⟩), .int .u64 (r : Nat), .string d] w (SignIs (signD seed f L K r d) (signE f L K r d) w) := by
  have H := Lib.hid h
  have HKY := Lib.hid (fun wv => lkey_any f L K r wv hf hr hL)
  have HK := Lib.hid hK
  have HSD := Lib.hid hsd
  clear h hf hr hL hK hsd
  go_enter Tryz.func31, Tryz.ntmps31
  go_upto_region 1 with fail
  obtain ⟨xb, hxb⟩ : ∃ xb, w.heap.size = xb := ⟨_, rfl⟩
  obtain ⟨V, hV⟩ : ∃ V, (((w.alloc (.cells #[.pointer (some ⟨lb, 0, none⟩)] 68)).alloc (.cells #[.string d] 9)).alloc (.cells #[.int .u64 0, .slice none 0 0, .slice none 0 0] 54)) = V := ⟨_, rfl⟩
  have HXB : Hid (w.heap.size ≤ xb) := Lib.hid (Nat.le_of_eq hxb)
  have HVB : Hid (Below w.heap.size w V) := Lib.hid (by rw [← hV]; exact balloc (balloc (balloc (Below.refl _ _) _) _) _)
  have HVS : Hid (V.heap.size = xb + 3) := Lib.hid (by rw [← hV, ← hxb]; simp)
  have HX : Hid (V.heap[xb]? = some (.cells #[.pointer (some ⟨lb, 0, none⟩)] 68 (0, 0))) := Lib.hid (by rw [← hV]; exact block_alloc (block_alloc (alloc_new_at _ hxb) _) _)
  have HD : Hid (V.heap[xb + 1]? = some (.cells #[.string d] 9 (0, 0))) := Lib.hid (by rw [← hV]; exact block_alloc (alloc_new_at _ (by simp; omega)) _)
  have HR : Hid (V.heap[xb + 2]? = some (.cells #[.int .u64 0, .slice none 0 0, .slice none 0 0] 54 (0, 0))) := Lib.hid (by rw [← hV]; exact alloc_new_at _ (by simp; omega))
  have h03 : w.heap.size + 1 + 1 = xb + 2 := by omega
  have h02 : w.heap.size + 1 = xb + 1 := by omega
  rw [hV, h03, h02, hxb]
  have HLV := Lib.hid (H.out.below HVB.out)
  have cx : V.cell? ⟨xb, 0, none⟩ = some (.pointer (some ⟨lb, 0, none⟩)) := block_cell HX.out 0
  have c0 : V.cell? ⟨lb, 0, none⟩ = some (.int .u64 (f : Nat)) := block_cell HLV.out.c 0
  have c1 : V.cell? ⟨lb, 1, none⟩ = some (.int .u64 (L : Nat)) := block_cell HLV.out.c 1
  have c2 : V.cell? ⟨lb, 2, none⟩ = some (.int .u64 (K : Nat)) := block_cell HLV.out.c 2
  clear hxb hV h03 h02
  go_wp2_with fail
  refine (HKY.out _).mono ?_
  rintro e w1 ⟨rfl, hb⟩
  have HB1 := Lib.hid hb
  have HR1 := Lib.hid ((hb.block _ (lt_of_block HR.out)).trans HR.out)
  unfold keyV
  clear hb c0 c1 c2 cx
  cases hk : keyO f L K r with
  | none =>
    have HS := Lib.hid (signD_no (seed := seed) (d := d) hk)
    dsimp only [Option.getD, Option.isSome]
    clear hk
    have z0 := fun o => block_cell HR1.out o
    have z1 : ∀ o, w1.frozen? ⟨xb + 2, o, none⟩ = false := block_free HR1.out
    have z2 : xb + 2 < w1.heap.size := lt_of_block HR1.out
    go_wp2
    have hk9 := block_alloc (block_setCell (block_setCell (block_setCell HR1.out (o := 0) (.int .u64 0)) (o := 1) (.slice none 0 0)) (o := 2) (.slice none 0 0)) (.cells #[.int .u64 0] 37)
    have e0 := block_cell hk9 0
    have e1 := block_cell hk9 1
    have e2 := block_cell hk9 2
    have hlo : w.heap.size ≤ xb + 2 := by have := HXB.out; omega
    refine bodyPost_ret (v := .tuple #[.agg #[.int .u64 0, .slice none 0 0, .slice none 0 0], .int .i64 16]) ?_ rfl ⟨.slice none 0 0, .slice none 0 0, by rw [HS.out.1, HS.out.2], by rw [HS.out.1]; exact TextsAre.nil _, by rw [HS.out.1]; exact TextsAre.nil _, balloc (bset (bset (bset (bnext HVB.out HB1.out) hlo _) hlo _) hlo _) _⟩
    simp [results, Tryz.results31, go_sem, e0, e1, e2]
  | some k =>
    have HK9 := Lib.hid hk
    dsimp only [Option.getD, Option.isSome]
    clear hk
    obtain ⟨s1, hs1⟩ : ∃ s1, w1.heap.size = s1 := ⟨_, rfl⟩
    go_wp2_with fail
    obtain ⟨V2, hV2⟩ : ∃ V2, (((w1.alloc (.cells #[.int .u64 (k : Nat)] 37)).alloc (.cells #[.int .u64 (k : Nat), .slice none 0 0, .slice none 0 0] 54)).alloc (.cells #[.func (.func 84) #[] #[.pointer (some ⟨xb, 0, none⟩), .pointer (some ⟨s1, 0, none⟩), .pointer (some ⟨xb + 1, 0, none⟩), .pointer (some ⟨s1 + 1, 0, none⟩)], .func (.func 86) #[] #[.pointer (some ⟨xb, 0, none⟩), .pointer (some ⟨s1, 0, none⟩), .pointer (some ⟨s1 + 1, 0, none⟩)]] 120)) = V2 := ⟨_, rfl⟩
    have hb2 : Below w1.heap.size w1 V2 := by rw [← hV2]; exact balloc (balloc (balloc (Below.refl _ _) _) _) _
    have hs9 : s1 < V2.heap.size := by rw [← hV2]; simp; omega
    have hd1 := (HB1.out.block _ (lt_of_block HD.out)).trans HD.out
    have hx1 := (HB1.out.block _ (lt_of_block HX.out)).trans HX.out
    have hq : SgQ seed d f L K k lb tb xb s1 (xb + 1) (s1 + 1) (xb + 2) (s1 + 1 + 1) w 0 V2 := by
      refine ⟨⟨(HLV.out.below HB1.out).below hb2, (hb2.block _ (lt_of_block hx1)).trans hx1, ?_, (hb2.block _ (lt_of_block hd1)).trans hd1⟩, ?_, (hb2.block _ (lt_of_block HR1.out)).trans HR1.out, ⟨none, 0, 0, none, 0, 0, ?_, fun h => by omega, fun h => by omega⟩, bnext (bnext HVB.out HB1.out) hb2⟩
      · rw [← hV2]; exact block_alloc (block_alloc (alloc_new_at _ hs1) _) _
      · rw [← hV2]; exact alloc_new_at _ (by simp; omega)
      · rw [← hV2]; exact block_alloc (alloc_new_at _ (by simp; omega)) _
    have HQ := Lib.hid hq
    have HS1 : Hid (w.heap.size ≤ s1) := Lib.hid (by rw [← hs1]; exact (bnext HVB.out HB1.out).size)
    have HX3 : Hid (xb + 2 < s1) := Lib.hid (by rw [← hs1]; exact lt_of_block HR1.out)
    rw [hV2]
    clear hV2 hb2 hs9 hd1 hx1 hq hs1
    refine (sgfirst_any seed d f L K k lb tb xb s1 (xb + 1) (s1 + 1) (xb + 2) (s1 + 1 + 1) w V2 HQ.out (by have := HS1.out; omega) (by have := HX3.out; omega) (keyO_some HK9.out).2.2 HK.out HSD.out).mono ?_
    rintro e w2 ⟨x, rfl, hx, hb, hz, hq⟩
    have HX9 := Lib.hid hx
    have HB2 := Lib.hid hb
    have hlo : w.heap.size ≤ xb + 2 := by have := HXB.out; omega
    have HLO := Lib.hid hlo
    have HR2 := Lib.hid hz
    have z0 := fun o => block_cell HR2.out o
    have z1 : ∀ o, w2.frozen? ⟨xb + 2, o, none⟩ = false := block_free HR2.out
    have z2 : xb + 2 < w2.heap.size := lt_of_block HR2.out
    by_cases h0 : x = 0
    · obtain ⟨a1, m1, p1, a2, m2, p2, h1, h2, h3⟩ := (hq h0).s
      have HV := Lib.hid (h2 (by decide))
      have HP := Lib.hid (h3 (by decide))
      have HS := Lib.hid (signD_ok HK9.out (h2 (by decide)).2 (seed := seed))
      have cs := fun o => block_cell h1 o
      subst h0
      clear hx hb hz hq h1 h2 h3 hlo
      go_wp2
      have hk9 := block_setCell (block_setCell (block_setCell HR2.out (o := 0) (.int .u64 (k : Nat))) (o := 1) (.slice a1 m1 p1)) (o := 2) (.slice a2 m2 p2)
      have e0 := block_cell hk9 0
      have e1 := block_cell hk9 1
      have e2 := block_cell hk9 2
      have hlt : xb + 2 < s1 + 1 + 1 := by have := HX3.out; omega
      refine bodyPost_ret (v := .tuple #[.agg #[.int .u64 (k : Nat), .slice a1 m1 p1, .slice a2 m2 p2], .int .i64 0]) ?_ rfl ⟨.slice a1 m1 p1, .slice a2 m2 p2, by rw [HS.out.1, HS.out.2], by rw [HS.out.1]; exact (((HV.out.1.setL hlt _).setL hlt _).setL hlt _).are, by rw [HS.out.1]; exact (((HP.out.setL hlt _).setL hlt _).setL hlt _).are, bset (bset (bset HB2.out HLO.out _) HLO.out _) HLO.out _⟩
      simp [results, Tryz.results31, go_sem, e0, e1, e2]
    · have HS : Hid (signD seed f L K r d = ⟨0, [], []⟩ ∧ signE f L K r d = x) := Lib.hid (by
        unfold sgE at hx
        by_cases h32 : d.size = 32
        · rw [if_pos h32] at hx; exact absurd hx h0
        · rw [if_neg h32] at hx
          rw [hx]
          exact signD_bad HK9.out h32)
      clear hx hb hz hq hlo
      go_wp2
      have hk9 := block_setCell (block_setCell (block_setCell HR2.out (o := 0) (.int .u64 0)) (o := 1) (.slice none 0 0)) (o := 2) (.slice none 0 0)
      have e0 := block_cell hk9 0
      have e1 := block_cell hk9 1
      have e2 := block_cell hk9 2
      refine bodyPost_ret (v := .tuple #[.agg #[.int .u64 0, .slice none 0 0, .slice none 0 0], .int .i64 x]) ?_ rfl ⟨.slice none 0 0, .slice none 0 0, by rw [HS.out.1, HS.out.2], by rw [HS.out.1]; exact TextsAre.nil _, by rw [HS.out.1]; exact TextsAre.nil _, bset (bset (bset HB2.out HLO.out _) HLO.out _) HLO.out _⟩
      simp [results, Tryz.results31, go_sem, e0, e1, e2]
end Go.Proofs.YtoafjbillcooiaaGreat
namespace Go.Proofs.YtoafjbillcooiaaGreat
open Go.RowKit Go.ChangeMaps
set_option linter.unusedSimpArgs false
set_option linter.unusedVariables false
theorem dgsL_len (els : List ByteArray) (L : List (Int × Int)) : len (dgsL els L) = L.length := by unfold dgsL; rw [len_eq, List.length_map]
set_option maxRecDepth 100000 in
set_option maxHeartbeats 8000000 in
theorem rprove_ok (els : List ByteArray) (ae : Option Addr) (ce : Nat) (l : List Int) (a : Option Addr) (cap : Nat) (w : World) (ht : Txts w ae els) (hn : len els ≤ 65536) (hz : ∀ i, i < len els → (tth els i).size ≤ 140737488355200) (h : U64s w a l) (hl : len l ≤ 100) (hu : ∀ k ∈ l, U64 k) (hb : MayOk (len els : Nat) l) :
    Calls Tryz.prog 66 #[.slice ae (len els) ce, .slice a (len l) cap] w (ProofIs (dgsL els (plcL (len els : Nat) l)) 0 w) := by
  have HM := Lib.hid (rmay_any (len els : Nat) l a cap w h (by omega) (by omega) (by omega))
  rw [decide_eq_true hb] at HM
  have HT := Lib.hid ht
  have HNE := Lib.hid hn
  have HZE := Lib.hid hz
  have H := Lib.hid h
  have HU := Lib.hid hu
  obtain ⟨d, hd⟩ : ∃ d, depN els = d := ⟨_, rfl⟩
  have HDD := Lib.hid hd
  have HD16 : Hid (d ≤ 16) := Lib.hid (by rw [← hd]; exact depN_le hn)
  have HPL : Hid (plcL (len els : Nat) l = flatLv (needsL (leavesL l d) d)) := Lib.hid (by unfold plcL; rw [depthZ_len hn, hd])
  have HDZ := Lib.hid (fun w9 => refDepth_any (len els : Nat) w9 (by omega) (by omega))
  rw [depthZ_len hn, hd] at HDZ
  have HN := Lib.hid hl
  have HPB : Hid (∀ x ∈ flatLv (needsL (leavesL l d) (d : Nat)), ∃ i k : Nat, x = ((i : Int), (k : Int)) ∧ i < d ∧ k < 2 ^ (d - i)) := Lib.hid (plc_bd HD16.out (leaves_in HD16.out))
  obtain ⟨i0, hi, hz0, hz1, hz2⟩ := info_parts info_str
  have HZ0 := Lib.hid hz0
  clear ht hn hz h hu hb hd hl hz0
  go_enter Tryz.func66, Tryz.ntmps66
  go_wp2_with fail
  refine HM.out.mono ?_
  rintro e w1 ⟨rfl, hb1⟩
  have HB1 := Lib.hid hb1
  clear hb1 HM
  go_wp2_with fail
  refine (HDZ.out _).mono ?_
  rintro e w2 ⟨rfl, rfl⟩
  go_wp2_with fail
  refine (rleaves_any l a cap (d : Nat) w1 (H.out.below HB1.out) (by have := HN.out; omega) HU.out (by have := HD16.out; omega) (by have := HD16.out; omega)).mono ?_
  rintro e w2 ⟨a2, cap2, rfl, hl2, hb2⟩
  have HL2 := Lib.hid hl2
  have HB2 : Hid (Below w.heap.size w w2) := Lib.hid (bnext HB1.out hb2)
  clear hl2 hb2
  have HND := Lib.hid (refNeeds_any a2 cap2 (leavesL l d) (d : Nat) w2 HL2.out (by rw [leavesL_len]; exact HN.out) (leavesL_u64 l d))
  rw [leavesL_len] at HND
  go_wp2_with fail
  refine HND.out.mono ?_
  rintro e w3 ⟨v, vals, rfl, hr1, hr2, hb3⟩
  obtain ⟨rs, hrs⟩ : ∃ rs, needsL (leavesL l d) d = rs := ⟨_, rfl⟩
  have HR1 : Hid (len rs ≤ 16) := Lib.hid (by rw [← hrs]; exact len_nl _ _)
  have HR2 : Hid (∀ i, len (rnth rs i) ≤ 100) := Lib.hid (by rw [← hrs]; exact rnth_nl _ _ (by rw [leavesL_len]; exact HN.out))
  have HR3 : Hid ((flatLv rs).length ≤ 1600) := Lib.hid (by rw [← hrs]; exact flat_bd _ _ (by rw [leavesL_len]; exact HN.out))
  rw [hrs] at hr2 HPL HPB
  obtain ⟨a3, cap3, hv, hR3, hc4, hc5⟩ := rows2_of hr1 hr2
  subst hv
  have R3 := Lib.hid hR3
  have HB3 : Hid (Below w.heap.size w w3) := Lib.hid (bnext HB2.out hb3)
  clear hr1 hr2 hb3 hR3 hrs HND hc4 hc5
  have HT3 := Lib.hid (HT.out.below HB3.out)
  have HO0 : Hid (w3.ownsRow w3.heap.size 9 1 (.slice none 0 0) (len (dgsL els (flatAt rs 0 0))) ((dgsL els (flatAt rs 0 0)).map Value.string)) := Lib.hid (World.ownsRow_nil _ _ _ _)
  clear HB1 HB2 HL2 HDZ
  go_upto_region 7 with fail
  go_loopg [9, 8] (len rs) (fun g i v wr => ∃ m : Nat, g + m = len rs ∧ i = .int .i64 m ∧ Hid (wr.ownsRow w3.heap.size 9 1 v (len (dgsL els (flatAt rs m 0))) ((dgsL els (flatAt rs m 0)).map Value.string)) ∧ Hid (Below w3.heap.size w3 wr))
  case atStart => exact ⟨0, rfl, rfl, HO0, Lib.hid (Below.refl _ _)⟩
  case round =>
    clear HO0
    obtain ⟨m, hm, rfl, HO, HB⟩ := hrel
    have hb1 := HR1.out
    by_cases hlt : m < len rs
    · have b1 : (m : Int) < len rs := by omega
      obtain ⟨rb, ro, ra, rc, rfl, hrc, hru, -⟩ := R3.out m hlt
      have HRC := Lib.hid hrc
      have HRU := Lib.hid hru
      obtain ⟨row, hrow⟩ : ∃ row, rnth rs m = row := ⟨_, rfl⟩
      have HROW := Lib.hid hrow
      have HRL : Hid (len row ≤ 100) := Lib.hid (by rw [← hrow]; exact HR2.out m)
      rw [hrow] at HRC HRU
      have hrl := HRL.out
      have HM9 := Lib.hid hm
      obtain ⟨GK, hGK⟩ : ∃ G, G = gk := ⟨_, rfl⟩
      subst hGK
      have hrc2 := (HB.out.cell (p := ⟨rb, ro + m, none⟩) (lt_of_cell HRC.out)).trans HRC.out
      clear hrc hru hrow hm
      go_upto_region 10 with fail
      clear hrc2
      go_loopg [10, 8] (len row) (fun g j v wr => ∃ q : Nat, g + q = len row ∧ j = .int .i64 q ∧ Hid (wr.ownsRow w3.heap.size 9 1 v (len (dgsL els (flatAt rs m q))) ((dgsL els (flatAt rs m q)).map Value.string)) ∧ Hid (Below w3.heap.size w3 wr))
      case atStart => exact ⟨0, rfl, rfl, HO, HB⟩
      case round =>
        clear HO HB
        obtain ⟨q, hq, rfl, HO, HB⟩ := hrel
        have bm : ¬ len rs ≤ m := by omega
        have cr := (HB.out.cell (p := ⟨rb, ro + m, none⟩) (lt_of_cell HRC.out)).trans HRC.out
        have lcr := lt_of_cell cr
        by_cases hlq : q < len row
        · have b2 : (q : Int) < len row := by omega
          obtain ⟨ub, uo, rfl, hk⟩ := (HRU.out.below HB.out) q hlq
          have lck := lt_of_cell hk
          have hmem : ((m : Int), nth row q) ∈ flatLv rs := by
            have h9 := flat_at rs m q hlt (by rw [HROW.out]; exact hlq)
            rw [HROW.out] at h9
            exact List.mem_of_getElem? h9
          obtain ⟨i9, k, hx, hi9, hk9⟩ := HPB.out _ hmem
          have e1 : i9 = m := by have := congrArg Prod.fst hx; simp only at this; omega
          have e2 : nth row q = ((k : Nat) : Int) := congrArg Prod.snd hx
          subst e1
          rw [e2] at hk
          have HDG := Lib.hid (rdigest_any els ae ce d HD16.out HNE.out HZE.out i9 k wr (by omega) hk9 (HT3.out.below HB.out))
          obtain ⟨X9, hX9⟩ : ∃ X9, plD els d i9 k = X9 := ⟨_, rfl⟩
          rw [hX9] at HDG
          have HSN : Hid (dgsL els (flatAt rs i9 (q + 1)) = dgsL els (flatAt rs i9 q) ++ [X9]) := Lib.hid (by
            rw [flatAt_next rs i9 q (by rw [HROW.out]; exact hlq), dgsL_snoc, HROW.out, e2, HDD.out, ← hX9]
            simp)
          obtain ⟨P9, hP9⟩ : ∃ P9, dgsL els (flatAt rs i9 q) = P9 := ⟨_, rfl⟩
          have HPL9 : Hid (len P9 ≤ 1600) := Lib.hid (by
            rw [← hP9, dgsL_len]
            have h8 := flatAt_lt rs i9 q hlt (by rw [HROW.out]; exact hlq)
            have := HR3.out
            omega)
          rw [hP9] at HO HSN
          clear hmem hx hi9 hk9 e2 hX9 hP9
          go_wp2_with fail
          refine HDG.out.mono ?_
          rintro e w4 ⟨rfl, hb4⟩
          have HO4 : Hid (w4.ownsRow w3.heap.size 9 1 u8 (len P9) (P9.map Value.string)) := Lib.hid (own_below HO.out hb4)
          have HB4 : Hid (Below w3.heap.size w3 w4) := Lib.hid (bnext HB.out hb4)
          have hpb := HPL9.out
          clear hb4 hk cr lck lcr bm HO HB HDG
          go_wp2_with (at_builtin; refine wpList_append_own _ rfl _ _ 22 rfl w3.heap.size 9 i0 (.string ⟨#[]⟩) 1 16 Tryz.underlying22 hi HZ0.out hz1 hz2 rfl (by decide) _ _ _ rfl (HO4.out.alloc _) ⟨w4.heap.size, 0, none⟩ 1 1 [.string X9] rfl rfl (World.news_of_block (heap_alloc_new _ _)) (by intro u hu9; simp at hu9; subst hu9; rfl) (by unfold maxLen; omega) (by omega) (by have := HB4.out.size; simp; omega) ?_; intro v2 w5 hown2 hgrow2 _)
          have HO5 : Hid (w5.ownsRow w3.heap.size 9 1 v2 (len (dgsL els (flatAt rs i9 (q + 1)))) ((dgsL els (flatAt rs i9 (q + 1))).map Value.string)) := Lib.hid (by
            have e9 : len (P9 ++ [X9]) = len P9 + 1 := by rw [len_eq, List.length_append]; rfl
            rw [HSN.out, List.map_append, e9]
            exact hown2)
          have HB5 : Hid (Below w3.heap.size w3 w5) := Lib.hid (grownBy_below (balloc HB4.out _) hgrow2 (fun k hk' => (HO4.out.lt k hk').1))
          clear hown2 hgrow2
          go_wp2
          go_roundg (len row - (q + 1))
          case rel => exact ⟨q + 1, by omega, by go_num, HO5, HB5⟩
          case measure => omega
        · obtain rfl : q = len row := by omega
          have b2 : ¬ ((len row : Nat) : Int) < len row := by omega
          have HO2 : Hid (wr.ownsRow w3.heap.size 9 1 u8 (len (dgsL els (flatAt rs (m + 1) 0))) ((dgsL els (flatAt rs (m + 1) 0)).map Value.string)) := Lib.hid (by
            have h9 := HO.out
            rw [← HROW.out, flatAt_row rs m hlt] at h9
            exact h9)
          have hm := HM9.out
          go_wp2
          go_roundg (len rs - (m + 1))
          case rel => exact ⟨m + 1, by omega, by go_num, HO2, HB⟩
          case measure => omega
    · obtain rfl : m = len rs := by omega
      have b1 : ¬ ((len rs : Nat) : Int) < len rs := by omega
      have HO2 : Hid (wr.ownsRow w.heap.size 9 1 u8 (len (dgsL els (plcL (len els : Nat) l))) ((dgsL els (plcL (len els : Nat) l)).map Value.string)) := Lib.hid (by
        have h9 := HO.out
        rw [flatAt_end, ← HPL.out] at h9
        exact own_lower h9 HB3.out.size)
      go_wp2
      go_ret2
      exact ⟨_, rfl, HO2.out, bnext HB3.out HB.out⟩
end Go.Proofs.YtoafjbillcooiaaGreat
namespace Go.Proofs.YtoafjbillcooiaaGreat
open Go.RowKit
set_option linter.unusedSimpArgs false
set_option linter.unusedVariables false
theorem rprove1_are (els : List ByteArray) (ae : Option Addr) (ce k b : Nat) (w : World) (ht : Txts w ae els) (hn : len els ≤ 65536) (hz : ∀ i, i < len els → (tth els i).size ≤ 140737488355200) (hk : k < len els) (hb : w.heap[b]? = some (.cells #[.int .u64 (k : Nat)] 37 (0, 0))) : Calls Tryz.prog 66 #[.slice ae (len els) ce, .slice (some ⟨b, 0, none⟩) 1 1] w fun e w' => ∃ v, e = .returned (.tuple #[v, .int .i64 0]) ∧ TextsAre (oneD els k) v w' ∧ Below w.heap.size w w' := by
  refine (rprove_ok els ae ce [((k : Nat) : Int)] (some ⟨b, 0, none⟩) 1 w ht hn hz (fun i hi => ⟨b, 0, rfl, by
    have hi : i < 1 := hi
    obtain rfl : i = 0 := by omega
    exact block_cell hb 0⟩) (show 1 ≤ 100 by decide) (fun x hx => by
      have hx : x = ((k : Nat) : Int) := by simpa using hx
      subst hx
      unfold U64
      omega) (one_may hk)).mono ?_
  rintro e w' ⟨v, rfl, hr, hbb⟩
  exact ⟨v, rfl, TextsAre.own hr, hbb⟩
theorem texts_set {L : List ByteArray} {v : Value} {w : World} {sb o : Nat} {cs : Array Value} {t : TypeId} {fr : Nat × Nat} (h : TextsAre L v w) (hs : w.heap[sb]? = some (.cells cs t fr)) (hcs : ∀ (n : Nat) (s : ByteArray), cs[n]? ≠ some (.string s)) (x : Value) : TextsAre L v (w.setCell ⟨sb, o, none⟩ x) := by
  obtain ⟨a, c, rfl, h2, h3⟩ := h
  refine ⟨a, c, rfl, fun i hi => ?_, h3⟩
  obtain ⟨b, off, rfl, hc⟩ := h2 i hi
  refine ⟨b, off, rfl, ?_⟩
  have hne : b ≠ sb := fun e => by
    subst e
    rw [block_cell hs] at hc
    exact hcs _ _ hc
  rw [World.cell?_of_block (w := w) (a := ⟨b, off + i, none⟩) (Below.heap_setCell _ _ _ _ hne)]
  exact hc
theorem sig3 (x : Int) (a1 a2 : Option Addr) (m1 m2 p1 p2 n : Nat) (s : ByteArray) : (#[Value.int .u64 x, .slice a1 m1 p1, .slice a2 m2 p2] : Array Value)[n]? ≠ some (.string s) := by
  match n with
  | 0 => simp
  | 1 => simp
  | 2 => simp
  | n + 3 => simp
theorem texts_sig3 {L : List ByteArray} {v : Value} {w : World} {sb : Nat} {t : TypeId} {x y : Int} {a1 a2 b1 b2 : Option Addr} {m1 m2 p1 p2 n1 n2 q1 q2 : Nat} (h : TextsAre L v w) (hs : w.heap[sb]? = some (.cells #[.int .u64 x, .slice a1 m1 p1, .slice a2 m2 p2] t (0, 0))) : TextsAre L v (((w.setCell ⟨sb, 0, none⟩ (.int .u64 y)).setCell ⟨sb, 1, none⟩ (.slice b1 n1 q1)).setCell ⟨sb, 2, none⟩ (.slice b2 n2 q2)) := by
  have h1 := block_setCell hs (o := 0) (.int .u64 y)
  have h2 := block_setCell h1 (o := 1) (.slice b1 n1 q1)
  refine texts_set (texts_set (texts_set h hs (fun n s => sig3 _ _ _ _ _ _ _ n s) _) h1 (fun n s => ?_) _) h2 (fun n s => ?_) _
  · exact sig3 y a1 a2 m1 m2 p1 p2 n s
  · exact sig3 y b1 a2 n1 m2 q1 p2 n s
set_option maxRecDepth 100000 in
set_option maxHeartbeats 4000000 in
theorem rsign14_any (seed d : ByteArray) (f L K lb r : Nat) (la : Option Addr) (lc : Nat) (w : World) (h : RLadAt seed f L K lb la lc w) (hf : f < 18446744073709551616) (hr : r < 18446744073709551616) (hL : 0 < L) (hK : K ≤ 64) (hsd : seed.size ≤ 1000) :
    Calls Tryz.prog 24 #[.pointer (some ⟨lb, 0, none⟩), .int .u64 (r : Nat), .string d] w (SignIs (signD seed f L K r d) (signE f L K r d) w) := by
  have HKY := Lib.hid (fun wv (hx : RLadAt seed f L K lb la lc wv) => rkeyM_any seed f L K lb r la lc wv hx hK hf hr hL)
  have HK := Lib.hid hK
  have HSD := Lib.hid hsd
  obtain ⟨xb, hxb⟩ : ∃ xb, w.heap.size = xb := ⟨_, rfl⟩
  have HXB : Hid (w.heap.size ≤ xb) := Lib.hid (Nat.le_of_eq hxb)
  have ha := alloc_new_at (.cells #[.int .u64 0, .slice none 0 0, .slice none 0 0] 54) hxb
  have H1 := Lib.hid (h.below (balloc (Below.refl _ w) (.cells #[.int .u64 0, .slice none 0 0, .slice none 0 0] 54)))
  have HXA := Lib.hid ha
  clear h hf hr hL hK hsd ha
  go_enter Tryz.func24, Tryz.ntmps24
  go_wp2_with fail
  refine (HKY.out _ H1.out).mono ?_
  rintro e w1 ⟨rfl, hb⟩
  have HB1 : Hid (Below w.heap.size w w1) := Lib.hid (bnext (balloc (Below.refl _ _) _) hb)
  have HR1 : Hid (w1.heap[xb]? = some (.cells #[.int .u64 0, .slice none 0 0, .slice none 0 0] 54 (0, 0))) := Lib.hid ((hb.block _ (lt_of_block HXA.out)).trans HXA.out)
  have HL1 := Lib.hid (H1.out.below hb)
  unfold keyV
  clear hb hxb
  have z0 := fun o => block_cell HR1.out o
  have z1 : ∀ o, w1.frozen? ⟨xb, o, none⟩ = false := block_free HR1.out
  have z2 : xb < w1.heap.size := lt_of_block HR1.out
  cases hk : keyO f L K r with
  | none =>
    have HS := Lib.hid (signD_no (seed := seed) (d := d) hk)
    dsimp only [Option.getD, Option.isSome]
    clear hk
    go_wp2
    have hk9 := block_setCell (block_setCell (block_setCell HR1.out (o := 0) (.int .u64 0)) (o := 1) (.slice none 0 0)) (o := 2) (.slice none 0 0)
    have e0 := block_cell hk9 0
    have e1 := block_cell hk9 1
    have e2 := block_cell hk9 2
    refine bodyPost_ret (v := .tuple #[.agg #[.int .u64 0, .slice none 0 0, .slice none 0 0], .int .i64 16]) ?_ rfl ⟨.slice none 0 0, .slice none 0 0, by rw [HS.out.1, HS.out.2], by rw [HS.out.1]; exact TextsAre.nil _, by rw [HS.out.1]; exact TextsAre.nil _, bset (bset (bset HB1.out HXB.out _) HXB.out _) HXB.out _⟩
    simp [results, Tryz.results24, go_sem, e0, e1, e2]
  | some k =>
    have HK9 := Lib.hid hk
    dsimp only [Option.getD, Option.isSome]
    clear hk
    by_cases h32 : d.size = 32
    · have i1 : ((d.size : Nat) : Int) = 32 := by omega
      have HS := Lib.hid (signD_ok HK9.out h32 (seed := seed))
      have HSG : Hid (sgE d = 0) := Lib.hid (if_pos h32)
      have c0 : w1.cell? ⟨lb, 0, none⟩ = some (.string seed) := block_cell HL1.out.c 0
      clear h32 z0 z1 z2
      go_wp2_with fail
      refine (rsign13_any seed k d w1 (by have := (keyO_some HK9.out).2.2; have := HK.out; omega) HSD.out).mono ?_
      rintro e w2 ⟨v, rfl, htv, hb⟩
      rw [HSG.out]
      obtain ⟨a1, c1, rfl, -⟩ := (id htv)
      have HTV := Lib.hid htv
      have HB2 := Lib.hid (bnext HB1.out hb)
      have HL2 := Lib.hid (HL1.out.below hb)
      have HR2 := Lib.hid ((hb.block _ (lt_of_block HR1.out)).trans HR1.out)
      have c3 : w2.cell? ⟨lb, 3, none⟩ = some (.slice la K lc) := block_cell HL2.out.c 3
      clear hb htv c0 i1
      go_wp2_with fail
      have hpv := rprove1_are (rungL seed K) la lc k w2.heap.size (w2.alloc (.cells #[.int .u64 (k : Nat)] 37)) (HL2.out.t.below (balloc (Below.refl _ _) _)) (by rw [rungL_len]; have := HK.out; omega) (fun i hi => by rw [rungL_len] at hi; rw [rungL_at _ _ _ hi, rungP_size]; decide) (by rw [rungL_len]; exact (keyO_some HK9.out).2.2) (heap_alloc_new _ _)
      rw [rungL_len] at hpv
      refine hpv.mono ?_
      rintro e w3 ⟨p, rfl, htp, hb⟩
      obtain ⟨a2, c2, rfl, -⟩ := (id htp)
      have hb3 : Below w2.heap.size w2 w3 := bnext (balloc (Below.refl _ _) _) hb
      have HTP := Lib.hid htp
      have HTV3 := Lib.hid (HTV.out.below hb3)
      have HB3 := Lib.hid (bnext HB2.out hb3)
      have HR3 := Lib.hid ((hb3.block _ (lt_of_block HR2.out)).trans HR2.out)
      have z0 := fun o => block_cell HR3.out o
      have z1 : ∀ o, w3.frozen? ⟨xb, o, none⟩ = false := block_free HR3.out
      have z2 : xb < w3.heap.size := lt_of_block HR3.out
      obtain ⟨n1, hn1⟩ : ∃ n1, len (sgL seed k d) = n1 := ⟨_, rfl⟩
      obtain ⟨n2, hn2⟩ : ∃ n2, len (oneD (rungL seed K) k) = n2 := ⟨_, rfl⟩
      rw [hn1, hn2]
      rw [hn1] at HTV3
      rw [hn2] at HTP
      clear hb hb3 htp hpv c3 hn1 hn2
      go_wp2
      have hk9 := block_setCell (block_setCell (block_setCell HR3.out (o := 0) (.int .u64 (k : Nat))) (o := 1) (.slice a1 n1 c1)) (o := 2) (.slice a2 n2 c2)
      have e0 := block_cell hk9 0
      have e1 := block_cell hk9 1
      have e2 := block_cell hk9 2
      refine bodyPost_ret (v := .tuple #[.agg #[.int .u64 (k : Nat), .slice a1 n1 c1, .slice a2 n2 c2], .int .i64 0]) ?_ rfl ⟨.slice a1 n1 c1, .slice a2 n2 c2, by rw [HS.out.1, HS.out.2], ?_, ?_, bset (bset (bset HB3.out HXB.out _) HXB.out _) HXB.out _⟩
      · simp [results, Tryz.results24, go_sem, e0, e1, e2]
      · rw [HS.out.1]
        exact texts_sig3 HTV3.out HR3.out
      · rw [HS.out.1]
        exact texts_sig3 HTP.out HR3.out
    · have i1 : ¬ ((d.size : Nat) : Int) = 32 := by omega
      have HS := Lib.hid (signD_bad HK9.out h32 (seed := seed))
      clear h32
      go_wp2
      have hk9 := block_setCell (block_setCell (block_setCell HR1.out (o := 0) (.int .u64 0)) (o := 1) (.slice none 0 0)) (o := 2) (.slice none 0 0)
      have e0 := block_cell hk9 0
      have e1 := block_cell hk9 1
      have e2 := block_cell hk9 2
      refine bodyPost_ret (v := .tuple #[.agg #[.int .u64 0, .slice none 0 0, .slice none 0 0], .int .i64 2]) ?_ rfl ⟨.slice none 0 0, .slice none 0 0, by rw [HS.out.1, HS.out.2], by rw [HS.out.1]; exact TextsAre.nil _, by rw [HS.out.1]; exact TextsAre.nil _, bset (bset (bset HB1.out HXB.out _) HXB.out _) HXB.out _⟩
      simp [results, Tryz.results24, go_sem, e0, e1, e2]
end Go.Proofs.YtoafjbillcooiaaGreat
namespace Go.Proofs.YtoafjbillcooiaaGreat
open Go.RowKit
set_option linter.unusedSimpArgs false
set_option linter.unusedVariables false
set_option maxRecDepth 100000 in
set_option maxHeartbeats 8000000 in
theorem rsame14_yes (ix : Int) (ws ps : List ByteArray) (a1 a2 b1 b2 : Option Addr) (c1 c2 d1 d2 : Nat) (w : World) (h1 : Txts w a1 ws) (h2 : Txts w a2 ps) (h3 : Txts w b1 ws) (h4 : Txts w b2 ps) (hw : len ws ≤ 1000000) (hp : len ps ≤ 1000000) :
    Calls Tryz.prog 39 #[.agg #[.int .u64 ix, .slice a1 (len ws) c1, .slice a2 (len ps) c2], .agg #[.int .u64 ix, .slice b1 (len ws) d1, .slice b2 (len ps) d2]] w fun e w' => e = .returned (.bool true) ∧ Below w.heap.size w w' := by
  have H1 := Lib.hid h1
  have H2 := Lib.hid h2
  have H3 := Lib.hid h3
  have H4 := Lib.hid h4
  have HW := Lib.hid hw
  have HP := Lib.hid hp
  clear h1 h2 h3 h4 hw hp
  go_enter Tryz.func39, Tryz.ntmps39
  go_upto_region 3 with fail
  obtain ⟨x, hx⟩ : ∃ x, w.heap.size = x := ⟨_, rfl⟩
  obtain ⟨V, hV⟩ : ∃ V, (w.alloc (.cells #[.int .u64 ix, .slice a1 (len ws) c1, .slice a2 (len ps) c2] 54)).alloc (.cells #[.int .u64 ix, .slice b1 (len ws) d1, .slice b2 (len ps) d2] 54) = V := ⟨_, rfl⟩
  have HX : Hid (V.heap[x]? = some (.cells #[.int .u64 ix, .slice a1 (len ws) c1, .slice a2 (len ps) c2] 54 (0, 0))) := Lib.hid (by rw [← hV]; exact block_alloc (alloc_new_at _ hx) _)
  have HY : Hid (V.heap[x + 1]? = some (.cells #[.int .u64 ix, .slice b1 (len ws) d1, .slice b2 (len ps) d2] 54 (0, 0))) := Lib.hid (by rw [← hV]; exact alloc_new_at _ (by simp; omega))
  have HV : Hid (Below w.heap.size w V) := Lib.hid (by rw [← hV]; exact balloc (balloc (Below.refl _ _) _) _)
  rw [hV, hx]
  clear hV hx
  go_wp2
  go_loopg [5] (len ws) (fun gg i wr => ∃ m : Nat, gg + m = len ws ∧ i = .int .i64 (m : Nat) ∧ Hid (Below V.heap.size V wr))
  case atStart => exact ⟨0, by omega, rfl, Lib.hid (Below.refl _ _)⟩
  case round =>
    obtain ⟨m, hm, rfl, HB⟩ := hrel
    have HXR := Lib.hid ((HB.out.block _ (lt_of_block HX.out)).trans HX.out)
    have HYR := Lib.hid ((HB.out.block _ (lt_of_block HY.out)).trans HY.out)
    have x1 : wr.cell? ⟨x, 1, none⟩ = some (.slice a1 (len ws) c1) := block_cell HXR.out 1
    have y1 : wr.cell? ⟨x + 1, 1, none⟩ = some (.slice b1 (len ws) d1) := block_cell HYR.out 1
    have HBW := Lib.hid (bnext HV.out HB.out)
    by_cases hlt : m < len ws
    · have b0 : (m : Int) < (len ws : Nat) := by omega
      have bl : ¬ len ws ≤ m := by omega
      obtain ⟨sb, so, rfl, e1⟩ := (H1.out.below HBW.out) m hlt
      obtain ⟨tb, to_, rfl, e2⟩ := (H3.out.below HBW.out) m hlt
      obtain ⟨s, hs⟩ : ∃ s, tth ws m = s := ⟨_, rfl⟩
      rw [hs] at e1 e2
      have es : (s.toList == s.toList) = true := by rw [str_beq]; exact decide_eq_true rfl
      have HM := Lib.hid hm
      have HLT := Lib.hid hlt
      clear hs hm hlt
      go_upto_region 6 with fail
      clear b0
      refine wp_region_qa rfl (by kernel_rfl) fun w' hE => ?_
      have x1 := extB_cell hE (by simp) x1
      have y1 := extB_cell hE (by simp) y1
      have e1 := extB_cell hE (by simp) e1
      have e2 := extB_cell hE (by simp) e2
      repeat go_big_quiet_step (fail)
      refine wpQuiet_nil ?_
      have HB2 : Hid (Below V.heap.size V w') := Lib.hid (bnext HB.out (of_drew hE))
      clear hE x1 y1 e1 e2 bl es
      go_wp2
      go_roundg (gk - 1)
      case rel => exact ⟨m + 1, by have := HM.out; have := HLT.out; omega, congrArg (Value.int .i64) (by have := HLT.out; have := HW.out; first | omega | (rw [IntWalk.wrap64_in _ (by omega)]; omega)), HB2⟩
      case measure => have := HM.out; have := HLT.out; omega
    · obtain rfl : m = len ws := by omega
      have b0 : ¬ ((len ws : Nat) : Int) < (len ws : Nat) := by omega
      obtain ⟨wz, hwz⟩ : ∃ wz, wz = wr := ⟨_, rfl⟩
      subst hwz
      go_wp2
      go_loopg [6] (len ps) (fun gg i wr => ∃ m : Nat, gg + m = len ps ∧ i = .int .i64 (m : Nat) ∧ Hid (Below V.heap.size V wr))
      case atStart => exact ⟨0, by omega, rfl, HB⟩
      case round =>
        clear x1 y1
        obtain ⟨m, hm, rfl, HB⟩ := hrel
        have HXR := Lib.hid ((HB.out.block _ (lt_of_block HX.out)).trans HX.out)
        have HYR := Lib.hid ((HB.out.block _ (lt_of_block HY.out)).trans HY.out)
        have x1 : wr.cell? ⟨x, 2, none⟩ = some (.slice a2 (len ps) c2) := block_cell HXR.out 2
        have y1 : wr.cell? ⟨x + 1, 2, none⟩ = some (.slice b2 (len ps) d2) := block_cell HYR.out 2
        have HBW := Lib.hid (bnext HV.out HB.out)
        by_cases hlt : m < len ps
        · have b0 : (m : Int) < (len ps : Nat) := by omega
          have bl : ¬ len ps ≤ m := by omega
          obtain ⟨sb, so, rfl, e1⟩ := (H2.out.below HBW.out) m hlt
          obtain ⟨tb, to_, rfl, e2⟩ := (H4.out.below HBW.out) m hlt
          obtain ⟨s, hs⟩ : ∃ s, tth ps m = s := ⟨_, rfl⟩
          rw [hs] at e1 e2
          have es : (s.toList == s.toList) = true := by rw [str_beq]; exact decide_eq_true rfl
          have HM := Lib.hid hm
          have HLT := Lib.hid hlt
          clear hs hm hlt
          go_upto_region 11 with fail
          clear b0
          refine wp_region_qa rfl (by kernel_rfl) fun w' hE => ?_
          have x1 := extB_cell hE (by simp) x1
          have y1 := extB_cell hE (by simp) y1
          have e1 := extB_cell hE (by simp) e1
          have e2 := extB_cell hE (by simp) e2
          repeat go_big_quiet_step (fail)
          refine wpQuiet_nil ?_
          have HB2 : Hid (Below V.heap.size V w') := Lib.hid (bnext HB.out (of_drew hE))
          clear hE x1 y1 e1 e2 bl es
          go_wp2
          go_roundg (gk - 1)
          case rel => exact ⟨m + 1, by have := HM.out; have := HLT.out; omega, congrArg (Value.int .i64) (by have := HLT.out; have := HP.out; first | omega | (rw [IntWalk.wrap64_in _ (by omega)]; omega)), HB2⟩
          case measure => have := HM.out; have := HLT.out; omega
        · obtain rfl : m = len ps := by omega
          have b0 : ¬ ((len ps : Nat) : Int) < (len ps : Nat) := by omega
          go_wp2
          go_ret
          exact ⟨rfl, HBW.out⟩
end Go.Proofs.YtoafjbillcooiaaGreat
namespace Go.Proofs.YtoafjbillcooiaaGreat
open Go.RowKit
set_option linter.unusedSimpArgs false
set_option linter.unusedVariables false
structure VrB (root d : ByteArray) (wt f L K r : Nat) (ix : Int) (ws ps : List ByteArray) (wa pa : Option Addr) (wc pc b0 : Nat) (w : World) : Prop where
  p : w.heap[b0]? = some (.cells #[.string root, .int .u64 (wt : Nat), .int .u64 (f : Nat), .int .u64 (L : Nat), .int .u64 (K : Nat)] 62 (0, 0))
  r : w.heap[b0 + 1]? = some (.cells #[.int .u64 (r : Nat)] 37 (0, 0))
  d : w.heap[b0 + 2]? = some (.cells #[.string d] 9 (0, 0))
  s : w.heap[b0 + 3]? = some (.cells #[.int .u64 ix, .slice wa (len ws) wc, .slice pa (len ps) pc] 54 (0, 0))
  tw : Txts w wa ws
  tp : Txts w pa ps
theorem VrB.below {root d : ByteArray} {wt f L K r : Nat} {ix : Int} {ws ps : List ByteArray} {wa pa : Option Addr} {wc pc b0 : Nat} {w w' : World} (h : VrB root d wt f L K r ix ws ps wa pa wc pc b0 w) (hb : Below w.heap.size w w') : VrB root d wt f L K r ix ws ps wa pa wc pc b0 w' :=
  ⟨(hb.block _ (lt_of_block h.p)).trans h.p, (hb.block _ (lt_of_block h.r)).trans h.r, (hb.block _ (lt_of_block h.d)).trans h.d, (hb.block _ (lt_of_block h.s)).trans h.s, h.tw.below hb, h.tp.below hb⟩
def mayV (d root : ByteArray) (L K : Nat) : Bool := all32 [d, root] && decide (0 < L) && decide (0 < K) && decide (K ≤ 64)
theorem txts2 {w : World} {b : Nat} {x y : ByteArray} {T : TypeId} {fr : Nat × Nat} (h : w.heap[b]? = some (.cells #[.string x, .string y] T fr)) : Txts w (some ⟨b, 0, none⟩) [x, y] := fun i hi => ⟨b, 0, rfl, by
  have hi : i < 2 := hi
  match i, hi with
  | 0, _ => exact block_cell h 0
  | 1, _ => exact block_cell h 1⟩
set_option maxRecDepth 100000 in
set_option maxHeartbeats 4000000 in
theorem ver1_any (root d : ByteArray) (wt f L K r : Nat) (ix : Int) (ws ps : List ByteArray) (wa pa : Option Addr) (wc pc b0 : Nat) (w : World) (h : VrB root d wt f L K r ix ws ps wa pa wc pc b0 w) : Calls Tryz.prog 68 #[.pointer (some ⟨b0 + 2, 0, none⟩), .pointer (some ⟨b0, 0, none⟩)] w fun e w' => e = .returned (.int .i64 (if mayV d root L K = true then 0 else 2)) ∧ Below w.heap.size w w' := by
  have H := Lib.hid h
  have c0 : w.cell? ⟨b0 + 2, 0, none⟩ = some (.string d) := block_cell h.d 0
  have c1 : w.cell? ⟨b0, 0, none⟩ = some (.string root) := block_cell h.p 0
  clear h
  obtain ⟨R, hR⟩ : ∃ R : Int, (if mayV d root L K = true then 0 else 2) = R := ⟨_, rfl⟩
  have HM : Hid (R = if (all32 [d, root] && decide (0 < L) && decide (0 < K) && decide (K ≤ 64)) = true then 0 else 2) := Lib.hid hR.symm
  rw [hR]
  clear hR
  go_enter Tryz.func68, Tryz.ntmps68
  go_wp2_with fail
  refine (digests_any [d, root] (some ⟨w.heap.size, 0, none⟩) 2 _ (txts2 (heap_alloc_new _ _)) (show 2 ≤ 1000000 by decide)).mono ?_
  rintro e w1 ⟨rfl, hb⟩
  have HB : Hid (Below w.heap.size w w1) := Lib.hid (bnext (balloc (Below.refl _ _) _) hb)
  have H1 := H.out.below HB.out
  have c3 : w1.cell? ⟨b0, 3, none⟩ = some (.int .u64 (L : Nat)) := block_cell H1.p 3
  have c4 : w1.cell? ⟨b0, 4, none⟩ = some (.int .u64 (K : Nat)) := block_cell H1.p 4
  clear hb c0 c1 H1
  obtain ⟨x1, e1⟩ : ∃ b, all32 [d, root] = b := ⟨_, rfl⟩
  rw [e1] at HM
  rw [e1]
  clear e1
  have fin : ∀ y : Bool, Hid (R = if y = true then 0 else 2) → Calls Tryz.prog 69 #[.bool y, .int .i64 2] w1 fun e w' => e = .returned (.int .i64 R) ∧ Below w.heap.size w w' := fun y hy => by
    refine (unless_any y 2 w1).mono ?_
    rintro e w2 ⟨rfl, hb⟩
    rw [hy.out]
    exact ⟨rfl, bnext HB.out hb⟩
  have FIN := Lib.hid fin
  clear fin
  cases x1 with
  | false =>
    go_wp2_with fail
    refine (FIN.out false (Lib.hid (by rw [HM.out]; rfl))).mono ?_
    rintro e w2 ⟨rfl, hb⟩
    have HB2 := Lib.hid hb
    clear hb c3 c4
    go_wp2
    go_ret
    exact ⟨rfl, HB2.out⟩
  | true =>
    obtain ⟨y, hy⟩ : ∃ y, (decide (0 < L) && decide (0 < K) && decide (K ≤ 64)) = y := ⟨_, rfl⟩
    have HM2 : Hid (R = if y = true then 0 else 2) := Lib.hid (by rw [HM.out, ← hy]; rfl)
    by_cases h2 : 0 < L
    · have i2 : (0 : Int) < (L : Int) := by omega
      by_cases h3 : 0 < K
      · have i3 : (1 : Int) ≤ (K : Int) := by omega
        by_cases h4 : K ≤ 64
        · have i4 : (K : Int) ≤ 64 := by omega
          have hy2 : y = true := by rw [← hy, decide_eq_true h2, decide_eq_true h3, decide_eq_true h4]; rfl
          subst hy2
          clear hy
          go_wp2_with fail
          refine (FIN.out true HM2).mono ?_
          rintro e w2 ⟨rfl, hb⟩
          have HB2 := Lib.hid hb
          clear hb c3 c4
          go_wp2
          go_ret
          exact ⟨rfl, HB2.out⟩
        · have i4 : ¬ (K : Int) ≤ 64 := by omega
          have hy2 : y = false := by rw [← hy, decide_eq_false h4, Bool.and_false]
          subst hy2
          clear hy
          go_wp2_with fail
          rw [decide_eq_false (show ¬ (K : Int) ≤ 64 by omega)]
          refine (FIN.out false HM2).mono ?_
          rintro e w2 ⟨rfl, hb⟩
          have HB2 := Lib.hid hb
          clear hb c3 c4
          go_wp2
          go_ret
          exact ⟨rfl, HB2.out⟩
      · obtain rfl : K = 0 := by omega
        have hy2 : y = false := by rw [← hy]; simp
        subst hy2
        clear hy
        go_wp2_with fail
        refine (FIN.out false HM2).mono ?_
        rintro e w2 ⟨rfl, hb⟩
        have HB2 := Lib.hid hb
        clear hb c3 c4
        go_wp2
        go_ret
        exact ⟨rfl, HB2.out⟩
    · obtain rfl : L = 0 := by omega
      have hy2 : y = false := by rw [← hy]; simp
      subst hy2
      clear hy
      go_wp2_with fail
      refine (FIN.out false HM2).mono ?_
      rintro e w2 ⟨rfl, hb⟩
      have HB2 := Lib.hid hb
      clear hb c3 c4
      go_wp2
      go_ret
      exact ⟨rfl, HB2.out⟩
set_option maxRecDepth 100000 in
set_option maxHeartbeats 4000000 in
theorem ver2_any (root d : ByteArray) (wt f L K r : Nat) (ix : Int) (ws ps : List ByteArray) (wa pa : Option Addr) (wc pc b0 : Nat) (x : Int) (w : World) (h : VrB root d wt f L K r ix ws ps wa pa wc pc b0 w) (hk : w.heap[b0 + 4]? = some (.cells #[.int .u64 x] 37 (0, 0))) (hf : f < 18446744073709551616) (hr : r < 18446744073709551616) (hL : 0 < L) : Calls Tryz.prog 71 #[.pointer (some ⟨b0, 0, none⟩), .pointer (some ⟨b0 + 1, 0, none⟩), .pointer (some ⟨b0 + 4, 0, none⟩)] w fun e w' => e = .returned (.int .i64 (if (keyO f L K r).isSome = true then 0 else 16)) ∧ w'.heap[b0 + 4]? = some (.cells #[.int .u64 (((keyO f L K r).getD 0 : Nat) : Int)] 37 (0, 0)) ∧ ExtB (some (b0 + 4)) w w' := by
  have HKY := Lib.hid (fun wv => lkey_any f L K r wv hf hr hL)
  have HK := Lib.hid hk
  have c2 : w.cell? ⟨b0, 2, none⟩ = some (.int .u64 (f : Nat)) := block_cell h.p 2
  have c3 : w.cell? ⟨b0, 3, none⟩ = some (.int .u64 (L : Nat)) := block_cell h.p 3
  have c4 : w.cell? ⟨b0, 4, none⟩ = some (.int .u64 (K : Nat)) := block_cell h.p 4
  have cr : w.cell? ⟨b0 + 1, 0, none⟩ = some (.int .u64 (r : Nat)) := block_cell h.r 0
  clear h hk hf hr hL
  unfold keyV at HKY
  obtain ⟨q, hq⟩ : ∃ q : Int, (((keyO f L K r).getD 0 : Nat) : Int) = q := ⟨_, rfl⟩
  obtain ⟨z, hz⟩ : ∃ z, (keyO f L K r).isSome = z := ⟨_, rfl⟩
  rw [hq, hz] at HKY ⊢
  have HUN := Lib.hid (fun wv => unless_any z 16 wv)
  obtain ⟨R, hR⟩ : ∃ R : Int, (if z = true then 0 else 16) = R := ⟨_, rfl⟩
  rw [hR] at HUN ⊢
  clear hq hz hR
  go_enter Tryz.func71, Tryz.ntmps71
  go_wp2_with fail
  refine (HKY.out _).mono ?_
  rintro e w1 ⟨rfl, hb⟩
  have HB1 := Lib.hid hb
  have HK1 := Lib.hid ((hb.block _ (lt_of_block HK.out)).trans HK.out)
  clear hb c2 c3 c4 cr
  have z0 := fun o => block_cell HK1.out o
  have z1 : ∀ o, w1.frozen? ⟨b0 + 4, o, none⟩ = false := block_free HK1.out
  have z2 : b0 + 4 < w1.heap.size := lt_of_block HK1.out
  go_wp2_with fail
  clear z0 z1 z2
  refine (HUN.out _).mono ?_
  rintro e w2 ⟨rfl, hb⟩
  have HB2 := Lib.hid hb
  have HK2 := Lib.hid ((hb.block _ (lt_of_block (block_setCell HK1.out (o := 0) (.int .u64 q)))).trans (block_setCell HK1.out (o := 0) (.int .u64 q)))
  clear hb
  go_wp2
  go_ret
  refine ⟨rfl, HK2.out, ?_⟩
  exact ExtB_trans _ _ _ _ (ext_extB HB1.out) (ExtB_trans _ _ _ _ (grownBy_setO _ _ _ _) (ext_extB HB2.out))
set_option maxRecDepth 100000 in
set_option maxHeartbeats 4000000 in
theorem ver3_any (root d : ByteArray) (wt f L K r : Nat) (ix : Int) (ws ps : List ByteArray) (wa pa : Option Addr) (wc pc b0 : Nat) (x : Int) (u : ByteArray) (w : World) (h : VrB root d wt f L K r ix ws ps wa pa wc pc b0 w) (hk : w.heap[b0 + 4]? = some (.cells #[.int .u64 x] 37 (0, 0))) (hu : w.heap[b0 + 5]? = some (.cells #[.string u] 9 (0, 0))) (hn : len ws ≤ 1000000) : Calls Tryz.prog 73 #[.pointer (some ⟨b0 + 3, 0, none⟩), .pointer (some ⟨b0 + 2, 0, none⟩), .pointer (some ⟨b0 + 5, 0, none⟩), .pointer (some ⟨b0 + 4, 0, none⟩)] w fun e w' => e = .returned (.int .i64 (if ix = x ∧ recE ws d = 0 then 0 else 10)) ∧ w'.heap[b0 + 5]? = some (.cells #[.string (recS ws d)] 9 (0, 0)) ∧ ExtB (some (b0 + 5)) w w' := by
  have HRC := Lib.hid (fun wv (hx : Txts wv wa ws) => recover_any ws wa wc d wv hx hn)
  have H := Lib.hid h
  have HK := Lib.hid hk
  have HU := Lib.hid hu
  have c1 : w.cell? ⟨b0 + 3, 1, none⟩ = some (.slice wa (len ws) wc) := block_cell h.s 1
  have cd : w.cell? ⟨b0 + 2, 0, none⟩ = some (.string d) := block_cell h.d 0
  clear h hk hu hn
  obtain ⟨S, hS⟩ : ∃ S, recS ws d = S := ⟨_, rfl⟩
  obtain ⟨E, hE⟩ : ∃ E, recE ws d = E := ⟨_, rfl⟩
  rw [hS, hE] at HRC ⊢
  clear hS hE
  have HUN := Lib.hid (fun z wv => unless_any z 10 wv)
  obtain ⟨R, hR⟩ : ∃ R : Int, (if ix = x ∧ E = 0 then 0 else 10) = R := ⟨_, rfl⟩
  have HR := Lib.hid hR
  rw [hR]
  clear hR
  go_enter Tryz.func73, Tryz.ntmps73
  go_wp2_with fail
  refine (HRC.out _ H.out.tw).mono ?_
  rintro e w1 ⟨rfl, hb⟩
  have HB1 := Lib.hid hb
  have HU1 := Lib.hid ((hb.block _ (lt_of_block HU.out)).trans HU.out)
  have H1 := H.out.below hb
  have z0 := fun o => block_cell HU1.out o
  have z1 : ∀ o, w1.frozen? ⟨b0 + 5, o, none⟩ = false := block_free HU1.out
  have z2 : b0 + 5 < w1.heap.size := lt_of_block HU1.out
  have ci : w1.cell? ⟨b0 + 3, 0, none⟩ = some (.int .u64 ix) := block_cell H1.s 0
  have ck : w1.cell? ⟨b0 + 4, 0, none⟩ = some (.int .u64 x) := block_cell ((hb.block _ (lt_of_block HK.out)).trans HK.out) 0
  clear hb c1 cd H1
  obtain ⟨y, hy⟩ : ∃ y : Bool, decide (ix = x ∧ E = 0) = y := ⟨_, rfl⟩
  have HY : Hid ((if y = true then (0 : Int) else 10) = R) := Lib.hid (by
    rw [← HR.out, ← hy]
    by_cases h9 : ix = x ∧ E = 0
    · rw [if_pos h9, decide_eq_true h9]; rfl
    · rw [if_neg h9, decide_eq_false h9]; rfl)
  have FIN : Hid (∀ wv, Calls Tryz.prog 69 #[.bool y, .int .i64 10] wv fun e w' => e = .returned (.int .i64 R) ∧ Below wv.heap.size wv w') := Lib.hid (fun wv => by
    have h9 := HUN.out y wv
    rw [HY.out] at h9
    exact h9)
  have HST := Lib.hid (block_setCell HU1.out (o := 0) (.string S))
  have HSE : Hid (ExtB (some (b0 + 5)) w (w1.setCell ⟨b0 + 5, 0, none⟩ (.string S))) := Lib.hid (ExtB_trans _ _ _ _ (ext_extB HB1.out) (grownBy_setO _ _ _ _))
  by_cases hix : ix = x
  · by_cases hE0 : E = 0
    · have hy2 : y = true := by rw [← hy, decide_eq_true ⟨hix, hE0⟩]
      subst hy2 hix hE0
      clear hy
      go_wp2_with fail
      refine (FIN.out _).mono ?_
      rintro e w2 ⟨rfl, hb⟩
      have HB2 := Lib.hid hb
      clear hb z0 z1 z2 ci ck
      go_wp2
      go_ret
      exact ⟨rfl, (HB2.out.block _ (lt_of_block HST.out)).trans HST.out, ExtB_trans _ _ _ _ HSE.out (ext_extB HB2.out)⟩
    · have hy2 : y = false := by rw [← hy, decide_eq_false (fun h9 => hE0 h9.2)]
      have e0 : (E == 0) = false := by simpa using hE0
      subst hy2 hix
      clear hy
      go_wp2_with fail
      refine (FIN.out _).mono ?_
      rintro e w2 ⟨rfl, hb⟩
      have HB2 := Lib.hid hb
      clear hb z0 z1 z2 ci ck
      go_wp2
      go_ret
      exact ⟨rfl, (HB2.out.block _ (lt_of_block HST.out)).trans HST.out, ExtB_trans _ _ _ _ HSE.out (ext_extB HB2.out)⟩
  · have hy2 : y = false := by rw [← hy, decide_eq_false (fun h9 => hix h9.1)]
    have e0 : (ix == x) = false := by simpa using hix
    subst hy2
    clear hy
    go_wp2_with fail
    refine (FIN.out _).mono ?_
    rintro e w2 ⟨rfl, hb⟩
    have HB2 := Lib.hid hb
    clear hb z0 z1 z2 ci ck
    go_wp2
    go_ret
    exact ⟨rfl, (HB2.out.block _ (lt_of_block HST.out)).trans HST.out, ExtB_trans _ _ _ _ HSE.out (ext_extB HB2.out)⟩
end Go.Proofs.YtoafjbillcooiaaGreat
namespace Go.Proofs.YtoafjbillcooiaaGreat
open Go.RowKit
set_option linter.unusedSimpArgs false
set_option linter.unusedVariables false
set_option maxRecDepth 100000 in
set_option maxHeartbeats 4000000 in
theorem ver4_any (root d : ByteArray) (wt f L K r : Nat) (ix : Int) (ws ps : List ByteArray) (wa pa : Option Addr) (wc pc b0 k : Nat) (pv : ByteArray) (w : World) (h : VrB root d wt f L K r ix ws ps wa pa wc pc b0 w) (hk : w.heap[b0 + 4]? = some (.cells #[.int .u64 (k : Nat)] 37 (0, 0))) (hu : w.heap[b0 + 5]? = some (.cells #[.string pv] 9 (0, 0))) (hlt : k < K) (hK : K ≤ 64) (hus : pv.size ≤ 1000) (hn : len ps ≤ 1000000) (hpc : len ps ≤ pc) :
    Calls Tryz.prog 75 #[.pointer (some ⟨b0, 0, none⟩), .pointer (some ⟨b0 + 4, 0, none⟩), .pointer (some ⟨b0 + 5, 0, none⟩), .pointer (some ⟨b0 + 3, 0, none⟩)] w fun e w' => e = .returned (.int .i64 (if checkE root (K : Nat) [((k : Nat) : Int)] [num8S k ++ pv] ps = 0 then 0 else 10)) ∧ Below w.heap.size w w' := by
  have H := Lib.hid h
  have HRG := Lib.hid (fun wv => rung_any k pv wv (by omega) hus)
  have hys : (num8S k ++ pv).size ≤ 1008 := by rw [ByteArray.size_append, num8S_size]; omega
  obtain ⟨y, hy⟩ : ∃ y, num8S k ++ pv = y := ⟨_, rfl⟩
  rw [hy] at HRG hys ⊢
  obtain ⟨S, hS⟩ : ∃ S, rootS (K : Nat) [((k : Nat) : Int)] [y] ps = S := ⟨_, rfl⟩
  obtain ⟨E, hE⟩ : ∃ E, rootE (K : Nat) [((k : Nat) : Int)] [y] ps = E := ⟨_, rfl⟩
  obtain ⟨m, hm⟩ : ∃ m, len ps = m := ⟨_, rfl⟩
  have HRT : Hid (∀ (wv : World) (b1 b2 : Nat), Below w.heap.size w wv → wv.heap[b1]? = some (.cells #[.int .u64 (k : Nat)] 37 (0, 0)) → wv.heap[b2]? = some (.cells #[.string y] 9 (0, 0)) → Calls Tryz.prog 76 #[.int .i64 (K : Nat), .slice (some ⟨b1, 0, none⟩) 1 1, .slice (some ⟨b2, 0, none⟩) 1 1, .slice pa m pc] wv fun e w' => e = .returned (.tuple #[.string S, .int .i64 E]) ∧ Below wv.heap.size wv w') := Lib.hid (fun wv b1 b2 hb h1 h2 => by
    have h9 := proot_any (K : Nat) [((k : Nat) : Int)] [y] ps (some ⟨b1, 0, none⟩) (some ⟨b2, 0, none⟩) pa 1 1 pc wv
      ⟨fun i hi => ⟨b1, 0, rfl, by
        have hi : i < 1 := hi
        obtain rfl : i = 0 := by omega
        exact block_cell h1 0⟩, txts1 h2, h.tp.below hb, (show 1 ≤ 12 by decide), fun x hx => by
        have hx : x = ((k : Nat) : Int) := by simpa using hx
        subst hx
        unfold U64
        omega, (show 1 ≤ 1000000 by decide), hn, hpc, fun i hi => by
        have hi : i < 1 := hi
        obtain rfl : i = 0 := by omega
        show y.size ≤ 1000000
        omega⟩ (by omega) (by omega)
    rw [hm] at h9
    refine h9.mono ?_
    rintro e w' ⟨rfl, hb2⟩
    exact ⟨by rw [hS, hE], hb2⟩)
  have HCE : Hid (checkE root (K : Nat) [((k : Nat) : Int)] [y] ps = if E = 0 ∧ S ≠ root then 20 else E) := Lib.hid (by unfold checkE; rw [hE, hS])
  have c0 : w.cell? ⟨b0, 4, none⟩ = some (.int .u64 (K : Nat)) := block_cell h.p 4
  have c1 : w.cell? ⟨b0 + 4, 0, none⟩ = some (.int .u64 (k : Nat)) := block_cell hk 0
  have c2 : w.cell? ⟨b0 + 5, 0, none⟩ = some (.string pv) := block_cell hu 0
  have c3 : w.cell? ⟨b0 + 3, 2, none⟩ = some (.slice pa m pc) := by rw [block_cell h.s 2, hm]; rfl
  have k1 : IntKind.i64.wrap ((K : Nat) : Int) = (K : Int) := IntWalk.i64_in _ (by omega)
  obtain ⟨C, hC⟩ : ∃ C, checkE root (K : Nat) [((k : Nat) : Int)] [y] ps = C := ⟨_, rfl⟩
  rw [hC] at HCE ⊢
  obtain ⟨z, hz⟩ : ∃ z : Bool, decide (C = 0) = z := ⟨_, rfl⟩
  obtain ⟨R, hR⟩ : ∃ R : Int, (if C = 0 then (0 : Int) else 10) = R := ⟨_, rfl⟩
  rw [hR]
  have FIN : Hid (∀ wv, Calls Tryz.prog 69 #[.bool z, .int .i64 10] wv fun e w' => e = .returned (.int .i64 R) ∧ Below wv.heap.size wv w') := Lib.hid (fun wv => by
    have h9 := unless_any z 10 wv
    have e9 : (if z = true then (0 : Int) else 10) = R := by
      rw [← hR, ← hz]
      by_cases h0 : C = 0
      · rw [if_pos h0, decide_eq_true h0]; rfl
      · rw [if_neg h0, decide_eq_false h0]; rfl
    rw [e9] at h9
    exact h9)
  have HZ := Lib.hid hz
  clear h hk hu hlt hK hus hn hpc hys hy hS hE hm hC hR hz
  go_enter Tryz.func75, Tryz.ntmps75
  go_upto_region 1 with fail
  refine wp_region_all 1000 (none) (phis [fun u _ => u = (.pointer (some ⟨b0, 4, none⟩)), fun u _ => u = (.int .u64 (K : Nat)), fun u _ => u = (.int .i64 (K : Nat)), fun u _ => u = (.int .u64 (k : Nat)), fun u w' => ∃ b, u = .slice (some ⟨b, 0, none⟩) 1 1 ∧ w'.heap[b]? = some (.cells #[.int .u64 (k : Nat)] 37 (0, 0)), fun u _ => u = (.int .u64 (k : Nat)), fun u _ => u = (.string pv), fun u _ => u = (.string y), fun u w' => ∃ b, u = .slice (some ⟨b, 0, none⟩) 1 1 ∧ w'.heap[b]? = some (.cells #[.string y] 9 (0, 0)), fun u _ => u = (.pointer (some ⟨b0 + 3, 2, none⟩)), fun u _ => u = (.slice pa m pc), fun u _ => u = (.tuple #[.string S, .int .i64 E]), fun u _ => u = (.tuple #[.string S, .int .i64 E]), fun u _ => u = (.string S), fun u _ => u = (.int .i64 E), fun u _ => u = (.string S), fun u _ => u = (.int .i64 E)]) rfl (by kernel_rfl) (mono_of ⟨mono_eq, mono_eq, mono_eq, mono_eq, ?m4, mono_eq, mono_eq, mono_eq, ?m8, mono_eq, mono_eq, mono_eq, mono_eq, mono_eq, mono_eq, mono_eq, mono_eq, trivial⟩) (steps_of 17 ⟨?s0, ?s1, ?s2, ?s3, ?s4, ?s5, ?s6, ?s7, ?s8, ?s9, ?s10, ?s11, ?s12, ?s13, ?s14, ?s15, ?s16, trivial⟩) ?_
  case m4 =>
    exact ⟨fun u w1 w' h ⟨b, h1, hb⟩ => ⟨b, h1, ext_block h hb⟩, fun _ u w1 w' h ⟨b, h1, hb⟩ => ⟨b, h1, extB_block h (by simp) hb⟩⟩
  case m8 =>
    exact ⟨fun u w1 w' h ⟨b, h1, hb⟩ => ⟨b, h1, ext_block h hb⟩, fun _ u w1 w' h ⟨b, h1, hb⟩ => ⟨b, h1, extB_block h (by simp) hb⟩⟩
  case s0 =>
    refine qV (fun _ => rfl) rfl fun av wv hE hO hD => ?_
    simp [go_sem, qF av 0 (.pointer (some ⟨b0, 0, none⟩)) (hO.2.2 0 rfl), k1]
  case s1 =>
    refine qV (fun _ => rfl) rfl fun av wv hE hO hD => ?_
    simp [go_sem, qE (hD.1 rfl _ rfl), extB_cell hE (by simp) c0, extB_cell hE (by simp) c1, extB_cell hE (by simp) c2, extB_cell hE (by simp) c3, k1]
  case s2 =>
    refine qV (fun _ => rfl) rfl fun av wv hE hO hD => ?_
    simp [go_sem, qE (hD.1 rfl _ rfl), k1]
  case s3 =>
    refine qV (fun _ => rfl) rfl fun av wv hE hO hD => ?_
    simp [go_sem, qF av 1 (.pointer (some ⟨b0 + 4, 0, none⟩)) (hO.2.2 1 rfl), extB_cell hE (by simp) c0, extB_cell hE (by simp) c1, extB_cell hE (by simp) c2, extB_cell hE (by simp) c3, k1]
  case s4 =>
    refine step_wp (fun av wv hE hS hO hD => ⟨rfl, ?_⟩)
    have f11 := qE (hD.1 rfl _ rfl)
    exact wp_of_run (v := .slice (some ⟨wv.heap.size, 0, none⟩) 1 1) (w' := wv.alloc (.cells #[.int .u64 (k : Nat)] 37)) (by simp [go_sem, f11]) ⟨_, rfl, es_of_ext (balloc (Ext_refl _) _), wv.heap.size, rfl, heap_alloc_new _ _⟩
  case s5 =>
    refine qV (fun _ => rfl) rfl fun av wv hE hO hD => ?_
    simp [go_sem, qF av 1 (.pointer (some ⟨b0 + 4, 0, none⟩)) (hO.2.2 1 rfl), extB_cell hE (by simp) c0, extB_cell hE (by simp) c1, extB_cell hE (by simp) c2, extB_cell hE (by simp) c3, k1]
  case s6 =>
    refine qV (fun _ => rfl) rfl fun av wv hE hO hD => ?_
    simp [go_sem, qF av 2 (.pointer (some ⟨b0 + 5, 0, none⟩)) (hO.2.2 2 rfl), extB_cell hE (by simp) c0, extB_cell hE (by simp) c1, extB_cell hE (by simp) c2, extB_cell hE (by simp) c3, k1]
  case s7 =>
    refine step_wp (fun av wv hE hS hO hD => ⟨rfl, ?_⟩)
    have f13 := qE (hD.1 rfl _ rfl)
    have f14 := qE (hD.2.1 rfl _ rfl)
    refine wp_of_call (v := .string y) (by simp [go_sem, f13, f14]) (HRG.out wv) (fun w2 hb => ⟨_, rfl, es_of_ext hb, rfl⟩)
  case s8 =>
    refine step_wp (fun av wv hE hS hO hD => ⟨rfl, ?_⟩)
    have f15 := qE (hD.1 rfl _ rfl)
    exact wp_of_run (v := .slice (some ⟨wv.heap.size, 0, none⟩) 1 1) (w' := wv.alloc (.cells #[.string y] 9)) (by simp [go_sem, f15]) ⟨_, rfl, es_of_ext (balloc (Ext_refl _) _), wv.heap.size, rfl, heap_alloc_new _ _⟩
  case s9 =>
    refine qV (fun _ => rfl) rfl fun av wv hE hO hD => ?_
    simp [go_sem, qF av 3 (.pointer (some ⟨b0 + 3, 0, none⟩)) (hO.2.2 3 rfl), k1]
  case s10 =>
    refine qV (fun _ => rfl) rfl fun av wv hE hO hD => ?_
    simp [go_sem, qE (hD.1 rfl _ rfl), extB_cell hE (by simp) c0, extB_cell hE (by simp) c1, extB_cell hE (by simp) c2, extB_cell hE (by simp) c3, k1]
  case s11 =>
    refine step_wp (fun av wv hE hS hO hD => ⟨rfl, ?_⟩)
    have f10 := qE (hD.1 rfl _ rfl)
    have d12 : (fun u w' => ∃ b, u = .slice (some ⟨b, 0, none⟩) 1 1 ∧ w'.heap[b]? = some (.cells #[.int .u64 (k : Nat)] 37 (0, 0))) (av.eval (.tmp 12)) wv := hD.2.1 rfl _ rfl
    have d16 : (fun u w' => ∃ b, u = .slice (some ⟨b, 0, none⟩) 1 1 ∧ w'.heap[b]? = some (.cells #[.string y] 9 (0, 0))) (av.eval (.tmp 16)) wv := hD.2.2.1 rfl _ rfl
    have f18 := qE (hD.2.2.2.1 rfl _ rfl)
    obtain ⟨b1, g1, hc1⟩ := d12
    obtain ⟨b2, g2, hc2⟩ := d16
    have j1 := (ev_form av 12).symm.trans g1
    have j2 := (ev_form av 16).symm.trans g2
    refine wp_of_call (v := .tuple #[.string S, .int .i64 E]) (by simp [go_sem, f10, f18, j1, j2]) (HRT.out wv b1 b2 (of_drew hE) hc1 hc2) (fun w2 hb => ⟨_, rfl, es_of_ext hb, rfl⟩)
  case s12 =>
    refine qV (fun _ => rfl) rfl fun av wv hE hO hD => ?_
    simp [go_sem, qE (hD.1 rfl _ rfl), k1]
  case s13 =>
    refine qV (fun _ => rfl) rfl fun av wv hE hO hD => ?_
    simp [go_sem, qE (hD.1 rfl _ rfl), k1]
  case s14 =>
    refine qV (fun _ => rfl) rfl fun av wv hE hO hD => ?_
    simp [go_sem, qE (hD.1 rfl _ rfl), k1]
  case s15 =>
    refine qV (fun _ => rfl) rfl fun av wv hE hO hD => ?_
    simp [go_sem, qE (hD.1 rfl _ rfl), k1]
  case s16 =>
    refine qV (fun _ => rfl) rfl fun av wv hE hO hD => ?_
    simp [go_sem, qE (hD.1 rfl _ rfl), k1]
  intro a' w' hE hO hall
  have hA := act_of_outer (ds := [8, 9, 10, 11, 12, 13, 14, 15, 16, 17, 18, 19, 7, 20, 21, 5, 6]) rfl hO (by kernel_rfl)
  obtain ⟨j0, j1, j2, j3, j4, j5, j6, j7, j8, j9, j10, j11, j12, j13, j14, j15, j16, -⟩ := hall
  have e12 : (fun u w' => ∃ b, u = .slice (some ⟨b, 0, none⟩) 1 1 ∧ w'.heap[b]? = some (.cells #[.int .u64 (k : Nat)] 37 (0, 0))) (a'.eval (.tmp 12)) w' := j4 _ rfl
  have e16 : (fun u w' => ∃ b, u = .slice (some ⟨b, 0, none⟩) 1 1 ∧ w'.heap[b]? = some (.cells #[.string y] 9 (0, 0))) (a'.eval (.tmp 16)) w' := j8 _ rfl
  obtain ⟨v12, hv12⟩ : ∃ v, a'.eval (.tmp 12) = v := ⟨_, rfl⟩
  rw [hv12] at e12
  obtain ⟨v16, hv16⟩ : ∃ v, a'.eval (.tmp 16) = v := ⟨_, rfl⟩
  rw [hv16] at e16
  simp only [List.foldl_cons, List.foldl_nil, Act.put, List.setIfInBounds_toArray, List.set_cons_succ, List.set_cons_zero, qJ 8 (j0 _ rfl), qJ 9 (j1 _ rfl), qJ 10 (j2 _ rfl), qJ 11 (j3 _ rfl), hv12, qJ 13 (j5 _ rfl), qJ 14 (j6 _ rfl), qJ 15 (j7 _ rfl), hv16, qJ 17 (j9 _ rfl), qJ 18 (j10 _ rfl), qJ 19 (j11 _ rfl), qJ 7 (j12 _ rfl), qJ 20 (j13 _ rfl), qJ 21 (j14 _ rfl), qJ 5 (j15 _ rfl), qJ 6 (j16 _ rfl)] at hA
  clear hO j4 j8 j0 j1 j2 j3 hv12 j5 j6 j7 hv16 j9 j10 j11 j12 j13 j14 j15 j16
  subst hA
  have HB := Lib.hid (of_drew hE)
  have H1 := H.out.below HB.out
  have cr : w'.cell? ⟨b0, 0, none⟩ = some (.string root) := block_cell H1.p 0
  clear hE c0 c1 c2 c3 k1 H1
  have hce := HCE.out
  by_cases hE0 : E = 0
  · by_cases hSr : S = root
    · have hz2 : z = true := by rw [← HZ.out, hce, if_neg (fun h9 => h9.2 hSr)]; exact decide_eq_true hE0
      have e1 : (S.toList == root.toList) = true := by rw [str_beq]; exact decide_eq_true hSr
      subst hz2 hE0
      clear hce hSr
      go_wp2_with fail
      refine (FIN.out _).mono ?_
      rintro e w2 ⟨rfl, hb⟩
      have HB2 := Lib.hid (bnext HB.out hb)
      clear hb cr
      go_wp2
      go_ret
      exact ⟨rfl, HB2.out⟩
    · have hz2 : z = false := by rw [← HZ.out, hce, if_pos ⟨hE0, hSr⟩]; rfl
      have e1 : (S.toList == root.toList) = false := by rw [str_beq]; exact decide_eq_false hSr
      subst hz2 hE0
      clear hce hSr
      go_wp2_with fail
      refine (FIN.out _).mono ?_
      rintro e w2 ⟨rfl, hb⟩
      have HB2 := Lib.hid (bnext HB.out hb)
      clear hb cr
      go_wp2
      go_ret
      exact ⟨rfl, HB2.out⟩
  · have hz2 : z = false := by rw [← HZ.out, hce, if_neg (fun h9 => hE0 h9.1)]; exact decide_eq_false hE0
    have e1 : (E == 0) = false := by simpa using hE0
    subst hz2
    clear hce
    go_wp2_with fail
    refine (FIN.out _).mono ?_
    rintro e w2 ⟨rfl, hb⟩
    have HB2 := Lib.hid (bnext HB.out hb)
    clear hb cr
    go_wp2
    go_ret
    exact ⟨rfl, HB2.out⟩
end Go.Proofs.YtoafjbillcooiaaGreat
namespace Go.Proofs.YtoafjbillcooiaaGreat
open Go.RowKit
set_option linter.unusedSimpArgs false
set_option linter.unusedVariables false
theorem mayV_iff {d root : ByteArray} {L K : Nat} : mayV d root L K = true ↔ d.size = 32 ∧ root.size = 32 ∧ 0 < L ∧ 1 ≤ K ∧ K ≤ 64 := by
  unfold mayV all32
  simp
  omega
theorem recE_zero {ws : List ByteArray} {d : ByteArray} (h : recE ws d = 0) : d.size = 32 ∧ wotsB ws = true := by
  unfold recE at h
  split at h
  · next h1 =>
    split at h
    · next h2 => exact ⟨h1, h2⟩
    · cases h
  · cases h
theorem recE_some {ws : List ByteArray} {d : ByteArray} (h1 : d.size = 32) (h2 : wotsB ws = true) : recE ws d = 0 := by
  unfold recE
  rw [if_pos h1, if_pos h2]
theorem verE_may {root d : ByteArray} {f L K r : Nat} {s : SigD} (h : mayV d root L K = false) : verE root f L K r d s = 2 := by
  unfold verE
  rw [if_neg (fun h9 => by rw [mayV_iff.2 h9] at h; cases h)]
theorem verE_none {root d : ByteArray} {f L K r : Nat} {s : SigD} (h : mayV d root L K = true) (hk : keyO f L K r = none) : verE root f L K r d s = 16 := by
  unfold verE
  rw [if_pos (mayV_iff.1 h), hk]
theorem verE_key {root d : ByteArray} {f L K r k : Nat} {ix : Int} {ws ps : List ByteArray} (h : mayV d root L K = true) (hk : keyO f L K r = some k) : verE root f L K r d ⟨ix, ws, ps⟩ = if ix = (k : Nat) ∧ recE ws d = 0 then (if checkE root (K : Nat) [((k : Nat) : Int)] [num8S k ++ recovP ws d] ps = 0 then 0 else 10) else 10 := by
  unfold verE
  rw [if_pos (mayV_iff.1 h), hk]
  show (if ix = (k : Nat) ∧ wotsB ws = true then _ else (10 : Int)) = _
  by_cases h9 : ix = (k : Nat) ∧ wotsB ws = true
  · rw [if_pos h9, if_pos (show ix = (k : Nat) ∧ recE ws d = 0 from ⟨h9.1, recE_some (mayV_iff.1 h).1 h9.2⟩)]
    rfl
  · rw [if_neg h9, if_neg (show ¬ (ix = (k : Nat) ∧ recE ws d = 0) from fun h8 => h9 ⟨h8.1, (recE_zero h8.2).2⟩)]
theorem recS_ok {ws : List ByteArray} {d : ByteArray} (h : recE ws d = 0) : recS ws d = recovP ws d := by
  unfold recS
  rw [if_pos (recE_zero h)]
def vrF (j : Nat) : FuncId := if j = 0 then 68 else if j = 1 then 71 else if j = 2 then 73 else 75
def vrC (b0 j : Nat) : Array Value := if j = 0 then #[.pointer (some ⟨b0 + 2, 0, none⟩), .pointer (some ⟨b0, 0, none⟩)] else if j = 1 then #[.pointer (some ⟨b0, 0, none⟩), .pointer (some ⟨b0 + 1, 0, none⟩), .pointer (some ⟨b0 + 4, 0, none⟩)] else if j = 2 then #[.pointer (some ⟨b0 + 3, 0, none⟩), .pointer (some ⟨b0 + 2, 0, none⟩), .pointer (some ⟨b0 + 5, 0, none⟩), .pointer (some ⟨b0 + 4, 0, none⟩)] else #[.pointer (some ⟨b0, 0, none⟩), .pointer (some ⟨b0 + 4, 0, none⟩), .pointer (some ⟨b0 + 5, 0, none⟩), .pointer (some ⟨b0 + 3, 0, none⟩)]
structure VrQ (root d : ByteArray) (wt f L K r : Nat) (ix : Int) (ws ps : List ByteArray) (wa pa : Option Addr) (wc pc b0 : Nat) (w0 : World) (j : Nat) (w : World) : Prop where
  b : VrB root d wt f L K r ix ws ps wa pa wc pc b0 w
  fr : w.heap[b0 + 6]? = some (.cells #[.func (.func (vrF 0)) #[] (vrC b0 0), .func (.func (vrF 1)) #[] (vrC b0 1), .func (.func (vrF 2)) #[] (vrC b0 2), .func (.func (vrF 3)) #[] (vrC b0 3)] 120 (0, 0))
  kx : ∃ x : Int, w.heap[b0 + 4]? = some (.cells #[.int .u64 x] 37 (0, 0)) ∧ (2 ≤ j → ∃ k : Nat, keyO f L K r = some k ∧ x = (k : Nat))
  ux : ∃ u : ByteArray, w.heap[b0 + 5]? = some (.cells #[.string u] 9 (0, 0)) ∧ (3 ≤ j → u = recovP ws d ∧ recE ws d = 0 ∧ ∃ k : Nat, keyO f L K r = some k ∧ ix = (k : Nat))
  m : 1 ≤ j → mayV d root L K = true
  e : 4 ≤ j → verE root f L K r d ⟨ix, ws, ps⟩ = 0
  w : Below w0.heap.size w0 w
theorem VrQ.below {root d : ByteArray} {wt f L K r : Nat} {ix : Int} {ws ps : List ByteArray} {wa pa : Option Addr} {wc pc b0 : Nat} {w0 : World} {j : Nat} {w w' : World} (h : VrQ root d wt f L K r ix ws ps wa pa wc pc b0 w0 j w) (hb : Below w.heap.size w w') : VrQ root d wt f L K r ix ws ps wa pa wc pc b0 w0 j w' := by
  obtain ⟨x, h1, h2⟩ := h.kx
  obtain ⟨u, h3, h4⟩ := h.ux
  exact ⟨h.b.below hb, (hb.block _ (lt_of_block h.fr)).trans h.fr, ⟨x, (hb.block _ (lt_of_block h1)).trans h1, h2⟩, ⟨u, (hb.block _ (lt_of_block h3)).trans h3, h4⟩, h.m, h.e, bnext h.w hb⟩
def VrA (root d : ByteArray) (f L K r : Nat) (s : SigD) (w0 : World) (x : Int) (w' : World) : Prop := x = verE root f L K r d s ∧ Below w0.heap.size w0 w'
theorem vrfirst_any (root d : ByteArray) (wt f L K r : Nat) (ix : Int) (ws ps : List ByteArray) (wa pa : Option Addr) (wc pc b0 : Nat) (w0 w : World) (h : VrQ root d wt f L K r ix ws ps wa pa wc pc b0 w0 0 w) (hb0 : w0.heap.size ≤ b0) (htw : Txts w0 wa ws) (htp : Txts w0 pa ps) (hf : f < 18446744073709551616) (hr : r < 18446744073709551616) (hnw : len ws ≤ 1000000) (hnp : len ps ≤ 1000000) (hpc : len ps ≤ pc) :
    Calls Tryz.prog 78 #[.slice (some ⟨b0 + 6, 0, none⟩) 4 4] w fun e w' => ∃ x, e = .returned (.int .i64 x) ∧ VrA root d f L K r ⟨ix, ws, ps⟩ w0 x w' := by
  have keep : ∀ (o : Nat) (w1 w2 : World), 4 ≤ o → o ≤ 5 → ExtB (some (b0 + o)) w1 w2 → VrB root d wt f L K r ix ws ps wa pa wc pc b0 w1 → Below w0.heap.size w0 w1 → VrB root d wt f L K r ix ws ps wa pa wc pc b0 w2 ∧ Below w0.heap.size w0 w2 := fun o w1 w2 h1 h2 hx hv hb => by
    have hb2 : Below w0.heap.size w0 w2 := grownBy_below hb hx (fun q hq => by cases hq; omega)
    have ne : ∀ i : Nat, i ≤ 3 → some (b0 + i) ≠ some (b0 + o) := fun i hi e => by have := Option.some.inj e; omega
    exact ⟨⟨extB_block hx (ne 0 (by decide)) hv.p, extB_block hx (ne 1 (by decide)) hv.r, extB_block hx (ne 2 (by decide)) hv.d, extB_block hx (ne 3 (by decide)) hv.s, htw.below hb2, htp.below hb2⟩, hb2⟩
  refine lfirst_any 4 (b0 + 6) vrF (vrC b0) (VrQ root d wt f L K r ix ws ps wa pa wc pc b0 w0) (VrA root d f L K r ⟨ix, ws, ps⟩ w0) w (by decide)
    (fun k => by
      unfold vrF
      split
      · exact enters_of Tryz.func68 (by kernel_rfl) rfl
      · split
        · exact enters_of Tryz.func71 (by kernel_rfl) rfl
        · split
          · exact enters_of Tryz.func73 (by kernel_rfl) rfl
          · exact enters_of Tryz.func75 (by kernel_rfl) rfl)
    (fun j w1 w2 h hb => h.below hb)
    (fun j hj w1 h => by
      rcases (by omega : j = 0 ∨ j = 1 ∨ j = 2 ∨ j = 3) with rfl | rfl | rfl | rfl
      · exact block_cell h.fr 0
      · exact block_cell h.fr 1
      · exact block_cell h.fr 2
      · exact block_cell h.fr 3)
    h
    (fun j hj w1 hw h => ?_)
    (fun w1 h => ⟨(h.e (Nat.le_refl _)).symm, h.w⟩)
  rcases (by omega : j = 0 ∨ j = 1 ∨ j = 2 ∨ j = 3) with rfl | rfl | rfl | rfl
  · refine (ver1_any root d wt f L K r ix ws ps wa pa wc pc b0 w1 h.b).mono ?_
    rintro e w2 ⟨rfl, hb⟩
    have h2 := h.below hb
    cases hm : mayV d root L K with
    | true => exact ⟨0, rfl, fun _ => ⟨h2.b, h2.fr, (by obtain ⟨x, h3, -⟩ := h2.kx; exact ⟨x, h3, fun h9 => by omega⟩), (by obtain ⟨x, h3, -⟩ := h2.ux; exact ⟨x, h3, fun h9 => by omega⟩), fun _ => hm, fun h9 => by omega, h2.w⟩, fun h0 => absurd rfl h0, Nat.le_trans hw hb.size⟩
    | false => exact ⟨2, rfl, fun h0 => (by cases h0), fun _ => ⟨(verE_may hm).symm, h2.w⟩, Nat.le_trans hw hb.size⟩
  · have hm := h.m (Nat.le_refl _)
    obtain ⟨x, hx, -⟩ := h.kx
    refine (ver2_any root d wt f L K r ix ws ps wa pa wc pc b0 x w1 h.b hx hf hr (mayV_iff.1 hm).2.2.1).mono ?_
    rintro e w2 ⟨rfl, hx2, he⟩
    obtain ⟨k1, k2⟩ := keep 4 w1 w2 (by decide) (by decide) he h.b h.w
    have hr2 : w2.heap[b0 + 6]? = _ := extB_block he (fun e => by have := Option.some.inj e; omega) h.fr
    obtain ⟨u, hu, -⟩ := h.ux
    have hu2 := extB_block he (fun e => by have := Option.some.inj e; omega) hu
    cases hk : keyO f L K r with
    | none => exact ⟨16, rfl, fun h0 => (by cases h0), fun _ => ⟨(verE_none hm hk).symm, k2⟩, Nat.le_trans hw he.size⟩
    | some k =>
      rw [hk] at hx2
      exact ⟨0, rfl, fun _ => ⟨k1, hr2, ⟨_, hx2, fun _ => ⟨k, hk, rfl⟩⟩, ⟨u, hu2, fun h9 => by omega⟩, fun _ => hm, fun h9 => by omega, k2⟩, fun h0 => absurd rfl h0, Nat.le_trans hw he.size⟩
  · have hm := h.m (by decide)
    obtain ⟨x, hx, hxk⟩ := h.kx
    obtain ⟨k, hk, rfl⟩ := hxk (by decide)
    obtain ⟨u, hu, -⟩ := h.ux
    refine (ver3_any root d wt f L K r ix ws ps wa pa wc pc b0 _ u w1 h.b hx hu hnw).mono ?_
    rintro e w2 ⟨rfl, hu2, he⟩
    obtain ⟨k1, k2⟩ := keep 5 w1 w2 (by decide) (by decide) he h.b h.w
    have hr2 : w2.heap[b0 + 6]? = _ := extB_block he (fun e => by have := Option.some.inj e; omega) h.fr
    have hx2 := extB_block he (fun e => by have := Option.some.inj e; omega) hx
    by_cases hc : ix = ((k : Nat) : Int) ∧ recE ws d = 0
    · rw [if_pos hc]
      exact ⟨0, rfl, fun _ => ⟨k1, hr2, ⟨_, hx2, fun _ => ⟨k, hk, rfl⟩⟩, ⟨_, hu2, fun _ => ⟨recS_ok hc.2, hc.2, k, hk, hc.1⟩⟩, fun _ => hm, fun h9 => by omega, k2⟩, fun h0 => absurd rfl h0, Nat.le_trans hw he.size⟩
    · rw [if_neg hc]
      exact ⟨10, rfl, fun h0 => (by cases h0), fun _ => ⟨by rw [verE_key hm hk, if_neg hc], k2⟩, Nat.le_trans hw he.size⟩
  · have hm := h.m (by decide)
    obtain ⟨x, hx, hxk⟩ := h.kx
    obtain ⟨k, hk, rfl⟩ := hxk (by decide)
    obtain ⟨u, hu, hur⟩ := h.ux
    obtain ⟨rfl, hr0, k9, hk9, hix⟩ := hur (by decide)
    rw [hk] at hk9
    cases hk9
    refine (ver4_any root d wt f L K r ix ws ps wa pa wc pc b0 k _ w1 h.b hx hu (keyO_some hk).2.2 (mayV_iff.1 hm).2.2.2.2 (by rw [recovP_size]; decide) hnp hpc).mono ?_
    rintro e w2 ⟨rfl, hb⟩
    have h2 := h.below hb
    have hv := verE_key (root := root) (d := d) (ix := ix) (ws := ws) (ps := ps) hm hk
    rw [if_pos ⟨hix, hr0⟩] at hv
    refine ⟨_, rfl, fun h0 => ⟨h2.b, h2.fr, ?_, ?_, h2.m ∘ fun _ => by decide, fun _ => hv.trans h0, h2.w⟩, fun _ => ⟨hv.symm, h2.w⟩, Nat.le_trans hw hb.size⟩
    · obtain ⟨x, h3, h4⟩ := h2.kx
      exact ⟨x, h3, fun _ => h4 (by decide)⟩
    · obtain ⟨x, h3, h4⟩ := h2.ux
      exact ⟨x, h3, fun _ => h4 (by decide)⟩
set_option maxRecDepth 100000 in
set_option maxHeartbeats 4000000 in
theorem verify_any (root d : ByteArray) (wt f L K r : Nat) (ix : Int) (ws ps : List ByteArray) (wa pa : Option Addr) (wc pc : Nat) (w : World) (htw : Txts w wa ws) (htp : Txts w pa ps) (hf : f < 18446744073709551616) (hr : r < 18446744073709551616) (hnw : len ws ≤ 1000000) (hnp : len ps ≤ 1000000) (hpc : len ps ≤ pc) :
    Calls Tryz.prog 27 #[.agg #[.string root, .int .u64 (wt : Nat), .int .u64 (f : Nat), .int .u64 (L : Nat), .int .u64 (K : Nat)], .int .u64 (r : Nat), .string d, .agg #[.int .u64 ix, .slice wa (len ws) wc, .slice pa (len ps) pc]] w fun e w' => e = .returned (.int .i64 (verE root f L K r d ⟨ix, ws, ps⟩)) ∧ Below w.heap.size w w' := by
  have HFI : Hid (∀ w1, VrQ root d wt f L K r ix ws ps wa pa wc pc w.heap.size w 0 w1 → Calls Tryz.prog 78 #[.slice (some ⟨w.heap.size + 6, 0, none⟩) 4 4] w1 fun e w' => ∃ x, e = .returned (.int .i64 x) ∧ VrA root d f L K r ⟨ix, ws, ps⟩ w x w') := Lib.hid (fun w1 h => vrfirst_any root d wt f L K r ix ws ps wa pa wc pc _ w w1 h (Nat.le_refl _) htw htp hf hr hnw hnp hpc)
  have HTW := Lib.hid htw
  have HTP := Lib.hid htp
  clear htw htp hf hr hnw hnp hpc
  go_enter Tryz.func27, Tryz.ntmps27
  go_wp2_with fail
  refine (HFI.out _ ⟨⟨?p, ?r, ?d, ?s, HTW.out.below ?bb, HTP.out.below ?bb⟩, ?fr, ⟨0, ?kx, fun h => by omega⟩, ⟨⟨#[]⟩, ?ux, fun h => by omega⟩, fun h => by omega, fun h => by omega, ?bb⟩).mono ?_
  case bb => exact balloc (balloc (balloc (balloc (balloc (balloc (balloc (Below.refl _ _) _) _) _) _) _) _) _
  case p => exact block_alloc (block_alloc (block_alloc (block_alloc (block_alloc (block_alloc (alloc_new_at _ rfl) _) _) _) _) _) _
  case r => exact block_alloc (block_alloc (block_alloc (block_alloc (block_alloc (alloc_new_at _ (by simp)) _) _) _) _) _
  case d => exact block_alloc (block_alloc (block_alloc (block_alloc (alloc_new_at _ (by simp)) _) _) _) _
  case s => exact block_alloc (block_alloc (block_alloc (alloc_new_at _ (by simp)) _) _) _
  case kx => exact block_alloc (block_alloc (alloc_new_at _ (by simp)) _) _
  case ux => exact block_alloc (alloc_new_at _ (by simp)) _
  case fr => exact alloc_new_at _ (by simp)
  rintro e w1 ⟨x, rfl, hx, hb⟩
  have HX := Lib.hid hx
  have HB := Lib.hid hb
  clear hx hb
  go_wp2
  go_ret
  exact ⟨by rw [← HX.out]; rfl, HB.out⟩
end Go.Proofs.YtoafjbillcooiaaGreat
namespace Go.Proofs.YtoafjbillcooiaaGreat
open Go.RowKit
set_option linter.unusedSimpArgs false
set_option linter.unusedVariables false
set_option maxRecDepth 100000 in
set_option maxHeartbeats 4000000 in
theorem rpart14_any (seed : ByteArray) (f L K b wt : Nat) (la : Option Addr) (lc : Nat) (w : World) (h : RLadAt seed f L K b la lc w) (hK : K ≤ 64) : Calls Tryz.prog 26 #[.pointer (some ⟨b, 0, none⟩), .int .u64 (wt : Nat)] w fun e w' => e = .returned (.agg #[.string (ladR seed K), .int .u64 (wt : Nat), .int .u64 (f : Nat), .int .u64 (L : Nat), .int .u64 (K : Nat)]) ∧ Below w.heap.size w w' := by
  have H := Lib.hid h
  have HK := Lib.hid hK
  have k2 : IntKind.u64.wrap ((K : Nat) : Int) = (K : Int) := IntWalk.u64_in _ (by omega)
  obtain ⟨rt, hrt⟩ : ∃ rt, ladR seed K = rt := ⟨_, rfl⟩
  have HRT := Lib.hid hrt
  rw [hrt]
  clear h hK hrt
  go_enter Tryz.func26, Tryz.ntmps26
  go_upto_region 1 with fail
  obtain ⟨V, hV⟩ : ∃ V, w.alloc (.cells #[.string ⟨#[]⟩, .int .u64 0, .int .u64 0, .int .u64 0, .int .u64 0] 62) = V := ⟨_, rfl⟩
  obtain ⟨rb, hrb⟩ : ∃ rb, w.heap.size = rb := ⟨_, rfl⟩
  have HV : Hid (Below w.heap.size w V) := Lib.hid (by rw [← hV]; exact balloc (Below.refl _ _) _)
  have HVB : Hid (V.heap[rb]? = some (.cells #[.string ⟨#[]⟩, .int .u64 0, .int .u64 0, .int .u64 0, .int .u64 0] 62 (0, 0))) := Lib.hid (by rw [← hV, ← hrb]; exact heap_alloc_new _ _)
  have HRB : Hid (w.heap.size ≤ rb) := Lib.hid (Nat.le_of_eq hrb)
  rw [hV, hrb]
  clear hV hrb
  have H1 := H.out.below HV.out
  have c1 : V.cell? ⟨b, 1, none⟩ = some (.int .u64 (f : Nat)) := block_cell H1.c 1
  have c2 : V.cell? ⟨b, 2, none⟩ = some (.int .u64 (L : Nat)) := block_cell H1.c 2
  have c3 : V.cell? ⟨b, 3, none⟩ = some (.slice la K lc) := block_cell H1.c 3
  have HR9 : Hid (∀ wv : World, Below V.heap.size V wv → Calls Tryz.prog 36 #[.pointer (some ⟨b, 0, none⟩)] wv fun e w' => e = .returned (.string rt) ∧ Below wv.heap.size wv w') := Lib.hid (fun wv hb => by
    rw [← HRT.out]; exact rroot14_any seed f L K b la lc wv ((H.out.below HV.out).below hb) HK.out)
  clear H1
  refine wp_region_tail 18 1000 (none) (phis (List.map qv [.pointer (some ⟨b, 0, none⟩), .string rt, .int .u64 (wt : Nat), .pointer (some ⟨b, 0, none⟩), .pointer (some ⟨b, 0, none⟩), .pointer (some ⟨b, 1, none⟩), .int .u64 (f : Nat), .pointer (some ⟨b, 0, none⟩), .pointer (some ⟨b, 0, none⟩), .pointer (some ⟨b, 2, none⟩), .int .u64 (L : Nat), .pointer (some ⟨b, 0, none⟩), .pointer (some ⟨b, 0, none⟩), .pointer (some ⟨b, 3, none⟩), .slice la K lc, .int .i64 (K : Nat), .int .u64 (K : Nat), .agg #[.string rt, .int .u64 (wt : Nat), .int .u64 (f : Nat), .int .u64 (L : Nat), .int .u64 (K : Nat)]])) rfl (by kernel_rfl) (by kernel_rfl) (mono_of mono_qv) (steps_of 18 ⟨?s0, ?s1, ?s2, ?s3, ?s4, ?s5, ?s6, ?s7, ?s8, ?s9, ?s10, ?s11, ?s12, ?s13, ?s14, ?s15, ?s16, ?s17, trivial⟩) ?_
  case s0 =>
    refine qV (fun _ => rfl) rfl fun av wv hE hO hD => ?_
    simp [go_sem, qF av 0 (.pointer (some ⟨b, 0, none⟩)) (hO.2.2 0 rfl), k2]
  case s1 =>
    refine step_wp (fun av wv hE hS hO hD => ⟨rfl, ?_⟩)
    have f5 := qE (hD.1 rfl _ rfl)
    refine wp_of_call (v := .string rt) (by simp [go_sem, f5]) (HR9.out wv (of_drew hE)) (fun w2 hb => ⟨_, rfl, es_of_ext hb, rfl⟩)
  case s2 =>
    refine qV (fun _ => rfl) rfl fun av wv hE hO hD => ?_
    simp [go_sem, qF av 1 (.int .u64 (wt : Nat)) (hO.2.2 1 rfl), k2]
  case s3 =>
    refine qV (fun _ => rfl) rfl fun av wv hE hO hD => ?_
    simp [go_sem, qF av 0 (.pointer (some ⟨b, 0, none⟩)) (hO.2.2 0 rfl), k2]
  case s4 =>
    refine qV (fun _ => rfl) rfl fun av wv hE hO hD => ?_
    simp [go_sem, qE (hD.1 rfl _ rfl), k2]
  case s5 =>
    refine qV (fun _ => rfl) rfl fun av wv hE hO hD => ?_
    simp [go_sem, qE (hD.1 rfl _ rfl), k2]
  case s6 =>
    refine qV (fun _ => rfl) rfl fun av wv hE hO hD => ?_
    simp [go_sem, qE (hD.1 rfl _ rfl), extB_cell hE (by simp) c1, extB_cell hE (by simp) c2, extB_cell hE (by simp) c3, k2]
  case s7 =>
    refine qV (fun _ => rfl) rfl fun av wv hE hO hD => ?_
    simp [go_sem, qF av 0 (.pointer (some ⟨b, 0, none⟩)) (hO.2.2 0 rfl), k2]
  case s8 =>
    refine qV (fun _ => rfl) rfl fun av wv hE hO hD => ?_
    simp [go_sem, qE (hD.1 rfl _ rfl), k2]
  case s9 =>
    refine qV (fun _ => rfl) rfl fun av wv hE hO hD => ?_
    simp [go_sem, qE (hD.1 rfl _ rfl), k2]
  case s10 =>
    refine qV (fun _ => rfl) rfl fun av wv hE hO hD => ?_
    simp [go_sem, qE (hD.1 rfl _ rfl), extB_cell hE (by simp) c1, extB_cell hE (by simp) c2, extB_cell hE (by simp) c3, k2]
  case s11 =>
    refine qV (fun _ => rfl) rfl fun av wv hE hO hD => ?_
    simp [go_sem, qF av 0 (.pointer (some ⟨b, 0, none⟩)) (hO.2.2 0 rfl), k2]
  case s12 =>
    refine qV (fun _ => rfl) rfl fun av wv hE hO hD => ?_
    simp [go_sem, qE (hD.1 rfl _ rfl), k2]
  case s13 =>
    refine qV (fun _ => rfl) rfl fun av wv hE hO hD => ?_
    simp [go_sem, qE (hD.1 rfl _ rfl), k2]
  case s14 =>
    refine qV (fun _ => rfl) rfl fun av wv hE hO hD => ?_
    simp [go_sem, qE (hD.1 rfl _ rfl), extB_cell hE (by simp) c1, extB_cell hE (by simp) c2, extB_cell hE (by simp) c3, k2]
  case s15 =>
    refine qV (fun _ => rfl) rfl fun av wv hE hO hD => ?_
    simp [go_sem, qE (hD.1 rfl _ rfl), k2]
  case s16 =>
    refine qV (fun _ => rfl) rfl fun av wv hE hO hD => ?_
    simp [go_sem, qE (hD.1 rfl _ rfl), k2]
  case s17 =>
    refine qV (fun _ => rfl) rfl fun av wv hE hO hD => ?_
    simp [go_sem, qE (hD.1 rfl _ rfl), qE (hD.2.1 rfl _ rfl), qE (hD.2.2.1 rfl _ rfl), qE (hD.2.2.2.1 rfl _ rfl), qE (hD.2.2.2.2.1 rfl _ rfl), k2]
  intro a' w' hE hO hall
  have hA := act_of_outer (ds := [5, 6, 7, 8, 9, 10, 11, 12, 13, 14, 15, 16, 17, 18, 19, 20, 21, 22]) rfl hO (by kernel_rfl)
  obtain ⟨j0, j1, j2, j3, j4, j5, j6, j7, j8, j9, j10, j11, j12, j13, j14, j15, j16, j17, -⟩ := hall
  simp only [List.foldl_cons, List.foldl_nil, Act.put, List.setIfInBounds_toArray, List.set_cons_succ, List.set_cons_zero, qJ 5 (j0 _ rfl), qJ 6 (j1 _ rfl), qJ 7 (j2 _ rfl), qJ 8 (j3 _ rfl), qJ 9 (j4 _ rfl), qJ 10 (j5 _ rfl), qJ 11 (j6 _ rfl), qJ 12 (j7 _ rfl), qJ 13 (j8 _ rfl), qJ 14 (j9 _ rfl), qJ 15 (j10 _ rfl), qJ 16 (j11 _ rfl), qJ 17 (j12 _ rfl), qJ 18 (j13 _ rfl), qJ 19 (j14 _ rfl), qJ 20 (j15 _ rfl), qJ 21 (j16 _ rfl), qJ 22 (j17 _ rfl)] at hA
  clear hO j0 j1 j2 j3 j4 j5 j6 j7 j8 j9 j10 j11 j12 j13 j14 j15 j16 j17
  subst hA
  have HB2 := Lib.hid (of_drew hE)
  have HB3 := Lib.hid ((HB2.out.block _ (lt_of_block HVB.out)).trans HVB.out)
  clear hE c1 c2 c3
  simp only [List.drop_succ_cons, List.drop_zero]
  have z0 := fun o => block_cell HB3.out o
  have z1 : ∀ o, w'.frozen? ⟨rb, o, none⟩ = false := block_free HB3.out
  have z2 : rb < w'.heap.size := lt_of_block HB3.out
  go_wp2
  have hk := block_setCell (block_setCell (block_setCell (block_setCell (block_setCell HB3.out (o := 0) (.string rt)) (o := 1) (.int .u64 (wt : Nat))) (o := 2) (.int .u64 (f : Nat))) (o := 3) (.int .u64 (L : Nat))) (o := 4) (.int .u64 (K : Nat))
  have e0 := block_cell hk 0
  have e1 := block_cell hk 1
  have e2 := block_cell hk 2
  have e3 := block_cell hk 3
  have e4 := block_cell hk 4
  refine bodyPost_ret (v := .agg #[.string rt, .int .u64 (wt : Nat), .int .u64 (f : Nat), .int .u64 (L : Nat), .int .u64 (K : Nat)]) ?_ rfl ⟨rfl, bset (bset (bset (bset (bset (bnext HV.out HB2.out) HRB.out _) HRB.out _) HRB.out _) HRB.out _) HRB.out _⟩
  simp [results, Tryz.results26, go_sem, e0, e1, e2, e3, e4]
set_option maxRecDepth 100000 in
set_option maxHeartbeats 4000000 in
theorem lpart_any (seed : ByteArray) (f L K b tb wt : Nat) (w : World) (h : LadAt seed f L K b tb w) : Calls Tryz.prog 32 #[.pointer (some ⟨b, 0, none⟩), .int .u64 (wt : Nat)] w fun e w' => e = .returned (.agg #[.string (ladR seed K), .int .u64 (wt : Nat), .int .u64 (f : Nat), .int .u64 (L : Nat), .int .u64 (K : Nat)]) ∧ Below w.heap.size w w' := by
  have H := Lib.hid h
  obtain ⟨rt, hrt⟩ : ∃ rt, ladR seed K = rt := ⟨_, rfl⟩
  have HRT := Lib.hid hrt
  rw [hrt]
  clear h hrt
  go_enter Tryz.func32, Tryz.ntmps32
  go_upto_region 3 with fail
  obtain ⟨V, hV⟩ : ∃ V, w.alloc (.cells #[.string ⟨#[]⟩, .int .u64 0, .int .u64 0, .int .u64 0, .int .u64 0] 62) = V := ⟨_, rfl⟩
  obtain ⟨rb, hrb⟩ : ∃ rb, w.heap.size = rb := ⟨_, rfl⟩
  have HV : Hid (Below w.heap.size w V) := Lib.hid (by rw [← hV]; exact balloc (Below.refl _ _) _)
  have HVB : Hid (V.heap[rb]? = some (.cells #[.string ⟨#[]⟩, .int .u64 0, .int .u64 0, .int .u64 0, .int .u64 0] 62 (0, 0))) := Lib.hid (by rw [← hV, ← hrb]; exact heap_alloc_new _ _)
  have HRB : Hid (w.heap.size ≤ rb) := Lib.hid (Nat.le_of_eq hrb)
  rw [hV, hrb]
  clear hV hrb
  have H1 := H.out.below HV.out
  have c1 : V.cell? ⟨b, 0, none⟩ = some (.int .u64 (f : Nat)) := block_cell H1.c 0
  have c2 : V.cell? ⟨b, 1, none⟩ = some (.int .u64 (L : Nat)) := block_cell H1.c 1
  have c3 : V.cell? ⟨b, 2, none⟩ = some (.int .u64 (K : Nat)) := block_cell H1.c 2
  have HR9 : Hid (∀ wv : World, Below V.heap.size V wv → Calls Tryz.prog 35 #[.pointer (some ⟨b, 0, none⟩)] wv fun e w' => e = .returned (.string rt) ∧ Below wv.heap.size wv w') := Lib.hid (fun wv hb => by
    rw [← HRT.out]; exact lroot14_any seed f L K b tb wv ((H.out.below HV.out).below hb))
  clear H1
  refine wp_region_tail 19 1000 (none) (phis (List.map qv [.pointer (some ⟨b, 0, none⟩), .string rt, .int .u64 (wt : Nat), .pointer (some ⟨b, 0, none⟩), .pointer (some ⟨b, 0, none⟩), .pointer (some ⟨b, 0, none⟩), .pointer (some ⟨b, 0, none⟩), .int .u64 (f : Nat), .pointer (some ⟨b, 0, none⟩), .pointer (some ⟨b, 0, none⟩), .pointer (some ⟨b, 0, none⟩), .pointer (some ⟨b, 1, none⟩), .int .u64 (L : Nat), .pointer (some ⟨b, 0, none⟩), .pointer (some ⟨b, 0, none⟩), .pointer (some ⟨b, 0, none⟩), .pointer (some ⟨b, 2, none⟩), .int .u64 (K : Nat), .agg #[.string rt, .int .u64 (wt : Nat), .int .u64 (f : Nat), .int .u64 (L : Nat), .int .u64 (K : Nat)]])) rfl (by kernel_rfl) (by kernel_rfl) (mono_of mono_qv) (steps_of 19 ⟨?s0, ?s1, ?s2, ?s3, ?s4, ?s5, ?s6, ?s7, ?s8, ?s9, ?s10, ?s11, ?s12, ?s13, ?s14, ?s15, ?s16, ?s17, ?s18, trivial⟩) ?_
  case s0 =>
    refine qV (fun _ => rfl) rfl fun av wv hE hO hD => ?_
    simp [go_sem, qF av 0 (.pointer (some ⟨b, 0, none⟩)) (hO.2.2 0 rfl)]
  case s1 =>
    refine step_wp (fun av wv hE hS hO hD => ⟨rfl, ?_⟩)
    have f8 := qE (hD.1 rfl _ rfl)
    refine wp_of_call (v := .string rt) (by simp [go_sem, f8]) (HR9.out wv (of_drew hE)) (fun w2 hb => ⟨_, rfl, es_of_ext hb, rfl⟩)
  case s2 =>
    refine qV (fun _ => rfl) rfl fun av wv hE hO hD => ?_
    simp [go_sem, qF av 1 (.int .u64 (wt : Nat)) (hO.2.2 1 rfl)]
  case s3 =>
    refine qV (fun _ => rfl) rfl fun av wv hE hO hD => ?_
    simp [go_sem, qF av 0 (.pointer (some ⟨b, 0, none⟩)) (hO.2.2 0 rfl)]
  case s4 =>
    refine qV (fun _ => rfl) rfl fun av wv hE hO hD => ?_
    simp [go_sem, qE (hD.1 rfl _ rfl)]
  case s5 =>
    refine qV (fun _ => rfl) rfl fun av wv hE hO hD => ?_
    simp [go_sem, qE (hD.1 rfl _ rfl)]
  case s6 =>
    refine qV (fun _ => rfl) rfl fun av wv hE hO hD => ?_
    simp [go_sem, qE (hD.1 rfl _ rfl)]
  case s7 =>
    refine qV (fun _ => rfl) rfl fun av wv hE hO hD => ?_
    simp [go_sem, qE (hD.1 rfl _ rfl), extB_cell hE (by simp) c1, extB_cell hE (by simp) c2, extB_cell hE (by simp) c3]
  case s8 =>
    refine qV (fun _ => rfl) rfl fun av wv hE hO hD => ?_
    simp [go_sem, qF av 0 (.pointer (some ⟨b, 0, none⟩)) (hO.2.2 0 rfl)]
  case s9 =>
    refine qV (fun _ => rfl) rfl fun av wv hE hO hD => ?_
    simp [go_sem, qE (hD.1 rfl _ rfl)]
  case s10 =>
    refine qV (fun _ => rfl) rfl fun av wv hE hO hD => ?_
    simp [go_sem, qE (hD.1 rfl _ rfl)]
  case s11 =>
    refine qV (fun _ => rfl) rfl fun av wv hE hO hD => ?_
    simp [go_sem, qE (hD.1 rfl _ rfl)]
  case s12 =>
    refine qV (fun _ => rfl) rfl fun av wv hE hO hD => ?_
    simp [go_sem, qE (hD.1 rfl _ rfl), extB_cell hE (by simp) c1, extB_cell hE (by simp) c2, extB_cell hE (by simp) c3]
  case s13 =>
    refine qV (fun _ => rfl) rfl fun av wv hE hO hD => ?_
    simp [go_sem, qF av 0 (.pointer (some ⟨b, 0, none⟩)) (hO.2.2 0 rfl)]
  case s14 =>
    refine qV (fun _ => rfl) rfl fun av wv hE hO hD => ?_
    simp [go_sem, qE (hD.1 rfl _ rfl)]
  case s15 =>
    refine qV (fun _ => rfl) rfl fun av wv hE hO hD => ?_
    simp [go_sem, qE (hD.1 rfl _ rfl)]
  case s16 =>
    refine qV (fun _ => rfl) rfl fun av wv hE hO hD => ?_
    simp [go_sem, qE (hD.1 rfl _ rfl)]
  case s17 =>
    refine qV (fun _ => rfl) rfl fun av wv hE hO hD => ?_
    simp [go_sem, qE (hD.1 rfl _ rfl), extB_cell hE (by simp) c1, extB_cell hE (by simp) c2, extB_cell hE (by simp) c3]
  case s18 =>
    refine qV (fun _ => rfl) rfl fun av wv hE hO hD => ?_
    simp [go_sem, qE (hD.1 rfl _ rfl), qE (hD.2.1 rfl _ rfl), qE (hD.2.2.1 rfl _ rfl), qE (hD.2.2.2.1 rfl _ rfl), qE (hD.2.2.2.2.1 rfl _ rfl)]
  intro a' w' hE hO hall
  have hA := act_of_outer (ds := [8, 9, 10, 11, 12, 13, 14, 15, 16, 17, 18, 19, 20, 21, 22, 23, 24, 25, 26]) rfl hO (by kernel_rfl)
  obtain ⟨j0, j1, j2, j3, j4, j5, j6, j7, j8, j9, j10, j11, j12, j13, j14, j15, j16, j17, j18, -⟩ := hall
  simp only [List.foldl_cons, List.foldl_nil, Act.put, List.setIfInBounds_toArray, List.set_cons_succ, List.set_cons_zero, qJ 8 (j0 _ rfl), qJ 9 (j1 _ rfl), qJ 10 (j2 _ rfl), qJ 11 (j3 _ rfl), qJ 12 (j4 _ rfl), qJ 13 (j5 _ rfl), qJ 14 (j6 _ rfl), qJ 15 (j7 _ rfl), qJ 16 (j8 _ rfl), qJ 17 (j9 _ rfl), qJ 18 (j10 _ rfl), qJ 19 (j11 _ rfl), qJ 20 (j12 _ rfl), qJ 21 (j13 _ rfl), qJ 22 (j14 _ rfl), qJ 23 (j15 _ rfl), qJ 24 (j16 _ rfl), qJ 25 (j17 _ rfl), qJ 26 (j18 _ rfl)] at hA
  clear hO j0 j1 j2 j3 j4 j5 j6 j7 j8 j9 j10 j11 j12 j13 j14 j15 j16 j17 j18
  subst hA
  have HB2 := Lib.hid (of_drew hE)
  have HB3 := Lib.hid ((HB2.out.block _ (lt_of_block HVB.out)).trans HVB.out)
  clear hE c1 c2 c3
  simp only [List.drop_succ_cons, List.drop_zero]
  have z0 := fun o => block_cell HB3.out o
  have z1 : ∀ o, w'.frozen? ⟨rb, o, none⟩ = false := block_free HB3.out
  have z2 : rb < w'.heap.size := lt_of_block HB3.out
  go_wp2
  have hk := block_setCell (block_setCell (block_setCell (block_setCell (block_setCell HB3.out (o := 0) (.string rt)) (o := 1) (.int .u64 (wt : Nat))) (o := 2) (.int .u64 (f : Nat))) (o := 3) (.int .u64 (L : Nat))) (o := 4) (.int .u64 (K : Nat))
  have e0 := block_cell hk 0
  have e1 := block_cell hk 1
  have e2 := block_cell hk 2
  have e3 := block_cell hk 3
  have e4 := block_cell hk 4
  refine bodyPost_ret (v := .agg #[.string rt, .int .u64 (wt : Nat), .int .u64 (f : Nat), .int .u64 (L : Nat), .int .u64 (K : Nat)]) ?_ rfl ⟨rfl, bset (bset (bset (bset (bset (bnext HV.out HB2.out) HRB.out _) HRB.out _) HRB.out _) HRB.out _) HRB.out _⟩
  simp [results, Tryz.results32, go_sem, e0, e1, e2, e3, e4]
end Go.Proofs.YtoafjbillcooiaaGreat
namespace Go.Proofs.YtoafjbillcooiaaGreat
open Go.RowKit
set_option linter.unusedSimpArgs false
set_option linter.unusedVariables false
theorem info_u8l : (Tryz.prog.info? 5).map (fun i => (i.zero, i.size, i.bytes)) = some (some (.int .u8 0), 1, 1) := by kernel_rfl
def text5 (c n : Nat) : List UInt8 := (List.range n).map fun i => UInt8.ofNat ((c + i % 5) % 256)
theorem text5_len (c n : Nat) : (text5 c n).length = n := by unfold text5; rw [List.length_map, List.length_range]
theorem text5_at (c n m : Nat) (h : m < n) : Value.int .u8 (((c + m % 5) % 256 : Nat) : Int) = byV ((text5 c n).getD m 0) := by
  unfold text5 byV
  rw [List.getD_eq_getElem?_getD, List.getElem?_map, List.getElem?_range h]
  simp
def textN (c n : Nat) : ByteArray := ⟨(text5 c n).toArray⟩
theorem textN_size (c n : Nat) : (textN c n).size = n := by
  show (text5 c n).toArray.size = n
  rw [List.size_toArray, text5_len]
set_option maxRecDepth 100000 in
theorem make_bn (K : List UInt8) (n : Nat) (hn : n ≤ 1000) (W : World) : (Instr.makeSlice 114 (.int .i64 (n : Nat)) (.int .i64 (n : Nat))).run Tryz.prog W = .ok (.slice (some ⟨W.heap.size, 0, none⟩) n n) (W.alloc (.cells (filC K n 0) 5)) := by
  obtain ⟨i0, hi, hz0, hz1, hz2⟩ := info_parts info_u8l
  have hr := run_make (P := Tryz.prog) W 114 5 i0 (.int .u8 0) Tryz.underlying114 hi hz0 .i64 .i64 (n : Nat) (n : Nat) (by omega) (Int.le_refl _) (by rw [hz2]; omega) (by omega)
  have e : madeCells (Value.int .u8 0).cells (n * 1) = filC K n 0 := by
    apply Array.toList_inj.1
    show (madeCells #[.int .u8 0] (n * 1)).toList = _
    rw [toList_madeCells_one]
    unfold filC filB
    simp
    exact Or.inr rfl
  rw [hr, hz1]
  show Result.ok _ (W.alloc (.cells (madeCells (Value.int .u8 0).cells (n * 1)) 5)) = _
  rw [e]
  rfl
set_option maxRecDepth 100000 in
set_option maxHeartbeats 4000000 in
theorem text14_any (c n : Nat) (w : World) (hc : c ≤ 255) (hn : n ≤ 1000) : Calls Tryz.prog 23 #[.int .u8 (c : Nat), .int .i64 (n : Nat)] w fun e w' => e = .returned (.string (textN c n)) ∧ Below w.heap.size w w' := by
  have HC := Lib.hid hc
  have mk := make_bn (text5 c n) n hn
  have HN := Lib.hid hn
  clear hc hn
  go_enter Tryz.func23, Tryz.ntmps23
  go_upto_region 2 with fail
  obtain ⟨lb, hlb⟩ : ∃ lb, w.heap.size = lb := ⟨_, rfl⟩
  obtain ⟨U, hU⟩ : ∃ U, w.alloc (.cells (filC (text5 c n) n 0) 5) = U := ⟨_, rfl⟩
  have HUB : Hid (U.heap[lb]? = some (.cells (filC (text5 c n) n 0) 5 (0, 0))) := Lib.hid (by rw [← hU]; exact alloc_new_at _ hlb)
  have HUW : Hid (Below w.heap.size w U) := Lib.hid (by rw [← hU]; exact balloc (Below.refl _ _) _)
  have HLB : Hid (w.heap.size ≤ lb) := Lib.hid (Nat.le_of_eq hlb)
  rw [hlb]
  rw [hU]
  clear hU hlb mk
  go_wp2
  go_loopg [6] n (fun g i wr => ∃ m : Nat, g + m = n ∧ i = .int .i64 m ∧ Hid (wr.heap[lb]? = some (.cells (filC (text5 c n) n m) 5 (0, 0))) ∧ Hid (Below w.heap.size w wr))
  case atStart => exact ⟨0, by simp, rfl, HUB, HUW⟩
  case round =>
    clear HUB HUW
    obtain ⟨m, hm, rfl, HUB, HUW⟩ := hrel
    by_cases hlt : m < n
    · have i1 : (m : Int) < n := by omega
      obtain ⟨W, hW⟩ : ∃ W, wr = W := ⟨_, rfl⟩
      rw [hW] at HUB HUW ⊢
      have c0 : W.cell? ⟨lb, m, none⟩ = some (byV 0) := by rw [block_cell HUB.out, filC_at _ _ _ hlt (text5_len c n)]
      have c1 : W.frozen? ⟨lb, m, none⟩ = false := block_free HUB.out m
      have c2 : lb < W.heap.size := lt_of_block HUB.out
      clear hW
      have HM := Lib.hid hm
      clear hm
      have ev : Value.int .u8 (((c : Int) + (m : Int) % 5) % 256) = byV ((text5 c n).getD m 0) := by rw [← text5_at c n m hlt]; congr 1
      have HEV := Lib.hid ev
      have HLT := Lib.hid hlt
      clear ev hlt
      go_upto_region 4 with fail
      rw [HEV.out]
      clear c0 c1 c2
      have HU2 : Hid ((W.setCell ⟨lb, m, none⟩ (byV ((text5 c n).getD m 0))).heap[lb]? = some (.cells (filC (text5 c n) n (m + 1)) 5 (0, 0))) := Lib.hid (by
        have := block_setCell HUB.out (o := m) (byV ((text5 c n).getD m 0))
        rw [filC_set _ _ _ HLT.out (text5_len c n)] at this
        exact this)
      have HU4 : Hid (Below w.heap.size w (W.setCell ⟨lb, m, none⟩ (byV ((text5 c n).getD m 0)))) := Lib.hid (bset HUW.out HLB.out _)
      go_wp2
      go_roundg (gk - 1)
      case rel => exact ⟨m + 1, by have := HM.out; have := HLT.out; omega, by
        have h8 := HLT.out
        have h9 := HN.out
        have ez : wrap64 ((m : Int) + 1) = ((m + 1 : Nat) : Int) := by rw [IntWalk.wrap64_in _ (by omega)]; omega
        exact congrArg (Value.int .i64) ez, HU2, HU4⟩
      case measure => have := HM.out; have := HLT.out; omega
    · obtain rfl : n = m := by omega
      have i1 : ¬ ((n : Nat) : Int) < (n : Nat) := by omega
      have HUB := Lib.hid (by have h := HUB.out; rw [filC_all _ _ (text5_len c n)] at h; exact h)
      have cv : (convert 114 9 (.slice (some ⟨lb, 0, none⟩) n n)).run Tryz.prog wr = .ok (.string (textN c n)) wr := conv_block wr lb 0 n n (text5 c n) (text5_len c n) (fun i hi => byV_block HUB.out i (by rw [text5_len]; exact hi))
      go_wp2
      go_ret
      exact ⟨rfl, HUW.out⟩
end Go.Proofs.YtoafjbillcooiaaGreat
