/- Parts of the proof, one behind the other. -/
import Derived.Test.YtpobhbdomldecaaGreatDoorHchP2
import Derived.Sort.Grow
import Derived.Sort.LotD4
import Derived.Sort.AtCall
import Derived.BigGuard
import Derived.BigCall
import Derived.CellFam
import Derived.Sort.LotC
import Derived.WalkKit
import Derived.RegionTactic
import Derived.Deep.Draws
import Derived.Deep.QuietTactic
import Derived.BigQuiet
import Derived.Sort.AssemblyPlain
import Derived.Deep.RegionHeld3
import Derived.Deep.LoopGhost
import Derived.Lib.ItoaNum
import Derived.RangeFuncKeeps
import Derived.RangeFuncFrom
import Derived.Laws.Tables
import Derived.Laws.Rows
namespace Go.Proofs.YtpobhbdomldecaaGreatDoor
set_option linter.unusedSimpArgs false
set_option linter.unusedVariables false
open Go.Sort Go.RowKit
theorem of_beq_int {x y : Int} (h : (x == y) = true) : x = y := by simpa using h
theorem of_bne_int {x y : Int} (h : (x == y) = false) : x ≠ y := by simpa using h
theorem counter_grow (w : World) (N S : Nat) : ∃ os, putRow (Value.int .i64) (Sort.ahead (w.alloc (.cells #[.int .i64 0] 3)) N) w.heap.size 0 (one S) = grow (Sort.ahead w N) os := by
  rw [alloc_eq_grow, ahead_grow]
  obtain ⟨os, _, h⟩ := putRow_grow_new (Value.int .i64) (Sort.ahead w N) #[.cells #[.int .i64 0] 3] w.heap.size 0 (one S) (Nat.le_refl _)
  exact ⟨os, h⟩
theorem pivot_world_int (blk off cap : Nat) (d : Array Int) (w : World) (hH : Holds (Value.int .u64) w blk off d) (hblk : blk < w.heap.size) (hsz : d.size < 4611686018427387904) :
    ∃ Wc : Nat → Nat → World,
      w.alloc (.cells #[.int .i64 0] 3) = Wc 0 0 ∧
      (∀ N S : Nat, (Wc N S).cell? ⟨w.heap.size, 0, none⟩ = some (.int .i64 (S : Int))) ∧
      (∀ N S : Nat, ∃ os, Wc N S = grow (Sort.ahead w N) os) ∧
      (∀ x s N : Nat, 1 ≤ x → x + 1 < d.size → s + 3 < 4611686018427387904 → Calls Tryz.prog 312 #[.slice (some ⟨blk, off, none⟩) d.size cap, .int .i64 (x : Int), .pointer (some ⟨w.heap.size, 0, none⟩)] (Wc N s) fun e w' =>
        e = .returned (.int .i64 ((medianAdjacent ltInt d x s).1 : Int)) ∧ ∃ N', w' = Wc N' (medianAdjacent ltInt d x s).2) ∧
      (∀ x y z s N : Nat, x < d.size → y < d.size → z < d.size → s + 3 < 4611686018427387904 → Calls Tryz.prog 313 #[.slice (some ⟨blk, off, none⟩) d.size cap, .int .i64 (x : Int), .int .i64 (y : Int), .int .i64 (z : Int), .pointer (some ⟨w.heap.size, 0, none⟩)] (Wc N s) fun e w' =>
        e = .returned (.int .i64 ((median ltInt d x y z s).1 : Int)) ∧ ∃ N', w' = Wc N' (median ltInt d x y z s).2) := by
  have hne : w.heap.size ≠ blk := by omega
  have hH0 : Holds (Value.int .u64) (w.alloc (.cells #[.int .i64 0] 3)) blk off d := by rw [alloc_eq_grow]; exact holds_grow _ _ _ _ _ _ hblk hH
  have hS0 : Holds (Value.int .i64) (w.alloc (.cells #[.int .i64 0] 3)) w.heap.size 0 (one 0) := fun j hj => by
    obtain rfl : j = 0 := by simpa using hj
    simp
  refine ⟨fun N S => putRow (Value.int .i64) (Sort.ahead (w.alloc (.cells #[.int .i64 0] 3)) N) w.heap.size 0 (one S), (putRow_self _ _ _ _ _ hS0).symm, fun N S => (one_cell (holds_one (n := N) (t := S) hS0)).1, fun N S => counter_grow w N S, ?_, ?_⟩
  · intro x s N h1 h2 hs
    refine (so_medianAdjacent_int d _ rfl blk off cap x w.heap.size 0 s _ (holds_aside hH0 hne) h1 h2 (by omega) hne (holds_one hS0) (by omega)).mono ?_
    rintro e w' ⟨he, n, hw⟩
    exact ⟨he, N + n, by rw [hw, one_one]⟩
  · intro x y z s N h1 h2 h3 hs
    refine (so_median_int d _ rfl blk off cap x y z w.heap.size 0 s _ (holds_aside hH0 hne) h1 h2 h3 hne (holds_one hS0) (by omega)).mono ?_
    rintro e w' ⟨he, n, hw⟩
    exact ⟨he, N + n, by rw [hw, one_one]⟩
set_option maxRecDepth 100000 in
theorem so_choosePivot_int (blk off cap a b : Nat) (d : Array Int) (w : World) (hH : Holds (Value.int .u64) w blk off d) (hblk : blk < w.heap.size) (hab : a < b) (hb : b ≤ d.size) (hsz : d.size < 4611686018427387904) :
    Calls Tryz.prog 302 #[.slice (some ⟨blk, off, none⟩) d.size cap, .int .i64 a, .int .i64 b] w fun e w' =>
      e = .returned (.tuple #[.int .i64 (choosePivot ltInt d a b).1, .int .i64 (hintCode (choosePivot ltInt d a b).2)]) ∧ ∃ n os, w' = grow (Sort.ahead w n) os := by
  obtain ⟨Wc, hW0, cS, hG, MA, MD⟩ := pivot_world_int blk off cap d w hH hblk hsz
  clear hH
  rw [choosePivot_eq]
  obtain ⟨I, hI⟩ : ∃ I : Nat, I = a + (b - a) / 4 * 1 := ⟨_, rfl⟩
  obtain ⟨J, hJ⟩ : ∃ J : Nat, J = a + (b - a) / 4 * 2 := ⟨_, rfl⟩
  obtain ⟨K, hK⟩ : ∃ K : Nat, K = a + (b - a) / 4 * 3 := ⟨_, rfl⟩
  have eI : ((a : Int) + ((b : Int) - (a : Int)) / 4) = (I : Int) := by omega
  have eJ : ((a : Int) + ((b : Int) - (a : Int)) / 4 * 2) = (J : Int) := by omega
  have eK : ((a : Int) + ((b : Int) - (a : Int)) / 4 * 3) = (K : Int) := by omega
  by_cases h8 : b - a ≥ 8
  · by_cases h50 : b - a ≥ 50
    · -- THE NINTHER
      obtain ⟨i1, s1, h1⟩ : ∃ i1 s1, medianAdjacent ltInt d I 0 = (i1, s1) := ⟨_, _, rfl⟩
      obtain ⟨j1, s2, h2⟩ : ∃ j1 s2, medianAdjacent ltInt d J s1 = (j1, s2) := ⟨_, _, rfl⟩
      obtain ⟨k1, s3, h3⟩ : ∃ k1 s3, medianAdjacent ltInt d K s2 = (k1, s3) := ⟨_, _, rfl⟩
      obtain ⟨p, s, h4⟩ : ∃ p s, median ltInt d i1 j1 k1 s3 = (p, s) := ⟨_, _, rfl⟩
      have hraw : rawPivot ltInt d a b = (p, s) := by simp only [rawPivot, if_pos h8, if_pos h50, ← hI, ← hJ, ← hK, h1, h2, h3, h4]
      have m1 := medianAdjacent_mem ltInt d I 0; rw [h1] at m1
      have m2 := medianAdjacent_mem ltInt d J s1; rw [h2] at m2
      have m3 := medianAdjacent_mem ltInt d K s2; rw [h3] at m3
      have n1 := medianAdjacent_count ltInt d I 0; rw [h1] at n1
      have n2 := medianAdjacent_count ltInt d J s1; rw [h2] at n2
      have n3 := medianAdjacent_count ltInt d K s2; rw [h3] at n3
      simp only [] at m1 m2 m3 n1 n2 n3
      have c1 : Calls Tryz.prog 312 #[.slice (some ⟨blk, off, none⟩) d.size cap, .int .i64 (I : Int), .pointer (some ⟨w.heap.size, 0, none⟩)] (Wc 0 0) fun e w' => e = .returned (.int .i64 (i1 : Int)) ∧ ∃ N', w' = Wc N' s1 := by
        have h := MA I 0 0 (by omega) (by omega) (by omega); rw [h1] at h; exact h
      have c2 : ∀ N, Calls Tryz.prog 312 #[.slice (some ⟨blk, off, none⟩) d.size cap, .int .i64 (J : Int), .pointer (some ⟨w.heap.size, 0, none⟩)] (Wc N s1) fun e w' => e = .returned (.int .i64 (j1 : Int)) ∧ ∃ N', w' = Wc N' s2 := fun N => by
        have h := MA J s1 N (by omega) (by omega) (by omega); rw [h2] at h; exact h
      have c3 : ∀ N, Calls Tryz.prog 312 #[.slice (some ⟨blk, off, none⟩) d.size cap, .int .i64 (K : Int), .pointer (some ⟨w.heap.size, 0, none⟩)] (Wc N s2) fun e w' => e = .returned (.int .i64 (k1 : Int)) ∧ ∃ N', w' = Wc N' s3 := fun N => by
        have h := MA K s2 N (by omega) (by omega) (by omega); rw [h3] at h; exact h
      have c4 : ∀ N, Calls Tryz.prog 313 #[.slice (some ⟨blk, off, none⟩) d.size cap, .int .i64 (i1 : Int), .int .i64 (j1 : Int), .int .i64 (k1 : Int), .pointer (some ⟨w.heap.size, 0, none⟩)] (Wc N s3) fun e w' => e = .returned (.int .i64 (p : Int)) ∧ ∃ N', w' = Wc N' s := fun N => by
        have h := MD i1 j1 k1 s3 N (by omega) (by omega) (by omega) (by omega); rw [h4] at h; exact h
      rw [hraw]
      obtain ⟨Hc, hHc⟩ : ∃ Hc : Int, Hc = hintCode (hintOf s) := ⟨_, rfl⟩
      have hh0 : s = 0 → Hc = 1 := fun h => by rw [hHc, h]; rfl
      have hh12 : s = 12 → Hc = 2 := fun h => by rw [hHc, h]; rfl
      have hhx : s ≠ 0 → s ≠ 12 → Hc = 0 := fun h1 h2 => by rw [hHc]; unfold hintOf; rw [if_neg h1, if_neg h2]; rfl
      show Calls Tryz.prog 302 _ w fun e w' => e = .returned (.tuple #[.int .i64 (p : Int), .int .i64 (hintCode (hintOf s))]) ∧ ∃ n os, w' = grow (Sort.ahead w n) os
      rw [← hHc]
      clear hHc hraw
      clear h1 h2 h3 h4 MA MD hI hJ hK m1 m2 m3
      go_enter Tryz.func302, Tryz.ntmps302
      go_wp2_with (first
        | (go_at_call_has 312 (Value.int .i64 (I : Int)); refine c1.mono ?_; rintro e w' ⟨rfl, N1, rfl⟩)
        | (go_at_call_has 312 (Value.int .i64 (J : Int)); refine (c2 _).mono ?_; rintro e w' ⟨rfl, N2, rfl⟩)
        | (go_at_call_has 312 (Value.int .i64 (K : Int)); refine (c3 _).mono ?_; rintro e w' ⟨rfl, N3, rfl⟩)
        | (go_at_call 313; refine (c4 _).mono ?_; rintro e w' ⟨rfl, N4, rfl⟩))
      all_goals
        go_ret2
        refine ⟨?_, _, hG _ _⟩
        first
          | (have e0 : (s : Int) = 0 := of_beq_int (by assumption)
             rw [hh0 (by omega)]; rfl)
          | (have e1 : (s : Int) = 12 := of_beq_int (by assumption)
             rw [hh12 (by omega)]; rfl)
          | (have e0 : (s : Int) ≠ 0 := of_bne_int (by assumption)
             have e1 : (s : Int) ≠ 12 := of_bne_int (by assumption)
             rw [hhx (by omega) (by omega)]; rfl)
          | (rw [hh0 (by omega)]; rfl)
    · -- THE MEDIAN OF THREE
      obtain ⟨p, s, h4⟩ : ∃ p s, median ltInt d I J K 0 = (p, s) := ⟨_, _, rfl⟩
      have hraw : rawPivot ltInt d a b = (p, s) := by simp only [rawPivot, if_pos h8, if_neg h50, ← hI, ← hJ, ← hK, h4]
      have c4 : Calls Tryz.prog 313 #[.slice (some ⟨blk, off, none⟩) d.size cap, .int .i64 (I : Int), .int .i64 (J : Int), .int .i64 (K : Int), .pointer (some ⟨w.heap.size, 0, none⟩)] (Wc 0 0) fun e w' => e = .returned (.int .i64 (p : Int)) ∧ ∃ N', w' = Wc N' s := by
        have h := MD I J K 0 0 (by omega) (by omega) (by omega) (by omega); rw [h4] at h; exact h
      rw [hraw]
      obtain ⟨Hc, hHc⟩ : ∃ Hc : Int, Hc = hintCode (hintOf s) := ⟨_, rfl⟩
      have hh0 : s = 0 → Hc = 1 := fun h => by rw [hHc, h]; rfl
      have hh12 : s = 12 → Hc = 2 := fun h => by rw [hHc, h]; rfl
      have hhx : s ≠ 0 → s ≠ 12 → Hc = 0 := fun h1 h2 => by rw [hHc]; unfold hintOf; rw [if_neg h1, if_neg h2]; rfl
      show Calls Tryz.prog 302 _ w fun e w' => e = .returned (.tuple #[.int .i64 (p : Int), .int .i64 (hintCode (hintOf s))]) ∧ ∃ n os, w' = grow (Sort.ahead w n) os
      rw [← hHc]
      clear hHc hraw
      clear h4 MA MD hI hJ hK
      go_enter Tryz.func302, Tryz.ntmps302
      go_wp2_with (first | (go_at_call 313; refine c4.mono ?_; rintro e w' ⟨rfl, N4, rfl⟩))
      all_goals
        go_ret2
        refine ⟨?_, _, hG _ _⟩
        first
          | (have e0 : (s : Int) = 0 := of_beq_int (by assumption)
             rw [hh0 (by omega)]; rfl)
          | (have e1 : (s : Int) = 12 := of_beq_int (by assumption)
             rw [hh12 (by omega)]; rfl)
          | (have e0 : (s : Int) ≠ 0 := of_bne_int (by assumption)
             have e1 : (s : Int) ≠ 12 := of_bne_int (by assumption)
             rw [hhx (by omega) (by omega)]; rfl)
          | (rw [hh0 (by omega)]; rfl)
  · -- FEWER THAN EIGHT: the middle; nothing is counted
    obtain ⟨p, hp⟩ : ∃ p : Nat, p = J := ⟨_, rfl⟩
    obtain ⟨s, hs⟩ : ∃ s : Nat, s = 0 := ⟨_, rfl⟩
    have hraw : rawPivot ltInt d a b = (p, s) := by simp only [rawPivot, if_neg h8, ← hJ, hp, hs]
    rw [hraw]
    obtain ⟨Hc, hHc⟩ : ∃ Hc : Int, Hc = hintCode (hintOf s) := ⟨_, rfl⟩
    have hh0 : s = 0 → Hc = 1 := fun h => by rw [hHc, h]; rfl
    have hh12 : s = 12 → Hc = 2 := fun h => by rw [hHc, h]; rfl
    have hhx : s ≠ 0 → s ≠ 12 → Hc = 0 := fun h1 h2 => by rw [hHc]; unfold hintOf; rw [if_neg h1, if_neg h2]; rfl
    show Calls Tryz.prog 302 _ w fun e w' => e = .returned (.tuple #[.int .i64 (p : Int), .int .i64 (hintCode (hintOf s))]) ∧ ∃ n os, w' = grow (Sort.ahead w n) os
    rw [← hHc]
    clear hHc hraw
    subst hp
    clear MA MD hI hJ hK
    have hW0' : w.alloc (.cells #[.int .i64 0] 3) = Wc 0 s := by rw [hs]; exact hW0
    clear hW0
    go_enter Tryz.func302, Tryz.ntmps302
    go_wp2
    all_goals
      go_ret2
      refine ⟨?_, _, hG _ _⟩
      first
        | (have e0 : (s : Int) = 0 := of_beq_int (by assumption)
           rw [hh0 (by omega)]; rfl)
        | (have e1 : (s : Int) = 12 := of_beq_int (by assumption)
           rw [hh12 (by omega)]; rfl)
        | (have e0 : (s : Int) ≠ 0 := of_bne_int (by assumption)
           have e1 : (s : Int) ≠ 12 := of_bne_int (by assumption)
           rw [hhx (by omega) (by omega)]; rfl)
        | (rw [hh0 (by omega)]; rfl)
end Go.Proofs.YtpobhbdomldecaaGreatDoor
namespace Go.Proofs.YtpobhbdomldecaaGreatDoor
set_option linter.unusedSimpArgs false
set_option linter.unusedVariables false
open Go.RowKit Go.Sort
theorem swap_worldC {α : Type} [Inhabited α] (enc : α → Value) (w : World) (blk off : Nat) (dk : Array α) (n i j : Nat) (hi : i < dk.size) (hj : j < dk.size) :
    ((((putRow enc w blk off dk).drewN n).setCell ⟨blk, off + i, none⟩ (enc dk[j]!)).setCell ⟨blk, off + j, none⟩ (enc dk[i]!)).drew = (putRow enc w blk off (swp dk i j)).drewN (n + 1) := by
  rw [← putRow_swp enc w blk off dk i j hi hj]
  rfl
section
variable {α : Type} [Inhabited α]
theorem scanUp_go (p : α → Bool) (d : Array α) (j i : Nat) (h : i ≤ j) (hp : p d[i]! = true) : scanUp p d j i = scanUp p d j (i + 1) := by
  rw [scanUp, if_pos (by simp [h, hp])]
theorem scanUp_end (p : α → Bool) (d : Array α) (j i : Nat) (h : ¬ i ≤ j ∨ p d[i]! = false) : scanUp p d j i = i := by
  rw [scanUp, if_neg (by rcases h with h | h <;> simp [h])]
theorem scanDown_go (p : α → Bool) (d : Array α) (i j : Nat) (h : i ≤ j) (h0 : 0 < j) (hp : p d[j]! = true) : scanDown p d i j = scanDown p d i (j - 1) := by
  obtain ⟨k, rfl⟩ : ∃ k, j = k + 1 := ⟨j - 1, by omega⟩
  rw [scanDown, if_pos (by simp [h, hp])]
  rfl
theorem scanDown_end (p : α → Bool) (d : Array α) (i j : Nat) (h : ¬ i ≤ j ∨ p d[j]! = false) : scanDown p d i j = j := by
  cases j with
  | zero => rfl
  | succ k => rw [scanDown, if_neg (by rcases h with h | h <;> simp [h])]
variable (lt : α → α → Bool)
theorem partEq_break (a i j : Nat) (dk : Array α) {i2 j2 : Nat} (hi2 : i2 = scanUp (fun x => !lt dk[a]! x) dk j i) (hj2 : j2 = scanDown (fun x => lt dk[a]! x) dk i2 j) (h : j2 < i2) : partEqLoop lt a i j dk = (i2, dk) := by
  subst hi2; subst hj2
  rw [partEqLoop_eq, if_pos h]
theorem partEq_go (a i j : Nat) (dk : Array α) {i2 j2 : Nat} (hi2 : i2 = scanUp (fun x => !lt dk[a]! x) dk j i) (hj2 : j2 = scanDown (fun x => lt dk[a]! x) dk i2 j) (h : ¬ i2 > j2) : partEqLoop lt a i j dk = partEqLoop lt a (i2 + 1) (j2 - 1) (swp dk i2 j2) := by
  subst hi2; subst hj2
  rw [partEqLoop_eq, if_neg h]
theorem scans_lt (a i j : Nat) (dk : Array α) (h0 : 0 < i) {i2 j2 : Nat} (hi2 : i2 = scanUp (fun x => !lt dk[a]! x) dk j i) (hj2 : j2 = scanDown (fun x => lt dk[a]! x) dk i2 j) (h : i2 ≤ j2) : i2 < j2 := by
  subst hi2; subst hj2
  obtain ⟨u1, _, _, u4⟩ := scanUp_spec (fun x => !lt dk[a]! x) dk j _ i rfl
  obtain ⟨v1, _, _, v4⟩ := scanDown_spec (fun x => lt dk[a]! x) dk (scanUp (fun x => !lt dk[a]! x) dk j i) j
  rcases Nat.lt_or_ge (scanUp (fun x => !lt dk[a]! x) dk j i) (scanDown (fun x => lt dk[a]! x) dk (scanUp (fun x => !lt dk[a]! x) dk j i) j) with h' | h'
  · exact h'
  · have e : scanDown (fun x => lt dk[a]! x) dk (scanUp (fun x => !lt dk[a]! x) dk j i) j = scanUp (fun x => !lt dk[a]! x) dk j i := by omega
    have f1 := u4 (by omega)
    have f2 := v4 h (by omega)
    rw [e] at f2
    simp only [f2] at f1
    cases f1
end
set_option maxHeartbeats 6400000 in
set_option maxRecDepth 100000 in
theorem so_partitionEqual_int (blk off cap a b pivot : Nat) (d : Array Int) (w : World) (hH : Holds (Value.int .u64) w blk off d) (hap : a ≤ pivot) (hpb : pivot < b) (hb : b ≤ d.size) (hsz : d.size < 4611686018427387904) :
    Calls Tryz.prog 306 #[.slice (some ⟨blk, off, none⟩) d.size cap, .int .i64 a, .int .i64 b, .int .i64 pivot] w fun e w' =>
      e = .returned (.int .i64 (Sort.partitionEqual Sort.ltInt d a b pivot).1) ∧ ∃ n, w' = (putRow (Value.int .u64) w blk off (Sort.partitionEqual Sort.ltInt d a b pivot).2).drewN n := by
  have hla : a < d.size := by omega
  have hlp : pivot < d.size := by omega
  obtain ⟨G, hG⟩ : ∃ G : Nat → Int, ∀ j, G j = d[j]! := ⟨fun j => d[j]!, fun _ => rfl⟩
  have ca : w.cell? ⟨blk, off + a, none⟩ = some (.int .u64 (G a)) := by rw [hG]; exact (hH a hla).1
  have fa := (hH a hla).2
  have cp : w.cell? ⟨blk, off + pivot, none⟩ = some (.int .u64 (G pivot)) := by rw [hG]; exact (hH pivot hlp).1
  have fp := (hH pivot hlp).2
  obtain ⟨v', hy'⟩ := cell?_setCell_some (w := w) (p := ⟨blk, off + a, none⟩) (x := .int .u64 (G pivot)) (q := ⟨blk, off + pivot, none⟩) cp
  have AG : Hid (∀ j, G j = d[j]!) := hG
  have AH : Hid (Holds (Value.int .u64) w blk off d) := hH
  clear hG hH
  go_enter Tryz.func306, Tryz.ntmps306
  go_wp2
  go_region
  go_wp2
  go_loopw [9, 10] (fun vi vj wr => ∃ (i j n : Nat) (dk : Array Int), vi = .int .i64 i ∧ vj = .int .i64 j ∧ a < i ∧ i ≤ j + 1 ∧ j < b ∧ dk.size = d.size ∧ wr = (putRow (Value.int .u64) w blk off dk).drewN n ∧
      Sort.partEqLoop Sort.ltInt a i j dk = Sort.partEqLoop Sort.ltInt a (a + 1) (b - 1) (Sort.swp d a pivot))
    (fun vi vj _ => (intOf vj).toNat + 1 - (intOf vi).toNat)
  case atStart =>
    refine ⟨a + 1, b - 1, 1, Sort.swp d a pivot, by go_num, by go_num, by omega, by omega, by omega, size_swp _ _ _, ?_, rfl⟩
    have e := swap_worldC (Value.int .u64) w blk off d 0 a pivot hla hlp
    rw [putRow_self _ w blk off d AH.out] at e
    rw [AG.out a, AG.out pivot]
    exact e
  case round =>
    obtain ⟨i, j, n, dk, rfl, rfl, hai, hij, hjb, hs, hw, heq⟩ := hrel
    clear ca fa cp fp hy' v' AG
    rename World => W1
    have hHk : Holds (Value.int .u64) W1 blk off dk := by
      rw [hw]
      exact holds_putRow (Value.int .u64) w blk off d dk AH.out hs
    obtain ⟨Gk, hG⟩ : ∃ Gk : Nat → Int, ∀ t, Gk t = dk[t]! := ⟨fun t => dk[t]!, fun _ => rfl⟩
    have hc : ∀ t, t < d.size → W1.cell? ⟨blk, off + t, none⟩ = some (.int .u64 (Gk t)) := fun t ht => by rw [hG]; exact (hHk t (by omega)).1
    have hf : ∀ t, t < d.size → W1.frozen? ⟨blk, off + t, none⟩ = false := fun t ht => (hHk t (by omega)).2
    have AG : Hid (∀ t, Gk t = dk[t]!) := hG
    have AW : Hid (W1 = (putRow (Value.int .u64) w blk off dk).drewN n) := hw
    have AE : Hid (Sort.partEqLoop Sort.ltInt a i j dk = Sort.partEqLoop Sort.ltInt a (a + 1) (b - 1) (Sort.swp d a pivot)) := heq
    clear hG hw heq hHk
    go_wp2
    go_loopw [9] (fun vi w1 => ∃ (i' n1 : Nat), vi = .int .i64 i' ∧ i ≤ i' ∧ i' ≤ j + 1 ∧ w1 = W1.drewN n1 ∧
        Hid (Sort.scanUp (fun x => !Sort.ltInt dk[a]! x) dk j i' = Sort.scanUp (fun x => !Sort.ltInt dk[a]! x) dk j i))
      (fun vi _ => j + 1 - (intOf vi).toNat)
    case atStart => exact ⟨i, 0, rfl, Nat.le_refl _, hij, rfl, rfl⟩
    case round =>
      obtain ⟨i', n1, rfl, hii, hij', hw1, hsc⟩ := hrel
      have hcw : ∀ t, t < d.size → wr.cell? ⟨blk, off + t, none⟩ = some (.int .u64 (Gk t)) := fun t ht => by rw [hw1]; exact hc t ht
      have HW1 : Hid (wr = W1.drewN n1) := hw1
      clear hw1
      by_cases hle : i' ≤ j
      · go_wp2_with fail
        go_big_quiet (first | (go_at_call 305; refine Calls.quiet_of_same (less_any _ _ _)))
        go_wp2
        · -- it goes on: i++
          have ht : (!Sort.ltInt (Gk a) (Gk i')) = true := by assumption
          go_roundw
          case rel => exact ⟨i' + 1, n1 + nq, by go_num, by omega, by omega, by rw [HW1.out, World.drewN_drewN], (scanUp_go (fun x => !Sort.ltInt dk[a]! x) dk j i' hle (by rw [← AG.out a, ← AG.out i']; exact ht)).symm.trans hsc.out⟩
          case measure => simp [intOf]; omega
        · -- it stops: the test has failed
          have ht : (!Sort.ltInt (Gk a) (Gk i')) = false := by assumption
          have hi2 : Hid (i' = Sort.scanUp (fun x => !Sort.ltInt dk[a]! x) dk j i) := (scanUp_end (fun x => !Sort.ltInt dk[a]! x) dk j i' (Or.inr (by rw [← AG.out a, ← AG.out i']; exact ht))).symm.trans hsc.out
          clear ht
          have hw2 : wr.drewN nq = W1.drewN (n1 + nq) := by rw [HW1.out, World.drewN_drewN]
          clear hcw HW1 hsc
          go_loopw [10] (fun vj w2 => ∃ (j' n2 : Nat), vj = .int .i64 j' ∧ j' ≤ j ∧ i' ≤ j' + 1 ∧ w2 = W1.drewN n2 ∧
              Hid (Sort.scanDown (fun x => Sort.ltInt dk[a]! x) dk i' j' = Sort.scanDown (fun x => Sort.ltInt dk[a]! x) dk i' j))
            (fun vj _ => (intOf vj).toNat)
          case atStart => exact ⟨j, n1 + nq, rfl, Nat.le_refl _, hij', hw2, rfl⟩
          case round =>
            clear hw2
            obtain ⟨j', n2, rfl, hjj, hij2, hw2, hsd⟩ := hrel
            have hcw : ∀ t, t < d.size → wr.cell? ⟨blk, off + t, none⟩ = some (.int .u64 (Gk t)) := fun t ht => by rw [hw2]; exact hc t ht
            have HW2 : Hid (wr = W1.drewN n2) := hw2
            clear hw2
            by_cases hle2 : i' ≤ j'
            · go_wp2_with fail
              go_big_quiet (first | (go_at_call 305; refine Calls.quiet_of_same (less_any _ _ _)))
              go_wp2
              · -- it goes on: j--
                have ht : Sort.ltInt (Gk a) (Gk j') = true := by assumption
                go_roundw
                case rel => exact ⟨j' - 1, n2 + nq, by go_num, by omega, by omega, by rw [HW2.out, World.drewN_drewN], (scanDown_go (fun x => Sort.ltInt dk[a]! x) dk i' j' hle2 (by omega) (by rw [← AG.out a, ← AG.out j']; exact ht)).symm.trans hsd.out⟩
                case measure => simp [intOf]; omega
              · -- it stops: the test has failed
                have ht : Sort.ltInt (Gk a) (Gk j') = false := by assumption
                have hj2 : Hid (j' = Sort.scanDown (fun x => Sort.ltInt dk[a]! x) dk i' j) := (scanDown_end (fun x => Sort.ltInt dk[a]! x) dk i' j' (Or.inr (by rw [← AG.out a, ← AG.out j']; exact ht))).symm.trans hsd.out
                clear hcw hsd ht
                have hw3 : wr.drewN nq = W1.drewN (n2 + nq) := by rw [HW2.out, World.drewN_drewN]
                generalize wr.drewN nq = W3 at hw3 ⊢
                have hc3 : ∀ t, t < d.size → W3.cell? ⟨blk, off + t, none⟩ = some (.int .u64 (Gk t)) := fun t ht => by rw [hw3]; exact hc t ht
                have hf3 : ∀ t, t < d.size → W3.frozen? ⟨blk, off + t, none⟩ = false := fun t ht => by rw [hw3]; exact hf t ht
                have HW3 : Hid (W3 = W1.drewN (n2 + nq)) := hw3
                clear hw3
                obtain ⟨v3, hy3⟩ := cell?_setCell_some (w := W3) (p := ⟨blk, off + i', none⟩) (x := .int .u64 (Gk j')) (q := ⟨blk, off + j', none⟩) (hc3 j' (by omega))
                have hlt3 := scans_lt Sort.ltInt a i j dk (by omega) hi2.out hj2.out hle2
                go_wp2
                go_region
                all_goals go_wp2
                all_goals go_roundw
                case rel =>
                  refine ⟨i' + 1, j' - 1, n + (n2 + nq) + 1, Sort.swp dk i' j', by go_num, by go_num, by omega, by omega, by omega, by rw [size_swp]; exact hs, ?_, ?_⟩
                  · rw [HW3.out, AW.out, World.drewN_drewN, AG.out i', AG.out j']
                    exact swap_worldC (Value.int .u64) w blk off dk _ i' j' (by omega) (by omega)
                  · rw [← AE.out]; exact (partEq_go Sort.ltInt a i j dk hi2.out hj2.out (by omega)).symm
                case measure => simp [intOf]; omega
            · go_wp2_with fail
              go_big_quiet (first | (go_at_call 305; refine Calls.quiet_of_same (less_any _ _ _)))
              have hj2 : Hid (j' = Sort.scanDown (fun x => Sort.ltInt dk[a]! x) dk i' j) := (scanDown_end (fun x => Sort.ltInt dk[a]! x) dk i' j' (Or.inl hle2)).symm.trans hsd.out
              clear hcw hsd
              have hw3 : wr.drewN nq = W1.drewN (n2 + nq) := by rw [HW2.out, World.drewN_drewN]
              generalize wr.drewN nq = W3 at hw3 ⊢
              have hc3 : ∀ t, t < d.size → W3.cell? ⟨blk, off + t, none⟩ = some (.int .u64 (Gk t)) := fun t ht => by rw [hw3]; exact hc t ht
              have hf3 : ∀ t, t < d.size → W3.frozen? ⟨blk, off + t, none⟩ = false := fun t ht => by rw [hw3]; exact hf t ht
              have HW3 : Hid (W3 = W1.drewN (n2 + nq)) := hw3
              clear hw3
              go_wp2
              go_ret
              have e := partEq_break Sort.ltInt a i j dk hi2.out hj2.out (by omega)
              refine ⟨?_, n + (n2 + nq), ?_⟩
              · unfold Sort.partitionEqual; rw [← AE.out, e]; rfl
              · unfold Sort.partitionEqual; rw [← AE.out, e, HW3.out, AW.out, World.drewN_drewN]
      · go_wp2_with fail
        go_big_quiet (first | (go_at_call 305; refine Calls.quiet_of_same (less_any _ _ _)))
        go_wp2
        have hi2 : Hid (i' = Sort.scanUp (fun x => !Sort.ltInt dk[a]! x) dk j i) := (scanUp_end (fun x => !Sort.ltInt dk[a]! x) dk j i' (Or.inl hle)).symm.trans hsc.out
        have hw2 : wr.drewN nq = W1.drewN (n1 + nq) := by rw [HW1.out, World.drewN_drewN]
        clear hcw HW1 hsc
        go_loopw [10] (fun vj w2 => ∃ (j' n2 : Nat), vj = .int .i64 j' ∧ j' ≤ j ∧ i' ≤ j' + 1 ∧ w2 = W1.drewN n2 ∧
            Hid (Sort.scanDown (fun x => Sort.ltInt dk[a]! x) dk i' j' = Sort.scanDown (fun x => Sort.ltInt dk[a]! x) dk i' j))
          (fun vj _ => (intOf vj).toNat)
        case atStart => exact ⟨j, n1 + nq, rfl, Nat.le_refl _, hij', hw2, rfl⟩
        case round =>
          clear hw2
          obtain ⟨j', n2, rfl, hjj, hij2, hw2, hsd⟩ := hrel
          have hcw : ∀ t, t < d.size → wr.cell? ⟨blk, off + t, none⟩ = some (.int .u64 (Gk t)) := fun t ht => by rw [hw2]; exact hc t ht
          have HW2 : Hid (wr = W1.drewN n2) := hw2
          clear hw2
          by_cases hle2 : i' ≤ j'
          · exfalso; omega      -- the upward scan has run past j, and j' ≤ j
          · go_wp2_with fail
            go_big_quiet (first | (go_at_call 305; refine Calls.quiet_of_same (less_any _ _ _)))
            have hj2 : Hid (j' = Sort.scanDown (fun x => Sort.ltInt dk[a]! x) dk i' j) := (scanDown_end (fun x => Sort.ltInt dk[a]! x) dk i' j' (Or.inl hle2)).symm.trans hsd.out
            clear hcw hsd
            have hw3 : wr.drewN nq = W1.drewN (n2 + nq) := by rw [HW2.out, World.drewN_drewN]
            generalize wr.drewN nq = W3 at hw3 ⊢
            have hc3 : ∀ t, t < d.size → W3.cell? ⟨blk, off + t, none⟩ = some (.int .u64 (Gk t)) := fun t ht => by rw [hw3]; exact hc t ht
            have hf3 : ∀ t, t < d.size → W3.frozen? ⟨blk, off + t, none⟩ = false := fun t ht => by rw [hw3]; exact hf t ht
            have HW3 : Hid (W3 = W1.drewN (n2 + nq)) := hw3
            clear hw3
            go_wp2
            go_ret
            have e := partEq_break Sort.ltInt a i j dk hi2.out hj2.out (by omega)
            refine ⟨?_, n + (n2 + nq), ?_⟩
            · unfold Sort.partitionEqual; rw [← AE.out, e]; rfl
            · unfold Sort.partitionEqual; rw [← AE.out, e, HW3.out, AW.out, World.drewN_drewN]
theorem so_partitionEqualOrdered_int (blk off cap a b pivot : Nat) (d : Array Int) (w : World) (hH : Holds (Value.int .u64) w blk off d) (hap : a ≤ pivot) (hpb : pivot < b) (hb : b ≤ d.size) (hsz : d.size < 4611686018427387904) :
    Calls Tryz.prog 306 #[.slice (some ⟨blk, off, none⟩) d.size cap, .int .i64 a, .int .i64 b, .int .i64 pivot] w fun e w' =>
      e = .returned (.int .i64 (Sort.partitionEqual Sort.ltInt d a b pivot).1) ∧ ∃ n, w' = putRow (Value.int .u64) (Sort.ahead w n) blk off (Sort.partitionEqual Sort.ltInt d a b pivot).2 :=
  (so_partitionEqual_int blk off cap a b pivot d w hH hap hpb hb hsz).mono fun _ _ ⟨he, n, hw⟩ => ⟨he, n, hw⟩
end Go.Proofs.YtpobhbdomldecaaGreatDoor
namespace Go.Proofs.YtpobhbdomldecaaGreatDoor
set_option linter.unusedSimpArgs false
set_option linter.unusedVariables false
open Go.RowKit Go.Sort
theorem Hid.mk' {p : Prop} (h : p) : Hid p := h
section
variable {α : Type} [Inhabited α] (lt : α → α → Bool)
theorem part_break (a i j : Nat) (dk : Array α) {i2 j2 : Nat} (hi2 : i2 = scanUp (fun x => lt x dk[a]!) dk j i) (hj2 : j2 = scanDown (fun x => !lt x dk[a]!) dk i2 j) (h : j2 < i2) : partLoop lt a i j dk = (j2, dk) := by
  subst hi2; subst hj2
  rw [partLoop_eq, if_pos h]
theorem part_go (a i j : Nat) (dk : Array α) {i2 j2 : Nat} (hi2 : i2 = scanUp (fun x => lt x dk[a]!) dk j i) (hj2 : j2 = scanDown (fun x => !lt x dk[a]!) dk i2 j) (h : ¬ i2 > j2) : partLoop lt a i j dk = partLoop lt a (i2 + 1) (j2 - 1) (swp dk i2 j2) := by
  subst hi2; subst hj2
  rw [partLoop_eq, if_neg h]
theorem part_scans_lt (a i j : Nat) (dk : Array α) (h0 : 0 < i) {i2 j2 : Nat} (hi2 : i2 = scanUp (fun x => lt x dk[a]!) dk j i) (hj2 : j2 = scanDown (fun x => !lt x dk[a]!) dk i2 j) (h : i2 ≤ j2) : i2 < j2 := by
  subst hi2; subst hj2
  obtain ⟨u1, _, _, u4⟩ := scanUp_spec (fun x => lt x dk[a]!) dk j _ i rfl
  obtain ⟨v1, _, _, v4⟩ := scanDown_spec (fun x => !lt x dk[a]!) dk (scanUp (fun x => lt x dk[a]!) dk j i) j
  rcases Nat.lt_or_ge (scanUp (fun x => lt x dk[a]!) dk j i) (scanDown (fun x => !lt x dk[a]!) dk (scanUp (fun x => lt x dk[a]!) dk j i) j) with h' | h'
  · exact h'
  · have e : scanDown (fun x => !lt x dk[a]!) dk (scanUp (fun x => lt x dk[a]!) dk j i) j = scanUp (fun x => lt x dk[a]!) dk j i := by omega
    have f1 := u4 (by omega)
    have f2 := v4 h (by omega)
    rw [e] at f2
    simp only [f1] at f2
    cases f2
theorem part_first_break (d : Array α) (a b pivot : Nat) {i j : Nat} {dk : Array α} {i2 j2 : Nat} (hi : i = a + 1) (hj : j = b - 1) (hdk : dk = swp d a pivot) (hi2 : i2 = scanUp (fun x => lt x dk[a]!) dk j i) (hj2 : j2 = scanDown (fun x => !lt x dk[a]!) dk i2 j) (h : j2 < i2) :
    partition lt d a b pivot = (j2, true, swp dk j2 a) := by
  subst hi; subst hj; subst hdk; subst hi2; subst hj2
  unfold partition
  simp only []
  rw [if_pos h]
theorem part_first_go (d : Array α) (a b pivot : Nat) {i j : Nat} {dk : Array α} {i2 j2 : Nat} (hi : i = a + 1) (hj : j = b - 1) (hdk : dk = swp d a pivot) (hi2 : i2 = scanUp (fun x => lt x dk[a]!) dk j i) (hj2 : j2 = scanDown (fun x => !lt x dk[a]!) dk i2 j) (h : ¬ i2 > j2) :
    partition lt d a b pivot = ((partLoop lt a (i2 + 1) (j2 - 1) (swp dk i2 j2)).1, false, swp (partLoop lt a (i2 + 1) (j2 - 1) (swp dk i2 j2)).2 (partLoop lt a (i2 + 1) (j2 - 1) (swp dk i2 j2)).1 a) := by
  subst hi; subst hj; subst hdk; subst hi2; subst hj2
  unfold partition
  simp only []
  rw [if_neg h]
end
set_option maxHeartbeats 12800000 in
set_option maxRecDepth 100000 in
theorem so_partition_int (blk off cap a b pivot : Nat) (d : Array Int) (w : World) (hH : Holds (Value.int .u64) w blk off d) (hap : a ≤ pivot) (hpb : pivot < b) (hb : b ≤ d.size) (hsz : d.size < 4611686018427387904) :
    Calls Tryz.prog 307 #[.slice (some ⟨blk, off, none⟩) d.size cap, .int .i64 a, .int .i64 b, .int .i64 pivot] w fun e w' =>
      e = .returned (.tuple #[.int .i64 (Sort.partition Sort.ltInt d a b pivot).1, .bool (Sort.partition Sort.ltInt d a b pivot).2.1]) ∧ ∃ n, w' = (putRow (Value.int .u64) w blk off (Sort.partition Sort.ltInt d a b pivot).2.2).drewN n := by
  have hla : a < d.size := by omega
  have hlp : pivot < d.size := by omega
  obtain ⟨G, hG⟩ : ∃ G : Nat → Int, ∀ j, G j = d[j]! := ⟨fun j => d[j]!, fun _ => rfl⟩
  have ca : w.cell? ⟨blk, off + a, none⟩ = some (.int .u64 (G a)) := by rw [hG]; exact (hH a hla).1
  have fa := (hH a hla).2
  have cp : w.cell? ⟨blk, off + pivot, none⟩ = some (.int .u64 (G pivot)) := by rw [hG]; exact (hH pivot hlp).1
  have fp := (hH pivot hlp).2
  obtain ⟨v', hy'⟩ := cell?_setCell_some (w := w) (p := ⟨blk, off + a, none⟩) (x := .int .u64 (G pivot)) (q := ⟨blk, off + pivot, none⟩) cp
  have hw : ((w.setCell ⟨blk, off + a, none⟩ (.int .u64 (G pivot))).setCell ⟨blk, off + pivot, none⟩ (.int .u64 (G a))).drew = (putRow (Value.int .u64) w blk off (Sort.swp d a pivot)).drewN 1 := by
    have e := swap_worldC (Value.int .u64) w blk off d 0 a pivot hla hlp
    rw [putRow_self _ w blk off d hH] at e
    rw [hG a, hG pivot]
    exact e
  have AH : Hid (Holds (Value.int .u64) w blk off d) := hH
  have HW0 := Hid.mk' hw
  clear hG hH hw
  go_enter Tryz.func307, Tryz.ntmps307
  go_wp2
  go_region
  go_wp2
  clear ca fa cp fp hy' v'
  have hw := HW0.out
  clear HW0
  generalize ((w.setCell ⟨blk, off + a, none⟩ (.int .u64 (G pivot))).setCell ⟨blk, off + pivot, none⟩ (.int .u64 (G a))).drew = W1 at hw ⊢
  obtain ⟨dk, hdk⟩ : ∃ dk, dk = Sort.swp d a pivot := ⟨_, rfl⟩
  obtain ⟨n, hn⟩ : ∃ n : Nat, n = 1 := ⟨_, rfl⟩
  rw [← hdk, ← hn] at hw
  clear hn
  have hs : dk.size = d.size := by rw [hdk, size_swp]
  have e1 : ((a : Int) + 1) = ((a + 1 : Nat) : Int) := by omega
  have e2 : ((b : Int) - 1) = ((b - 1 : Nat) : Int) := by omega
  rw [e1, e2]
  clear e1 e2
  obtain ⟨i, hi⟩ : ∃ i, i = a + 1 := ⟨_, rfl⟩
  obtain ⟨j, hj⟩ : ∃ j, j = b - 1 := ⟨_, rfl⟩
  rw [← hi, ← hj]
  have hai : a < i := by omega
  have hij : i ≤ j + 1 := by omega
  have hjb : j < b := by omega
  have HI := Hid.mk' hi
  have HJ := Hid.mk' hj
  have HDK := Hid.mk' hdk
  clear hi hj hdk
  have hHk : Holds (Value.int .u64) W1 blk off dk := by
    rw [hw]
    exact holds_putRow (Value.int .u64) w blk off d dk AH.out hs
  obtain ⟨Gk, hG⟩ : ∃ Gk : Nat → Int, ∀ t, Gk t = dk[t]! := ⟨fun t => dk[t]!, fun _ => rfl⟩
  have hc : ∀ t, t < d.size → W1.cell? ⟨blk, off + t, none⟩ = some (.int .u64 (Gk t)) := fun t ht => by rw [hG]; exact (hHk t (by omega)).1
  have hf : ∀ t, t < d.size → W1.frozen? ⟨blk, off + t, none⟩ = false := fun t ht => (hHk t (by omega)).2
  have AG : Hid (∀ t, Gk t = dk[t]!) := hG
  have AW : Hid (W1 = (putRow (Value.int .u64) w blk off dk).drewN n) := hw
  clear hG hw hHk
  go_loopw [10] (fun vi w1 => ∃ (i' n1 : Nat), vi = .int .i64 i' ∧ i ≤ i' ∧ i' ≤ j + 1 ∧ w1 = W1.drewN n1 ∧
      Hid (Sort.scanUp (fun x => Sort.ltInt x dk[a]!) dk j i' = Sort.scanUp (fun x => Sort.ltInt x dk[a]!) dk j i))
    (fun vi _ => j + 1 - (intOf vi).toNat)
  case atStart => exact ⟨i, 0, rfl, Nat.le_refl _, hij, rfl, rfl⟩
  case round =>
    obtain ⟨i', n1, rfl, hii, hij', hw1, hsc⟩ := hrel
    have hcw : ∀ t, t < d.size → wr.cell? ⟨blk, off + t, none⟩ = some (.int .u64 (Gk t)) := fun t ht => by rw [hw1]; exact hc t ht
    have HW1 : Hid (wr = W1.drewN n1) := hw1
    clear hw1
    by_cases hle : i' ≤ j
    · go_wp2_with fail
      go_big_quiet (first | (go_at_call 305; refine Calls.quiet_of_same (less_any _ _ _)))
      go_wp2
      · -- it goes on: i++
        have ht : Sort.ltInt (Gk i') (Gk a) = true := by assumption
        go_roundw
        case rel => exact ⟨i' + 1, n1 + nq, by go_num, by omega, by omega, by rw [HW1.out, World.drewN_drewN], (scanUp_go (fun x => Sort.ltInt x dk[a]!) dk j i' hle (by rw [← AG.out a, ← AG.out i']; exact ht)).symm.trans hsc.out⟩
        case measure => simp [intOf]; omega
      · -- it stops: the test has failed
        have ht : Sort.ltInt (Gk i') (Gk a) = false := by assumption
        have hi2 : Hid (i' = Sort.scanUp (fun x => Sort.ltInt x dk[a]!) dk j i) := (scanUp_end (fun x => Sort.ltInt x dk[a]!) dk j i' (Or.inr (by rw [← AG.out a, ← AG.out i']; exact ht))).symm.trans hsc.out
        clear ht
        have hw2 : wr.drewN nq = W1.drewN (n1 + nq) := by rw [HW1.out, World.drewN_drewN]
        clear hcw HW1 hsc
        go_loopw [11] (fun vj w2 => ∃ (j' n2 : Nat), vj = .int .i64 j' ∧ j' ≤ j ∧ i' ≤ j' + 1 ∧ w2 = W1.drewN n2 ∧
            Hid (Sort.scanDown (fun x => !Sort.ltInt x dk[a]!) dk i' j' = Sort.scanDown (fun x => !Sort.ltInt x dk[a]!) dk i' j))
          (fun vj _ => (intOf vj).toNat)
        case atStart => exact ⟨j, n1 + nq, rfl, Nat.le_refl _, hij', hw2, rfl⟩
        case round =>
          clear hw2
          obtain ⟨j', n2, rfl, hjj, hij2, hw2, hsd⟩ := hrel
          have hcw : ∀ t, t < d.size → wr.cell? ⟨blk, off + t, none⟩ = some (.int .u64 (Gk t)) := fun t ht => by rw [hw2]; exact hc t ht
          have HW2 : Hid (wr = W1.drewN n2) := hw2
          clear hw2
          by_cases hle2 : i' ≤ j'
          · go_wp2_with fail
            go_big_quiet (first | (go_at_call 305; refine Calls.quiet_of_same (less_any _ _ _)))
            go_wp2
            · -- it goes on: j--
              have ht : (!Sort.ltInt (Gk j') (Gk a)) = true := by assumption
              go_roundw
              case rel => exact ⟨j' - 1, n2 + nq, by go_num, by omega, by omega, by rw [HW2.out, World.drewN_drewN], (scanDown_go (fun x => !Sort.ltInt x dk[a]!) dk i' j' hle2 (by omega) (by rw [← AG.out a, ← AG.out j']; exact ht)).symm.trans hsd.out⟩
              case measure => simp [intOf]; omega
            · -- it stops: the test has failed
              have ht : (!Sort.ltInt (Gk j') (Gk a)) = false := by assumption
              have hj2 : Hid (j' = Sort.scanDown (fun x => !Sort.ltInt x dk[a]!) dk i' j) := (scanDown_end (fun x => !Sort.ltInt x dk[a]!) dk i' j' (Or.inr (by rw [← AG.out a, ← AG.out j']; exact ht))).symm.trans hsd.out
              clear hcw hsd ht
              have hw3 : wr.drewN nq = W1.drewN (n2 + nq) := by rw [HW2.out, World.drewN_drewN]
              generalize wr.drewN nq = W3 at hw3 ⊢
              have hc3 : ∀ t, t < d.size → W3.cell? ⟨blk, off + t, none⟩ = some (.int .u64 (Gk t)) := fun t ht => by rw [hw3]; exact hc t ht
              have hf3 : ∀ t, t < d.size → W3.frozen? ⟨blk, off + t, none⟩ = false := fun t ht => by rw [hw3]; exact hf t ht
              have HW3 : Hid (W3 = W1.drewN (n2 + nq)) := hw3
              clear hw3
              obtain ⟨v3, hy3⟩ := cell?_setCell_some (w := W3) (p := ⟨blk, off + i', none⟩) (x := .int .u64 (Gk j')) (q := ⟨blk, off + j', none⟩) (hc3 j' (by omega))
              have hlt3 := part_scans_lt Sort.ltInt a i j dk (by omega) hi2.out hj2.out hle2
              go_wp2
              go_region
              all_goals go_wp2
              obtain ⟨R, hR⟩ : ∃ R, R = Sort.partLoop Sort.ltInt a (i' + 1) (j' - 1) (Sort.swp dk i' j') := ⟨_, rfl⟩
              have HP : Hid (Sort.partition Sort.ltInt d a b pivot = (R.1, false, Sort.swp R.2 R.1 a)) := by rw [hR]; exact part_first_go Sort.ltInt d a b pivot HI.out HJ.out HDK.out hi2.out hj2.out (by omega)
              have hw0 : ((W3.setCell ⟨blk, off + i', none⟩ (.int .u64 (Gk j'))).setCell ⟨blk, off + j', none⟩ (.int .u64 (Gk i'))).drew = (putRow (Value.int .u64) w blk off (Sort.swp dk i' j')).drewN (n + (n2 + nq) + 1) := by
                rw [HW3.out, AW.out, World.drewN_drewN, AG.out i', AG.out j']
                exact swap_worldC (Value.int .u64) w blk off dk _ i' j' (by omega) (by omega)
              have HR : Hid (R = Sort.partLoop Sort.ltInt a (i' + 1) (j' - 1) (Sort.swp dk i' j')) := hR
              clear hR hc hf hc3 hf3 hy3 HW3 AW AG hi2 hj2
              go_loopw [10, 11] (fun vi vj wr => ∃ (i j n : Nat) (dk : Array Int), vi = .int .i64 i ∧ vj = .int .i64 j ∧ a < i ∧ i ≤ j + 1 ∧ j < b ∧ dk.size = d.size ∧ wr = (putRow (Value.int .u64) w blk off dk).drewN n ∧
                  Sort.partLoop Sort.ltInt a i j dk = R)
                (fun vi vj _ => (intOf vj).toNat + 1 - (intOf vi).toNat)
              case atStart => exact ⟨i' + 1, j' - 1, _, Sort.swp dk i' j', by go_num, by go_num, by omega, by omega, by omega, by rw [size_swp]; exact hs, hw0, HR.out.symm⟩
              case round =>
                clear hw0 HR
                obtain ⟨i, j, n, dk, rfl, rfl, hai, hij, hjb, hs, hw, heq⟩ := hrel
                rename World => W1
                have AE : Hid (Sort.partLoop Sort.ltInt a i j dk = R) := heq
                clear heq
                have hHk : Holds (Value.int .u64) W1 blk off dk := by
                  rw [hw]
                  exact holds_putRow (Value.int .u64) w blk off d dk AH.out hs
                obtain ⟨Gk, hG⟩ : ∃ Gk : Nat → Int, ∀ t, Gk t = dk[t]! := ⟨fun t => dk[t]!, fun _ => rfl⟩
                have hc : ∀ t, t < d.size → W1.cell? ⟨blk, off + t, none⟩ = some (.int .u64 (Gk t)) := fun t ht => by rw [hG]; exact (hHk t (by omega)).1
                have hf : ∀ t, t < d.size → W1.frozen? ⟨blk, off + t, none⟩ = false := fun t ht => (hHk t (by omega)).2
                have AG : Hid (∀ t, Gk t = dk[t]!) := hG
                have AW : Hid (W1 = (putRow (Value.int .u64) w blk off dk).drewN n) := hw
                clear hG hw hHk
                go_wp2
                go_loopw [10] (fun vi w1 => ∃ (i' n1 : Nat), vi = .int .i64 i' ∧ i ≤ i' ∧ i' ≤ j + 1 ∧ w1 = W1.drewN n1 ∧
                    Hid (Sort.scanUp (fun x => Sort.ltInt x dk[a]!) dk j i' = Sort.scanUp (fun x => Sort.ltInt x dk[a]!) dk j i))
                  (fun vi _ => j + 1 - (intOf vi).toNat)
                case atStart => exact ⟨i, 0, rfl, Nat.le_refl _, hij, rfl, rfl⟩
                case round =>
                  obtain ⟨i', n1, rfl, hii, hij', hw1, hsc⟩ := hrel
                  have hcw : ∀ t, t < d.size → wr.cell? ⟨blk, off + t, none⟩ = some (.int .u64 (Gk t)) := fun t ht => by rw [hw1]; exact hc t ht
                  have HW1 : Hid (wr = W1.drewN n1) := hw1
                  clear hw1
                  by_cases hle : i' ≤ j
                  · go_wp2_with fail
                    go_big_quiet (first | (go_at_call 305; refine Calls.quiet_of_same (less_any _ _ _)))
                    go_wp2
                    · -- it goes on: i++
                      have ht : Sort.ltInt (Gk i') (Gk a) = true := by assumption
                      go_roundw
                      case rel => exact ⟨i' + 1, n1 + nq, by go_num, by omega, by omega, by rw [HW1.out, World.drewN_drewN], (scanUp_go (fun x => Sort.ltInt x dk[a]!) dk j i' hle (by rw [← AG.out a, ← AG.out i']; exact ht)).symm.trans hsc.out⟩
                      case measure => simp [intOf]; omega
                    · -- it stops: the test has failed
                      have ht : Sort.ltInt (Gk i') (Gk a) = false := by assumption
                      have hi2 : Hid (i' = Sort.scanUp (fun x => Sort.ltInt x dk[a]!) dk j i) := (scanUp_end (fun x => Sort.ltInt x dk[a]!) dk j i' (Or.inr (by rw [← AG.out a, ← AG.out i']; exact ht))).symm.trans hsc.out
                      clear ht
                      have hw2 : wr.drewN nq = W1.drewN (n1 + nq) := by rw [HW1.out, World.drewN_drewN]
                      clear hcw HW1 hsc
                      go_loopw [11] (fun vj w2 => ∃ (j' n2 : Nat), vj = .int .i64 j' ∧ j' ≤ j ∧ i' ≤ j' + 1 ∧ w2 = W1.drewN n2 ∧
                          Hid (Sort.scanDown (fun x => !Sort.ltInt x dk[a]!) dk i' j' = Sort.scanDown (fun x => !Sort.ltInt x dk[a]!) dk i' j))
                        (fun vj _ => (intOf vj).toNat)
                      case atStart => exact ⟨j, n1 + nq, rfl, Nat.le_refl _, hij', hw2, rfl⟩
                      case round =>
                        clear hw2
                        obtain ⟨j', n2, rfl, hjj, hij2, hw2, hsd⟩ := hrel
                        have hcw : ∀ t, t < d.size → wr.cell? ⟨blk, off + t, none⟩ = some (.int .u64 (Gk t)) := fun t ht => by rw [hw2]; exact hc t ht
                        have HW2 : Hid (wr = W1.drewN n2) := hw2
                        clear hw2
                        by_cases hle2 : i' ≤ j'
                        · go_wp2_with fail
                          go_big_quiet (first | (go_at_call 305; refine Calls.quiet_of_same (less_any _ _ _)))
                          go_wp2
                          · -- it goes on: j--
                            have ht : (!Sort.ltInt (Gk j') (Gk a)) = true := by assumption
                            go_roundw
                            case rel => exact ⟨j' - 1, n2 + nq, by go_num, by omega, by omega, by rw [HW2.out, World.drewN_drewN], (scanDown_go (fun x => !Sort.ltInt x dk[a]!) dk i' j' hle2 (by omega) (by rw [← AG.out a, ← AG.out j']; exact ht)).symm.trans hsd.out⟩
                            case measure => simp [intOf]; omega
                          · -- it stops: the test has failed
                            have ht : (!Sort.ltInt (Gk j') (Gk a)) = false := by assumption
                            have hj2 : Hid (j' = Sort.scanDown (fun x => !Sort.ltInt x dk[a]!) dk i' j) := (scanDown_end (fun x => !Sort.ltInt x dk[a]!) dk i' j' (Or.inr (by rw [← AG.out a, ← AG.out j']; exact ht))).symm.trans hsd.out
                            clear hcw hsd ht
                            have hw3 : wr.drewN nq = W1.drewN (n2 + nq) := by rw [HW2.out, World.drewN_drewN]
                            generalize wr.drewN nq = W3 at hw3 ⊢
                            have hc3 : ∀ t, t < d.size → W3.cell? ⟨blk, off + t, none⟩ = some (.int .u64 (Gk t)) := fun t ht => by rw [hw3]; exact hc t ht
                            have hf3 : ∀ t, t < d.size → W3.frozen? ⟨blk, off + t, none⟩ = false := fun t ht => by rw [hw3]; exact hf t ht
                            have HW3 : Hid (W3 = W1.drewN (n2 + nq)) := hw3
                            clear hw3
                            obtain ⟨v3, hy3⟩ := cell?_setCell_some (w := W3) (p := ⟨blk, off + i', none⟩) (x := .int .u64 (Gk j')) (q := ⟨blk, off + j', none⟩) (hc3 j' (by omega))
                            have hlt3 := part_scans_lt Sort.ltInt a i j dk (by omega) hi2.out hj2.out hle2
                            go_wp2
                            go_region
                            all_goals go_wp2
                            all_goals go_roundw
                            case rel =>
                              refine ⟨i' + 1, j' - 1, n + (n2 + nq) + 1, Sort.swp dk i' j', by go_num, by go_num, by omega, by omega, by omega, by rw [size_swp]; exact hs, ?_, ?_⟩
                              · rw [HW3.out, AW.out, World.drewN_drewN, AG.out i', AG.out j']
                                exact swap_worldC (Value.int .u64) w blk off dk _ i' j' (by omega) (by omega)
                              · exact (part_go Sort.ltInt a i j dk hi2.out hj2.out (by omega)).symm.trans AE.out
                            case measure => simp [intOf]; omega
                        · go_wp2_with fail
                          go_big_quiet (first | (go_at_call 305; refine Calls.quiet_of_same (less_any _ _ _)))
                          have hj2 : Hid (j' = Sort.scanDown (fun x => !Sort.ltInt x dk[a]!) dk i' j) := (scanDown_end (fun x => !Sort.ltInt x dk[a]!) dk i' j' (Or.inl hle2)).symm.trans hsd.out
                          clear hcw hsd
                          have hw3 : wr.drewN nq = W1.drewN (n2 + nq) := by rw [HW2.out, World.drewN_drewN]
                          generalize wr.drewN nq = W3 at hw3 ⊢
                          have hc3 : ∀ t, t < d.size → W3.cell? ⟨blk, off + t, none⟩ = some (.int .u64 (Gk t)) := fun t ht => by rw [hw3]; exact hc t ht
                          have hf3 : ∀ t, t < d.size → W3.frozen? ⟨blk, off + t, none⟩ = false := fun t ht => by rw [hw3]; exact hf t ht
                          have HW3 : Hid (W3 = W1.drewN (n2 + nq)) := hw3
                          clear hw3
                          obtain ⟨v3, hy3⟩ := cell?_setCell_some (w := W3) (p := ⟨blk, off + j', none⟩) (x := .int .u64 (Gk a)) (q := ⟨blk, off + a, none⟩) (hc3 a (by omega))
                          have hlj : j' < d.size := by omega
                          go_wp2
                          go_region
                          all_goals go_wp2
                          all_goals go_ret2
                          have e : Sort.partition Sort.ltInt d a b pivot = (j', false, Sort.swp dk j' a) := by
                            have e0 := (part_break Sort.ltInt a i j dk hi2.out hj2.out (by omega)).symm.trans AE.out
                            rw [HP.out, ← e0]
                          refine ⟨?_, n + (n2 + nq) + 1, ?_⟩
                          · rw [e]; rfl
                          · rw [e, HW3.out, AW.out, World.drewN_drewN, AG.out a, AG.out j']
                            exact swap_worldC (Value.int .u64) w blk off dk _ j' a (by omega) (by omega)
                  · go_wp2_with fail
                    go_big_quiet (first | (go_at_call 305; refine Calls.quiet_of_same (less_any _ _ _)))
                    go_wp2
                    have hi2 : Hid (i' = Sort.scanUp (fun x => Sort.ltInt x dk[a]!) dk j i) := (scanUp_end (fun x => Sort.ltInt x dk[a]!) dk j i' (Or.inl hle)).symm.trans hsc.out
                    have hw2 : wr.drewN nq = W1.drewN (n1 + nq) := by rw [HW1.out, World.drewN_drewN]
                    clear hcw HW1 hsc
                    go_loopw [11] (fun vj w2 => ∃ (j' n2 : Nat), vj = .int .i64 j' ∧ j' ≤ j ∧ i' ≤ j' + 1 ∧ w2 = W1.drewN n2 ∧
                        Hid (Sort.scanDown (fun x => !Sort.ltInt x dk[a]!) dk i' j' = Sort.scanDown (fun x => !Sort.ltInt x dk[a]!) dk i' j))
                      (fun vj _ => (intOf vj).toNat)
                    case atStart => exact ⟨j, n1 + nq, rfl, Nat.le_refl _, hij', hw2, rfl⟩
                    case round =>
                      clear hw2
                      obtain ⟨j', n2, rfl, hjj, hij2, hw2, hsd⟩ := hrel
                      have hcw : ∀ t, t < d.size → wr.cell? ⟨blk, off + t, none⟩ = some (.int .u64 (Gk t)) := fun t ht => by rw [hw2]; exact hc t ht
                      have HW2 : Hid (wr = W1.drewN n2) := hw2
                      clear hw2
                      by_cases hle2 : i' ≤ j'
                      · exfalso; omega      -- the upward scan has run past j, and j' ≤ j
                      · go_wp2_with fail
                        go_big_quiet (first | (go_at_call 305; refine Calls.quiet_of_same (less_any _ _ _)))
                        have hj2 : Hid (j' = Sort.scanDown (fun x => !Sort.ltInt x dk[a]!) dk i' j) := (scanDown_end (fun x => !Sort.ltInt x dk[a]!) dk i' j' (Or.inl hle2)).symm.trans hsd.out
                        clear hcw hsd
                        have hw3 : wr.drewN nq = W1.drewN (n2 + nq) := by rw [HW2.out, World.drewN_drewN]
                        generalize wr.drewN nq = W3 at hw3 ⊢
                        have hc3 : ∀ t, t < d.size → W3.cell? ⟨blk, off + t, none⟩ = some (.int .u64 (Gk t)) := fun t ht => by rw [hw3]; exact hc t ht
                        have hf3 : ∀ t, t < d.size → W3.frozen? ⟨blk, off + t, none⟩ = false := fun t ht => by rw [hw3]; exact hf t ht
                        have HW3 : Hid (W3 = W1.drewN (n2 + nq)) := hw3
                        clear hw3
                        obtain ⟨v3, hy3⟩ := cell?_setCell_some (w := W3) (p := ⟨blk, off + j', none⟩) (x := .int .u64 (Gk a)) (q := ⟨blk, off + a, none⟩) (hc3 a (by omega))
                        have hlj : j' < d.size := by omega
                        go_wp2
                        go_region
                        all_goals go_wp2
                        all_goals go_ret2
                        have e : Sort.partition Sort.ltInt d a b pivot = (j', false, Sort.swp dk j' a) := by
                          have e0 := (part_break Sort.ltInt a i j dk hi2.out hj2.out (by omega)).symm.trans AE.out
                          rw [HP.out, ← e0]
                        refine ⟨?_, n + (n2 + nq) + 1, ?_⟩
                        · rw [e]; rfl
                        · rw [e, HW3.out, AW.out, World.drewN_drewN, AG.out a, AG.out j']
                          exact swap_worldC (Value.int .u64) w blk off dk _ j' a (by omega) (by omega)
          · go_wp2_with fail
            go_big_quiet (first | (go_at_call 305; refine Calls.quiet_of_same (less_any _ _ _)))
            have hj2 : Hid (j' = Sort.scanDown (fun x => !Sort.ltInt x dk[a]!) dk i' j) := (scanDown_end (fun x => !Sort.ltInt x dk[a]!) dk i' j' (Or.inl hle2)).symm.trans hsd.out
            clear hcw hsd
            have hw3 : wr.drewN nq = W1.drewN (n2 + nq) := by rw [HW2.out, World.drewN_drewN]
            generalize wr.drewN nq = W3 at hw3 ⊢
            have hc3 : ∀ t, t < d.size → W3.cell? ⟨blk, off + t, none⟩ = some (.int .u64 (Gk t)) := fun t ht => by rw [hw3]; exact hc t ht
            have hf3 : ∀ t, t < d.size → W3.frozen? ⟨blk, off + t, none⟩ = false := fun t ht => by rw [hw3]; exact hf t ht
            have HW3 : Hid (W3 = W1.drewN (n2 + nq)) := hw3
            clear hw3
            obtain ⟨v3, hy3⟩ := cell?_setCell_some (w := W3) (p := ⟨blk, off + j', none⟩) (x := .int .u64 (Gk a)) (q := ⟨blk, off + a, none⟩) (hc3 a (by omega))
            have hlj : j' < d.size := by omega
            go_wp2
            go_region
            all_goals go_wp2
            all_goals go_ret2
            have e : Sort.partition Sort.ltInt d a b pivot = (j', true, Sort.swp dk j' a) := part_first_break Sort.ltInt d a b pivot HI.out HJ.out HDK.out hi2.out hj2.out (by omega)
            refine ⟨?_, n + (n2 + nq) + 1, ?_⟩
            · rw [e]; rfl
            · rw [e, HW3.out, AW.out, World.drewN_drewN, AG.out a, AG.out j']
              exact swap_worldC (Value.int .u64) w blk off dk _ j' a (by omega) (by omega)
    · go_wp2_with fail
      go_big_quiet (first | (go_at_call 305; refine Calls.quiet_of_same (less_any _ _ _)))
      go_wp2
      have hi2 : Hid (i' = Sort.scanUp (fun x => Sort.ltInt x dk[a]!) dk j i) := (scanUp_end (fun x => Sort.ltInt x dk[a]!) dk j i' (Or.inl hle)).symm.trans hsc.out
      have hw2 : wr.drewN nq = W1.drewN (n1 + nq) := by rw [HW1.out, World.drewN_drewN]
      clear hcw HW1 hsc
      go_loopw [11] (fun vj w2 => ∃ (j' n2 : Nat), vj = .int .i64 j' ∧ j' ≤ j ∧ i' ≤ j' + 1 ∧ w2 = W1.drewN n2 ∧
          Hid (Sort.scanDown (fun x => !Sort.ltInt x dk[a]!) dk i' j' = Sort.scanDown (fun x => !Sort.ltInt x dk[a]!) dk i' j))
        (fun vj _ => (intOf vj).toNat)
      case atStart => exact ⟨j, n1 + nq, rfl, Nat.le_refl _, hij', hw2, rfl⟩
      case round =>
        clear hw2
        obtain ⟨j', n2, rfl, hjj, hij2, hw2, hsd⟩ := hrel
        have hcw : ∀ t, t < d.size → wr.cell? ⟨blk, off + t, none⟩ = some (.int .u64 (Gk t)) := fun t ht => by rw [hw2]; exact hc t ht
        have HW2 : Hid (wr = W1.drewN n2) := hw2
        clear hw2
        by_cases hle2 : i' ≤ j'
        · exfalso; omega      -- the upward scan has run past j, and j' ≤ j
        · go_wp2_with fail
          go_big_quiet (first | (go_at_call 305; refine Calls.quiet_of_same (less_any _ _ _)))
          have hj2 : Hid (j' = Sort.scanDown (fun x => !Sort.ltInt x dk[a]!) dk i' j) := (scanDown_end (fun x => !Sort.ltInt x dk[a]!) dk i' j' (Or.inl hle2)).symm.trans hsd.out
          clear hcw hsd
          have hw3 : wr.drewN nq = W1.drewN (n2 + nq) := by rw [HW2.out, World.drewN_drewN]
          generalize wr.drewN nq = W3 at hw3 ⊢
          have hc3 : ∀ t, t < d.size → W3.cell? ⟨blk, off + t, none⟩ = some (.int .u64 (Gk t)) := fun t ht => by rw [hw3]; exact hc t ht
          have hf3 : ∀ t, t < d.size → W3.frozen? ⟨blk, off + t, none⟩ = false := fun t ht => by rw [hw3]; exact hf t ht
          have HW3 : Hid (W3 = W1.drewN (n2 + nq)) := hw3
          clear hw3
          obtain ⟨v3, hy3⟩ := cell?_setCell_some (w := W3) (p := ⟨blk, off + j', none⟩) (x := .int .u64 (Gk a)) (q := ⟨blk, off + a, none⟩) (hc3 a (by omega))
          have hlj : j' < d.size := by omega
          go_wp2
          go_region
          all_goals go_wp2
          all_goals go_ret2
          have e : Sort.partition Sort.ltInt d a b pivot = (j', true, Sort.swp dk j' a) := part_first_break Sort.ltInt d a b pivot HI.out HJ.out HDK.out hi2.out hj2.out (by omega)
          refine ⟨?_, n + (n2 + nq) + 1, ?_⟩
          · rw [e]; rfl
          · rw [e, HW3.out, AW.out, World.drewN_drewN, AG.out a, AG.out j']
            exact swap_worldC (Value.int .u64) w blk off dk _ j' a (by omega) (by omega)
theorem so_partitionOrdered_int (blk off cap a b pivot : Nat) (d : Array Int) (w : World) (hH : Holds (Value.int .u64) w blk off d) (hap : a ≤ pivot) (hpb : pivot < b) (hb : b ≤ d.size) (hsz : d.size < 4611686018427387904) :
    Calls Tryz.prog 307 #[.slice (some ⟨blk, off, none⟩) d.size cap, .int .i64 a, .int .i64 b, .int .i64 pivot] w fun e w' =>
      e = .returned (.tuple #[.int .i64 (Sort.partition Sort.ltInt d a b pivot).1, .bool (Sort.partition Sort.ltInt d a b pivot).2.1]) ∧ ∃ n, w' = putRow (Value.int .u64) (Sort.ahead w n) blk off (Sort.partition Sort.ltInt d a b pivot).2.2 :=
  (so_partition_int blk off cap a b pivot d w hH hap hpb hb hsz).mono fun _ _ ⟨he, n, hw⟩ => ⟨he, n, hw⟩
end Go.Proofs.YtpobhbdomldecaaGreatDoor
namespace Go.Proofs.YtpobhbdomldecaaGreatDoor
open Go.RowKit Go.Sort
set_option linter.unusedSimpArgs false
set_option linter.unusedVariables false
theorem callees13 : Callees13 where
  ins := insertion_any
  brk := so_breakPatterns_int
  piv := so_choosePivot_int
  par := so_partialInsertionSort_int
  peq := so_partitionEqualOrdered_int
  prt := so_partitionOrdered_int
theorem plain13 : Plain13 where
  swo := swo_ltInt
  ins := insertionSort_holds
  par := partialInsertionSort_holds
  prt := partition_holds _
  peq := partitionEqual_holds _
  pdq := pdq_sorts _
theorem sort_srt (l : List Int) : Sort.sort ltInt l.toArray = (srt l).toArray := by
  show _ = (l.mergeSort fun x y => decide (x ≤ y)).toArray
  rw [← sortInt l]
theorem pdq_any (blk off cap : Nat) (l : List Int) (w : World) (hH : Holds (Value.int .u64) w blk off l.toArray) (hblk : blk < w.heap.size) (hsz : l.length < 4611686018427387904) :
    Calls Tryz.prog 294 #[.slice (some ⟨blk, off, none⟩) l.length cap, .int .i64 0, .int .i64 l.length, .int .i64 (Lib.bitLen l.length : Nat)] w fun e w' => e = .returned (.tuple #[]) ∧ ∃ n os, w' = grow (putRow (Value.int .u64) (Sort.ahead w n) blk off (srt l).toArray) os := by
  have hs : l.toArray.size = l.length := by simp
  have hb := bitLen_eq l.length (by omega)
  have hle : bitsLen l.length ≤ 62 := (bitsLen_le_iff _ 62).2 (by omega)
  have h := so_pdqsort_int callees13 plain13 (l.length + 1) blk off cap 0 l.toArray.size (bitsLen l.length) l.toArray w (by omega) hH hblk (Nat.zero_le _) (Nat.le_refl _) (by omega) (by omega) (.inl rfl)
  have e : pdq ltInt l.toArray 0 l.toArray.size (bitsLen l.length) true true = (srt l).toArray := by
    rw [← sort_srt]; unfold Sort.sort; rw [hs]
  rw [e, hs] at h
  rw [hb]
  exact h
theorem grown_block {w : World} {g n : Nat} {cur : Array Value} {e : TypeId} {fr : Nat × Nat} {os : Array Obj} (d : Array Int) (hb : w.heap[g]? = some (.cells cur e fr)) :
    (grow (putRow (Value.int .u64) (Sort.ahead w n) g 0 d) os).heap[g]? = some (.cells (putCells (Value.int .u64) 0 d cur) e fr) := by
  have hg : g < w.heap.size := (Array.getElem?_eq_some_iff.1 hb).1
  rw [heap_grow_old _ _ (by simpa [putRow, mapBlock, Sort.ahead] using hg)]
  exact put_block d hb
theorem grown_grown {w : World} {g n : Nat} {os : Array Obj} (d : Array Int) : w.grownBy (grow (putRow (Value.int .u64) (Sort.ahead w n) g 0 d) os) (some g) := by
  refine ⟨rfl, rfl, rfl, by simp [grow, putRow, mapBlock, Sort.ahead], fun k hk hne => ?_⟩
  rw [heap_grow_old _ _ (by simpa [putRow, mapBlock, Sort.ahead] using hk)]
  have : g ≠ k := fun e => hne (by rw [e])
  simp [putRow, mapBlock, Sort.ahead, Array.getElem?_modify, this]
theorem grown_own {w : World} {base g cap n : Nat} {e : TypeId} {os : Array Obj} {cur : Array Value} {ss ts : List Int} (hl : ts.length = ss.length) (hbase : base ≤ g) (hb : w.heap[g]? = some (.cells cur e (0, 0)))
    (h1 : ss.length ≤ cap) (h2 : cap ≤ maxLen) (h3 : cur.size = cap * 1) :
    (grow (putRow (Value.int .u64) (Sort.ahead w n) g 0 ts.toArray) os).ownsRow base e 1 (.slice (some ⟨g, 0, none⟩) ss.length cap) ss.length (ts.map (Value.int .u64)) :=
  ⟨by simp [hl], .inr ⟨g, cap, _, rfl, hbase, grown_block _ hb, h1, h2, by simp [putCells, h3], by rw [Nat.mul_one, ← hl]; exact put_take cur ts (by omega)⟩⟩
set_option maxRecDepth 100000 in
theorem sort_any (w : World) (base : Nat) (v : Value) (xs : List Int) (hown : w.ownsRow base 23 1 v xs.length (xs.map (Value.int .u64))) (h12 : xs.length < 4611686018427387904) :
    Calls Tryz.prog 277 #[v] w (SortedIs base v xs w) := by
  have hbl := fun x w h0 h1 => Tryz.bits_Len x w h0 h1
  obtain ⟨h1, h2⟩ := hown
  rcases h2 with ⟨rfl, h2⟩ | ⟨g, cap, cur, rfl, hg, hh, hc1, hc2, hc3, hc4⟩
  · obtain rfl : xs = [] := List.eq_nil_of_length_eq_zero h2
    clear h1 h2 h12
    go_enter Tryz.func277, Tryz.ntmps277
    go_wp2_with fail
    refine (hbl 0 _ (by decide) (by decide)).mono ?_
    rintro e w' ⟨rfl, rfl⟩
    go_wp2_with fail
    refine (pdq_nil _ _).mono ?_
    rintro e w'' ⟨rfl, rfl⟩
    go_wp2
    go_end0
    exact ⟨rfl, (by rw [show srt [] = [] by simp [srt]]; exact World.ownsRow_nil _ _ _ _), ⟨rfl, rfl, rfl, Nat.le_refl _, fun _ _ _ => rfl⟩⟩
  · have HO : Hid (Holds (Value.int .u64) w g 0 xs.toArray) := Lib.hid (holds_row hh (by rw [Nat.mul_one] at hc4; exact hc4))
    have HH := Lib.hid hh
    have H3 := Lib.hid hc3
    have hlt : g < w.heap.size := (Array.getElem?_eq_some_iff.1 hh).1
    have HP : Hid (∀ W : World, W = w → Calls Tryz.prog 294 #[.slice (some ⟨g, 0, none⟩) xs.length cap, .int .i64 0, .int .i64 xs.length, .int .i64 (Lib.bitLen xs.length : Nat)] W fun e w' => e = .returned (.tuple #[]) ∧ ∃ n os, w' = grow (putRow (Value.int .u64) (Sort.ahead w n) g 0 (srt xs).toArray) os) := Lib.hid (fun W hW => by rw [hW]; exact pdq_any g 0 cap xs w HO.out hlt h12)
    have hx62 : (xs.length : Int) < 4611686018427387904 := by omega
    clear hh hc3 hc4 h1
    go_enter Tryz.func277, Tryz.ntmps277
    go_wp2_with fail
    refine (hbl xs.length _ (by omega) (by omega)).mono ?_
    rintro e w' ⟨rfl, rfl⟩
    go_wp2_with fail
    refine (HP.out _ rfl).mono ?_
    rintro e w'' ⟨rfl, n, os, hw⟩
    have HW := Lib.hid hw
    clear hw
    go_wp2
    go_end0
    refine ⟨rfl, ?_, ?_⟩
    · have := HW.out
      rw [this]
      have h3 := H3.out
      exact grown_own (by rw [srt_len]) hg HH.out hc1 hc2 h3
    · rw [HW.out]; exact grown_grown _
set_option maxRecDepth 100000 in
theorem sorted_any (w : World) (gf N : Nat) (lb : Array Value) (S : List Int → Prop) (Px : Int → World → Prop) (hpx : ∀ k W W', Px k W → Px k W') (eg : ∀ args w, (callFunc gf args).run Tryz.prog w = .ok (.enter gf args) w)
    (hseq : SeqP Fence.wide 4 Tryz.prog gf lb (fun k : Int => #[.int .u64 k]) Px S N w) (hN : N ≤ 1000000) (h12 : ∀ xs, S xs → xs.length < 4611686018427387904) :
    Calls Tryz.prog 225 #[.func (.func gf) #[] lb] w (SortedOf S w) := by
  have HS := Lib.hid hseq
  have HP := Lib.hid hpx
  have HG := Lib.hid eg
  have H12 := Lib.hid h12
  clear hseq hpx eg h12
  go_enter Tryz.func225, Tryz.ntmps225
  go_wp2_with fail
  refine (collect_any w gf N lb S Px HP.out HG.out HS.out hN).mono ?_
  rintro e w1 ⟨v, xs, rfl, hS, hr, hb⟩
  have H1 := Lib.hid hS
  have H2 : Hid (w1.ownsRow w.heap.size 23 1 v xs.length (xs.map (Value.int .u64))) := Lib.hid hr
  have H3 := Lib.hid hb
  clear hS hr hb
  go_wp2_with fail
  refine (sort_any w1 w.heap.size v xs H2.out (H12.out xs H1.out)).mono ?_
  rintro e w2 ⟨rfl, hr, hg⟩
  have H4 := Lib.hid hr
  have H5 : Hid (Below w.heap.size w w2) := Lib.hid (grownBy_below H3.out hg (fun k hk => by
    have := H2.out.2
    rcases this with ⟨rfl, _⟩ | ⟨g, cap, cur, rfl, hg1, _⟩
    · simp [Value.ownBlock] at hk
    · obtain rfl : g = k := by simpa [Value.ownBlock] using hk
      exact hg1))
  clear hr hg
  go_wp2
  go_ret
  exact ⟨v, xs, rfl, H1.out, H4.out, H5.out⟩
end Go.Proofs.YtpobhbdomldecaaGreatDoor
namespace Go.Proofs.YtpobhbdomldecaaGreatDoor
open Go.RowKit Go.ChangeMaps
set_option linter.unusedSimpArgs false
set_option linter.unusedVariables false
attribute [local go_sem] Oper.semAt_some
def needK (ks : List Int) : List Int := insAll ((ks.map sib).filter fun s => !decide (s ∈ ks))
theorem needK_mem (ks : List Int) (k : Int) : k ∈ needK ks ↔ (∃ j ∈ ks, k = sib j) ∧ k ∉ ks := by
  unfold needK
  rw [(insAll_all _).2.1, List.mem_filter, List.mem_map]
  constructor
  · rintro ⟨⟨j, hj, rfl⟩, h⟩; exact ⟨⟨j, hj, rfl⟩, by simpa using h⟩
  · rintro ⟨⟨j, hj, rfl⟩, h⟩; exact ⟨⟨j, hj, rfl⟩, by simpa using h⟩
theorem needK_nodup (ks : List Int) : (needK ks).Nodup := (insAll_all _).1
def rowK (ks : List Int) : List Int := srt (needK ks)
theorem rowK_of {xs ks : List Int} (hn : xs.Nodup) (h : ∀ k, k ∈ xs ↔ k ∈ needK ks) : srt xs = rowK ks :=
  srt_of hn (srt_rising (needK_nodup ks)) (fun k => (h k).trans (srt_mem _ _).symm)
theorem rowK_same {ks js : List Int} (h : ∀ k, k ∈ ks ↔ k ∈ js) : rowK ks = rowK js :=
  rowK_of (needK_nodup ks) (fun k => by
    rw [needK_mem, needK_mem, h]
    constructor
    · rintro ⟨⟨j, hj, e⟩, hk⟩; exact ⟨⟨j, (h j).1 hj, e⟩, hk⟩
    · rintro ⟨⟨j, hj, e⟩, hk⟩; exact ⟨⟨j, (h j).2 hj, e⟩, hk⟩)
def rowsOf (leaves : List Int) (d : Nat) : List (List Int) := (List.range d).map fun i => rowK (insAll (leaves.map (· / 2 ^ i)))
theorem rowsOf_levs {leaves : List Int} {d : Nat} {xs : List Lev} (h : LevsOf leaves d xs) : xs.map (fun x => rowK x.2.2) = rowsOf leaves d := by
  apply List.ext_getElem
  · simp [rowsOf, h.1]
  · intro i h1 h2
    have hi : i < xs.length := by simpa using h1
    simp only [rowsOf, List.getElem_map, List.getElem_range]
    refine rowK_same (fun k => ?_)
    rw [(insAll_all _).2.1, h.2 i hi k, List.mem_map]
    constructor
    · rintro ⟨j, hj, e⟩; exact ⟨j, hj, e.symm⟩
    · rintro ⟨j, hj, e⟩; exact ⟨j, hj, e.symm⟩
def RowsAre (W : World) (base : Nat) (vals : List Value) (rs : List (List Int)) : Prop :=
  vals.length = rs.length ∧ ∀ i, ∀ h : i < rs.length, ∃ v, vals[i]? = some v ∧ W.ownsRow base 23 1 v rs[i].length (rs[i].map (Value.int .u64))
theorem RowsAre.nil (W : World) (base : Nat) : RowsAre W base [] [] := ⟨rfl, fun i h => by simp at h⟩
theorem RowsAre.snoc {W : World} {base : Nat} {vals : List Value} {rs : List (List Int)} (h : RowsAre W base vals rs) {v : Value} {r : List Int} (hv : W.ownsRow base 23 1 v r.length (r.map (Value.int .u64))) : RowsAre W base (vals ++ [v]) (rs ++ [r]) := by
  refine ⟨by simp [h.1], fun i hi => ?_⟩
  by_cases hlt : i < rs.length
  · obtain ⟨u, h1, h2⟩ := h.2 i hlt
    refine ⟨u, by rw [List.getElem?_append_left (by rw [h.1]; exact hlt)]; exact h1, ?_⟩
    rw [List.getElem_append_left hlt]; exact h2
  · have e : i = rs.length := by simp at hi; omega
    subst e
    refine ⟨v, by rw [← h.1]; simp, ?_⟩
    rw [List.getElem_append_right (Nat.le_refl _)]
    simpa using hv
theorem RowsAre.kept {W W' : World} {base : Nat} {vals : List Value} {rs : List (List Int)} {row : Option Nat} (h : RowsAre W base vals rs) (hg : W.grownBy W' row)
    (hr : ∀ i : Nat, ∀ v ∈ vals, v.ownBlock = none ∨ v.ownBlock ≠ row) : RowsAre W' base vals rs :=
  ⟨h.1, fun i hi => by
    obtain ⟨v, h1, h2⟩ := h.2 i hi
    exact ⟨v, h1, h2.kept hg (hr 0 v (List.mem_of_getElem? h1))⟩⟩
theorem RowsAre.below {W W' : World} {base : Nat} {vals : List Value} {rs : List (List Int)} (h : RowsAre W base vals rs) (hb : Below W.heap.size W W') : RowsAre W' base vals rs :=
  ⟨h.1, fun i hi => by
    obtain ⟨v, h1, h2⟩ := h.2 i hi
    exact ⟨v, h1, own_below h2 hb⟩⟩
theorem RowsAre.apart {W : World} {base : Nat} {vals : List Value} {rs : List (List Int)} (h : RowsAre W base vals rs) {g : Nat} {cs : Array Value} {t : TypeId} {fr : Nat × Nat} (hg : W.heap[g]? = some (.cells cs t fr)) (ht : t ≠ 23) : ∀ i : Nat, ∀ v ∈ vals, v.ownBlock = none ∨ v.ownBlock ≠ some g := by
  intro _ v hv
  obtain ⟨i, hi, rfl⟩ := List.getElem_of_mem hv
  obtain ⟨u, h1, h2⟩ := h.2 i (by rw [← h.1]; exact hi)
  rw [List.getElem?_eq_getElem hi] at h1
  cases h1
  rcases h2.2 with ⟨e, _⟩ | ⟨g', cap, cur, e, _, hh, _⟩
  · rw [e]; exact .inl rfl
  · rw [e]
    right
    intro e2
    obtain rfl : g' = g := by simpa [Value.ownBlock] using e2
    rw [hg] at hh
    cases hh
    exact ht rfl
def Lack (ks : List Int) (nb : Nat) (seen : Array Nat) (nx : List Int) : Prop := nx.Nodup ∧ ∀ k, k ∈ nx ↔ ∃ i, ∃ h : i < ks.length, nb + i ∈ seen ∧ k = sib ks[i] ∧ k ∉ ks
theorem Lack.start (ks : List Int) (nb : Nat) : Lack ks nb #[] [] := ⟨List.nodup_nil, fun k => by simp⟩
theorem Lack.step {ks : List Int} {nb : Nat} {seen : Array Nat} {nx : List Int} (h : Lack ks nb seen nx) {i : Nat} (hi : i < ks.length) : Lack ks nb (seen.push (nb + i)) (if sib ks[i] ∈ ks then nx else insK nx (sib ks[i])) := by
  have key : ∀ k, (∃ j, ∃ h : j < ks.length, nb + j ∈ seen.push (nb + i) ∧ k = sib ks[j] ∧ k ∉ ks) ↔ (k ∈ nx ∨ (k = sib ks[i] ∧ k ∉ ks)) := fun k => by
    rw [h.2]
    constructor
    · rintro ⟨j, hj, hs, e⟩
      rcases Array.mem_push.1 hs with hs | he
      · exact .inl ⟨j, hj, hs, e⟩
      · have : j = i := by omega
        subst this; exact .inr e
    · rintro (⟨j, hj, hs, e⟩ | e)
      · exact ⟨j, hj, Array.mem_push.2 (.inl hs), e⟩
      · exact ⟨i, hi, Array.mem_push.2 (.inr rfl), e⟩
  split
  · rename_i hm
    refine ⟨h.1, fun k => ?_⟩
    rw [key]
    constructor
    · exact .inl
    · rintro (h1 | ⟨rfl, h2⟩)
      · exact h1
      · exact absurd hm h2
  · rename_i hm
    refine ⟨insK_nodup h.1 _, fun k => ?_⟩
    rw [key, insK_mem]
    constructor
    · rintro (h1 | rfl)
      · exact .inl h1
      · exact .inr ⟨rfl, hm⟩
    · rintro (h1 | ⟨rfl, _⟩)
      · exact .inl h1
      · exact .inr rfl
theorem Lack.done {ks : List Int} {nb : Nat} {seen : Array Nat} {nx : List Int} (h : Lack ks nb seen nx) (ha : ∀ i, i < (kv ks).length → nb + i ∈ seen) : ∀ k, k ∈ nx ↔ k ∈ needK ks := fun k => by
  rw [h.2, needK_mem]
  constructor
  · rintro ⟨i, hi, _, e, hk⟩; exact ⟨⟨_, List.getElem_mem hi, e⟩, hk⟩
  · rintro ⟨⟨j, hj, e⟩, hk⟩
    obtain ⟨i, hi, rfl⟩ := List.getElem_of_mem hj
    exact ⟨i, hi, ha i (by rw [kv_len]; exact hi), e, hk⟩
theorem needK_len (ks : List Int) : (needK ks).length ≤ ks.length := by
  have h1 := (insAll_all ((ks.map sib).filter fun s => !decide (s ∈ ks))).2.2
  have h2 := List.length_filter_le (fun s => !decide (s ∈ ks)) (ks.map sib)
  unfold needK
  rw [List.length_map] at h2
  omega
theorem Lack.len {ks : List Int} {nb : Nat} {seen : Array Nat} {nx : List Int} (h : Lack ks nb seen nx) (hk : ∀ k, k ∈ nx ↔ k ∈ needK ks) : nx.length ≤ ks.length :=
  Nat.le_trans (nodup_len nx (needK ks) h.1 (fun k hm => (hk k).1 hm)) (needK_len ks)
def OutIs (B base : Nat) (W : World) (rs : List (List Int)) : Prop := ∃ (v : Value) (vals : List Value), Boxed W B 196 v ∧ W.ownsRow base 64 1 v vals.length vals ∧ RowsAre W base vals rs
theorem out_own {B base B0 : Nat} {β : Type} (f : β → List (List Int)) : OwnFrom B0 (fun s W => OutIs B base W (f s)) := by
  rintro s X Y row ⟨v, vals, hv, hr, hR⟩ hg hrow
  have key : ∀ (g : Nat) (cs : Array Value) (t : TypeId) (fr : Nat × Nat), X.heap[g]? = some (.cells cs t fr) → some g ≠ row := fun g cs t fr hgc e => by
    obtain ⟨_, o, ho, hc⟩ := hrow g e.symm
    rw [hgc] at ho; cases ho; cases hc
  have key2 : ∀ {u : Value} {e n : Nat} {xs : List Value}, X.ownsRow base e 1 u n xs → u.ownBlock = none ∨ u.ownBlock ≠ row := fun {u e n xs} h => by
    rcases h.2 with ⟨rfl, _⟩ | ⟨g, cap, cur, rfl, _, hgb, _⟩
    · exact .inl rfl
    · exact .inr (key g _ _ _ hgb)
  refine ⟨v, vals, hv.kept hg (key B _ _ _ hv), hr.kept hg (key2 hr), hR.1, fun i hi => ?_⟩
  obtain ⟨u, h1, h2⟩ := hR.2 i hi
  exact ⟨u, h1, h2.kept hg (key2 h2)⟩
theorem OutIs.below {B base : Nat} {W W' : World} {rs : List (List Int)} (h : OutIs B base W rs) (hb : Below W.heap.size W W') : OutIs B base W' rs := by
  obtain ⟨v, vals, h1, h2, h3⟩ := h
  exact ⟨v, vals, (hb.block _ h1.lt).trans h1, own_below h2 hb, h3.below hb⟩
def NeedsIs (rs : List (List Int)) (w : World) (e : Ending) (w' : World) : Prop :=
  ∃ (v : Value) (vals : List Value), e = .returned v ∧ w'.ownsRow w.heap.size 64 1 v vals.length vals ∧ RowsAre w' w.heap.size vals rs ∧ Below w.heap.size w w'
theorem info_rows : (Tryz.prog.info? 64).map (fun i => (i.zero, i.size, i.bytes)) = some (some (.slice none 0 0), 1, 24) := by kernel_rfl
set_option maxRecDepth 100000 in
set_option maxHeartbeats 4000000 in
theorem needs12_any (a : Option Addr) (cap : Nat) (leaves : List Int) (d : Nat) (w : World) (hl : U64s w a leaves) (hlen : len leaves ≤ 100) (hl0 : 0 < len leaves) (hu : ∀ k ∈ leaves, U64 k) (hd : d ≤ 16) (hf : farB leaves d = false) :
    Calls Tryz.prog 165 #[.slice a (len leaves) cap, .int .i64 d] w (NeedsIs (rowsOf leaves d) w) := by
  have HL := Lib.hid hl
  have HU := Lib.hid hu
  have HF := Lib.hid hf
  clear hl hu hf
  refine (callsIn_wide (n := 9)).1 ?_
  refine callsIn_of_wp_marks Tryz.func165 rfl trivial ?_ rfl
  simp only [Tryz.ntmps165, List.size_toArray, List.length_cons, List.length_nil, Nat.reduceAdd, Nat.reduceSub, Array.replicate_succ, Array.replicate_zero, List.push_toArray, List.append_toArray, List.nil_append, List.cons_append]
  gi_wp2_with fail
  refine ⟨trivial, (callsIn_wide.2 (may_any _ _)).mono ?_⟩
  rintro e w' ⟨rfl, rfl⟩
  have b1 : (0 : Int) ≤ d := by omega
  have b2 : (d : Int) ≤ 16 := by omega
  have b3 : ((len leaves : Int) == 0) = false := by simp; omega
  obtain ⟨V, hV⟩ : ∃ V, w.alloc (.cells #[.int .i64 d] 3) = V := ⟨_, rfl⟩
  have VB : Hid (Below w.heap.size w V) := Lib.hid (by rw [← hV]; (repeat (first | exact Below.refl _ _ | assumption | (refine bdrew ?_) | (refine bdrewN ?_ _) | (refine balloc ?_ _) | (refine bset ?_ (by first | omega | (simp; done) | (simp; omega)) _) | (refine bnext ?_ (by assumption)))))
  have V0 : Hid (V.heap[w.heap.size]? = some (.cells #[.int .i64 d] 3 (0, 0))) := Lib.hid (by rw [← hV]; (repeat (first | exact alloc_new_at _ (by repeat (first | rfl | refine alloc_size _ ?_)) | refine block_alloc ?_ _)))
  have Vz : V.heap.size = w.heap.size + 1 := by rw [← hV]; simp
  rw [hV]
  have VZ := Lib.hid Vz
  clear hV Vz
  rw [show (decide ((0 : Int) ≤ d) && decide ((d : Int) ≤ 16)) = true by simp [b1, b2]]
  gi_wp2_with fail
  refine ⟨trivial, (callsIn_wide.2 (contains_any a cap leaves w.heap.size d V (block_cell V0.out 0) hd (HL.out.below VB.out) (by omega) HU.out)).mono ?_⟩
  rintro e w' ⟨rfl, rfl⟩
  rw [HF.out]
  have hcc : V.cell? ⟨w.heap.size, 0, none⟩ = some (.int .i64 d) := block_cell V0.out 0
  have hzz : w.heap.size < V.heap.size := lt_of_block V0.out
  gi_wp2_with fail
  refine ⟨trivial, (callsIn_wide.2 (levels_any a cap leaves d _)).mono ?_⟩
  rintro e Z ⟨rfl, hZ⟩
  obtain ⟨o, ho⟩ : ∃ o, V.heap.size = o := ⟨_, rfl⟩
  have Vsz : V.heap.size = w.heap.size + 1 := VZ.out
  have hs1 : (V.alloc (.cells #[.slice none 0 0] 196)).heap.size = o + 1 := by simp; omega
  have hs2 : ((V.alloc (.cells #[.slice none 0 0] 196)).alloc (.cells #[.slice a (len leaves) cap] 64)).heap.size = o + 2 := by simp; omega
  rw [hs1, ho]
  have ZB : Hid (Below w.heap.size w Z) := Lib.hid (by rw [hZ]; exact balloc (balloc (balloc VB.out _) _) _)
  have ZO : Hid (Boxed Z o 196 (.slice none 0 0)) := Lib.hid (by rw [hZ]; exact block_alloc (block_alloc (alloc_new_at _ ho) _) _)
  have Z1 : Hid (Z.heap[o + 1]? = some (.cells #[.slice a (len leaves) cap] 64 (0, 0))) := Lib.hid (by rw [hZ]; exact block_alloc (alloc_new_at _ hs1) _)
  have Z2 : Hid (Z.heap[o + 2]? = some (.cells #[.int .i64 d] 3 (0, 0))) := Lib.hid (by rw [hZ]; exact alloc_new_at _ hs2)
  have howz : w.heap.size ≤ o := by omega
  have HOZ := Lib.hid Vsz
  have hoz : Hid (o < Z.heap.size) := Lib.hid ZO.out.lt
  clear hZ hs1 hs2 hcc hzz Vsz ho VZ V0 VB HOZ
  gi_wp2_with fail
  refine wpIn_rangeFunc_P rfl (by omega) (gf := 275) (lb := #[.pointer (some ⟨o + 1, 0, none⟩), .pointer (some ⟨o + 2, 0, none⟩)]) rfl trivial (enters_of Tryz.func275 (by kernel_rfl) rfl)
    (levels_seq 8 (by omega) (o + 1) (o + 2) a cap leaves d Z (block_cell Z1.out 0) (block_cell Z2.out 0) (HL.out.below ZB.out) (by omega) (by omega) HU.out) (fun x W l r o' h hl => h.putObj o' hl) (fun _ => rfl)
    (fun pre W => OutIs o w.heap.size W (pre.map fun x => rowK x.2.2) ∧ Below w.heap.size w W)
    (OwnFrom.and (out_own fun pre : List Lev => pre.map fun x => rowK x.2.2) (ownFrom_below (Nat.le_refl _) (by have := hoz.out; omega)))
    ⟨⟨_, [], ZO.out, World.ownsRow_nil _ _ _ _, RowsAre.nil _ _⟩, ZB.out⟩ ?a1 ?assign ?body ?done
  case assign =>
    intro l x W K hK
    gi_wp2
    exact hK
  case body =>
    rintro l pre ⟨kb, nb, ks⟩ W ⟨hO, hB⟩ hPx hlt
    have HO := Lib.hid hO
    have HB := Lib.hid hB
    have HN := Lib.hid hPx.2.1
    have HLE := Lib.hid hPx.2.2.1
    have HU2 := Lib.hid hPx.2.2.2
    have HM0 : Hid (W.heap[kb]? = some (mObj .u64 nb (kv ks))) := Lib.hid hPx.1
    clear hO hB hPx
    dsimp only
    have hmm := @run_makeMap Tryz.prog
    gi_upto_region 8 with (fail)
    clear hmm
    obtain ⟨V, hV⟩ : ∃ V, W.alloc (.map #[] 0) = V := ⟨_, rfl⟩
    obtain ⟨nk, hnk⟩ : ∃ nk, W.heap.size = nk := ⟨_, rfl⟩
    have VB : Hid (Below W.heap.size W V) := Lib.hid (by rw [← hV]; exact balloc (Below.refl _ _) _)
    have VN : Hid (V.heap[nk]? = some (mObj .u64 0 (kv []))) := Lib.hid (by rw [← hV]; exact alloc_new_at _ hnk)
    have VM : Hid (V.heap[kb]? = some (mObj .u64 nb (kv ks))) := Lib.hid (by rw [← hV]; exact block_alloc HM0.out _)
    have hkn : kb < nk := by have := lt_of_block HM0.out; omega
    have NK := Lib.hid hnk
    rw [hV, hnk]
    clear hV hnk HM0
    gi_wp2_with (gi_at_range; refine wpListIn_range_m rfl _ 257 23 4 .u64 rfl Tryz.underlying257 kb nb _ rfl VM.out ?_; intro hrg)
    try go_frame
    obtain ⟨r, hr⟩ : ∃ r, V.heap.size = r := ⟨_, rfl⟩
    obtain ⟨Y, hY⟩ : ∃ Y, V.alloc (.mapIter (some kb) (nb + (kv ks).length) #[] (nb + (kv ks).length)) = Y := ⟨_, rfl⟩
    have YR : Hid (Ranging Y kb r .u64 nb (kv ks) #[]) := Lib.hid (by rw [← hY, ← hr]; exact hrg)
    have YN : Hid (Y.heap[nk]? = some (mObj .u64 0 (kv []))) := Lib.hid (by rw [← hY]; exact block_alloc VN.out _)
    have YB : Hid (Below W.heap.size W Y) := Lib.hid (by rw [← hY]; exact balloc VB.out _)
    have hnr : nk < r := by have := lt_of_block VN.out; omega
    rw [hr, hY]
    clear hr hY hrg VN VM VB
    gi_loopw [9] (fun _ wr => ∃ (seen : Array Nat) (nx : List Int), Hid (Ranging wr kb r .u64 nb (kv ks) seen) ∧ Hid (wr.heap[nk]? = some (mObj .u64 0 (kv nx))) ∧ Hid (Lack ks nb seen nx) ∧ Hid (Below W.heap.size W wr)) (fun _ wr => rLeft wr r (nb + (kv ks).length))
    case atStart => exact ⟨#[], [], YR.out, YN.out, Lack.start ks nb, YB.out⟩
    case round =>
      clear YR YN YB
      obtain ⟨seen, nx, hr, hx, hh, hz⟩ := hrel
      gi_wp2_with (gi_at_next; refine wpListIn_next_m rfl _ rfl kb r .u64 nb _ seen rfl hr.out ?_ ?_)
      · intro hall
        have HALL := Lib.hid hall
        clear hall
        gi_upto_region 14 with (fail)
        have HD := Lib.hid (hh.out.done HALL.out)
        have HLN : Hid (nx.length ≤ 100) := Lib.hid (by have := hh.out.len HD.out; have := HLE.out; omega)
        obtain ⟨v, vals, hbx, hrow, hrows⟩ := HO.out.below hz.out
        have BX := Lib.hid hbx
        have RW := Lib.hid hrow
        have RS := Lib.hid hrows
        have hc0 : wr.cell? ⟨o, 0, none⟩ = some v := hbx.cell
        have MN := hx
        have BW : Hid (Below w.heap.size w wr) := Lib.hid (bnext HB.out hz.out)
        clear hbx hrow hrows hr hx HO
        refine wpIn_region_tail (fun _ => trivial) 5 1000 none (phis [fun u _ => u = v, fun u _ => u = .map (some nk), fun u w' => ∃ b, u = .func (.func 278) #[] #[.pointer (some ⟨b, 0, none⟩)] ∧ w'.cell? ⟨b, 0, none⟩ = some (.map (some nk)),
          fun u w' => w'.ownsRow w.heap.size 23 1 u (rowK ks).length ((rowK ks).map (Value.int .u64)),
          fun u w' => ∃ b u3, u = .slice (some ⟨b, 0, none⟩) 1 1 ∧ w'.heap[b]? = some (.cells #[u3] 64 (0, 0)) ∧ w'.ownsRow w.heap.size 23 1 u3 (rowK ks).length ((rowK ks).map (Value.int .u64))]) rfl (by kernel_rfl) (by kernel_rfl)
          (mono_of ⟨mono_eq, mono_eq, ?m2, ?m3, ?m4, trivial⟩) (stepsIn_of 5 ⟨?s0, ?s1, ?s2, ?s3, ?s4, trivial⟩) ?_
        case m2 =>
          exact ⟨fun u w1 w' h ⟨b, h1, h2⟩ => ⟨b, h1, by rw [h.cell (p := ⟨b, 0, none⟩) (lt_of_cell h2)]; exact h2⟩, fun _ u w1 w' h ⟨b, h1, h2⟩ => ⟨b, h1, by rw [(extB_none h).cell (p := ⟨b, 0, none⟩) (lt_of_cell h2)]; exact h2⟩⟩
        case m3 =>
          exact ⟨fun u w1 w' h h1 => own_below h1 h, fun _ u w1 w' h h1 => own_below h1 (extB_none h)⟩
        case m4 =>
          exact ⟨fun u w1 w' h ⟨b, u3, h1, h2, h3⟩ => ⟨b, u3, h1, ext_block h h2, own_below h3 h⟩, fun _ u w1 w' h ⟨b, u3, h1, h2, h3⟩ => ⟨b, u3, h1, ext_block (extB_none h) h2, own_below h3 (extB_none h)⟩⟩
        case s0 =>
          refine stepIn_wp (fun av wv hE hS hO hD => ⟨rfl, wpIn_of_run (fun _ => trivial) (by intro c hc; cases hc) (w' := wv) (v := v) ?_ ⟨v, rfl, es_of_ext (Ext_refl _), rfl⟩⟩)
          have h6 : av.eval (.tmp 6) = .pointer (some ⟨o, 0, none⟩) := hO.2.2 6 rfl
          have f6 := (ev_form av 6).symm.trans h6
          have hc0 := extB_cell hE (by simp) hc0
          simp [go_sem, f6, hc0]
        case s1 =>
          refine stepIn_wp (fun av wv hE hS hO hD => ⟨rfl, wpIn_of_run (fun _ => trivial) (by intro c hc; cases hc) (w' := wv) (v := .map (some nk)) ?_ ⟨_, rfl, es_of_ext (Ext_refl _), rfl⟩⟩)
          have h8 : av.eval (.tmp 8) = .map (some nk) := hO.2.2 8 rfl
          have f8 := (ev_form av 8).symm.trans h8
          simp [go_sem, f8]
        case s2 =>
          refine stepIn_wp (fun av wv hE hS hO hD => ?_)
          have d45 : av.eval (.tmp 45) = .map (some nk) := hD.1 rfl _ rfl
          have f45 := (ev_form av 45).symm.trans d45
          refine ⟨rfl, wpIn_of_call (by intro c hc; cases hc) (by simp [go_sem, f45]) (keys_any (.map (some nk)) wv ⟨_, rfl⟩) ?_⟩
          rintro e w' ⟨rfl, rfl⟩
          exact ⟨_, rfl, _, rfl, es_of_ext (balloc (Ext_refl _) _), wv.heap.size, rfl, block_cell (heap_alloc_new _ _) 0⟩
        case s3 =>
          refine stepIn_wp (fun av wv hE hS hO hD => ?_)
          obtain ⟨b, d46, hcb⟩ : ∃ b, av.eval (.tmp 46) = .func (.func 278) #[] #[.pointer (some ⟨b, 0, none⟩)] ∧ wv.cell? ⟨b, 0, none⟩ = some (.map (some nk)) := hD.1 rfl _ rfl
          have f46 := (ev_form av 46).symm.trans d46
          have hB := of_drew hE
          refine ⟨rfl, wpIn_of_call (by intro c hc; cases hc) (by simp [go_sem, f46]) (sorted_any wv _ nx.length _ _ (fun k _ => k ∈ nx) (fun _ _ _ h => h) (enters_of Tryz.func278 (by kernel_rfl) rfl) (keys1_seq Fence.wide 4 trivial rfl (by omega) b nk 0 nx wv hcb ((hB.block _ (lt_of_block MN.out)).trans MN.out) hh.out.1) (by have := HLN.out; omega)
            (fun xs hS => Nat.lt_of_le_of_lt (Nat.le_trans (nodup_len xs nx hS.1 (fun k hk => (hS.2 k).1 hk)) HLN.out) (by decide))) ?_⟩
          rintro e w' ⟨u, xs, rfl, hS, hr, hb⟩
          refine ⟨u, rfl, u, rfl, es_of_ext hb, ?_⟩
          have e1 : srt xs = rowK ks := rowK_of hS.1 (fun k => (hS.2 k).trans (HD.out k))
          have e2 : xs.length = (rowK ks).length := by rw [← e1, srt_len]
          rw [e1, e2] at hr
          refine ⟨hr.1, ?_⟩
          rcases hr.2 with h3 | ⟨g, cap, cur, h4, h5, h6⟩
          · exact .inl h3
          · exact .inr ⟨g, cap, cur, h4, by have := BW.out.size; have := hB.size; omega, h6⟩
        case s4 =>
          refine stepIn_wp (fun av wv hE hS hO hD => ?_)
          have hrw : wv.ownsRow w.heap.size 23 1 (av.eval (.tmp 47)) (rowK ks).length ((rowK ks).map (Value.int .u64)) := hD.1 rfl _ rfl
          obtain ⟨u, hu⟩ : ∃ u, av.eval (.tmp 47) = u := ⟨_, rfl⟩
          rw [hu] at hrw
          have f47 := (ev_form av 47).symm.trans hu
          have hsl : ∃ ad n c, u = .slice ad n c := by
            rcases hrw.2 with ⟨e, _⟩ | ⟨g, cap, cur, e, _⟩
            · exact ⟨_, _, _, e⟩
            · exact ⟨_, _, _, e⟩
          obtain ⟨ad, n, c, rfl⟩ := hsl
          refine ⟨rfl, wpIn_of_run (fun _ => trivial) (by intro c hc; cases hc) (w' := wv.alloc (.cells #[.slice ad n c] 64)) (v := .slice (some ⟨wv.heap.size, 0, none⟩) 1 1) ?_ ⟨_, rfl, es_of_ext (balloc (Ext_refl _) _), wv.heap.size, _, rfl, heap_alloc_new _ _, own_below hrw (balloc (Below.refl _ _) _)⟩⟩
          simp [go_sem, f47]
        intro a' w' hE hO hall
        have hA := act_of_outer (ds := [44, 45, 46, 47, 48]) rfl hO (by kernel_rfl)
        have e44 : a'.eval (.tmp 44) = v := hall.1 _ rfl
        have e45 : a'.eval (.tmp 45) = .map (some nk) := hall.2.1 _ rfl
        obtain ⟨b2, e46, -⟩ : ∃ b, a'.eval (.tmp 46) = .func (.func 278) #[] #[.pointer (some ⟨b, 0, none⟩)] ∧ w'.cell? ⟨b, 0, none⟩ = some (.map (some nk)) := hall.2.2.1 _ rfl
        obtain ⟨b4, u3, e48, hb4, hu3⟩ : ∃ b u3, a'.eval (.tmp 48) = .slice (some ⟨b, 0, none⟩) 1 1 ∧ w'.heap[b]? = some (.cells #[u3] 64 (0, 0)) ∧ w'.ownsRow w.heap.size 23 1 u3 (rowK ks).length ((rowK ks).map (Value.int .u64)) := hall.2.2.2.2.1 _ rfl
        obtain ⟨v47, hv47⟩ : ∃ v, a'.eval (.tmp 47) = v := ⟨_, rfl⟩
        simp only [List.foldl_cons, List.foldl_nil, Act.put, List.setIfInBounds_toArray, List.set_cons_succ, List.set_cons_zero, e44, e45, e46, hv47, e48] at hA
        have WB := of_drew hE
        have HB4 := Lib.hid hb4
        have BX2 : Hid (Boxed w' o 196 v) := Lib.hid ((WB.block _ BX.out.lt).trans BX.out)
        have RW2 := Lib.hid (own_below RW.out WB)
        have RS2 := Lib.hid ((RS.out.below WB).snoc hu3)
        have BW2 := Lib.hid (bnext BW.out WB)
        have KO : Hid (Below W.heap.size W w') := Lib.hid (bnext hz.out WB)
        have hlv : vals.length = pre.length := by rw [RS.out.1, List.length_map]
        have HLV := Lib.hid hlv
        clear hO hall e44 e45 e46 hv47 e48 hE hb4 hu3 hc0 WB BX RW RS BW hlv hz HALL hh HD HLN
        subst hA
        simp only [List.drop_succ_cons, List.drop_zero]
        obtain ⟨i0, hi, hz0, hz1, hz2⟩ := info_parts info_rows
        refine wpListIn_append_own _ rfl _ _ 196 rfl w.heap.size 64 i0 (.slice none 0 0) 1 24 Tryz.underlying196 hi hz0 hz1 hz2 rfl (by decide) v vals.length vals rfl RW2.out ⟨b4, 0, none⟩ 1 1 [u3] rfl rfl ?c1 ?c2 ?c3 ?c4 ?c5 ?_
        case c1 =>
          intro j u hu
          cases j with
          | zero => simp at hu; subst hu; exact block_cell HB4.out 0
          | succ j => simp at hu
        case c2 =>
          have hr3 := RS2.out.2 pre.length (by simp)
          obtain ⟨u, h1, h2⟩ := hr3
          have : u = u3 := by
            rw [← HLV.out] at h1
            simpa using h1.symm
          subst this
          intro x hx
          simp at hx; subst hx
          rcases h2.2 with ⟨e, _⟩ | ⟨g, cap, cur, e, _⟩ <;> (rw [e]; rfl)
        case c3 => have := HLV.out; unfold maxLen; omega
        case c4 => have := HLV.out; omega
        case c5 => exact BW2.out.size
        intro v' w1 hown' hgrow _
        obtain ⟨g', cap', rfl⟩ := ownsRow_succ hown'
        have hv1 : Boxed w1 o 196 v := BX2.out.kept hgrow (BX2.out.not_row (by decide) RW2.out)
        have R1 : Hid (RowsAre w1 w.heap.size (vals ++ [u3]) (pre.map (fun x => rowK x.2.2) ++ [rowK ks])) := Lib.hid (RS2.out.kept hgrow (fun i u hu => by
          rcases RW2.out.2 with ⟨e, _⟩ | ⟨g, cap, cur, e, _, hgb, _⟩
          · rw [e]; cases h : u.ownBlock <;> simp [Value.ownBlock]
          · rw [e]; exact RS2.out.apart hgb (by decide) i u hu))
        have K1 : Hid (KeepsOthers W w1) := Lib.hid ((⟨KO.out.size, fun k ob hk _ => (KO.out.block k (lt_of_block hk)).trans hk⟩ : KeepsOthers W w').trans (KeepsOthers.of_grownBy hgrow fun j ob ej hj => by
          rcases RW2.out.2 with ⟨e, _⟩ | ⟨g, cap, cur, e, _, hgb, _⟩
          · rw [e] at ej; simp [Value.ownBlock] at ej
          · rw [e] at ej
            obtain rfl : g = j := by simpa [Value.ownBlock] using ej
            rw [hgb] at hj; cases hj; rfl))
        have B1 : Hid (Below w.heap.size w w1) := Lib.hid (grownBy_below BW2.out hgrow (fun k hk => by
          rcases RW2.out.2 with ⟨e, _⟩ | ⟨g, cap, cur, e, hg1, _⟩
          · rw [e] at hk; simp [Value.ownBlock] at hk
          · rw [e] at hk
            obtain rfl : g = k := by simpa [Value.ownBlock] using hk
            exact hg1))
        have hc1 := hv1.cell
        have hf1 := hv1.frozen
        have BV := Lib.hid hv1
        have OW := Lib.hid hown'
        clear hv1 hgrow hown' hi hz0 hz1 hz2
        gi_wp2
        refine ⟨(K1.out.trans (KeepsOthers.setCell _ _ _)).from _, (K1.out.trans (KeepsOthers.setCell _ _ _)).walks, ⟨_, vals ++ [u3], BV.out.set _, ?_, ?_⟩, B1.out.setCell howz _⟩
        · have := OW.out.kept (grownBy_setCell' w1 o (.slice (some ⟨g', 0, none⟩) (vals.length + 1) cap')) (.inr (BV.out.not_row (by decide) OW.out).symm)
          simpa using this
        · have := R1.out.kept (grownBy_setCell' w1 o (.slice (some ⟨g', 0, none⟩) (vals.length + 1) cap')) (R1.out.apart BV.out (by decide))
          simpa using this
      · intro j hj' w1 hns hr1 hltj hb1 hsz hoth hen
        have hi' : j < ks.length := by rw [← kv_len]; exact hj'
        have hkk : (kv ks)[j].1 = ks[j] := (kv_get ks j hj').1
        have hvv : (kv ks)[j].2 = .bool true := (kv_get ks j hj').2
        rw [hkk, hvv] at hen ⊢
        have HX6 : Hid (w1.heap[nk]? = some (mObj .u64 0 (kv nx))) := Lib.hid ((hoth nk (by omega)).trans hx.out)
        have HR6 := Lib.hid hr1
        have HLT := Lib.hid hltj
        have HH6 := Lib.hid (hh.out.step (nb := nb) hi')
        have HB6 : Hid (Below W.heap.size W w1) := Lib.hid (hz.out.trans (hb1 W.heap.size (by have := NK.out; omega)))
        have hku := HU2.out ks[j] (List.getElem_mem hi')
        obtain ⟨k, hkd⟩ : ∃ k, ks[j] = k := ⟨_, rfl⟩
        rw [hkd] at hen HH6 ⊢
        try dsimp only at hku
        rw [hkd] at hku
        unfold U64 at hku
        have hk0 := hku.1
        have hk1 := hku.2
        clear hkk hvv hns hr1 hltj hb1 hsz hoth hr hx hh hkd hku hz
        gi_wp2_with fail
        refine ⟨trivial, (CallsIn.inRound l (callsIn_wide.2 (sibling_any k w1 hk0 hk1))).mono ?_⟩
        rintro e w' ⟨rfl, rfl⟩
        clear hen
        obtain ⟨s, hs⟩ : ∃ s, sib k = s := ⟨_, rfl⟩
        rw [hs] at HH6 ⊢
        have hlook := kv_look ks s
        clear hs
        by_cases hin : s ∈ ks
        · rw [decide_eq_true hin] at hlook
          have HG := Lib.hid hlook
          have HH7 : Hid (Lack ks nb (seen.push (nb + j)) nx) := Lib.hid (by have := HH6.out; rw [if_pos hin] at this; exact this)
          clear hlook hin HH6
          gi_wp2_with (gi_at_lookup; refine wpListIn_lookup_m rfl _ _ 257 23 4 .u64 rfl Tryz.underlying257 Tryz.underlying23 (.bool false) (Tryz.zeroValue4 _) kb nb _ rfl HR6.out.map _ rfl ?_; rw [HG.out])
          go_roundw
          case rel => exact ⟨_, _, HR6.out, HX6.out, HH7.out, HB6.out⟩
          case measure => exact HLT.out
        · rw [decide_eq_false hin] at hlook
          have HG := Lib.hid hlook
          have HH7 : Hid (Lack ks nb (seen.push (nb + j)) (insK nx s)) := Lib.hid (by have := HH6.out; rw [if_neg hin] at this; exact this)
          clear hlook hin HH6
          have HR7 : Hid (Ranging (setBlock w1 nk (mObj .u64 0 (mPut (kv nx) s (.bool true)))) kb r .u64 nb (kv ks) (seen.push (nb + j))) := Lib.hid ⟨(setBlock_other (by omega)).trans HR6.out.map, (setBlock_other (by omega)).trans HR6.out.iter⟩
          have HL7 : Hid (rLeft (setBlock w1 nk (mObj .u64 0 (mPut (kv nx) s (.bool true)))) r (nb + (kv ks).length) < rLeft wr r (nb + (kv ks).length)) := Lib.hid (by have := HLT.out; rw [HR6.out.left] at this; rw [HR7.out.left]; exact this)
          gi_wp2_with (first | (gi_at_lookup; refine wpListIn_lookup_m rfl _ _ 257 23 4 .u64 rfl Tryz.underlying257 Tryz.underlying23 (.bool false) (Tryz.zeroValue4 _) kb nb _ rfl HR6.out.map _ rfl ?_; rw [HG.out]) | (gi_at_mapUpdate; refine wpListIn_mapUpdate_m rfl _ _ _ 257 23 4 .u64 rfl Tryz.underlying257 Tryz.underlying23 nk 0 _ rfl HX6.out _ _ rfl rfl ?_))
          go_roundw
          case rel =>
            (repeat apply Exists.intro)
            exact ⟨⟨seen.push (nb + j), insK nx s, HR7.out, (by rw [← kv_put]; exact setBlock_same HX6.out), HH7.out, setBlock_below HB6.out (by have := NK.out; omega)⟩, rfl⟩
          case measure => exact HL7.out
  case done =>
    rintro D xs W hD hS ⟨⟨v, vals, hv, hrow, hrows⟩, hB⟩ hK
    have hc := hv.cell
    rw [rowsOf_levs hS] at hrows
    gi_wp2
    refine ⟨by simp, .inl ⟨_, _, rfl, run_takeDeferred hK, ?_⟩⟩
    have hhb : Below W.heap.size W W := Below.refl _ _
    refine ⟨_, results_tmp rfl _ _ _, v, vals, rfl, ownsRow_putObj hrow _ hK rfl, ⟨hrows.1, fun i hi => ?_⟩, hB.trans (belowK_b (w := Z) ?_ W D _ _ hD hK rfl rfl)⟩
    · obtain ⟨u, h1, h2⟩ := hrows.2 i hi
      exact ⟨u, h1, ownsRow_putObj h2 _ hK rfl⟩
    · exact ZB.out.size
end Go.Proofs.YtpobhbdomldecaaGreatDoor
namespace Go.Proofs.YtpobhbdomldecaaGreatDoor
open Go.RowKit
set_option linter.unusedSimpArgs false
set_option linter.unusedVariables false
def rnth (rs : List (List Int)) (i : Nat) : List Int := rs.getD i []
theorem rnth_eq (rs : List (List Int)) (i : Nat) (h : i < rs.length) : rnth rs i = rs[i] := by
  unfold rnth; rw [List.getD_eq_getElem?_getD, List.getElem?_eq_getElem h]; rfl
def Rows2 (w : World) (a : Option Addr) (rs : List (List Int)) : Prop :=
  ∀ i, i < len rs → ∃ b off ai ci, a = some ⟨b, off, none⟩ ∧ w.cell? ⟨b, off + i, none⟩ = some (.slice ai (len (rnth rs i)) ci) ∧ U64s w ai (rnth rs i) ∧ len (rnth rs i) ≤ ci
theorem Rows2.below {w w' : World} {a : Option Addr} {rs : List (List Int)} (h : Rows2 w a rs) (hb : Below w.heap.size w w') : Rows2 w' a rs := fun i hi => by
  obtain ⟨b, off, ai, ci, rfl, h1, h2, h3⟩ := h i hi
  exact ⟨b, off, ai, ci, rfl, by rw [hb.cell (p := ⟨b, off + i, none⟩) (lt_of_cell h1)]; exact h1, h2.below hb, h3⟩
theorem Rows2.drew {w w' : World} {a : Option Addr} {rs : List (List Int)} (h : Rows2 w a rs) (hb : Drew w w') : Rows2 w' a rs := h.below (hb.below _)
theorem Rows2.nil (w : World) (a : Option Addr) : Rows2 w a [] := fun i h => by simp [len] at h
theorem own_u64 {w : World} {base n : Nat} {v : Value} {l : List Int} (h : w.ownsRow base 23 1 v n (l.map (Value.int .u64))) : ∃ a cap, v = .slice a (len l) cap ∧ U64s w a l ∧ len l ≤ cap ∧ cap ≤ maxLen := by
  have hn : len l = n := by have := h.1; rw [len_eq]; simpa using this
  rcases h.2 with ⟨rfl, h2⟩ | ⟨g, cap, cur, rfl, hg, hh, hc1, hc2, hc3, hc4⟩
  · obtain rfl : l = [] := List.eq_nil_of_length_eq_zero (by rw [← len_eq]; omega)
    exact ⟨none, 0, rfl, U64s.nil _ _, Nat.le_refl _, Nat.zero_le _⟩
  · refine ⟨some ⟨g, 0, none⟩, cap, by rw [hn], fun i hi => ⟨g, 0, rfl, ?_⟩, by omega, hc2⟩
    have := h.cellAt i (by omega)
    rw [Nat.zero_add, this, List.getElem?_map, List.getElem?_eq_getElem hi, nth_eq l i hi]; rfl
theorem rows2_of {w : World} {base : Nat} {v : Value} {vals : List Value} {rs : List (List Int)} (h : w.ownsRow base 64 1 v vals.length vals) (hr : RowsAre w base vals rs) : ∃ a cap, v = .slice a (len rs) cap ∧ Rows2 w a rs ∧ len rs ≤ cap ∧ cap ≤ maxLen := by
  have hn : len rs = vals.length := hr.1.symm
  rcases h.2 with ⟨rfl, h2⟩ | ⟨g, cap, cur, rfl, hg, hh, hc1, hc2, hc3, hc4⟩
  · obtain rfl : rs = [] := List.eq_nil_of_length_eq_zero (by rw [← len_eq]; omega)
    exact ⟨none, 0, rfl, Rows2.nil _ _, Nat.le_refl _, Nat.zero_le _⟩
  · refine ⟨some ⟨g, 0, none⟩, cap, by rw [hn], fun i hi => ?_, by omega, hc2⟩
    obtain ⟨u, h1, h2⟩ := hr.2 i hi
    obtain ⟨a, c, rfl, h3, h4, h5⟩ := own_u64 h2
    have h6 := h.cellAt i (by omega)
    rw [h1] at h6
    rw [rnth_eq rs i hi]
    exact ⟨g, 0, a, c, rfl, by rw [Nat.zero_add]; exact h6, h3, h4⟩
end Go.Proofs.YtpobhbdomldecaaGreatDoor
namespace Go.Proofs.YtpobhbdomldecaaGreatDoor
open Go.RowKit
set_option linter.unusedSimpArgs false
set_option linter.unusedVariables false
abbrev KnF := Int → Option ByteArray
def noF : KnF := fun _ => none
def kidF (g : KnF) (k : Int) : ByteArray := (g k).getD ByteArray.empty
def overF (g : KnF) : KnF := fun p => if (g (2 * p)).isSome ∨ (g (2 * p + 1)).isSome then some (hashP nodeT [kidF g (2 * p), kidF g (2 * p + 1)]) else none
def putF (g : KnF) (k : Int) (d : ByteArray) : KnF := fun j => if j = k then some d else g j
def addF : KnF → List Int → List ByteArray → KnF
  | g, [], _ => g
  | g, k :: ks, ds => addF (putF g k (tth ds 0)) ks (ds.drop 1)
def rootG : KnF → List (List Int) → List ByteArray → KnF
  | g, [], _ => g
  | g, r :: rs, ds => rootG (overF (addF g r ds)) rs (ds.drop (len r))
theorem tth_drop (l : List ByteArray) (i j : Nat) : tth (l.drop i) j = tth l (i + j) := by unfold tth; simp
theorem addF_snoc : ∀ (g : KnF) (ks : List Int) (k : Int) (ds : List ByteArray), addF g (ks ++ [k]) ds = putF (addF g ks ds) k (tth ds ks.length)
  | g, [], k, ds => rfl
  | g, x :: ks, k, ds => by
    show addF (putF g x (tth ds 0)) (ks ++ [k]) (ds.drop 1) = _
    rw [addF_snoc, tth_drop, List.length_cons, Nat.add_comm]
    rfl
theorem addF_take (g : KnF) (ks : List Int) (ds : List ByteArray) (m : Nat) (h : m < len ks) : addF g (ks.take (m + 1)) ds = putF (addF g (ks.take m) ds) (nth ks m) (tth ds m) := by
  have h2 : m < ks.length := h
  rw [List.take_succ_eq_append_getElem h2, addF_snoc, List.length_take]
  unfold nth
  simp [h2, Nat.min_eq_left (Nat.le_of_lt h2)]
def rootT (g : KnF) (rs : List (List Int)) (ds : List ByteArray) (m : Nat) : KnF := rootG g (rs.take m) ds
def usedR (rs : List (List Int)) (m : Nat) : Nat := ((rs.take m).map len).sum
theorem rootG_snoc : ∀ (g : KnF) (rs : List (List Int)) (r : List Int) (ds : List ByteArray), rootG g (rs ++ [r]) ds = overF (addF (rootG g rs ds) r (ds.drop ((rs.map len).sum)))
  | g, [], r, ds => by show overF (addF g r ds) = _; rw [show ((([] : List (List Int)).map len).sum) = 0 from rfl, List.drop_zero]; rfl
  | g, x :: rs, r, ds => by
    show rootG (overF (addF g x ds)) (rs ++ [r]) (ds.drop (len x)) = _
    rw [rootG_snoc, List.drop_drop, List.map_cons, List.sum_cons]
    rfl
theorem rootT_next (g : KnF) (rs : List (List Int)) (ds : List ByteArray) (m : Nat) (h : m < len rs) : rootT g rs ds (m + 1) = overF (addF (rootT g rs ds m) (rnth rs m) (ds.drop (usedR rs m))) := by
  unfold rootT usedR
  have h2 : m < rs.length := h
  rw [List.take_succ_eq_append_getElem h2, rootG_snoc, rnth_eq rs m h2]
theorem usedR_next (rs : List (List Int)) (m : Nat) (h : m < len rs) : usedR rs (m + 1) = usedR rs m + len (rnth rs m) := by
  unfold usedR
  have h2 : m < rs.length := h
  rw [List.take_succ_eq_append_getElem h2, List.map_append, List.sum_append, rnth_eq rs m h2]
  simp
theorem usedR_le (rs : List (List Int)) (m : Nat) : usedR rs m ≤ usedR rs (len rs) := by
  unfold usedR
  rw [take_len]
  conv => rhs; rw [← List.take_append_drop m rs, List.map_append, List.sum_append]
  omega
def vS (g : KnF) (k : Int) : Option Value := (g k).map Value.string
structure MapF (L : List (Int × Value)) (g : KnF) : Prop where
  nodup : (L.map (·.1)).Nodup
  get : ∀ k, mGet L k = vS g k
  u64 : ∀ e ∈ L, U64 e.1
theorem MapF.nil : MapF [] noF := ⟨List.nodup_nil, fun k => rfl, fun e h => by simp at h⟩
theorem mGet_cons (a : Int × Value) (l : List (Int × Value)) (j : Int) : mGet (a :: l) j = if a.1 = j then some a.2 else mGet l j := by
  unfold mGet
  rw [List.find?_cons]
  by_cases h : a.1 = j
  · simp [h]
  · have : (a.1 == j) = false := by simpa using h
    simp [this, h]
theorem mGet_put : ∀ (l : List (Int × Value)) (k : Int) (v : Value) (j : Int), mGet (mPut l k v) j = if j = k then some v else mGet l j
  | [], k, v, j => by
    show mGet [(k, v)] j = _
    rw [mGet_cons]
    by_cases h : j = k
    · subst h; simp
    · rw [if_neg (fun e => h e.symm), if_neg h]
  | a :: l, k, v, j => by
    unfold mPut
    by_cases h : a.1 = k
    · simp only [h, if_true]
      rw [mGet_cons, mGet_cons]
      by_cases h2 : j = k
      · subst h2; simp
      · rw [if_neg (fun e => h2 e.symm), if_neg h2, if_neg (by rw [h]; exact fun e => h2 e.symm)]
    · simp only [h, if_false]
      rw [mGet_cons, mGet_cons, mGet_put l k v j]
      by_cases h2 : j = k
      · subst h2; simp [h]
      · rw [if_neg h2, if_neg h2]
theorem mPut_keys : ∀ (l : List (Int × Value)) (k : Int) (v : Value) (x : Int), x ∈ (mPut l k v).map (·.1) ↔ x ∈ l.map (·.1) ∨ x = k
  | [], k, v, x => by simp [mPut]
  | a :: l, k, v, x => by
    unfold mPut
    by_cases h : a.1 = k
    · simp only [h, if_true, List.map_cons, List.mem_cons]
      constructor
      · rintro (rfl | h2)
        · exact .inr rfl
        · exact .inl (.inr h2)
      · rintro ((rfl | h2) | rfl)
        · exact .inl rfl
        · exact .inr h2
        · exact .inl rfl
    · simp only [h, if_false, List.map_cons, List.mem_cons, mPut_keys l k v x]
      constructor
      · rintro (rfl | h2 | rfl)
        · exact .inl (.inl rfl)
        · exact .inl (.inr h2)
        · exact .inr rfl
      · rintro ((rfl | h2) | rfl)
        · exact .inl rfl
        · exact .inr (.inl h2)
        · exact .inr (.inr rfl)
theorem mPut_nodup : ∀ (l : List (Int × Value)) (k : Int) (v : Value), (l.map (·.1)).Nodup → ((mPut l k v).map (·.1)).Nodup
  | [], k, v, h => by simp [mPut]
  | a :: l, k, v, h => by
    rw [List.map_cons, List.nodup_cons] at h
    unfold mPut
    by_cases h2 : a.1 = k
    · simp only [h2, if_true, List.map_cons, List.nodup_cons]
      rw [h2] at h
      exact h
    · simp only [h2, if_false, List.map_cons, List.nodup_cons]
      refine ⟨fun hm => ?_, mPut_nodup l k v h.2⟩
      rcases (mPut_keys l k v a.1).1 hm with h3 | h3
      · exact h.1 h3
      · exact h2 h3
theorem mPut_u64 {l : List (Int × Value)} {k : Int} {v : Value} (h : ∀ e ∈ l, U64 e.1) (hk : U64 k) : ∀ e ∈ mPut l k v, U64 e.1 := fun e he => by
  have h1 : e.1 ∈ (mPut l k v).map (·.1) := List.mem_map.2 ⟨e, he, rfl⟩
  rcases (mPut_keys l k v e.1).1 h1 with h2 | h2
  · obtain ⟨e2, h3, h4⟩ := List.mem_map.1 h2
    rw [← h4]; exact h e2 h3
  · rw [h2]; exact hk
theorem MapF.put {L : List (Int × Value)} {g : KnF} (h : MapF L g) (k : Int) (d : ByteArray) (hk : U64 k) : MapF (mPut L k (.string d)) (putF g k d) :=
  ⟨mPut_nodup _ _ _ h.nodup, fun j => by
    rw [mGet_put, h.get]
    unfold vS putF
    by_cases e : j = k
    · rw [if_pos e, if_pos e]; rfl
    · rw [if_neg e, if_neg e], mPut_u64 h.u64 hk⟩
theorem mGet_at {L : List (Int × Value)} (hn : (L.map (·.1)).Nodup) (i : Nat) (hi : i < L.length) : mGet L L[i].1 = some L[i].2 := by
  induction L generalizing i with
  | nil => exact absurd hi (by simp)
  | cons a l ih =>
    rw [List.map_cons, List.nodup_cons] at hn
    rw [mGet_cons]
    cases i with
    | zero => simp
    | succ i =>
      have hi2 : i < l.length := by simpa using hi
      have : ¬ a.1 = l[i].1 := fun e => hn.1 (by rw [e]; exact List.mem_map.2 ⟨l[i], List.getElem_mem hi2, rfl⟩)
      simp only [List.getElem_cons_succ]
      rw [if_neg this, ih hn.2 i hi2]
theorem mGet_none {L : List (Int × Value)} {k : Int} (h : k ∉ L.map (·.1)) : mGet L k = none := by
  induction L with
  | nil => rfl
  | cons a l ih =>
    rw [List.map_cons, List.mem_cons, not_or] at h
    rw [mGet_cons, if_neg (fun e => h.1 e.symm), ih h.2]
theorem MapF.at {L : List (Int × Value)} {g : KnF} (h : MapF L g) (i : Nat) (hi : i < L.length) : ∃ d, L[i].2 = .string d ∧ g L[i].1 = some d := by
  have h1 := mGet_at h.nodup i hi
  rw [h.get] at h1
  unfold vS at h1
  cases hg : g L[i].1 with
  | none => rw [hg] at h1; simp at h1
  | some d => rw [hg] at h1; simp at h1; exact ⟨d, h1.symm, rfl⟩
theorem MapF.look {L : List (Int × Value)} {g : KnF} (h : MapF L g) (k : Int) : (mGet L k).getD (.string ByteArray.empty) = .string (kidF g k) := by
  rw [h.get]
  unfold vS kidF
  cases g k <;> rfl
def prV (h : KnF) (p : Int) : Value := .agg #[.string (kidF h (2 * p)), .string (kidF h (2 * p + 1))]
def prIs (h : KnF) (p : Int) : Prop := (h (2 * p)).isSome ∨ (h (2 * p + 1)).isSome
instance (h : KnF) (p : Int) : Decidable (prIs h p) := by unfold prIs; infer_instance
structure PairF (L : List (Int × Value)) (h : KnF) : Prop where
  nodup : (L.map (·.1)).Nodup
  get : ∀ p, mGet L p = if prIs h p then some (prV h p) else none
  u64 : ∀ e ∈ L, U64 e.1
theorem PairF.nil : PairF [] noF := ⟨List.nodup_nil, fun k => rfl, fun e h => by simp at h⟩
def prE : Value := .agg #[.string ByteArray.empty, .string ByteArray.empty]
theorem PairF.look {L : List (Int × Value)} {h : KnF} (hp : PairF L h) (p : Int) : (mGet L p).getD prE = prV h p := by
  rw [hp.get]
  by_cases hi : prIs h p
  · rw [if_pos hi]; rfl
  · rw [if_neg hi]
    unfold prIs at hi
    rw [not_or] at hi
    have h1 : h (2 * p) = none := by simpa using hi.1
    have h2 : h (2 * p + 1) = none := by simpa using hi.2
    unfold prV kidF
    rw [h1, h2]
    rfl
theorem putF_same (h : KnF) (k : Int) (d : ByteArray) : putF h k d k = some d := by unfold putF; rw [if_pos rfl]
theorem putF_other (h : KnF) {k j : Int} (d : ByteArray) (e : j ≠ k) : putF h k d j = h j := by unfold putF; rw [if_neg e]
theorem kid_same (h : KnF) (k : Int) (d : ByteArray) : kidF (putF h k d) k = d := by unfold kidF; rw [putF_same]; rfl
theorem kid_other (h : KnF) {k j : Int} (d : ByteArray) (e : j ≠ k) : kidF (putF h k d) j = kidF h j := by unfold kidF; rw [putF_other h d e]
def prPut (h : KnF) (k : Int) (d : ByteArray) : Value := if k % 2 = 0 then .agg #[.string d, .string (kidF h (2 * (k / 2) + 1))] else .agg #[.string (kidF h (2 * (k / 2))), .string d]
theorem prPut_eq (h : KnF) (k : Int) (d : ByteArray) : prPut h k d = prV (putF h k d) (k / 2) := by
  unfold prPut prV
  by_cases e : k % 2 = 0
  · rw [if_pos e]
    have e1 : 2 * (k / 2) = k := by omega
    rw [kid_other h d (show 2 * (k / 2) + 1 ≠ k by omega), show kidF (putF h k d) (2 * (k / 2)) = d by rw [e1, kid_same]]
  · rw [if_neg e]
    have e1 : 2 * (k / 2) + 1 = k := by omega
    rw [kid_other h d (show 2 * (k / 2) ≠ k by omega), show kidF (putF h k d) (2 * (k / 2) + 1) = d by rw [e1, kid_same]]
theorem PairF.put {L : List (Int × Value)} {h : KnF} (hp : PairF L h) (k : Int) (d : ByteArray) (hk : U64 k) : PairF (mPut L (k / 2) (prPut h k d)) (putF h k d) :=
  ⟨mPut_nodup _ _ _ hp.nodup, fun p => by
    rw [mGet_put, hp.get]
    by_cases e : p = k / 2
    · subst e
      have : prIs (putF h k d) (k / 2) := by
        unfold prIs
        by_cases e2 : k % 2 = 0
        · left; rw [show 2 * (k / 2) = k by omega, putF_same]; rfl
        · right; rw [show 2 * (k / 2) + 1 = k by omega, putF_same]; rfl
      rw [if_pos rfl, if_pos this, prPut_eq]
    · rw [if_neg e]
      have e1 : 2 * p ≠ k := by omega
      have e2 : 2 * p + 1 ≠ k := by omega
      have e3 : prIs (putF h k d) p ↔ prIs h p := by unfold prIs; rw [putF_other h d e1, putF_other h d e2]
      have e4 : prV (putF h k d) p = prV h p := by unfold prV; rw [kid_other h d e1, kid_other h d e2]
      rw [e4]
      by_cases hi : prIs h p
      · rw [if_pos hi, if_pos (e3.2 hi)]
      · rw [if_neg hi, if_neg (fun h9 => hi (e3.1 h9))], mPut_u64 hp.u64 (by unfold U64 at hk ⊢; omega)⟩
theorem PairF.at {L : List (Int × Value)} {h : KnF} (hp : PairF L h) (i : Nat) (hi : i < L.length) : L[i].2 = prV h L[i].1 ∧ prIs h L[i].1 := by
  have h1 := mGet_at hp.nodup i hi
  rw [hp.get] at h1
  by_cases e : prIs h L[i].1
  · rw [if_pos e] at h1
    exact ⟨(Option.some.inj h1).symm, e⟩
  · rw [if_neg e] at h1; cases h1
def resF (g : KnF) (pre : List Int) : KnF := fun k => if k ∈ pre then g k else none
theorem resF_nil (g : KnF) : resF g [] = noF := by funext k; unfold resF noF; simp
theorem resF_in {g : KnF} {pre : List Int} {j : Int} (h : j ∈ pre) : resF g pre j = g j := by unfold resF; rw [if_pos h]
theorem resF_out {g : KnF} {pre : List Int} {j : Int} (h : j ∉ pre) : resF g pre j = none := by unfold resF; rw [if_neg h]
theorem resF_snoc {g : KnF} (pre : List Int) {k : Int} {d : ByteArray} (h : g k = some d) : resF g (pre ++ [k]) = putF (resF g pre) k d := by
  funext j
  by_cases e : j = k
  · subst e; rw [resF_in (by simp), putF_same, h]
  · rw [putF_other _ _ e]
    by_cases e2 : j ∈ pre
    · rw [resF_in e2, resF_in (by simp [e2])]
    · rw [resF_out e2, resF_out (by simp [e, e2])]
theorem resF_all {g : KnF} {pre : List Int} (h : ∀ k, (g k).isSome → k ∈ pre) : resF g pre = g := by
  funext k
  unfold resF
  by_cases e : k ∈ pre
  · rw [if_pos e]
  · rw [if_neg e]
    cases hg : g k with
    | none => rfl
    | some d => exact absurd (h k (by rw [hg]; rfl)) e
theorem MapF.keys {L : List (Int × Value)} {g : KnF} (h : MapF L g) {k : Int} (hk : (g k).isSome) : k ∈ L.map (·.1) := by
  apply Classical.byContradiction
  intro hn
  have h1 := mGet_none hn
  rw [h.get] at h1
  unfold vS at h1
  cases hg : g k with
  | none => rw [hg] at hk; cases hk
  | some d => rw [hg] at h1; simp at h1
theorem PairF.keys {L : List (Int × Value)} {h : KnF} (hp : PairF L h) {p : Int} (hk : (overF h p).isSome) : p ∈ L.map (·.1) := by
  apply Classical.byContradiction
  intro hn
  have h1 := mGet_none hn
  rw [hp.get] at h1
  unfold overF at hk
  by_cases e : (h (2 * p)).isSome ∨ (h (2 * p + 1)).isSome
  · rw [if_pos (show prIs h p from e)] at h1; cases h1
  · rw [if_neg e] at hk; cases hk
theorem over_some {h : KnF} {p : Int} (e : prIs h p) : overF h p = some (hashP nodeT [kidF h (2 * p), kidF h (2 * p + 1)]) := by unfold overF; exact if_pos e
end Go.Proofs.YtpobhbdomldecaaGreatDoor
namespace Go.Proofs.YtpobhbdomldecaaGreatDoor
open Go.RowKit
set_option linter.unusedSimpArgs false
set_option linter.unusedVariables false
def Rises (l : List Int) : Prop := ∀ i, i < len l → 0 < i → nth l (i - 1) < nth l i
instance (l : List Int) : Decidable (Rises l) := by unfold Rises; exact Nat.decidableBallLT _ _
def MayOk (n : Int) (l : List Int) : Prop := 0 < len l ∧ ∀ i, i < len l → nth l i < n ∧ (0 < i → nth l (i - 1) < nth l i)
instance (n : Int) (l : List Int) : Decidable (MayOk n l) := by
  unfold MayOk
  have : Decidable (∀ i, i < len l → nth l i < n ∧ (0 < i → nth l (i - 1) < nth l i)) := Nat.decidableBallLT _ _
  exact inferInstance
theorem Rises.le {l : List Int} (h : Rises l) : ∀ (i j : Nat), i ≤ j → j < len l → nth l i ≤ nth l j := by
  intro i j hij
  induction j with
  | zero =>
    intro _
    have e : i = 0 := Nat.le_zero.1 hij
    rw [e]
    exact Int.le_refl _
  | succ j ih =>
    intro hj
    by_cases e : i = j + 1
    · subst e; exact Int.le_refl _
    · have h1 := ih (by omega) (by omega)
      have h2 := h (j + 1) hj (by omega)
      rw [Nat.add_sub_cancel] at h2
      omega
theorem may_iff (n : Int) (l : List Int) : MayOk n l ↔ (0 < len l ∧ Rises l ∧ nth l (len l - 1) < n) := by
  constructor
  · rintro ⟨h0, h⟩
    exact ⟨h0, fun i hi hp => (h i hi).2 hp, (h _ (by omega)).1⟩
  · rintro ⟨h0, h1, h2⟩
    refine ⟨h0, fun i hi => ⟨?_, h1 i hi⟩⟩
    have := h1.le i (len l - 1) (by omega) (by omega)
    omega
end Go.Proofs.YtpobhbdomldecaaGreatDoor
namespace Go.Proofs.YtpobhbdomldecaaGreatDoor
open Go.RowKit
set_option linter.unusedSimpArgs false
set_option linter.unusedVariables false
def RisT (l : List Int) (m : Nat) : Prop := ∀ i, i < m → 0 < i → nth l (i - 1) < nth l i
theorem RisT.next {l : List Int} {m : Nat} (h : RisT l m) (h1 : 0 < m → nth l (m - 1) < nth l m) : RisT l (m + 1) := fun i hi h0 => by
  by_cases e : i = m
  · subst e; exact h1 h0
  · exact h i (by omega) h0
set_option maxRecDepth 100000 in
set_option maxHeartbeats 4000000 in
theorem rises_any (l : List Int) (a : Option Addr) (cap : Nat) (w : World) (h : U64s w a l) (hn : len l ≤ 1000000000) : Calls Tryz.prog 161 #[.slice a (len l) cap] w fun e w' => e = .returned (.bool (decide (Rises l))) ∧ Below w.heap.size w w' := by
  have H := Lib.hid h
  have HN := Lib.hid hn
  clear h hn
  go_enter Tryz.func161, Tryz.ntmps161
  go_wp2
  go_loopg [6, 3] (len l) (fun g i _ wr => ∃ m : Nat, g + m = len l ∧ i = .int .i64 m ∧ Hid (RisT l m) ∧ Hid (Below w.heap.size w wr))
  case atStart => exact ⟨0, rfl, rfl, Lib.hid (fun i hi => by omega), Lib.hid (Below.refl _ _)⟩
  case round =>
    obtain ⟨m, hm, rfl, HR, HW⟩ := hrel
    have HNN := HN.out
    by_cases hlt : m < len l
    · have b0 : (m : Int) < len l := by omega
      obtain ⟨b, off, hra, e1⟩ := (H.out.below HW.out) m hlt
      subst hra
      have l1 := lt_of_cell e1
      cases m with
      | zero =>
        go_wp2
        go_quiet (fail)
        go_wp2
        go_roundg (len l - 1)
        case rel => exact ⟨1, by omega, by go_num, Lib.hid (HR.out.next (fun h => by omega)), by (repeat (first | exact Below.refl _ _ | assumption | (refine bdrew ?_) | (refine bdrewN ?_ _) | (refine balloc ?_ _) | (refine bset ?_ (by first | omega | (simp; done) | (simp; omega)) _) | (refine bnext ?_ (by assumption))))⟩
        case measure => omega
      | succ n3 =>
        obtain ⟨b6, off6, hpa6, e2⟩ := (H.out.below HW.out) n3 (by omega)
        cases hpa6
        cases hris : decide (nth l (n3 + 1) ≤ nth l n3) with
        | true =>
          have HRIS := Lib.hid hris
          go_wp2
          have i1 : IntKind.i64.wrap (n3 : Int) = n3 := (IntWalk.i64_in _ (by omega)); have i2 : 0 ≤ (n3 : Int) + 1 := (by omega); have i3 : ((n3 : Int) + 1).toNat = n3 + 1 := (by omega)
          go_quiet (fail)
          clear i1 i2 i3
          go_wp2
          go_ret
          refine ⟨?_, bnext HW.out (by (repeat (first | exact Below.refl _ _ | assumption | (refine bdrew ?_) | (refine bdrewN ?_ _) | (refine balloc ?_ _) | (refine bset ?_ (by first | omega | (simp; done) | (simp; omega)) _) | (refine bnext ?_ (by assumption)))))⟩
          have : ¬ Rises l := fun h9 => by
            have h1 := h9 (n3 + 1) hlt (by omega)
            have h2 := of_decide_eq_true HRIS.out
            rw [Nat.add_sub_cancel] at h1
            omega
          rw [decide_eq_false this]; rfl
        | false =>
          have HRIS := Lib.hid hris
          go_wp2
          have i1 : IntKind.i64.wrap (n3 : Int) = n3 := (IntWalk.i64_in _ (by omega)); have i2 : 0 ≤ (n3 : Int) + 1 := (by omega); have i3 : ((n3 : Int) + 1).toNat = n3 + 1 := (by omega)
          go_quiet (fail)
          clear i1 i2 i3
          go_wp2
          go_roundg (len l - (n3 + 1 + 1))
          case rel => exact ⟨n3 + 1 + 1, by omega, by go_num, Lib.hid (HR.out.next (fun _ => by
            have h2 := of_decide_eq_false HRIS.out
            rw [Nat.add_sub_cancel]
            omega)), by (repeat (first | exact Below.refl _ _ | assumption | (refine bdrew ?_) | (refine bdrewN ?_ _) | (refine balloc ?_ _) | (refine bset ?_ (by first | omega | (simp; done) | (simp; omega)) _) | (refine bnext ?_ (by assumption))))⟩
          case measure => omega
    · obtain rfl : m = len l := by omega
      have b0 : ¬ ((len l : Nat) : Int) < len l := by omega
      go_wp2
      go_ret
      exact ⟨by rw [decide_eq_true (show Rises l from HR.out)]; rfl, HW.out⟩
theorem mlast_any (l : List Int) (a : Option Addr) (cap : Nat) (w : World) (h : U64s w a l) (h0 : 0 < len l) (hn : len l ≤ 1000000000) : Calls Tryz.prog 162 #[.slice a (len l) cap] w fun e w' => e = .returned (.int .u64 (nth l (len l - 1))) ∧ w = w' := by
  obtain ⟨b, off, rfl, e1⟩ := h (len l - 1) (by omega)
  obtain ⟨n, hnn⟩ : ∃ n, len l = n + 1 := ⟨len l - 1, by omega⟩
  rw [hnn, Nat.add_sub_cancel] at e1 ⊢
  rw [hnn] at hn
  have l1 := lt_of_cell e1
  clear h h0 hnn
  have i1 : IntKind.i64.wrap (n : Int) = n := (IntWalk.i64_in _ (by omega)); have i2 : 0 ≤ (n : Int) + 1 := (by omega); have i3 : ((n : Int) + 1).toNat = n + 1 := (by omega)
  go_enter Tryz.func162, Tryz.ntmps162
  go_wp2
  go_ret
  exact ⟨rfl, rfl⟩
set_option maxRecDepth 100000 in
set_option maxHeartbeats 4000000 in
theorem mmay_any (n : Int) (l : List Int) (a : Option Addr) (cap : Nat) (w : World) (h : U64s w a l) (hn : len l ≤ 1000000000) (h0 : 0 ≤ n) (h1 : n ≤ 9223372036854775807) : Calls Tryz.prog 98 #[.int .i64 n, .slice a (len l) cap] w fun e w' => e = .returned (.bool (decide (MayOk n l))) ∧ Below w.heap.size w w' := by
  have HD : Hid (decide (MayOk n l) = decide (0 < len l ∧ Rises l ∧ nth l (len l - 1) < n)) := Lib.hid (by rw [decide_eq_decide]; exact may_iff n l)
  have n1 : IntKind.u64.wrap n = n := IntWalk.u64_in _ (by omega)
  by_cases hz : 0 < len l
  · have b0 : (0 : Int) < (len l : Nat) := by omega
    have HR := Lib.hid (rises_any l a cap w h hn)
    have HL := Lib.hid (fun w' hb => mlast_any l a cap w' (h.below hb) hz hn)
    have HZ := Lib.hid hz
    clear h hn h0 h1 hz
    cases hris : decide (Rises l) with
    | true =>
      rw [hris] at HR
      have HS := Lib.hid hris
      clear hris
      go_enter Tryz.func98, Tryz.ntmps98
      go_wp2_with fail
      refine HR.out.mono ?_
      rintro e w1 ⟨rfl, hb1⟩
      have HB1 := Lib.hid hb1
      go_wp2_with fail
      refine (HL.out w1 hb1).mono ?_
      rintro e w2 ⟨rfl, rfl⟩
      clear hb1
      go_wp2
      go_ret
      refine ⟨?_, HB1.out⟩
      rw [HD.out]
      simp [HZ.out, of_decide_eq_true HS.out]
    | false =>
      rw [hris] at HR
      have HS := Lib.hid hris
      clear hris
      go_enter Tryz.func98, Tryz.ntmps98
      go_wp2_with fail
      refine HR.out.mono ?_
      rintro e w1 ⟨rfl, hb1⟩
      have HB1 := Lib.hid hb1
      clear hb1
      go_wp2
      go_ret
      refine ⟨?_, HB1.out⟩
      rw [HD.out]
      simp [of_decide_eq_false HS.out]
  · have b0 : ¬ (0 : Int) < (len l : Nat) := by omega
    have HZ := Lib.hid hz
    clear hz h hn h0 h1
    go_enter Tryz.func98, Tryz.ntmps98
    go_wp2
    go_ret
    refine ⟨?_, Below.refl _ _⟩
    rw [HD.out]
    simp [HZ.out]
def MayT (n : Int) (l : List Int) (m : Nat) : Prop := ∀ i, i < m → nth l i < n ∧ (0 < i → nth l (i - 1) < nth l i)
theorem MayT.next {n : Int} {l : List Int} {m : Nat} (h : MayT n l m) (h0 : nth l m < n) (h1 : 0 < m → nth l (m - 1) < nth l m) : MayT n l (m + 1) := fun i hi => by
  by_cases e : i = m
  · subst e; exact ⟨h0, h1⟩
  · exact h i (by omega)
end Go.Proofs.YtpobhbdomldecaaGreatDoor
namespace Go.Proofs.YtpobhbdomldecaaGreatDoor
open Go.RowKit
set_option linter.unusedSimpArgs false
set_option linter.unusedVariables false
def needsL (leaves : List Int) (d : Int) : List (List Int) := if 0 ≤ d ∧ d ≤ 16 ∧ 0 < len leaves ∧ farB leaves d.toNat = false then rowsOf leaves d.toNat else []
theorem needsIs_nil {w w' : World} {rs : List (List Int)} (h : rs = []) (hb : Below w.heap.size w w') : NeedsIs rs w (.returned (.slice none 0 0)) w' :=
  ⟨_, [], rfl, World.ownsRow_nil _ _ _ _, by rw [h]; exact RowsAre.nil _ _, hb⟩
set_option maxRecDepth 100000 in
theorem needs_any (a : Option Addr) (cap : Nat) (leaves : List Int) (d : Int) (w : World) (hl : U64s w a leaves) (hlen : len leaves ≤ 100) (hu : ∀ k ∈ leaves, U64 k) :
    Calls Tryz.prog 165 #[.slice a (len leaves) cap, .int .i64 d] w (NeedsIs (needsL leaves d) w) := by
  by_cases hd : 0 ≤ d ∧ d ≤ 16
  · obtain ⟨hd0, hd1⟩ := hd
    obtain ⟨e, rfl⟩ := Int.eq_ofNat_of_zero_le hd0
    by_cases hl0 : 0 < len leaves
    · cases hf : farB leaves e with
      | false =>
        have E : needsL leaves e = rowsOf leaves e := by unfold needsL; rw [Int.toNat_natCast, if_pos ⟨hd0, hd1, hl0, hf⟩]
        rw [E]
        exact needs12_any a cap leaves e w hl hlen hl0 hu (by omega) hf
      | true =>
        have E : Hid (needsL leaves e = []) := Lib.hid (by unfold needsL; rw [Int.toNat_natCast, if_neg (fun h => by rw [hf] at h; exact absurd h.2.2.2 (by decide))])
        have HL := Lib.hid hl
        have HU := Lib.hid hu
        have HF := Lib.hid hf
        have hm : (decide ((0 : Int) ≤ (e : Int)) && decide ((e : Int) ≤ 16)) = true := by simp [hd1]
        have HM := Lib.hid hm
        have b3 : ((len leaves : Int) == 0) = false := by simp; omega
        clear hl hu hf hm
        go_enter Tryz.func165, Tryz.ntmps165
        go_wp2_with fail
        refine (may_any _ _).mono ?_
        rintro x w' ⟨rfl, rfl⟩
        rw [HM.out]
        obtain ⟨V, hV⟩ : ∃ V, w.alloc (.cells #[.int .i64 e] 3) = V := ⟨_, rfl⟩
        have VB : Hid (Below w.heap.size w V) := Lib.hid (by rw [← hV]; (repeat (first | exact Below.refl _ _ | assumption | (refine bdrew ?_) | (refine bdrewN ?_ _) | (refine balloc ?_ _) | (refine bset ?_ (by first | omega | (simp; done) | (simp; omega)) _) | (refine bnext ?_ (by assumption)))))
        have V0 : Hid (V.heap[w.heap.size]? = some (.cells #[.int .i64 e] 3 (0, 0))) := Lib.hid (by rw [← hV]; (repeat (first | exact alloc_new_at _ (by repeat (first | rfl | refine alloc_size _ ?_)) | refine block_alloc ?_ _)))
        rw [hV]
        clear hV
        go_wp2_with fail
        refine (contains_any a cap leaves w.heap.size e V (block_cell V0.out 0) (by omega) (HL.out.below VB.out) (by omega) HU.out).mono ?_
        rintro x w' ⟨rfl, rfl⟩
        rw [HF.out]
        go_wp2
        go_ret
        exact needsIs_nil E.out VB.out
    · have E : Hid (needsL leaves e = []) := Lib.hid (by unfold needsL; rw [if_neg (fun h => hl0 h.2.2.1)])
      have hm : (decide ((0 : Int) ≤ (e : Int)) && decide ((e : Int) ≤ 16)) = true := by simp [hd1]
      have HM := Lib.hid hm
      have b3 : ((len leaves : Int) == 0) = true := by simp; omega
      clear hl hu hm hl0
      go_enter Tryz.func165, Tryz.ntmps165
      go_wp2_with fail
      refine (may_any _ _).mono ?_
      rintro x w' ⟨rfl, rfl⟩
      rw [HM.out]
      go_wp2
      go_ret
      exact needsIs_nil E.out (by (repeat (first | exact Below.refl _ _ | assumption | (refine bdrew ?_) | (refine bdrewN ?_ _) | (refine balloc ?_ _) | (refine bset ?_ (by first | omega | (simp; done) | (simp; omega)) _) | (refine bnext ?_ (by assumption)))))
  · have hm : (decide ((0 : Int) ≤ d) && decide (d ≤ 16)) = false := by
      rw [Bool.and_eq_false_iff, decide_eq_false_iff_not, decide_eq_false_iff_not]; omega
    have HM := Lib.hid hm
    have E : Hid (needsL leaves d = []) := Lib.hid (by unfold needsL; rw [if_neg (fun h => hd ⟨h.1, h.2.1⟩)])
    clear hm hd hl hu
    go_enter Tryz.func165, Tryz.ntmps165
    go_wp2_with fail
    refine (may_any _ _).mono ?_
    rintro x w' ⟨rfl, rfl⟩
    rw [HM.out]
    go_wp2
    go_ret
    exact needsIs_nil E.out (by (repeat (first | exact Below.refl _ _ | assumption | (refine bdrew ?_) | (refine bdrewN ?_ _) | (refine balloc ?_ _) | (refine bset ?_ (by first | omega | (simp; done) | (simp; omega)) _) | (refine bnext ?_ (by assumption)))))
end Go.Proofs.YtpobhbdomldecaaGreatDoor
namespace Go.Proofs.YtpobhbdomldecaaGreatDoor
open Go.RowKit
set_option linter.unusedSimpArgs false
set_option linter.unusedVariables false
theorem stp_int (s M P x : Nat) (hP : P = 2 ^ s) (hx : x < 18446744073709551616) (hM : M * P < 18446744073709551616) (hM2 : M < 18446744073709551616) :
    bits .or .u64 (bits .and .u64 ((x : Int) / (P : Int)) (M : Int)) (IntKind.u64.wrap (bits .and .u64 (x : Int) (M : Int) * (P : Int))) = ((stp s M x : Nat) : Int) := by
  have h1 : (x : Int) / (P : Int) = ((x / P : Nat) : Int) := by simp
  have h2 : x / P < 18446744073709551616 := Nat.lt_of_le_of_lt (Nat.div_le_self _ _) hx
  have h3 : (x &&& M) * P < 18446744073709551616 := Nat.lt_of_le_of_lt (Nat.mul_le_mul_right _ Nat.and_le_right) hM
  have h4 : (x / P) &&& M < 18446744073709551616 := Nat.lt_of_le_of_lt Nat.and_le_left h2
  have h5 : IntKind.u64.wrap (((x &&& M : Nat) : Int) * (P : Int)) = (((x &&& M) * P : Nat) : Int) := by
    rw [IntKind.wrap_u64, show (((x &&& M : Nat) : Int) * (P : Int)) = (((x &&& M) * P : Nat) : Int) by simp]
    omega
  rw [h1, bits_and_u64_nat _ _ h2 hM2, bits_and_u64_nat _ _ hx hM2, h5, bits_or_u64_nat _ _ h4 h3]
  unfold stp
  rw [hP]
theorem swap_int (x : Nat) (hx : x < 18446744073709551616) : bits .or .u64 ((x : Int) / 4294967296) (IntKind.u64.wrap ((x : Int) * 4294967296)) = ((swap32 x : Nat) : Int) := by
  have h1 : (x : Int) / 4294967296 = ((x / 4294967296 : Nat) : Int) := by omega
  have h5 : IntKind.u64.wrap ((x : Int) * 4294967296) = ((x * 4294967296 % 18446744073709551616 : Nat) : Int) := by
    rw [IntKind.wrap_u64]; omega
  rw [h1, h5, bits_or_u64_nat _ _ (by omega) (by omega)]
  rfl
set_option maxRecDepth 100000 in
theorem revbytes_any (n : Nat) (w : World) (hn : n < 18446744073709551616) : Calls Tryz.prog 269 #[.int .u64 n] w fun e w' => e = .returned (.int .u64 ((swap32 (stp 16 M16 (stp 8 M8 n)) : Nat) : Int)) ∧ w = w' := by
  have HN := Lib.hid hn
  clear hn
  go_enter Tryz.func269, Tryz.ntmps269
  go_wp2
  go_ret
  refine ⟨ret_int ?_, rfl⟩
  have hn := HN.out
  have l8 : stp 8 M8 n < 18446744073709551616 := stp_lt hn (by decide)
  have l16 : stp 16 M16 (stp 8 M8 n) < 18446744073709551616 := stp_lt l8 (by decide)
  have S8 := stp_int 8 M8 256 n rfl hn (by decide) (by decide)
  have S16 := stp_int 16 M16 65536 (stp 8 M8 n) rfl l8 (by decide) (by decide)
  have S32 := swap_int _ l16
  refine Eq.trans ?_ S32
  rw [← S16, ← S8]
  rfl
set_option maxRecDepth 100000 in
theorem reverse_any (n : Nat) (w : World) (hn : n < 18446744073709551616) : Calls Tryz.prog 218 #[.int .u64 n] w fun e w' => e = .returned (.int .u64 ((rev64 n : Nat) : Int)) ∧ w = w' := by
  have l1 : stp 1 M1 n < 18446744073709551616 := stp_lt hn (by decide)
  have l2 : stp 2 M2 (stp 1 M1 n) < 18446744073709551616 := stp_lt l1 (by decide)
  have l4 : stp 4 M4 (stp 2 M2 (stp 1 M1 n)) < 18446744073709551616 := stp_lt l2 (by decide)
  have S1 := stp_int 1 M1 2 n rfl hn (by decide) (by decide)
  have S2 := stp_int 2 M2 4 (stp 1 M1 n) rfl l1 (by decide) (by decide)
  have S4 := stp_int 4 M4 16 (stp 2 M2 (stp 1 M1 n)) rfl l2 (by decide) (by decide)
  have H : ∀ x : Int, x = ((stp 4 M4 (stp 2 M2 (stp 1 M1 n)) : Nat) : Int) → ∀ W : World, Calls Tryz.prog 269 #[.int .u64 x] W fun e w' => e = .returned (.int .u64 ((rev64 n : Nat) : Int)) ∧ W = w' := fun x hx W => by
    rw [hx]; exact revbytes_any _ W l4
  have HH := Lib.hid H
  have E : Hid (bits .or .u64 (bits .and .u64 (bits .or .u64 (bits .and .u64 (bits .or .u64 (bits .and .u64 ((n : Int) / 2) (M1 : Int)) (IntKind.u64.wrap (bits .and .u64 (n : Int) (M1 : Int) * 2)) / 4) (M2 : Int)) (IntKind.u64.wrap (bits .and .u64 (bits .or .u64 (bits .and .u64 ((n : Int) / 2) (M1 : Int)) (IntKind.u64.wrap (bits .and .u64 (n : Int) (M1 : Int) * 2))) (M2 : Int) * 4)) / 16) (M4 : Int)) (IntKind.u64.wrap (bits .and .u64 (bits .or .u64 (bits .and .u64 (bits .or .u64 (bits .and .u64 ((n : Int) / 2) (M1 : Int)) (IntKind.u64.wrap (bits .and .u64 (n : Int) (M1 : Int) * 2)) / 4) (M2 : Int)) (IntKind.u64.wrap (bits .and .u64 (bits .or .u64 (bits .and .u64 ((n : Int) / 2) (M1 : Int)) (IntKind.u64.wrap (bits .and .u64 (n : Int) (M1 : Int) * 2))) (M2 : Int) * 4))) (M4 : Int) * 16)) = ((stp 4 M4 (stp 2 M2 (stp 1 M1 n)) : Nat) : Int)) := Lib.hid (by
    refine Eq.trans ?_ S4
    rw [← S2, ← S1]
    rfl)
  clear S1 S2 S4 H l1 l2 l4 hn
  go_enter Tryz.func218, Tryz.ntmps218
  go_wp2_with fail
  refine (HH.out _ E.out _).mono ?_
  rintro e w' ⟨rfl, rfl⟩
  go_wp2
  go_ret
  exact ⟨rfl, rfl⟩
def turnedZ (k d : Int) : Int := if 0 ≤ d ∧ d ≤ 16 ∧ k < 2 ^ d.toNat then (revOf k.toNat d.toNat : Nat) else 0
theorem pow_cast (d : Nat) : ((2 : Int) ^ d) = ((2 ^ d : Nat) : Int) := by simp
set_option maxRecDepth 100000 in
theorem turned_any (k d : Int) (w : World) (h0 : 0 ≤ k) (h1 : k ≤ 18446744073709551615) : Calls Tryz.prog 154 #[.int .u64 k, .int .i64 d] w fun e w' => e = .returned (.int .u64 (turnedZ k d)) ∧ w = w' := by
  by_cases hd : 0 ≤ d ∧ d ≤ 16
  · obtain ⟨hd0, hd1⟩ := hd
    obtain ⟨n, rfl⟩ := Int.eq_ofNat_of_zero_le h0
    obtain ⟨e, rfl⟩ := Int.eq_ofNat_of_zero_le hd0
    have hm : (decide ((0 : Int) ≤ (e : Int)) && decide ((e : Int) ≤ 16)) = true := by simp [hd1]
    have HM := Lib.hid hm
    clear hm
    by_cases hlt : n < 2 ^ e
    · have hq : ((n : Int) / 2 ^ e != 0) = false := by
        rw [pow_cast, show ((n : Int) / ((2 ^ e : Nat) : Int)) = ((n / 2 ^ e : Nat) : Int) by simp, Nat.div_eq_of_lt hlt]; rfl
      have hn64 : n < 18446744073709551616 := by omega
      have R : Hid (((rev64 n : Nat) : Int) / 2 ^ (63 - e) / 2 = turnedZ n e) := Lib.hid (by
        have := rev_turned (k := n) (d := e) hn64 (by omega)
        unfold turnedZ
        rw [if_pos ⟨hd0, hd1, by rw [Int.toNat_natCast, pow_cast]; omega⟩, Int.toNat_natCast, Int.toNat_natCast, ← this, pow_cast]
        simp)
      have HN := Lib.hid hn64
      clear hn64 hlt
      go_enter Tryz.func154, Tryz.ntmps154
      go_wp2_with fail
      refine (may_any _ _).mono ?_
      rintro e w' ⟨rfl, rfl⟩
      rw [HM.out]
      go_wp2_with fail
      refine (reverse_any n _ HN.out).mono ?_
      rintro e w' ⟨rfl, rfl⟩
      go_wp2
      go_ret
      refine ⟨ret_int ?_, rfl⟩
      rw [← R.out]
    · have hq : ((n : Int) / 2 ^ e != 0) = true := by
        have hp : 0 < 2 ^ e := Nat.two_pow_pos e
        have := Nat.div_pos (Nat.le_of_not_lt hlt) hp
        rw [pow_cast, show ((n : Int) / ((2 ^ e : Nat) : Int)) = ((n / 2 ^ e : Nat) : Int) by simp]
        exact bne_iff_ne.2 (by omega)
      have R : Hid (turnedZ n e = 0) := Lib.hid (by unfold turnedZ; rw [if_neg (fun h => hlt (by have := h.2.2; rw [Int.toNat_natCast, pow_cast] at this; omega))])
      clear hlt
      go_enter Tryz.func154, Tryz.ntmps154
      go_wp2_with fail
      refine (may_any _ _).mono ?_
      rintro e w' ⟨rfl, rfl⟩
      rw [HM.out]
      go_wp2
      go_ret
      exact ⟨ret_int R.out.symm, rfl⟩
  · have hm : (decide ((0 : Int) ≤ d) && decide (d ≤ 16)) = false := by
      rw [Bool.and_eq_false_iff, decide_eq_false_iff_not, decide_eq_false_iff_not]; omega
    have HM := Lib.hid hm
    have R : Hid (turnedZ k d = 0) := Lib.hid (by unfold turnedZ; rw [if_neg (fun h => hd ⟨h.1, h.2.1⟩)])
    clear hm hd
    go_enter Tryz.func154, Tryz.ntmps154
    go_wp2_with fail
    refine (may_any _ _).mono ?_
    rintro e w' ⟨rfl, rfl⟩
    rw [HM.out]
    go_wp2
    go_ret
    exact ⟨ret_int R.out.symm, rfl⟩
theorem leaf_any (k d : Int) (w : World) (h0 : 0 ≤ k) (h1 : k ≤ 18446744073709551615) : Calls Tryz.prog 164 #[.int .u64 k, .int .i64 d] w fun e w' => e = .returned (.int .u64 (turnedZ k d)) ∧ w = w' := by
  have H := Lib.hid (turned_any k d w h0 h1)
  clear h0 h1
  go_enter Tryz.func164, Tryz.ntmps164
  go_wp2_with fail
  refine H.out.mono ?_
  rintro e w' ⟨rfl, rfl⟩
  go_wp2
  go_ret
  exact ⟨rfl, rfl⟩
theorem element_any (k d : Int) (w : World) (h0 : 0 ≤ k) (h1 : k ≤ 18446744073709551615) : Calls Tryz.prog 93 #[.int .u64 k, .int .i64 d] w fun e w' => e = .returned (.int .u64 (turnedZ k d)) ∧ w = w' := by
  have H := Lib.hid (turned_any k d w h0 h1)
  clear h0 h1
  go_enter Tryz.func93, Tryz.ntmps93
  go_wp2_with fail
  refine H.out.mono ?_
  rintro e w' ⟨rfl, rfl⟩
  go_wp2
  go_ret
  exact ⟨rfl, rfl⟩
def depthZ (n : Int) : Int := if n < 0 ∨ 65536 < n then -1 else (Lib.bitLen (n.toNat - 1) : Nat)
theorem bitLen_small (x : Nat) (hx : x < 2 ^ 64) : x < 2 ^ Lib.bitLen x ∧ (x ≠ 0 → 2 ^ (Lib.bitLen x - 1) ≤ x ∧ 1 ≤ Lib.bitLen x) := by
  by_cases h : x = 0
  · subst h; exact ⟨Nat.two_pow_pos _, fun h => absurd rfl h⟩
  · have := Lib.bitLenAux_bounds 64 x hx h
    exact ⟨this.2.2, fun _ => ⟨this.2.1, this.1⟩⟩
set_option maxRecDepth 100000 in
theorem depth_any (n : Int) (w : World) (h0 : -9223372036854775808 ≤ n) (h1 : n ≤ 9223372036854775807) : Calls Tryz.prog 90 #[.int .i64 n] w fun e w' => e = .returned (.int .i64 (depthZ n)) ∧ w = w' := by
  have hbl := fun x w h0 h1 => Tryz.bits_Len x w h0 h1
  by_cases hn : n < 0
  · have D : Hid (depthZ n = -1) := Lib.hid (by unfold depthZ; rw [if_pos (.inl hn)])
    have e0 : decide (n < 0) = true := decide_eq_true hn
    go_enter Tryz.func90, Tryz.ntmps90
    go_wp2
    go_ret
    exact ⟨ret_int D.out.symm, rfl⟩
  have e0 : decide (n < 0) = false := decide_eq_false hn
  by_cases hb : 65536 < n
  · have D : Hid (depthZ n = -1) := Lib.hid (by unfold depthZ; rw [if_pos (.inr hb)])
    have e1 : decide (65536 < n) = true := decide_eq_true hb
    go_enter Tryz.func90, Tryz.ntmps90
    go_wp2
    go_ret
    exact ⟨ret_int D.out.symm, rfl⟩
  have e1 : decide (65536 < n) = false := decide_eq_false hb
  have D : Hid (depthZ n = (Lib.bitLen (n.toNat - 1) : Nat)) := Lib.hid (by unfold depthZ; rw [if_neg (by omega)])
  have hn0 : 0 ≤ n := by omega
  have hn1 : n ≤ 65536 := by omega
  clear hn hb
  go_enter Tryz.func90, Tryz.ntmps90
  go_wp2_with fail
  refine (hbl (max n 1 - 1) _ (by omega) (by omega)).mono ?_
  rintro e w' ⟨rfl, rfl⟩
  go_wp2
  go_ret
  exact ⟨ret_int (by rw [D.out, show (max n 1).toNat - 1 = n.toNat - 1 by omega]), rfl⟩
theorem depth_bd (n : Nat) (hn : n ≤ 65536) : Lib.bitLen (n - 1) ≤ 16 ∧ n ≤ 2 ^ Lib.bitLen (n - 1) ∧ (∀ m, m < Lib.bitLen (n - 1) → 2 ^ m < n) := by
  have h := bitLen_small (n - 1) (by omega)
  have h16 := Lib.bitLen_le (n - 1) 16 (by decide) (by omega)
  refine ⟨h16, by omega, fun m hm => ?_⟩
  by_cases h0 : n - 1 = 0
  · rw [h0] at hm
    have : Lib.bitLen 0 = 0 := by decide
    omega
  · have h2 := (h.2 h0).1
    have : 2 ^ m ≤ 2 ^ (Lib.bitLen (n - 1) - 1) := Nat.pow_le_pow_right (by decide) (by omega)
    omega
end Go.Proofs.YtpobhbdomldecaaGreatDoor
namespace Go.Proofs.YtpobhbdomldecaaGreatDoor
open Go.RowKit Go.ChangeMaps
set_option linter.unusedSimpArgs false
set_option linter.unusedVariables false
attribute [local go_sem] Oper.semAt_some
structure KpO (o : Nat) (A B : World) : Prop where
  size : A.heap.size ≤ B.heap.size
  same : ∀ b cs t fr, b ≠ o → t ≠ 9 → A.heap[b]? = some (.cells cs t fr) → B.heap[b]? = some (.cells cs t fr)
theorem KpO.trans {o : Nat} {A B C : World} (h : KpO o A B) (k : KpO o B C) : KpO o A C := ⟨Nat.le_trans h.size k.size, fun b cs t fr hb ht hc => k.same b cs t fr hb ht (h.same b cs t fr hb ht hc)⟩
theorem KpO.putObj (o : Nat) (W : World) (l : Nat) (x x' : Obj) (hl : W.heap[l]? = some x) (hx : x.isCells = false) : KpO o W (W.putObj l x') :=
  ⟨by simp, fun b cs t fr _ _ hc => by
    have : b ≠ l := fun e => by subst e; rw [hl] at hc; cases hc; cases hx
    exact (World.putObj_heap_other this).trans hc⟩
theorem own_kpo {o : Nat} {A B : World} (h : KpO o A B) {base e size n : Nat} {v : Value} {xs : List Value} (ho : o < base) (he : e ≠ 9) (hr : A.ownsRow base e size v n xs) : B.ownsRow base e size v n xs := by
  refine ⟨hr.1, ?_⟩
  rcases hr.2 with hz | ⟨g, cap, cur, hv, hg, hh, hrest⟩
  · exact Or.inl hz
  · exact Or.inr ⟨g, cap, cur, hv, hg, h.same g cur e (0, 0) (by omega) he hh, hrest⟩
theorem rows_kpo {o : Nat} {A B : World} (h : KpO o A B) {base : Nat} {vals : List Value} {rs : List (List Int)} (ho : o < base) (hr : RowsAre A base vals rs) : RowsAre B base vals rs :=
  ⟨hr.1, fun i hi => by
    obtain ⟨u, h1, h2⟩ := hr.2 i hi
    exact ⟨u, h1, own_kpo h ho (by decide) h2⟩⟩
def flatFrom : Nat → List (List Int) → List (Int × Int)
  | _, [] => []
  | i, r :: rs => r.map (fun k => ((i : Int), k)) ++ flatFrom (i + 1) rs
theorem flatFrom_app : ∀ (s : Nat) (a b : List (List Int)), flatFrom s (a ++ b) = flatFrom s a ++ flatFrom (s + a.length) b
  | _, [], _ => rfl
  | s, r :: a, b => by
    rw [List.cons_append, flatFrom, flatFrom, flatFrom_app (s + 1) a b, List.append_assoc, List.length_cons, show s + 1 + a.length = s + (a.length + 1) by omega]
def flatLv (rs : List (List Int)) : List (Int × Int) := flatFrom 0 rs
def flatAt (rs : List (List Int)) (i j : Nat) : List (Int × Int) := flatLv (rs.take i) ++ ((rnth rs i).take j).map (fun k => ((i : Int), k))
theorem flatAt_next (rs : List (List Int)) (i j : Nat) (hj : j < len (rnth rs i)) : flatAt rs i (j + 1) = flatAt rs i j ++ [((i : Int), nth (rnth rs i) j)] := by
  unfold flatAt
  have h : j < (rnth rs i).length := hj
  rw [List.take_succ_eq_append_getElem h, List.map_append, List.append_assoc, nth_eq _ _ h]
  rfl
theorem flatAt_row (rs : List (List Int)) (i : Nat) (hi : i < len rs) : flatAt rs i (len (rnth rs i)) = flatAt rs (i + 1) 0 := by
  unfold flatAt flatLv
  have h : i < rs.length := hi
  rw [take_len, List.take_zero, List.map_nil, List.append_nil, List.take_succ_eq_append_getElem h, flatFrom_app, List.length_take, Nat.min_eq_left (Nat.le_of_lt h), rnth_eq rs i h]
  simp [flatFrom]
theorem flatAt_end (rs : List (List Int)) : flatAt rs (len rs) 0 = flatLv rs := by
  unfold flatAt
  rw [take_len, List.take_zero, List.map_nil, List.append_nil]
theorem flatAt_lt (rs : List (List Int)) (i j : Nat) (hi : i < len rs) (hj : j < len (rnth rs i)) : (flatAt rs i j).length < (flatLv rs).length := by
  have h : i < rs.length := hi
  have h2 : j < (rnth rs i).length := hj
  have e : flatLv rs = flatLv (rs.take i) ++ (flatFrom (0 + (rs.take i).length) (rs.drop i)) := by
    unfold flatLv
    rw [← flatFrom_app, List.take_append_drop]
  have e2 : rs.drop i = rnth rs i :: rs.drop (i + 1) := by rw [rnth_eq rs i h]; exact List.drop_eq_getElem_cons h
  rw [e, e2, flatFrom]
  unfold flatAt
  simp only [List.length_append, List.length_map, List.length_take]
  omega
theorem flat_at (rs : List (List Int)) (i j : Nat) (hi : i < len rs) (hj : j < len (rnth rs i)) : (flatLv rs)[(flatAt rs i j).length]? = some ((i : Int), nth (rnth rs i) j) := by
  have h : i < rs.length := hi
  have h2 : j < (rnth rs i).length := hj
  have e : flatLv rs = flatLv (rs.take i) ++ (flatFrom (0 + (rs.take i).length) (rs.drop i)) := by
    unfold flatLv
    rw [← flatFrom_app, List.take_append_drop]
  have e2 : rs.drop i = rnth rs i :: rs.drop (i + 1) := by rw [rnth_eq rs i h]; exact List.drop_eq_getElem_cons h
  have e3 : rnth rs i = (rnth rs i).take j ++ nth (rnth rs i) j :: (rnth rs i).drop (j + 1) := by
    rw [nth_eq _ _ h2, ← List.drop_eq_getElem_cons h2, List.take_append_drop]
  have e4 : 0 + (rs.take i).length = i := by rw [List.length_take]; omega
  have e5 : flatLv rs = flatAt rs i j ++ (((i : Int), nth (rnth rs i) j) :: (((rnth rs i).drop (j + 1)).map (fun k => ((i : Int), k)) ++ flatFrom (i + 1) (rs.drop (i + 1)))) := by
    rw [e, e4, e2, flatFrom]
    unfold flatAt
    conv => lhs; rw [e3]
    simp only [List.map_append, List.map_cons, List.append_assoc, List.cons_append]
  rw [e5, List.getElem?_append_right (Nat.le_refl _), Nat.sub_self]
  rfl
def leavesL (l : List Int) (d : Int) : List Int := l.map fun k => turnedZ k d
theorem leavesL_len (l : List Int) (d : Int) : len (leavesL l d) = len l := by unfold leavesL; rw [len_eq, len_eq, List.length_map]
theorem turnedZ_bd (k d : Int) : 0 ≤ turnedZ k d ∧ turnedZ k d ≤ 65535 := by
  unfold turnedZ
  split
  · rename_i h
    have h1 := revOf_lt k.toNat d.toNat
    have h2 : 2 ^ d.toNat ≤ 2 ^ 16 := Nat.pow_le_pow_right (by decide) (by omega)
    have h3 : (2 : Nat) ^ 16 = 65536 := by decide
    omega
  · decide
theorem leavesL_u64 (l : List Int) (d : Int) : ∀ k ∈ leavesL l d, U64 k := by
  intro k hk
  obtain ⟨x, _, rfl⟩ := List.mem_map.1 hk
  have := turnedZ_bd x d
  unfold U64
  omega
theorem leavesL_snoc (l : List Int) (d : Int) (m : Nat) (h : m < len l) : leavesL (l.take (m + 1)) d = leavesL (l.take m) d ++ [turnedZ (nth l m) d] := by
  unfold leavesL
  have h2 : m < l.length := h
  rw [List.take_succ_eq_append_getElem h2, List.map_append, nth_eq l m h2]
  rfl
theorem mem_nth {l : List Int} {i : Nat} (h : i < len l) : nth l i ∈ l := by
  have h2 : i < l.length := h
  rw [nth_eq l i h2]; exact List.getElem_mem h2
theorem rnth_nl (leaves : List Int) (d : Int) (hlen : len leaves ≤ 100) (i : Nat) : len (rnth (needsL leaves d) i) ≤ 100 := by
  have key : ∀ r ∈ needsL leaves d, r.length ≤ 100 := by
    intro r hr
    unfold needsL at hr
    split at hr
    · unfold rowsOf at hr
      obtain ⟨j, hj, rfl⟩ := List.mem_map.1 hr
      unfold rowK
      rw [srt_len]
      refine Nat.le_trans (needK_len _) (Nat.le_trans (insAll_all _).2.2 ?_)
      rw [List.length_map]; exact hlen
    · cases hr
  by_cases hi : i < (needsL leaves d).length
  · rw [rnth_eq _ i hi, len_eq]
    have := key _ (List.getElem_mem hi); omega
  · have : rnth (needsL leaves d) i = [] := by
      unfold rnth; rw [List.getD_eq_getElem?_getD, List.getElem?_eq_none (by omega)]; rfl
    rw [this]; exact Nat.zero_le _
theorem len_nl (leaves : List Int) (d : Int) : len (needsL leaves d) ≤ 16 := by
  unfold needsL
  split
  · rename_i h
    rw [len_eq]; unfold rowsOf; rw [List.length_map, List.length_range]; have := h.2.1; omega
  · exact Nat.zero_le _
theorem flatFrom_len : ∀ (s : Nat) (rs : List (List Int)), (∀ r ∈ rs, r.length ≤ 100) → (flatFrom s rs).length ≤ 100 * rs.length
  | _, [], _ => Nat.le_refl _
  | s, r :: rs, h => by
    have h1 := flatFrom_len (s + 1) rs (fun x hx => h x (List.mem_cons_of_mem _ hx))
    have h2 := h r List.mem_cons_self
    rw [flatFrom, List.length_append, List.length_map, List.length_cons]
    omega
theorem flat_bd (leaves : List Int) (d : Int) (hlen : len leaves ≤ 100) : (flatLv (needsL leaves d)).length ≤ 1600 := by
  have h := flatFrom_len 0 (needsL leaves d) (fun r hr => by
    obtain ⟨i, hi, rfl⟩ := List.mem_iff_getElem.1 hr
    rw [← rnth_eq _ i hi]
    exact rnth_nl leaves d hlen i)
  have h2 := len_nl leaves d
  rw [len_eq] at h2
  unfold flatLv
  omega
abbrev PlSeq {α : Type} (f : α → Int × Int) (o bP bD N : Nat) (L : List α) (n : Nat) (w : World) : Prop :=
  SeqStopsK Fence.wide n Tryz.prog 163 #[.pointer (some ⟨bP, 0, none⟩), .pointer (some ⟨bD, 0, none⟩)] (fun x : α => #[.int .i64 (f x).1, .int .u64 (f x).2]) (KpO o) (fun xs => xs = L) (fun _ => True) N w
set_option maxRecDepth 100000 in
set_option maxHeartbeats 4000000 in
theorem places_seq {α : Type} (f : α → Int × Int) (L : List α) (n : Nat) (hn1 : 1 ≤ n) (o bP bD : Nat) (a : Option Addr) (cap : Nat) (l : List Int) (d : Nat) (w : World) (hcP : w.cell? ⟨bP, 0, none⟩ = some (.slice a (len l) cap)) (hcD : w.cell? ⟨bD, 0, none⟩ = some (.int .i64 d))
    (hl : U64s w a l) (hlen : len l ≤ 100) (hd : d ≤ 16) (hu : ∀ k ∈ l, U64 k) (ho : o < w.heap.size) (hLM : L.map f = flatLv (needsL (leavesL l d) d)) :
    PlSeq f o bP bD L.length L n w := by
  obtain ⟨rs, hrs⟩ : ∃ rs, needsL (leavesL l d) d = rs := ⟨_, rfl⟩
  rw [hrs] at hLM
  have HLM := Lib.hid hLM
  have HRS := Lib.hid hrs
  have HB1 : Hid (len rs ≤ 16) := Lib.hid (by rw [← hrs]; exact len_nl _ _)
  have HB2 : Hid (∀ i, len (rnth rs i) ≤ 100) := Lib.hid (by rw [← hrs]; exact rnth_nl _ _ (by rw [leavesL_len]; exact hlen))
  clear hrs hLM
  intro l0 J Jx W hW hJ hJx hY h0
  have HC1 : Hid (W.cell? ⟨bP, 0, none⟩ = some (.slice a (len l) cap)) := Lib.hid (by rw [hW.cell (p := ⟨bP, 0, none⟩) (lt_of_cell hcP)]; exact hcP)
  have HC2 : Hid (W.cell? ⟨bD, 0, none⟩ = some (.int .i64 d)) := Lib.hid (by rw [hW.cell (p := ⟨bD, 0, none⟩) (lt_of_cell hcD)]; exact hcD)
  have HL := Lib.hid (hl.below hW)
  have H0 := Lib.hid h0
  have HJ := Lib.hid hJ
  have HJX := Lib.hid hJx
  have HY := Lib.hid hY
  have HU := Lib.hid hu
  have HO : Hid (o < W.heap.size) := Lib.hid (Nat.lt_of_lt_of_le ho hW.size)
  obtain ⟨i0, hi, hz0, hz1, hz2⟩ := info_parts info_u64
  have HZ := Lib.hid hz0
  clear hcP hcD hW h0 hJ hJx hY hl hu ho hz0
  refine callsIn_of_wp Tryz.func163 rfl trivial ?_ rfl
  simp only [Tryz.ntmps163, List.size_toArray, List.length_cons, List.length_nil, Nat.reduceAdd, Nat.reduceSub, Array.replicate_succ, Array.replicate_zero, List.push_toArray, List.append_toArray, List.nil_append, List.cons_append]
  have cP := HC1.out
  gi_wp2
  clear cP
  gi_loopw [13, 4] (fun i v wr => ∃ m : Nat, m ≤ len l ∧ i = .int .i64 m ∧ Hid (wr.ownsRow W.heap.size 23 1 v m ((leavesL (l.take m) d).map (Value.int .u64))) ∧ Hid (Below W.heap.size W wr)) (fun i _ _ => len l - (intOf i).toNat)
  case atStart => exact ⟨0, Nat.zero_le _, rfl, Lib.hid (World.ownsRow_nil _ _ _ _), Lib.hid (Below.refl _ _)⟩
  case round =>
    obtain ⟨m, hm, rfl, HR, HB⟩ := hrel
    by_cases hlt : m < len l
    · obtain ⟨b, off, rfl, hcell⟩ := HL.out.below HB.out m hlt
      have b0 : (m : Int) < len l := by omega
      have cD : wr.cell? ⟨bD, 0, none⟩ = some (.int .i64 d) := by rw [HB.out.cell (p := ⟨bD, 0, none⟩) (lt_of_cell HC2.out)]; exact HC2.out
      obtain ⟨k, hk⟩ : ∃ k, nth l m = k := ⟨_, rfl⟩
      have hku : U64 k := by rw [← hk]; exact HU.out _ (mem_nth hlt)
      rw [hk] at hcell
      have HK := Lib.hid hk
      have HLF := Lib.hid (leaf_any k (d : Nat) wr hku.1 hku.2)
      clear hk hku
      gi_wp2_with fail
      refine ⟨trivial, (callsIn_wide.2 HLF.out).mono ?_⟩
      rintro e w1 ⟨rfl, rfl⟩
      gi_wp2_with (gi_at_builtin; refine wpListIn_append_own _ rfl _ _ 64 rfl W.heap.size 23 i0 (.int .u64 0) 1 8 Tryz.underlying64 hi HZ.out hz1 hz2 rfl (by decide) _ _ _ rfl (HR.out.alloc _) ⟨wr.heap.size, 0, none⟩ 1 1 [.int .u64 (turnedZ k d)] rfl rfl (World.news_of_block (heap_alloc_new _ _)) (by intro u hu9; simp at hu9; subst hu9; rfl) (by unfold maxLen; omega) (by omega) (by have := HB.out.size; simp; omega) ?_; intro v2 w4 hown2 hgrow2 _)
      have HO2 : Hid (w4.ownsRow W.heap.size 23 1 v2 (m + 1) ((leavesL (l.take (m + 1)) d).map (Value.int .u64))) := Lib.hid (by
        rw [leavesL_snoc l d m hlt, HK.out, List.map_append]
        exact hown2)
      have HB2 : Hid (Below W.heap.size W w4) := Lib.hid (grownBy_below (balloc HB.out _) hgrow2 (fun k hk' => (HR.out.lt k hk').1))
      clear hown2 hgrow2 HLF cD hcell
      gi_wp2
      go_roundw
      case rel => exact ⟨m + 1, by omega, by go_num, HO2, HB2⟩
      case measure => simp [intOf]; omega
    · obtain rfl : m = len l := by omega
      have b0 : ¬ ((len l : Nat) : Int) < len l := by omega
      have HR2 : Hid (wr.ownsRow W.heap.size 23 1 u4 (len l) ((leavesL l d).map (Value.int .u64))) := Lib.hid (by have h := HR.out; rw [take_len] at h; exact h)
      obtain ⟨a2, cap2, hv, hL2, hc2, hc3⟩ := own_u64 HR2.out
      subst hv
      have HL2 := Lib.hid hL2
      have cD : wr.cell? ⟨bD, 0, none⟩ = some (.int .i64 d) := by rw [HB.out.cell (p := ⟨bD, 0, none⟩) (lt_of_cell HC2.out)]; exact HC2.out
      have HND := Lib.hid (needs_any a2 cap2 (leavesL l d) (d : Nat) wr hL2 (by rw [leavesL_len]; exact hlen) (leavesL_u64 l d))
      rw [HRS.out] at HND
      clear hL2 hc2 hc3 HR hlt hm HR2
      gi_wp2_with fail
      refine ⟨trivial, (callsIn_wide.2 HND.out).mono ?_⟩
      rintro e w2 ⟨v, vals, rfl, hr1, hr2, hb2⟩
      obtain ⟨a3, cap3, hv, hR3, hc4, hc5⟩ := rows2_of hr1 hr2
      have HR1 := Lib.hid hr1
      have HR2 := Lib.hid hr2
      have HBS : Hid (o < wr.heap.size) := Lib.hid (Nat.lt_of_lt_of_le HO.out HB.out.size)
      have HJ2 : Hid (J [] w2) := Lib.hid (HJ.out _ _ _ none H0.out (below_grown (bnext HB.out hb2)) (fun r e => by cases e))
      have HWS : Hid (W.heap.size ≤ w2.heap.size) := Lib.hid (Nat.le_trans HB.out.size hb2.size)
      obtain ⟨B2, hB2⟩ : ∃ B2, wr.heap.size = B2 := ⟨_, rfl⟩
      rw [hB2] at HR1 HR2 HBS
      subst hv
      clear hr1 hr2 hb2 hR3 hB2 HND cD HB H0
      gi_wp2
      gi_loopw [28] (fun i wr => ∃ m : Nat, m ≤ len rs ∧ i = .int .i64 m ∧ Hid (J (L.take (flatAt rs m 0).length) wr) ∧ Hid (wr.ownsRow B2 64 1 (.slice a3 (len rs) cap3) vals.length vals) ∧ Hid (RowsAre wr B2 vals rs)) (fun i _ => len rs - (intOf i).toNat)
      case atStart => exact ⟨0, Nat.zero_le _, rfl, HJ2, HR1, HR2⟩
      case round =>
        clear HJ2 HR1 HR2
        obtain ⟨m, hm, rfl, HJ2, HR1, HR2⟩ := hrel
        by_cases hlt : m < len rs
        · have HLT := Lib.hid hlt
          have hb1 := HB1.out
          have hb2 := HB2.out m
          have b1 : (m : Int) < len rs := by omega
          obtain ⟨a4, c4, hv, hrr, -⟩ := rows2_of HR1.out HR2.out
          have hv2 : a4 = a3 := by injection hv with h1 h2 h3; exact h1.symm
          subst hv2
          obtain ⟨rb, ro, ra, rc, rfl, hrc, hru, -⟩ := hrr m hlt
          clear hrr hv
          gi_wp2
          gi_loopw [35] (fun j wr => ∃ q : Nat, q ≤ len (rnth rs m) ∧ j = .int .i64 q ∧ Hid (J (L.take (flatAt rs m q).length) wr) ∧ Hid (wr.ownsRow B2 64 1 (.slice (some ⟨rb, ro, none⟩) (len rs) cap3) vals.length vals) ∧ Hid (RowsAre wr B2 vals rs) ∧ wr.cell? ⟨rb, ro + m, none⟩ = some (.slice ra (len (rnth rs m)) rc)) (fun j _ => len (rnth rs m) - (intOf j).toNat)
          case atStart => exact ⟨0, Nat.zero_le _, rfl, HJ2, HR1, HR2, hrc⟩
          case round =>
            clear HJ2 HR1 HR2 hrc hru
            obtain ⟨q, hq, rfl, HJ2, HR1, HR2, hrc⟩ := hrel
            by_cases hlq : q < len (rnth rs m)
            · have HLQ := Lib.hid hlq
              have b2 : (q : Int) < len (rnth rs m) := by omega
              obtain ⟨a4, c4, hv, hrr, -⟩ := rows2_of HR1.out HR2.out
              obtain ⟨rb2, ro2, ra2, rc2, hra2, hrc2, hru2, -⟩ := hrr m hlt
              have hv3 : a4 = some ⟨rb, ro, none⟩ := by injection hv with h1 h2 h3; exact h1.symm
              rw [hv3] at hra2
              cases hra2
              rw [hrc] at hrc2
              have hra3 : ra = ra2 := by
                have h9 := Option.some.inj hrc2
                injection h9
              subst hra3
              obtain ⟨eb, eo, hre, hec⟩ := hru2 q hlq
              subst hre
              obtain ⟨k, hk⟩ : ∃ k, nth (rnth rs m) q = k := ⟨_, rfl⟩
              rw [hk] at hec
              have HK := Lib.hid hk
              have HRC := Lib.hid hrc
              obtain ⟨x9, hx9⟩ : ∃ x9, (flatAt rs m q).length = x9 := ⟨_, rfl⟩
              have hx8 : x9 < L.length := by
                have h1 := flatAt_lt rs m q hlt hlq
                rw [← HLM.out, List.length_map] at h1
                omega
              obtain ⟨z9, hz9⟩ : ∃ z9, L[x9]'hx8 = z9 := ⟨_, rfl⟩
              have HZ9 : Hid (L.take (x9 + 1) = L.take x9 ++ [z9]) := Lib.hid (by rw [List.take_succ_eq_append_getElem hx8, hz9])
              have hf9 : f z9 = ((m : Int), k) := by
                rw [← hz9]
                have h1 := flat_at rs m q hlt hlq
                rw [hx9, ← HLM.out, List.getElem?_map, List.getElem?_eq_getElem hx8, hk] at h1
                exact Option.some.inj h1
              have hj9 := HJ2.out
              rw [hx9] at hj9
              have HX9 := Lib.hid hx9
              have HX8 := Lib.hid hx8
              obtain ⟨fn, tmps, assign, body, hy, hR⟩ := HY.out (L.take x9) z9 wr hj9 (by rw [List.length_take]; omega)
              have HR := Lib.hid hR
              try dsimp only at hy
              rw [hf9] at hy
              clear hz9 hf9 hj9 hx9 hx8 hR hv hrr hrc2 hru2 hv3 hk
              gi_wp2
              refine HR.out.mono ?_
              rintro e W3 (⟨rfl, hJ3, hk3⟩ | ⟨rfl, hJx3⟩)
              · have J3 : Hid (J (L.take (flatAt rs m (q + 1)).length) W3) := Lib.hid (by rw [flatAt_next rs m q hlq, List.length_append, HX9.out, List.length_singleton, HZ9.out]; exact hJ3)
                have R1 : Hid (W3.ownsRow B2 64 1 (.slice (some ⟨rb, ro, none⟩) (len rs) cap3) vals.length vals) := Lib.hid (own_kpo hk3 HBS.out (by decide) HR1.out)
                have R2 : Hid (RowsAre W3 B2 vals rs) := Lib.hid (rows_kpo hk3 HBS.out HR2.out)
                have hrc3 : W3.cell? ⟨rb, ro + m, none⟩ = some (.slice (some ⟨eb, eo, none⟩) (len (rnth rs m)) rc) := by
                  rcases HR1.out.2 with ⟨hz9, _⟩ | ⟨g9, cap9, cur9, hv9, hg9, hh9, _⟩
                  · cases hz9
                  · have e9 : rb = g9 := by
                      injection hv9 with h1 h2 h3
                      have := Option.some.inj h1
                      injection this
                    rw [World.cell?_of_block (w := wr) (w' := W3) (a := ⟨rb, ro + m, none⟩) (by show W3.heap[rb]? = wr.heap[rb]?; rw [e9, hh9]; exact hk3.same _ _ _ _ (by have := HBS.out; omega) (by decide) hh9)]
                    exact HRC.out
                clear hJ3 hk3 hy HR hec HRC
                gi_wp2
                go_roundw
                case rel => exact ⟨q + 1, HLQ.out, by go_num, J3, R1, R2, hrc3⟩
                case measure => have := HLQ.out; simp [intOf]; omega
              · have JX := Lib.hid hJx3
                clear hJx3 hy HR hec HRC
                gi_wp2
                refine bodyPost_ret (results_none rfl _ _ _) rfl ?_
                exact ⟨⟨_, rfl⟩, Or.inr ⟨_, trivial, JX.out⟩⟩
            · obtain rfl : q = len (rnth rs m) := by omega
              have b2 : ¬ ((len (rnth rs m) : Nat) : Int) < len (rnth rs m) := by omega
              have HJ3 : Hid (J (L.take (flatAt rs (m + 1) 0).length) wr) := Lib.hid (by have h := HJ2.out; rw [flatAt_row rs m hlt] at h; exact h)
              gi_wp2
              go_roundw
              case rel => exact ⟨m + 1, HLT.out, by go_num, HJ3, HR1, HR2⟩
              case measure => have := HLT.out; simp [intOf]; omega
        · obtain rfl : m = len rs := by omega
          have b1 : ¬ ((len rs : Nat) : Int) < len rs := by omega
          have HJ3 : Hid (J L wr) := Lib.hid (by have h := HJ2.out; rw [flatAt_end, ← HLM.out, List.length_map, List.take_length] at h; exact h)
          gi_wp2
          go_end0
          exact ⟨⟨_, rfl⟩, Or.inl HJ3.out⟩
end Go.Proofs.YtpobhbdomldecaaGreatDoor
namespace Go.Proofs.YtpobhbdomldecaaGreatDoor
open Go.RowKit Go.ChangeMaps
set_option linter.unusedSimpArgs false
set_option linter.unusedVariables false
attribute [local go_sem] Oper.semAt_some
theorem KpO.setCell (o : Nat) (W : World) (k : Nat) (v : Value) : KpO o W (W.setCell ⟨o, k, none⟩ v) :=
  ⟨by simp [World.setCell], fun b cs t fr hb _ hc => (Below.heap_setCell _ _ _ _ (fun e => hb e)).trans hc⟩
theorem own_one {α : Type} (B s0 : Nat) (T : TypeId) (f : List α → Value) : OwnFrom B (fun (pre : List α) W => W.heap[s0]? = some (.cells #[f pre] T (0, 0))) := fun s W W' row hs hg hr =>
  (hg.block s0 (lt_of_block hs) (fun e => by
    obtain ⟨_, x, hx, hc⟩ := hr s0 (by rw [e])
    rw [hs] at hx
    cases hx
    cases hc)).trans hs
theorem places_any (a : Option Addr) (cap n : Nat) (d : Int) (w : World) : Calls Tryz.prog 101 #[.int .i64 d, .slice a n cap] w fun e w' => e = .returned (.func (.func 163) #[] #[.pointer (some ⟨w.heap.size + 1, 0, none⟩), .pointer (some ⟨w.heap.size, 0, none⟩)]) ∧ w' = (w.alloc (.cells #[.int .i64 d] 3)).alloc (.cells #[.slice a n cap] 64) := by
  go_enter Tryz.func101, Tryz.ntmps101
  go_wp2
  go_ret
  exact ⟨rfl, rfl⟩
def plcL (n : Int) (l : List Int) : List (Int × Int) := flatLv (needsL (leavesL l (depthZ n)) (depthZ n))
def SizeOk (n : Int) (l : List Int) : Prop := 0 ≤ n ∧ n ≤ 65536 ∧ MayOk n l
instance (n : Int) (l : List Int) : Decidable (SizeOk n l) := by unfold SizeOk; exact inferInstance
end Go.Proofs.YtpobhbdomldecaaGreatDoor
namespace Go.Proofs.YtpobhbdomldecaaGreatDoor
open Go.RowKit
set_option linter.unusedSimpArgs false
set_option linter.unusedVariables false
set_option maxRecDepth 100000 in
theorem rotl_any (x : W32) (a : Nat) (w : World) (h1 : 1 ≤ a) (h2 : a ≤ 31) : Calls Tryz.prog 271 #[.int .u32 (wI x), .int .i64 (-(a : Int))] w fun e w' => e = .returned (.int .u32 (wI (rotr x a))) ∧ w' = w := by
  have e1 : IntKind.u64.wrap (-(a : Int)) = ((18446744073709551616 - a : Nat) : Int) := by rw [show IntKind.u64.wrap (-(a : Int)) = (-(a : Int)) % 18446744073709551616 by simp [IntKind.wrap, IntKind.bits, IntKind.signed]]; omega
  have e2 : bits .and .u64 ((18446744073709551616 - a : Nat) : Int) 31 = ((32 - a : Nat) : Int) := by
    rw [show (31 : Int) = ((31 : Nat) : Int) from rfl, u64_and_nat _ _ (by omega) (by omega), nat_mask5]
    omega
  go_enter Tryz.func271, Tryz.ntmps271
  go_wp2
  rw [bv_shlm, show 32 - (32 - a) = a by omega, bv_shrm, bv_or, rotr_comm]
  go_ret
  exact ⟨rfl, rfl⟩
def mixW (x : W32) (a b c : Nat) : W32 := rotr x a ^^^ rotr x b ^^^ x >>> c
set_option maxRecDepth 100000 in
theorem mix_any (x : W32) (a b c : Nat) (w : World) (h1 : 1 ≤ a ∧ a ≤ 31) (h2 : 1 ≤ b ∧ b ≤ 31) (h3 : c ≤ 31) : Calls Tryz.prog 270 #[.int .u32 (wI x), .int .i64 a, .int .i64 b, .int .i64 c] w fun e w' => e = .returned (.int .u32 (wI (mixW x a b c))) ∧ Below w.heap.size w w' := by
  have HA := Lib.hid (fun w' => rotl_any x a w' h1.1 h1.2)
  have HB := Lib.hid (fun w' => rotl_any x b w' h2.1 h2.2)
  go_enter Tryz.func270, Tryz.ntmps270
  have na : IntKind.i64.wrap (-(a : Int)) = -(a : Int) := IntWalk.i64_in _ (by omega)
  have nb : IntKind.i64.wrap (-(b : Int)) = -(b : Int) := IntWalk.i64_in _ (by omega)
  have sc : ¬ ((c : Int) < 0) := by omega
  go_upto_region 1 with fail
  refine wp_region_tail 13 1000 (none) (phis [fun u _ => u = (.int .u32 (wI x)), fun u _ => u = (.int .i64 a), fun u _ => u = (.int .i64 (-(a : Int))), fun u _ => u = (.int .u32 (wI (rotr x a))), fun u _ => u = (.int .u32 (wI x)), fun u _ => u = (.int .i64 b), fun u _ => u = (.int .i64 (-(b : Int))), fun u _ => u = (.int .u32 (wI (rotr x b))), fun u _ => u = (.int .u32 (wI (rotr x a ^^^ rotr x b))), fun u _ => u = (.int .u32 (wI x)), fun u _ => u = (.int .i64 c), fun u _ => u = (.int .u32 (wI (x >>> c))), fun u _ => u = (.int .u32 (wI (rotr x a ^^^ rotr x b ^^^ x >>> c)))]) rfl (by kernel_rfl) (by kernel_rfl) (mono_of ⟨mono_eq, mono_eq, mono_eq, mono_eq, mono_eq, mono_eq, mono_eq, mono_eq, mono_eq, mono_eq, mono_eq, mono_eq, mono_eq, trivial⟩) (steps_of 13 ⟨?s0, ?s1, ?s2, ?s3, ?s4, ?s5, ?s6, ?s7, ?s8, ?s9, ?s10, ?s11, ?s12, trivial⟩) ?_
  case s0 =>
    refine step_val (v := (.int .u32 (wI x))) (fun av wv hE hS hO hD => ?_) (fun _ => rfl)
    have h0 : av.eval (.tmp 0) = (.int .u32 (wI x)) := hO.2.2 0 rfl
    have f0 := (ev_form av 0).symm.trans h0
    refine ⟨rfl, ?_⟩
    simp [go_sem, f0, na, nb, bv_xor, bv_shrm, sc]
  case s1 =>
    refine step_val (v := (.int .i64 a)) (fun av wv hE hS hO hD => ?_) (fun _ => rfl)
    have h1 : av.eval (.tmp 1) = (.int .i64 a) := hO.2.2 1 rfl
    have f1 := (ev_form av 1).symm.trans h1
    refine ⟨rfl, ?_⟩
    simp [go_sem, f1, na, nb, bv_xor, bv_shrm, sc]
  case s2 =>
    refine step_val (v := (.int .i64 (-(a : Int)))) (fun av wv hE hS hO hD => ?_) (fun _ => rfl)
    have d10 : av.eval (.tmp 10) = (.int .i64 a) := hD.1 rfl _ rfl
    have f10 := (ev_form av 10).symm.trans d10
    refine ⟨rfl, ?_⟩
    simp [go_sem, f10, na, nb, bv_xor, bv_shrm, sc]
  case s3 =>
    refine step_wp (fun av wv hE hS hO hD => ?_)
    have d9 : av.eval (.tmp 9) = (.int .u32 (wI x)) := hD.1 rfl _ rfl
    have f9 := (ev_form av 9).symm.trans d9
    have d11 : av.eval (.tmp 11) = (.int .i64 (-(a : Int))) := hD.2.1 rfl _ rfl
    have f11 := (ev_form av 11).symm.trans d11
    refine ⟨rfl, ?_⟩
    refine wp_of_call (v := .int .u32 (wI (rotr x a))) (by simp [go_sem, f9, f11]) ((HA.out wv).mono (fun e w2 ⟨h1, h2⟩ => ⟨h1, by rw [h2]; exact Below.refl _ _⟩)) (fun w2 hb => ⟨_, rfl, es_of_ext hb, rfl⟩)
  case s4 =>
    refine step_val (v := (.int .u32 (wI x))) (fun av wv hE hS hO hD => ?_) (fun _ => rfl)
    have h0 : av.eval (.tmp 0) = (.int .u32 (wI x)) := hO.2.2 0 rfl
    have f0 := (ev_form av 0).symm.trans h0
    refine ⟨rfl, ?_⟩
    simp [go_sem, f0, na, nb, bv_xor, bv_shrm, sc]
  case s5 =>
    refine step_val (v := (.int .i64 b)) (fun av wv hE hS hO hD => ?_) (fun _ => rfl)
    have h2 : av.eval (.tmp 2) = (.int .i64 b) := hO.2.2 2 rfl
    have f2 := (ev_form av 2).symm.trans h2
    refine ⟨rfl, ?_⟩
    simp [go_sem, f2, na, nb, bv_xor, bv_shrm, sc]
  case s6 =>
    refine step_val (v := (.int .i64 (-(b : Int)))) (fun av wv hE hS hO hD => ?_) (fun _ => rfl)
    have d14 : av.eval (.tmp 14) = (.int .i64 b) := hD.1 rfl _ rfl
    have f14 := (ev_form av 14).symm.trans d14
    refine ⟨rfl, ?_⟩
    simp [go_sem, f14, na, nb, bv_xor, bv_shrm, sc]
  case s7 =>
    refine step_wp (fun av wv hE hS hO hD => ?_)
    have d13 : av.eval (.tmp 13) = (.int .u32 (wI x)) := hD.1 rfl _ rfl
    have f13 := (ev_form av 13).symm.trans d13
    have d15 : av.eval (.tmp 15) = (.int .i64 (-(b : Int))) := hD.2.1 rfl _ rfl
    have f15 := (ev_form av 15).symm.trans d15
    refine ⟨rfl, ?_⟩
    refine wp_of_call (v := .int .u32 (wI (rotr x b))) (by simp [go_sem, f13, f15]) ((HB.out wv).mono (fun e w2 ⟨h1, h2⟩ => ⟨h1, by rw [h2]; exact Below.refl _ _⟩)) (fun w2 hb => ⟨_, rfl, es_of_ext hb, rfl⟩)
  case s8 =>
    refine step_val (v := (.int .u32 (wI (rotr x a ^^^ rotr x b)))) (fun av wv hE hS hO hD => ?_) (fun _ => rfl)
    have d12 : av.eval (.tmp 12) = (.int .u32 (wI (rotr x a))) := hD.1 rfl _ rfl
    have f12 := (ev_form av 12).symm.trans d12
    have d16 : av.eval (.tmp 16) = (.int .u32 (wI (rotr x b))) := hD.2.1 rfl _ rfl
    have f16 := (ev_form av 16).symm.trans d16
    refine ⟨rfl, ?_⟩
    simp [go_sem, f12, f16, na, nb, bv_xor, bv_shrm, sc]
  case s9 =>
    refine step_val (v := (.int .u32 (wI x))) (fun av wv hE hS hO hD => ?_) (fun _ => rfl)
    have h0 : av.eval (.tmp 0) = (.int .u32 (wI x)) := hO.2.2 0 rfl
    have f0 := (ev_form av 0).symm.trans h0
    refine ⟨rfl, ?_⟩
    simp [go_sem, f0, na, nb, bv_xor, bv_shrm, sc]
  case s10 =>
    refine step_val (v := (.int .i64 c)) (fun av wv hE hS hO hD => ?_) (fun _ => rfl)
    have h3 : av.eval (.tmp 3) = (.int .i64 c) := hO.2.2 3 rfl
    have f3 := (ev_form av 3).symm.trans h3
    refine ⟨rfl, ?_⟩
    simp [go_sem, f3, na, nb, bv_xor, bv_shrm, sc]
  case s11 =>
    refine step_val (v := (.int .u32 (wI (x >>> c)))) (fun av wv hE hS hO hD => ?_) (fun _ => rfl)
    have d18 : av.eval (.tmp 18) = (.int .u32 (wI x)) := hD.1 rfl _ rfl
    have f18 := (ev_form av 18).symm.trans d18
    have d19 : av.eval (.tmp 19) = (.int .i64 c) := hD.2.1 rfl _ rfl
    have f19 := (ev_form av 19).symm.trans d19
    refine ⟨rfl, ?_⟩
    simp [go_sem, f18, f19, na, nb, bv_xor, bv_shrm, sc]
  case s12 =>
    refine step_val (v := (.int .u32 (wI (rotr x a ^^^ rotr x b ^^^ x >>> c)))) (fun av wv hE hS hO hD => ?_) (fun _ => rfl)
    have d17 : av.eval (.tmp 17) = (.int .u32 (wI (rotr x a ^^^ rotr x b))) := hD.1 rfl _ rfl
    have f17 := (ev_form av 17).symm.trans d17
    have d20 : av.eval (.tmp 20) = (.int .u32 (wI (x >>> c))) := hD.2.1 rfl _ rfl
    have f20 := (ev_form av 20).symm.trans d20
    refine ⟨rfl, ?_⟩
    simp [go_sem, f17, f20, na, nb, bv_xor, bv_shrm, sc]
  intro a' w' hE hO hall
  have hA := act_of_outer (ds := [9, 10, 11, 12, 13, 14, 15, 16, 17, 18, 19, 20, 21]) rfl hO (by kernel_rfl)
  have e9 : (fun u _ => u = (.int .u32 (wI x))) (a'.eval (.tmp 9)) w' := hall.1 _ rfl
  have e10 : (fun u _ => u = (.int .i64 a)) (a'.eval (.tmp 10)) w' := hall.2.1 _ rfl
  have e11 : (fun u _ => u = (.int .i64 (-(a : Int)))) (a'.eval (.tmp 11)) w' := hall.2.2.1 _ rfl
  have e12 : (fun u _ => u = (.int .u32 (wI (rotr x a)))) (a'.eval (.tmp 12)) w' := hall.2.2.2.1 _ rfl
  have e13 : (fun u _ => u = (.int .u32 (wI x))) (a'.eval (.tmp 13)) w' := hall.2.2.2.2.1 _ rfl
  have e14 : (fun u _ => u = (.int .i64 b)) (a'.eval (.tmp 14)) w' := hall.2.2.2.2.2.1 _ rfl
  have e15 : (fun u _ => u = (.int .i64 (-(b : Int)))) (a'.eval (.tmp 15)) w' := hall.2.2.2.2.2.2.1 _ rfl
  have e16 : (fun u _ => u = (.int .u32 (wI (rotr x b)))) (a'.eval (.tmp 16)) w' := hall.2.2.2.2.2.2.2.1 _ rfl
  have e17 : (fun u _ => u = (.int .u32 (wI (rotr x a ^^^ rotr x b)))) (a'.eval (.tmp 17)) w' := hall.2.2.2.2.2.2.2.2.1 _ rfl
  have e18 : (fun u _ => u = (.int .u32 (wI x))) (a'.eval (.tmp 18)) w' := hall.2.2.2.2.2.2.2.2.2.1 _ rfl
  have e19 : (fun u _ => u = (.int .i64 c)) (a'.eval (.tmp 19)) w' := hall.2.2.2.2.2.2.2.2.2.2.1 _ rfl
  have e20 : (fun u _ => u = (.int .u32 (wI (x >>> c)))) (a'.eval (.tmp 20)) w' := hall.2.2.2.2.2.2.2.2.2.2.2.1 _ rfl
  have e21 : (fun u _ => u = (.int .u32 (wI (rotr x a ^^^ rotr x b ^^^ x >>> c)))) (a'.eval (.tmp 21)) w' := hall.2.2.2.2.2.2.2.2.2.2.2.2.1 _ rfl
  simp only [List.foldl_cons, List.foldl_nil, Act.put, List.setIfInBounds_toArray, List.set_cons_succ, List.set_cons_zero, e9, e10, e11, e12, e13, e14, e15, e16, e17, e18, e19, e20, e21] at hA
  clear hO hall e9 e10 e11 e12 e13 e14 e15 e16 e17 e18 e19 e20 e21
  subst hA
  clear na nb sc
  go_wp2
  go_ret
  exact ⟨rfl, of_drew hE⟩
def turnW (x : W32) (l : List Nat) : W32 := l.foldl (fun y n => y ^^^ rotr x n) 0
theorem turnW_snoc (x : W32) (l : List Nat) (m : Nat) (h : m < l.length) : turnW x (l.take (m + 1)) = turnW x (l.take m) ^^^ rotr x l[m] := by
  unfold turnW
  rw [List.take_succ_eq_append_getElem h, List.foldl_append]
  rfl
theorem turnW_t1 (e : W32) : turnW e [6, 11, 25] = t1W e := by unfold turnW t1W; simp
theorem turnW_t0 (a : W32) : turnW a [2, 13, 22] = t0W a := by unfold turnW t0W; simp
def nat0 (l : List Nat) (i : Nat) : Nat := l.getD i 1
theorem nat0_eq (l : List Nat) (i : Nat) (h : i < l.length) : nat0 l i = l[i] := by unfold nat0; rw [List.getD_eq_getElem?_getD, List.getElem?_eq_getElem h]; rfl
set_option maxRecDepth 100000 in
theorem turn_any (x : W32) (l : List Nat) (b c : Nat) (w : World) (hl : len l ≤ 100) (hn : ∀ i, i < len l → 1 ≤ nat0 l i ∧ nat0 l i ≤ 31) (hc : ∀ i, i < len l → w.cell? ⟨b, i, none⟩ = some (.int .i64 (nat0 l i : Nat))) : Calls Tryz.prog 272 #[.int .u32 (wI x), .slice (some ⟨b, 0, none⟩) (len l) c] w fun e w' => e = .returned (.int .u32 (wI (turnW x l))) ∧ w' = w := by
  have HC := Lib.hid hc
  have HN := Lib.hid hn
  clear hc hn
  go_enter Tryz.func272, Tryz.ntmps272
  go_wp2
  go_loopg [4, 6, 9] (len l) (fun g y _ i wr => ∃ m : Nat, g + m = len l ∧ y = .int .u32 (wI (turnW x (l.take m))) ∧ i = .int .i64 m ∧ wr = w)
  case atStart => exact ⟨0, rfl, rfl, rfl, rfl⟩
  case round =>
    obtain ⟨m, hm, rfl, rfl, rfl⟩ := hrel
    by_cases hlt : m < len l
    · have i1 : (m : Int) < len l := by omega
      have c0 := HC.out m hlt
      have hb := HN.out m hlt
      have hlt' : m < l.length := hlt
      have HS : Hid (turnW x (l.take (m + 1)) = turnW x (l.take m) ^^^ rotr x (nat0 l m)) := Lib.hid (by rw [turnW_snoc x l m hlt', nat0_eq l m hlt'])
      generalize nat0 l m = n at c0 hb HS
      have na : IntKind.i64.wrap (-(n : Int)) = -(n : Int) := IntWalk.i64_in _ (by omega)
      have HR := Lib.hid (fun w' => rotl_any x n w' hb.1 hb.2)
      clear hlt' hb
      go_wp2_with fail
      refine (HR.out wr).mono ?_
      rintro e w2 ⟨rfl, rfl⟩
      generalize turnW x (l.take m) = y at HS ⊢
      clear c0 na HR
      go_wp2
      rw [bv_xor, ← HS.out]
      go_roundg (len l - (m + 1))
      case rel => exact ⟨m + 1, by omega, rfl, by go_num, rfl⟩
      case measure => omega
    · obtain rfl : m = len l := by omega
      have i1 : ¬ ((len l : Nat) : Int) < (len l : Nat) := by omega
      have e : l.take (len l) = l := List.take_length
      rw [e]
      clear e
      go_wp2
      go_ret
      exact ⟨rfl, rfl⟩
end Go.Proofs.YtpobhbdomldecaaGreatDoor
namespace Go.Proofs.YtpobhbdomldecaaGreatDoor
open Go.RowKit
set_option linter.unusedSimpArgs false
set_option linter.unusedVariables false
abbrev wV (x : W32) : Value := .int .u32 (wI x)
def bW (b : UInt8) : W32 := BitVec.ofNat 32 b.toNat
abbrev bV (b : UInt8) : Value := .int .u8 (wI (bW b))
theorem wI_bW (b : UInt8) : wI (bW b) = (b.toNat : Int) := by
  have := b.toNat_lt
  simp [wI, bW, BitVec.toNat_ofNat]
theorem wI_wrap (x : W32) : IntKind.u32.wrap (wI x) = wI x := by
  have := x.isLt
  rw [IntKind.wrap_u32']; unfold wI; omega
theorem wI_mod (x : W32) : wI x % 4294967296 = wI x := by
  have := x.isLt
  unfold wI; omega
theorem bv_shl24 (x : W32) : IntKind.u32.wrap (wI x * 16777216) = wI (x <<< 24) := bv_shl x 24
theorem bv_shl16 (x : W32) : IntKind.u32.wrap (wI x * 65536) = wI (x <<< 16) := bv_shl x 16
theorem bv_shl8 (x : W32) : IntKind.u32.wrap (wI x * 256) = wI (x <<< 8) := bv_shl x 8
def wsC (L : List W32) : Array Value := (L.map wV).toArray
theorem wsC_at (L : List W32) (i : Nat) (h : i < L.length) : (wsC L)[i]? = some (wV (wth L i)) := by
  unfold wsC
  rw [wth_eq L i h]
  simp [h]
theorem wsC_set (L : List W32) (i : Nat) (x : W32) : (wsC L).setIfInBounds i (wV x) = wsC (L.set i x) := by
  unfold wsC
  simp [List.map_set]
def zeroW : List W32 := List.replicate 64 0
set_option maxRecDepth 100000 in
set_option maxHeartbeats 4000000 in
theorem consts_any (w : World) : Calls Tryz.prog 273 #[] w fun e w' => e = .returned (.agg (wsC kW)) ∧ Below w.heap.size w w' := by
  go_enter Tryz.func273, Tryz.ntmps273
  go_upto_region 1 with fail
  obtain ⟨b, hb⟩ : ∃ b, w.heap.size = b := ⟨_, rfl⟩
  show Code.wp _ _ _ _ (w.alloc (.cells (wsC zeroW) 294))
  obtain ⟨V, hV⟩ : ∃ V, w.alloc (.cells (wsC zeroW) 294) = V := ⟨_, rfl⟩
  have HV : Hid (V.heap[b]? = some (.cells (wsC zeroW) 294 (0, 0))) := Lib.hid (by rw [← hV, ← hb]; exact heap_alloc_new _ _)
  have HS : Hid (Below w.heap.size w V) := Lib.hid (by rw [← hV]; exact balloc (Below.refl _ _) _)
  have HBW : Hid (w.heap.size ≤ b) := Lib.hid (Nat.le_of_eq hb)
  rw [hV, hb]
  clear hV hb
  apply wp_region_lit
  refine wpList_build rfl 294 _ rfl (by as_aux_lemma => kernel_rfl) ?_
  refine wpList_store_row rfl 294 _ _ rfl b (wsC kW) rfl (by as_aux_lemma => kernel_rfl) 294 (wsC zeroW) HV.out (by as_aux_lemma => kernel_rfl) (by as_aux_lemma => kernel_rfl) (by as_aux_lemma => kernel_rfl) ?_
  apply wpList_nil
  obtain ⟨U, hU⟩ : ∃ U, V.setRow b (wsC kW) = U := ⟨_, rfl⟩
  have HU : Hid (U.heap[b]? = some (.cells (wsC kW) 294 (0, 0))) := Lib.hid (by rw [← hU]; exact setRow_heap V b _ _ _ _ HV.out)
  have HUB : Hid (Below w.heap.size w U) := Lib.hid (by
    rw [← hU]
    exact ⟨HS.out.os, HS.out.tape, HS.out.output, by rw [setRow_size]; exact HS.out.size, fun i hi => by rw [setRow_other _ _ _ _ (show i ≠ b by have := HBW.out; omega)]; exact HS.out.block i hi⟩)
  rw [hU]
  rename_i Q' K hK
  refine hK _ _ ?_
  apply wp_ret
  refine bodyPost_ret (v := .agg (wsC kW)) ?_ rfl ?_
  · exact results_cell_row rfl _ _ b 294 (wsC kW) (0, 0) _ rfl HU.out rfl rfl (by as_aux_lemma => kernel_rfl)
  · exact ⟨rfl, HUB.out⟩
theorem index_k (t : Nat) (h : t < 64) (w : World) : (Instr.index 294 (.agg (wsC kW)) (.int .i64 (t : Int))).run Tryz.prog w = .ok (.int .u32 (wI (wth kW t))) w := by
  have hk : (wsC kW)[t]? = some (wV (wth kW t)) := wsC_at kW t h
  have hs : (wsC kW).size = 64 := rfl
  generalize wsC kW = KC at hk hs
  have b : ¬ (64 : Int) ≤ (t : Int) := by omega
  have b2 : ¬ (t : Int) < 0 := by omega
  unfold Instr.index
  simp [go_sem, hk, hs, b, b2]
  intro h9
  omega
end Go.Proofs.YtpobhbdomldecaaGreatDoor
