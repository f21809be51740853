/- Parts of the proof, one behind the other. -/
import Derived.Test.YtloccahcnikbfaaGreatMprP3
import Derived.Sort.AssemblyPlain
import Derived.Sort.LotC
import Derived.RangeFuncKeeps
import Derived.RangeFuncFrom
import Derived.Laws.EntriesVeiled
import Derived.Laws.AppendOwnNone
import Derived.BigQuiet
namespace Go.Proofs.YtloccahcnikbfaaGreat
set_option linter.unusedSimpArgs false
set_option linter.unusedVariables false
open Go.RowKit Go.Sort
theorem Hid.mk' {p : Prop} (h : p) : Hid p := h
section
variable {α : Type} [Inhabited α] (lt : α → α → Bool)
theorem part_break (a i j : Nat) (dk : Array α) {i2 j2 : Nat} (hi2 : i2 = scanUp (fun x => lt x dk[a]!) dk j i) (hj2 : j2 = scanDown (fun x => !lt x dk[a]!) dk i2 j) (h : j2 < i2) : partLoop lt a i j dk = (j2, dk) := by
  subst hi2; subst hj2
  rw [partLoop_eq, if_pos h]
theorem part_go (a i j : Nat) (dk : Array α) {i2 j2 : Nat} (hi2 : i2 = scanUp (fun x => lt x dk[a]!) dk j i) (hj2 : j2 = scanDown (fun x => !lt x dk[a]!) dk i2 j) (h : ¬ i2 > j2) : partLoop lt a i j dk = partLoop lt a (i2 + 1) (j2 - 1) (swp dk i2 j2) := by
  subst hi2; subst hj2
  rw [partLoop_eq, if_neg h]
theorem part_scans_lt (a i j : Nat) (dk : Array α) (h0 : 0 < i) {i2 j2 : Nat} (hi2 : i2 = scanUp (fun x => lt x dk[a]!) dk j i) (hj2 : j2 = scanDown (fun x => !lt x dk[a]!) dk i2 j) (h : i2 ≤ j2) : i2 < j2 := by
  subst hi2; subst hj2
  obtain ⟨u1, _, _, u4⟩ := scanUp_spec (fun x => lt x dk[a]!) dk j _ i rfl
  obtain ⟨v1, _, _, v4⟩ := scanDown_spec (fun x => !lt x dk[a]!) dk (scanUp (fun x => lt x dk[a]!) dk j i) j
  rcases Nat.lt_or_ge (scanUp (fun x => lt x dk[a]!) dk j i) (scanDown (fun x => !lt x dk[a]!) dk (scanUp (fun x => lt x dk[a]!) dk j i) j) with h' | h'
  · exact h'
  · have e : scanDown (fun x => !lt x dk[a]!) dk (scanUp (fun x => lt x dk[a]!) dk j i) j = scanUp (fun x => lt x dk[a]!) dk j i := by omega
    have f1 := u4 (by omega)
    have f2 := v4 h (by omega)
    rw [e] at f2
    simp only [f1] at f2
    cases f2
theorem part_first_break (d : Array α) (a b pivot : Nat) {i j : Nat} {dk : Array α} {i2 j2 : Nat} (hi : i = a + 1) (hj : j = b - 1) (hdk : dk = swp d a pivot) (hi2 : i2 = scanUp (fun x => lt x dk[a]!) dk j i) (hj2 : j2 = scanDown (fun x => !lt x dk[a]!) dk i2 j) (h : j2 < i2) :
    partition lt d a b pivot = (j2, true, swp dk j2 a) := by
  subst hi; subst hj; subst hdk; subst hi2; subst hj2
  unfold partition
  simp only []
  rw [if_pos h]
theorem part_first_go (d : Array α) (a b pivot : Nat) {i j : Nat} {dk : Array α} {i2 j2 : Nat} (hi : i = a + 1) (hj : j = b - 1) (hdk : dk = swp d a pivot) (hi2 : i2 = scanUp (fun x => lt x dk[a]!) dk j i) (hj2 : j2 = scanDown (fun x => !lt x dk[a]!) dk i2 j) (h : ¬ i2 > j2) :
    partition lt d a b pivot = ((partLoop lt a (i2 + 1) (j2 - 1) (swp dk i2 j2)).1, false, swp (partLoop lt a (i2 + 1) (j2 - 1) (swp dk i2 j2)).2 (partLoop lt a (i2 + 1) (j2 - 1) (swp dk i2 j2)).1 a) := by
  subst hi; subst hj; subst hdk; subst hi2; subst hj2
  unfold partition
  simp only []
  rw [if_neg h]
end
set_option maxHeartbeats 12800000 in
set_option maxRecDepth 100000 in
theorem so_partition_int (blk off cap a b pivot : Nat) (d : Array Int) (w : World) (hH : Holds (Value.int .u64) w blk off d) (hap : a ≤ pivot) (hpb : pivot < b) (hb : b ≤ d.size) (hsz : d.size < 4611686018427387904) :
    Calls Tryz.prog 95 #[.slice (some ⟨blk, off, none⟩) d.size cap, .int .i64 a, .int .i64 b, .int .i64 pivot] w fun e w' =>
      e = .returned (.tuple #[.int .i64 (Sort.partition Sort.ltInt d a b pivot).1, .bool (Sort.partition Sort.ltInt d a b pivot).2.1]) ∧ ∃ n, w' = (putRow (Value.int .u64) w blk off (Sort.partition Sort.ltInt d a b pivot).2.2).drewN n := by
  have hla : a < d.size := by omega
  have hlp : pivot < d.size := by omega
  obtain ⟨G, hG⟩ : ∃ G : Nat → Int, ∀ j, G j = d[j]! := ⟨fun j => d[j]!, fun _ => rfl⟩
  have ca : w.cell? ⟨blk, off + a, none⟩ = some (.int .u64 (G a)) := by rw [hG]; exact (hH a hla).1
  have fa := (hH a hla).2
  have cp : w.cell? ⟨blk, off + pivot, none⟩ = some (.int .u64 (G pivot)) := by rw [hG]; exact (hH pivot hlp).1
  have fp := (hH pivot hlp).2
  obtain ⟨v', hy'⟩ := cell?_setCell_some (w := w) (p := ⟨blk, off + a, none⟩) (x := .int .u64 (G pivot)) (q := ⟨blk, off + pivot, none⟩) cp
  have hw : ((w.setCell ⟨blk, off + a, none⟩ (.int .u64 (G pivot))).setCell ⟨blk, off + pivot, none⟩ (.int .u64 (G a))).drew = (putRow (Value.int .u64) w blk off (Sort.swp d a pivot)).drewN 1 := by
    have e := swap_worldC (Value.int .u64) w blk off d 0 a pivot hla hlp
    rw [putRow_self _ w blk off d hH] at e
    rw [hG a, hG pivot]
    exact e
  have AH : Hid (Holds (Value.int .u64) w blk off d) := hH
  have HW0 := Hid.mk' hw
  clear hG hH hw
  go_enter Tryz.func95, Tryz.ntmps95
  go_wp2
  go_region
  go_wp2
  clear ca fa cp fp hy' v'
  have hw := HW0.out
  clear HW0
  generalize ((w.setCell ⟨blk, off + a, none⟩ (.int .u64 (G pivot))).setCell ⟨blk, off + pivot, none⟩ (.int .u64 (G a))).drew = W1 at hw ⊢
  obtain ⟨dk, hdk⟩ : ∃ dk, dk = Sort.swp d a pivot := ⟨_, rfl⟩
  obtain ⟨n, hn⟩ : ∃ n : Nat, n = 1 := ⟨_, rfl⟩
  rw [← hdk, ← hn] at hw
  clear hn
  have hs : dk.size = d.size := by rw [hdk, size_swp]
  have e1 : ((a : Int) + 1) = ((a + 1 : Nat) : Int) := by omega
  have e2 : ((b : Int) - 1) = ((b - 1 : Nat) : Int) := by omega
  rw [e1, e2]
  clear e1 e2
  obtain ⟨i, hi⟩ : ∃ i, i = a + 1 := ⟨_, rfl⟩
  obtain ⟨j, hj⟩ : ∃ j, j = b - 1 := ⟨_, rfl⟩
  rw [← hi, ← hj]
  have hai : a < i := by omega
  have hij : i ≤ j + 1 := by omega
  have hjb : j < b := by omega
  have HI := Hid.mk' hi
  have HJ := Hid.mk' hj
  have HDK := Hid.mk' hdk
  clear hi hj hdk
  have hHk : Holds (Value.int .u64) W1 blk off dk := by
    rw [hw]
    exact holds_putRow (Value.int .u64) w blk off d dk AH.out hs
  obtain ⟨Gk, hG⟩ : ∃ Gk : Nat → Int, ∀ t, Gk t = dk[t]! := ⟨fun t => dk[t]!, fun _ => rfl⟩
  have hc : ∀ t, t < d.size → W1.cell? ⟨blk, off + t, none⟩ = some (.int .u64 (Gk t)) := fun t ht => by rw [hG]; exact (hHk t (by omega)).1
  have hf : ∀ t, t < d.size → W1.frozen? ⟨blk, off + t, none⟩ = false := fun t ht => (hHk t (by omega)).2
  have AG : Hid (∀ t, Gk t = dk[t]!) := hG
  have AW : Hid (W1 = (putRow (Value.int .u64) w blk off dk).drewN n) := hw
  clear hG hw hHk
  go_loopw [10] (fun vi w1 => ∃ (i' n1 : Nat), vi = .int .i64 i' ∧ i ≤ i' ∧ i' ≤ j + 1 ∧ w1 = W1.drewN n1 ∧
      Hid (Sort.scanUp (fun x => Sort.ltInt x dk[a]!) dk j i' = Sort.scanUp (fun x => Sort.ltInt x dk[a]!) dk j i))
    (fun vi _ => j + 1 - (intOf vi).toNat)
  case atStart => exact ⟨i, 0, rfl, Nat.le_refl _, hij, rfl, rfl⟩
  case round =>
    obtain ⟨i', n1, rfl, hii, hij', hw1, hsc⟩ := hrel
    have hcw : ∀ t, t < d.size → wr.cell? ⟨blk, off + t, none⟩ = some (.int .u64 (Gk t)) := fun t ht => by rw [hw1]; exact hc t ht
    have HW1 : Hid (wr = W1.drewN n1) := hw1
    clear hw1
    by_cases hle : i' ≤ j
    · go_wp2_with fail
      go_big_quiet (first | (go_at_call 93; refine Calls.quiet_of_same (less_any _ _ _)))
      go_wp2
      · -- it goes on: i++
        have ht : Sort.ltInt (Gk i') (Gk a) = true := by assumption
        go_roundw
        case rel => exact ⟨i' + 1, n1 + nq, by go_num, by omega, by omega, by rw [HW1.out, World.drewN_drewN], (scanUp_go (fun x => Sort.ltInt x dk[a]!) dk j i' hle (by rw [← AG.out a, ← AG.out i']; exact ht)).symm.trans hsc.out⟩
        case measure => simp [intOf]; omega
      · -- it stops: the test has failed
        have ht : Sort.ltInt (Gk i') (Gk a) = false := by assumption
        have hi2 : Hid (i' = Sort.scanUp (fun x => Sort.ltInt x dk[a]!) dk j i) := (scanUp_end (fun x => Sort.ltInt x dk[a]!) dk j i' (Or.inr (by rw [← AG.out a, ← AG.out i']; exact ht))).symm.trans hsc.out
        clear ht
        have hw2 : wr.drewN nq = W1.drewN (n1 + nq) := by rw [HW1.out, World.drewN_drewN]
        clear hcw HW1 hsc
        go_loopw [11] (fun vj w2 => ∃ (j' n2 : Nat), vj = .int .i64 j' ∧ j' ≤ j ∧ i' ≤ j' + 1 ∧ w2 = W1.drewN n2 ∧
            Hid (Sort.scanDown (fun x => !Sort.ltInt x dk[a]!) dk i' j' = Sort.scanDown (fun x => !Sort.ltInt x dk[a]!) dk i' j))
          (fun vj _ => (intOf vj).toNat)
        case atStart => exact ⟨j, n1 + nq, rfl, Nat.le_refl _, hij', hw2, rfl⟩
        case round =>
          clear hw2
          obtain ⟨j', n2, rfl, hjj, hij2, hw2, hsd⟩ := hrel
          have hcw : ∀ t, t < d.size → wr.cell? ⟨blk, off + t, none⟩ = some (.int .u64 (Gk t)) := fun t ht => by rw [hw2]; exact hc t ht
          have HW2 : Hid (wr = W1.drewN n2) := hw2
          clear hw2
          by_cases hle2 : i' ≤ j'
          · go_wp2_with fail
            go_big_quiet (first | (go_at_call 93; refine Calls.quiet_of_same (less_any _ _ _)))
            go_wp2
            · -- it goes on: j--
              have ht : (!Sort.ltInt (Gk j') (Gk a)) = true := by assumption
              go_roundw
              case rel => exact ⟨j' - 1, n2 + nq, by go_num, by omega, by omega, by rw [HW2.out, World.drewN_drewN], (scanDown_go (fun x => !Sort.ltInt x dk[a]!) dk i' j' hle2 (by omega) (by rw [← AG.out a, ← AG.out j']; exact ht)).symm.trans hsd.out⟩
              case measure => simp [intOf]; omega
            · -- it stops: the test has failed
              have ht : (!Sort.ltInt (Gk j') (Gk a)) = false := by assumption
              have hj2 : Hid (j' = Sort.scanDown (fun x => !Sort.ltInt x dk[a]!) dk i' j) := (scanDown_end (fun x => !Sort.ltInt x dk[a]!) dk i' j' (Or.inr (by rw [← AG.out a, ← AG.out j']; exact ht))).symm.trans hsd.out
              clear hcw hsd ht
              have hw3 : wr.drewN nq = W1.drewN (n2 + nq) := by rw [HW2.out, World.drewN_drewN]
              generalize wr.drewN nq = W3 at hw3 ⊢
              have hc3 : ∀ t, t < d.size → W3.cell? ⟨blk, off + t, none⟩ = some (.int .u64 (Gk t)) := fun t ht => by rw [hw3]; exact hc t ht
              have hf3 : ∀ t, t < d.size → W3.frozen? ⟨blk, off + t, none⟩ = false := fun t ht => by rw [hw3]; exact hf t ht
              have HW3 : Hid (W3 = W1.drewN (n2 + nq)) := hw3
              clear hw3
              obtain ⟨v3, hy3⟩ := cell?_setCell_some (w := W3) (p := ⟨blk, off + i', none⟩) (x := .int .u64 (Gk j')) (q := ⟨blk, off + j', none⟩) (hc3 j' (by omega))
              have hlt3 := part_scans_lt Sort.ltInt a i j dk (by omega) hi2.out hj2.out hle2
              go_wp2
              go_region
              all_goals go_wp2
              obtain ⟨R, hR⟩ : ∃ R, R = Sort.partLoop Sort.ltInt a (i' + 1) (j' - 1) (Sort.swp dk i' j') := ⟨_, rfl⟩
              have HP : Hid (Sort.partition Sort.ltInt d a b pivot = (R.1, false, Sort.swp R.2 R.1 a)) := by rw [hR]; exact part_first_go Sort.ltInt d a b pivot HI.out HJ.out HDK.out hi2.out hj2.out (by omega)
              have hw0 : ((W3.setCell ⟨blk, off + i', none⟩ (.int .u64 (Gk j'))).setCell ⟨blk, off + j', none⟩ (.int .u64 (Gk i'))).drew = (putRow (Value.int .u64) w blk off (Sort.swp dk i' j')).drewN (n + (n2 + nq) + 1) := by
                rw [HW3.out, AW.out, World.drewN_drewN, AG.out i', AG.out j']
                exact swap_worldC (Value.int .u64) w blk off dk _ i' j' (by omega) (by omega)
              have HR : Hid (R = Sort.partLoop Sort.ltInt a (i' + 1) (j' - 1) (Sort.swp dk i' j')) := hR
              clear hR hc hf hc3 hf3 hy3 HW3 AW AG hi2 hj2
              go_loopw [10, 11] (fun vi vj wr => ∃ (i j n : Nat) (dk : Array Int), vi = .int .i64 i ∧ vj = .int .i64 j ∧ a < i ∧ i ≤ j + 1 ∧ j < b ∧ dk.size = d.size ∧ wr = (putRow (Value.int .u64) w blk off dk).drewN n ∧
                  Sort.partLoop Sort.ltInt a i j dk = R)
                (fun vi vj _ => (intOf vj).toNat + 1 - (intOf vi).toNat)
              case atStart => exact ⟨i' + 1, j' - 1, _, Sort.swp dk i' j', by go_num, by go_num, by omega, by omega, by omega, by rw [size_swp]; exact hs, hw0, HR.out.symm⟩
              case round =>
                clear hw0 HR
                obtain ⟨i, j, n, dk, rfl, rfl, hai, hij, hjb, hs, hw, heq⟩ := hrel
                rename World => W1
                have AE : Hid (Sort.partLoop Sort.ltInt a i j dk = R) := heq
                clear heq
                have hHk : Holds (Value.int .u64) W1 blk off dk := by
                  rw [hw]
                  exact holds_putRow (Value.int .u64) w blk off d dk AH.out hs
                obtain ⟨Gk, hG⟩ : ∃ Gk : Nat → Int, ∀ t, Gk t = dk[t]! := ⟨fun t => dk[t]!, fun _ => rfl⟩
                have hc : ∀ t, t < d.size → W1.cell? ⟨blk, off + t, none⟩ = some (.int .u64 (Gk t)) := fun t ht => by rw [hG]; exact (hHk t (by omega)).1
                have hf : ∀ t, t < d.size → W1.frozen? ⟨blk, off + t, none⟩ = false := fun t ht => (hHk t (by omega)).2
                have AG : Hid (∀ t, Gk t = dk[t]!) := hG
                have AW : Hid (W1 = (putRow (Value.int .u64) w blk off dk).drewN n) := hw
                clear hG hw hHk
                go_wp2
                go_loopw [10] (fun vi w1 => ∃ (i' n1 : Nat), vi = .int .i64 i' ∧ i ≤ i' ∧ i' ≤ j + 1 ∧ w1 = W1.drewN n1 ∧
                    Hid (Sort.scanUp (fun x => Sort.ltInt x dk[a]!) dk j i' = Sort.scanUp (fun x => Sort.ltInt x dk[a]!) dk j i))
                  (fun vi _ => j + 1 - (intOf vi).toNat)
                case atStart => exact ⟨i, 0, rfl, Nat.le_refl _, hij, rfl, rfl⟩
                case round =>
                  obtain ⟨i', n1, rfl, hii, hij', hw1, hsc⟩ := hrel
                  have hcw : ∀ t, t < d.size → wr.cell? ⟨blk, off + t, none⟩ = some (.int .u64 (Gk t)) := fun t ht => by rw [hw1]; exact hc t ht
                  have HW1 : Hid (wr = W1.drewN n1) := hw1
                  clear hw1
                  by_cases hle : i' ≤ j
                  · go_wp2_with fail
                    go_big_quiet (first | (go_at_call 93; refine Calls.quiet_of_same (less_any _ _ _)))
                    go_wp2
                    · -- it goes on: i++
                      have ht : Sort.ltInt (Gk i') (Gk a) = true := by assumption
                      go_roundw
                      case rel => exact ⟨i' + 1, n1 + nq, by go_num, by omega, by omega, by rw [HW1.out, World.drewN_drewN], (scanUp_go (fun x => Sort.ltInt x dk[a]!) dk j i' hle (by rw [← AG.out a, ← AG.out i']; exact ht)).symm.trans hsc.out⟩
                      case measure => simp [intOf]; omega
                    · -- it stops: the test has failed
                      have ht : Sort.ltInt (Gk i') (Gk a) = false := by assumption
                      have hi2 : Hid (i' = Sort.scanUp (fun x => Sort.ltInt x dk[a]!) dk j i) := (scanUp_end (fun x => Sort.ltInt x dk[a]!) dk j i' (Or.inr (by rw [← AG.out a, ← AG.out i']; exact ht))).symm.trans hsc.out
                      clear ht
                      have hw2 : wr.drewN nq = W1.drewN (n1 + nq) := by rw [HW1.out, World.drewN_drewN]
                      clear hcw HW1 hsc
                      go_loopw [11] (fun vj w2 => ∃ (j' n2 : Nat), vj = .int .i64 j' ∧ j' ≤ j ∧ i' ≤ j' + 1 ∧ w2 = W1.drewN n2 ∧
                          Hid (Sort.scanDown (fun x => !Sort.ltInt x dk[a]!) dk i' j' = Sort.scanDown (fun x => !Sort.ltInt x dk[a]!) dk i' j))
                        (fun vj _ => (intOf vj).toNat)
                      case atStart => exact ⟨j, n1 + nq, rfl, Nat.le_refl _, hij', hw2, rfl⟩
                      case round =>
                        clear hw2
                        obtain ⟨j', n2, rfl, hjj, hij2, hw2, hsd⟩ := hrel
                        have hcw : ∀ t, t < d.size → wr.cell? ⟨blk, off + t, none⟩ = some (.int .u64 (Gk t)) := fun t ht => by rw [hw2]; exact hc t ht
                        have HW2 : Hid (wr = W1.drewN n2) := hw2
                        clear hw2
                        by_cases hle2 : i' ≤ j'
                        · go_wp2_with fail
                          go_big_quiet (first | (go_at_call 93; refine Calls.quiet_of_same (less_any _ _ _)))
                          go_wp2
                          · -- it goes on: j--
                            have ht : (!Sort.ltInt (Gk j') (Gk a)) = true := by assumption
                            go_roundw
                            case rel => exact ⟨j' - 1, n2 + nq, by go_num, by omega, by omega, by rw [HW2.out, World.drewN_drewN], (scanDown_go (fun x => !Sort.ltInt x dk[a]!) dk i' j' hle2 (by omega) (by rw [← AG.out a, ← AG.out j']; exact ht)).symm.trans hsd.out⟩
                            case measure => simp [intOf]; omega
                          · -- it stops: the test has failed
                            have ht : (!Sort.ltInt (Gk j') (Gk a)) = false := by assumption
                            have hj2 : Hid (j' = Sort.scanDown (fun x => !Sort.ltInt x dk[a]!) dk i' j) := (scanDown_end (fun x => !Sort.ltInt x dk[a]!) dk i' j' (Or.inr (by rw [← AG.out a, ← AG.out j']; exact ht))).symm.trans hsd.out
                            clear hcw hsd ht
                            have hw3 : wr.drewN nq = W1.drewN (n2 + nq) := by rw [HW2.out, World.drewN_drewN]
                            generalize wr.drewN nq = W3 at hw3 ⊢
                            have hc3 : ∀ t, t < d.size → W3.cell? ⟨blk, off + t, none⟩ = some (.int .u64 (Gk t)) := fun t ht => by rw [hw3]; exact hc t ht
                            have hf3 : ∀ t, t < d.size → W3.frozen? ⟨blk, off + t, none⟩ = false := fun t ht => by rw [hw3]; exact hf t ht
                            have HW3 : Hid (W3 = W1.drewN (n2 + nq)) := hw3
                            clear hw3
                            obtain ⟨v3, hy3⟩ := cell?_setCell_some (w := W3) (p := ⟨blk, off + i', none⟩) (x := .int .u64 (Gk j')) (q := ⟨blk, off + j', none⟩) (hc3 j' (by omega))
                            have hlt3 := part_scans_lt Sort.ltInt a i j dk (by omega) hi2.out hj2.out hle2
                            go_wp2
                            go_region
                            all_goals go_wp2
                            all_goals go_roundw
                            case rel =>
                              refine ⟨i' + 1, j' - 1, n + (n2 + nq) + 1, Sort.swp dk i' j', by go_num, by go_num, by omega, by omega, by omega, by rw [size_swp]; exact hs, ?_, ?_⟩
                              · rw [HW3.out, AW.out, World.drewN_drewN, AG.out i', AG.out j']
                                exact swap_worldC (Value.int .u64) w blk off dk _ i' j' (by omega) (by omega)
                              · exact (part_go Sort.ltInt a i j dk hi2.out hj2.out (by omega)).symm.trans AE.out
                            case measure => simp [intOf]; omega
                        · go_wp2_with fail
                          go_big_quiet (first | (go_at_call 93; refine Calls.quiet_of_same (less_any _ _ _)))
                          have hj2 : Hid (j' = Sort.scanDown (fun x => !Sort.ltInt x dk[a]!) dk i' j) := (scanDown_end (fun x => !Sort.ltInt x dk[a]!) dk i' j' (Or.inl hle2)).symm.trans hsd.out
                          clear hcw hsd
                          have hw3 : wr.drewN nq = W1.drewN (n2 + nq) := by rw [HW2.out, World.drewN_drewN]
                          generalize wr.drewN nq = W3 at hw3 ⊢
                          have hc3 : ∀ t, t < d.size → W3.cell? ⟨blk, off + t, none⟩ = some (.int .u64 (Gk t)) := fun t ht => by rw [hw3]; exact hc t ht
                          have hf3 : ∀ t, t < d.size → W3.frozen? ⟨blk, off + t, none⟩ = false := fun t ht => by rw [hw3]; exact hf t ht
                          have HW3 : Hid (W3 = W1.drewN (n2 + nq)) := hw3
                          clear hw3
                          obtain ⟨v3, hy3⟩ := cell?_setCell_some (w := W3) (p := ⟨blk, off + j', none⟩) (x := .int .u64 (Gk a)) (q := ⟨blk, off + a, none⟩) (hc3 a (by omega))
                          have hlj : j' < d.size := by omega
                          go_wp2
                          go_region
                          all_goals go_wp2
                          all_goals go_ret2
                          have e : Sort.partition Sort.ltInt d a b pivot = (j', false, Sort.swp dk j' a) := by
                            have e0 := (part_break Sort.ltInt a i j dk hi2.out hj2.out (by omega)).symm.trans AE.out
                            rw [HP.out, ← e0]
                          refine ⟨?_, n + (n2 + nq) + 1, ?_⟩
                          · rw [e]; rfl
                          · rw [e, HW3.out, AW.out, World.drewN_drewN, AG.out a, AG.out j']
                            exact swap_worldC (Value.int .u64) w blk off dk _ j' a (by omega) (by omega)
                  · go_wp2_with fail
                    go_big_quiet (first | (go_at_call 93; refine Calls.quiet_of_same (less_any _ _ _)))
                    go_wp2
                    have hi2 : Hid (i' = Sort.scanUp (fun x => Sort.ltInt x dk[a]!) dk j i) := (scanUp_end (fun x => Sort.ltInt x dk[a]!) dk j i' (Or.inl hle)).symm.trans hsc.out
                    have hw2 : wr.drewN nq = W1.drewN (n1 + nq) := by rw [HW1.out, World.drewN_drewN]
                    clear hcw HW1 hsc
                    go_loopw [11] (fun vj w2 => ∃ (j' n2 : Nat), vj = .int .i64 j' ∧ j' ≤ j ∧ i' ≤ j' + 1 ∧ w2 = W1.drewN n2 ∧
                        Hid (Sort.scanDown (fun x => !Sort.ltInt x dk[a]!) dk i' j' = Sort.scanDown (fun x => !Sort.ltInt x dk[a]!) dk i' j))
                      (fun vj _ => (intOf vj).toNat)
                    case atStart => exact ⟨j, n1 + nq, rfl, Nat.le_refl _, hij', hw2, rfl⟩
                    case round =>
                      clear hw2
                      obtain ⟨j', n2, rfl, hjj, hij2, hw2, hsd⟩ := hrel
                      have hcw : ∀ t, t < d.size → wr.cell? ⟨blk, off + t, none⟩ = some (.int .u64 (Gk t)) := fun t ht => by rw [hw2]; exact hc t ht
                      have HW2 : Hid (wr = W1.drewN n2) := hw2
                      clear hw2
                      by_cases hle2 : i' ≤ j'
                      · exfalso; omega      -- the upward scan has run past j, and j' ≤ j
                      · go_wp2_with fail
                        go_big_quiet (first | (go_at_call 93; refine Calls.quiet_of_same (less_any _ _ _)))
                        have hj2 : Hid (j' = Sort.scanDown (fun x => !Sort.ltInt x dk[a]!) dk i' j) := (scanDown_end (fun x => !Sort.ltInt x dk[a]!) dk i' j' (Or.inl hle2)).symm.trans hsd.out
                        clear hcw hsd
                        have hw3 : wr.drewN nq = W1.drewN (n2 + nq) := by rw [HW2.out, World.drewN_drewN]
                        generalize wr.drewN nq = W3 at hw3 ⊢
                        have hc3 : ∀ t, t < d.size → W3.cell? ⟨blk, off + t, none⟩ = some (.int .u64 (Gk t)) := fun t ht => by rw [hw3]; exact hc t ht
                        have hf3 : ∀ t, t < d.size → W3.frozen? ⟨blk, off + t, none⟩ = false := fun t ht => by rw [hw3]; exact hf t ht
                        have HW3 : Hid (W3 = W1.drewN (n2 + nq)) := hw3
                        clear hw3
                        obtain ⟨v3, hy3⟩ := cell?_setCell_some (w := W3) (p := ⟨blk, off + j', none⟩) (x := .int .u64 (Gk a)) (q := ⟨blk, off + a, none⟩) (hc3 a (by omega))
                        have hlj : j' < d.size := by omega
                        go_wp2
                        go_region
                        all_goals go_wp2
                        all_goals go_ret2
                        have e : Sort.partition Sort.ltInt d a b pivot = (j', false, Sort.swp dk j' a) := by
                          have e0 := (part_break Sort.ltInt a i j dk hi2.out hj2.out (by omega)).symm.trans AE.out
                          rw [HP.out, ← e0]
                        refine ⟨?_, n + (n2 + nq) + 1, ?_⟩
                        · rw [e]; rfl
                        · rw [e, HW3.out, AW.out, World.drewN_drewN, AG.out a, AG.out j']
                          exact swap_worldC (Value.int .u64) w blk off dk _ j' a (by omega) (by omega)
          · go_wp2_with fail
            go_big_quiet (first | (go_at_call 93; refine Calls.quiet_of_same (less_any _ _ _)))
            have hj2 : Hid (j' = Sort.scanDown (fun x => !Sort.ltInt x dk[a]!) dk i' j) := (scanDown_end (fun x => !Sort.ltInt x dk[a]!) dk i' j' (Or.inl hle2)).symm.trans hsd.out
            clear hcw hsd
            have hw3 : wr.drewN nq = W1.drewN (n2 + nq) := by rw [HW2.out, World.drewN_drewN]
            generalize wr.drewN nq = W3 at hw3 ⊢
            have hc3 : ∀ t, t < d.size → W3.cell? ⟨blk, off + t, none⟩ = some (.int .u64 (Gk t)) := fun t ht => by rw [hw3]; exact hc t ht
            have hf3 : ∀ t, t < d.size → W3.frozen? ⟨blk, off + t, none⟩ = false := fun t ht => by rw [hw3]; exact hf t ht
            have HW3 : Hid (W3 = W1.drewN (n2 + nq)) := hw3
            clear hw3
            obtain ⟨v3, hy3⟩ := cell?_setCell_some (w := W3) (p := ⟨blk, off + j', none⟩) (x := .int .u64 (Gk a)) (q := ⟨blk, off + a, none⟩) (hc3 a (by omega))
            have hlj : j' < d.size := by omega
            go_wp2
            go_region
            all_goals go_wp2
            all_goals go_ret2
            have e : Sort.partition Sort.ltInt d a b pivot = (j', true, Sort.swp dk j' a) := part_first_break Sort.ltInt d a b pivot HI.out HJ.out HDK.out hi2.out hj2.out (by omega)
            refine ⟨?_, n + (n2 + nq) + 1, ?_⟩
            · rw [e]; rfl
            · rw [e, HW3.out, AW.out, World.drewN_drewN, AG.out a, AG.out j']
              exact swap_worldC (Value.int .u64) w blk off dk _ j' a (by omega) (by omega)
    · go_wp2_with fail
      go_big_quiet (first | (go_at_call 93; refine Calls.quiet_of_same (less_any _ _ _)))
      go_wp2
      have hi2 : Hid (i' = Sort.scanUp (fun x => Sort.ltInt x dk[a]!) dk j i) := (scanUp_end (fun x => Sort.ltInt x dk[a]!) dk j i' (Or.inl hle)).symm.trans hsc.out
      have hw2 : wr.drewN nq = W1.drewN (n1 + nq) := by rw [HW1.out, World.drewN_drewN]
      clear hcw HW1 hsc
      go_loopw [11] (fun vj w2 => ∃ (j' n2 : Nat), vj = .int .i64 j' ∧ j' ≤ j ∧ i' ≤ j' + 1 ∧ w2 = W1.drewN n2 ∧
          Hid (Sort.scanDown (fun x => !Sort.ltInt x dk[a]!) dk i' j' = Sort.scanDown (fun x => !Sort.ltInt x dk[a]!) dk i' j))
        (fun vj _ => (intOf vj).toNat)
      case atStart => exact ⟨j, n1 + nq, rfl, Nat.le_refl _, hij', hw2, rfl⟩
      case round =>
        clear hw2
        obtain ⟨j', n2, rfl, hjj, hij2, hw2, hsd⟩ := hrel
        have hcw : ∀ t, t < d.size → wr.cell? ⟨blk, off + t, none⟩ = some (.int .u64 (Gk t)) := fun t ht => by rw [hw2]; exact hc t ht
        have HW2 : Hid (wr = W1.drewN n2) := hw2
        clear hw2
        by_cases hle2 : i' ≤ j'
        · exfalso; omega      -- the upward scan has run past j, and j' ≤ j
        · go_wp2_with fail
          go_big_quiet (first | (go_at_call 93; refine Calls.quiet_of_same (less_any _ _ _)))
          have hj2 : Hid (j' = Sort.scanDown (fun x => !Sort.ltInt x dk[a]!) dk i' j) := (scanDown_end (fun x => !Sort.ltInt x dk[a]!) dk i' j' (Or.inl hle2)).symm.trans hsd.out
          clear hcw hsd
          have hw3 : wr.drewN nq = W1.drewN (n2 + nq) := by rw [HW2.out, World.drewN_drewN]
          generalize wr.drewN nq = W3 at hw3 ⊢
          have hc3 : ∀ t, t < d.size → W3.cell? ⟨blk, off + t, none⟩ = some (.int .u64 (Gk t)) := fun t ht => by rw [hw3]; exact hc t ht
          have hf3 : ∀ t, t < d.size → W3.frozen? ⟨blk, off + t, none⟩ = false := fun t ht => by rw [hw3]; exact hf t ht
          have HW3 : Hid (W3 = W1.drewN (n2 + nq)) := hw3
          clear hw3
          obtain ⟨v3, hy3⟩ := cell?_setCell_some (w := W3) (p := ⟨blk, off + j', none⟩) (x := .int .u64 (Gk a)) (q := ⟨blk, off + a, none⟩) (hc3 a (by omega))
          have hlj : j' < d.size := by omega
          go_wp2
          go_region
          all_goals go_wp2
          all_goals go_ret2
          have e : Sort.partition Sort.ltInt d a b pivot = (j', true, Sort.swp dk j' a) := part_first_break Sort.ltInt d a b pivot HI.out HJ.out HDK.out hi2.out hj2.out (by omega)
          refine ⟨?_, n + (n2 + nq) + 1, ?_⟩
          · rw [e]; rfl
          · rw [e, HW3.out, AW.out, World.drewN_drewN, AG.out a, AG.out j']
            exact swap_worldC (Value.int .u64) w blk off dk _ j' a (by omega) (by omega)
theorem so_partitionOrdered_int (blk off cap a b pivot : Nat) (d : Array Int) (w : World) (hH : Holds (Value.int .u64) w blk off d) (hap : a ≤ pivot) (hpb : pivot < b) (hb : b ≤ d.size) (hsz : d.size < 4611686018427387904) :
    Calls Tryz.prog 95 #[.slice (some ⟨blk, off, none⟩) d.size cap, .int .i64 a, .int .i64 b, .int .i64 pivot] w fun e w' =>
      e = .returned (.tuple #[.int .i64 (Sort.partition Sort.ltInt d a b pivot).1, .bool (Sort.partition Sort.ltInt d a b pivot).2.1]) ∧ ∃ n, w' = putRow (Value.int .u64) (Sort.ahead w n) blk off (Sort.partition Sort.ltInt d a b pivot).2.2 :=
  (so_partition_int blk off cap a b pivot d w hH hap hpb hb hsz).mono fun _ _ ⟨he, n, hw⟩ => ⟨he, n, hw⟩
end Go.Proofs.YtloccahcnikbfaaGreat
namespace Go.Proofs.YtloccahcnikbfaaGreat
open Go.RowKit Go.Sort
set_option linter.unusedSimpArgs false
set_option linter.unusedVariables false
theorem callees13 : Callees13 where
  ins := insertion_any
  brk := so_breakPatterns_int
  piv := so_choosePivot_int
  par := so_partialInsertionSort_int
  peq := so_partitionEqualOrdered_int
  prt := so_partitionOrdered_int
theorem plain13 : Plain13 where
  swo := swo_ltInt
  ins := insertionSort_holds
  par := partialInsertionSort_holds
  prt := partition_holds _
  peq := partitionEqual_holds _
  pdq := pdq_sorts _
theorem sort_srt (l : List Int) : Sort.sort ltInt l.toArray = (srt l).toArray := by
  show _ = (l.mergeSort fun x y => decide (x ≤ y)).toArray
  rw [← sortInt l]
theorem pdq_any (blk off cap : Nat) (l : List Int) (w : World) (hH : Holds (Value.int .u64) w blk off l.toArray) (hblk : blk < w.heap.size) (hsz : l.length < 4611686018427387904) :
    Calls Tryz.prog 84 #[.slice (some ⟨blk, off, none⟩) l.length cap, .int .i64 0, .int .i64 l.length, .int .i64 (Lib.bitLen l.length : Nat)] w fun e w' => e = .returned (.tuple #[]) ∧ ∃ n os, w' = grow (putRow (Value.int .u64) (Sort.ahead w n) blk off (srt l).toArray) os := by
  have hs : l.toArray.size = l.length := by simp
  have hb := bitLen_eq l.length (by omega)
  have hle : bitsLen l.length ≤ 62 := (bitsLen_le_iff _ 62).2 (by omega)
  have h := so_pdqsort_int callees13 plain13 (l.length + 1) blk off cap 0 l.toArray.size (bitsLen l.length) l.toArray w (by omega) hH hblk (Nat.zero_le _) (Nat.le_refl _) (by omega) (by omega) (.inl rfl)
  have e : pdq ltInt l.toArray 0 l.toArray.size (bitsLen l.length) true true = (srt l).toArray := by
    rw [← sort_srt]; unfold Sort.sort; rw [hs]
  rw [e, hs] at h
  rw [hb]
  exact h
theorem grown_block {w : World} {g n : Nat} {cur : Array Value} {e : TypeId} {fr : Nat × Nat} {os : Array Obj} (d : Array Int) (hb : w.heap[g]? = some (.cells cur e fr)) :
    (grow (putRow (Value.int .u64) (Sort.ahead w n) g 0 d) os).heap[g]? = some (.cells (putCells (Value.int .u64) 0 d cur) e fr) := by
  have hg : g < w.heap.size := (Array.getElem?_eq_some_iff.1 hb).1
  rw [heap_grow_old _ _ (by simpa [putRow, mapBlock, Sort.ahead] using hg)]
  exact put_block d hb
theorem grown_grown {w : World} {g n : Nat} {os : Array Obj} (d : Array Int) : w.grownBy (grow (putRow (Value.int .u64) (Sort.ahead w n) g 0 d) os) (some g) := by
  refine ⟨rfl, rfl, rfl, by simp [grow, putRow, mapBlock, Sort.ahead], fun k hk hne => ?_⟩
  rw [heap_grow_old _ _ (by simpa [putRow, mapBlock, Sort.ahead] using hk)]
  have : g ≠ k := fun e => hne (by rw [e])
  simp [putRow, mapBlock, Sort.ahead, Array.getElem?_modify, this]
theorem grown_own {w : World} {base g cap n : Nat} {e : TypeId} {os : Array Obj} {cur : Array Value} {ss ts : List Int} (hl : ts.length = ss.length) (hbase : base ≤ g) (hb : w.heap[g]? = some (.cells cur e (0, 0)))
    (h1 : ss.length ≤ cap) (h2 : cap ≤ maxLen) (h3 : cur.size = cap * 1) :
    (grow (putRow (Value.int .u64) (Sort.ahead w n) g 0 ts.toArray) os).ownsRow base e 1 (.slice (some ⟨g, 0, none⟩) ss.length cap) ss.length (ts.map (Value.int .u64)) :=
  ⟨by simp [hl], .inr ⟨g, cap, _, rfl, hbase, grown_block _ hb, h1, h2, by simp [putCells, h3], by rw [Nat.mul_one, ← hl]; exact put_take cur ts (by omega)⟩⟩
set_option maxRecDepth 100000 in
theorem sort_any (w : World) (base : Nat) (v : Value) (xs : List Int) (hown : w.ownsRow base 23 1 v xs.length (xs.map (Value.int .u64))) (h12 : xs.length < 4611686018427387904) :
    Calls Tryz.prog 73 #[v] w (SortedIs base v xs w) := by
  have hbl := fun x w h0 h1 => Tryz.bits_Len x w h0 h1
  obtain ⟨h1, h2⟩ := hown
  rcases h2 with ⟨rfl, h2⟩ | ⟨g, cap, cur, rfl, hg, hh, hc1, hc2, hc3, hc4⟩
  · obtain rfl : xs = [] := List.eq_nil_of_length_eq_zero h2
    clear h1 h2 h12
    go_enter Tryz.func73, Tryz.ntmps73
    go_wp2_with fail
    refine (hbl 0 _ (by decide) (by decide)).mono ?_
    rintro e w' ⟨rfl, rfl⟩
    go_wp2_with fail
    refine (pdq_nil _ _).mono ?_
    rintro e w'' ⟨rfl, rfl⟩
    go_wp2
    go_end0
    exact ⟨rfl, (by rw [show srt [] = [] by simp [srt]]; exact World.ownsRow_nil _ _ _ _), ⟨rfl, rfl, rfl, Nat.le_refl _, fun _ _ _ => rfl⟩⟩
  · have HO : Hid (Holds (Value.int .u64) w g 0 xs.toArray) := Lib.hid (holds_row hh (by rw [Nat.mul_one] at hc4; exact hc4))
    have HH := Lib.hid hh
    have H3 := Lib.hid hc3
    have hlt : g < w.heap.size := (Array.getElem?_eq_some_iff.1 hh).1
    have HP : Hid (∀ W : World, W = w → Calls Tryz.prog 84 #[.slice (some ⟨g, 0, none⟩) xs.length cap, .int .i64 0, .int .i64 xs.length, .int .i64 (Lib.bitLen xs.length : Nat)] W fun e w' => e = .returned (.tuple #[]) ∧ ∃ n os, w' = grow (putRow (Value.int .u64) (Sort.ahead w n) g 0 (srt xs).toArray) os) := Lib.hid (fun W hW => by rw [hW]; exact pdq_any g 0 cap xs w HO.out hlt h12)
    have hx62 : (xs.length : Int) < 4611686018427387904 := by omega
    clear hh hc3 hc4 h1
    go_enter Tryz.func73, Tryz.ntmps73
    go_wp2_with fail
    refine (hbl xs.length _ (by omega) (by omega)).mono ?_
    rintro e w' ⟨rfl, rfl⟩
    go_wp2_with fail
    refine (HP.out _ rfl).mono ?_
    rintro e w'' ⟨rfl, n, os, hw⟩
    have HW := Lib.hid hw
    clear hw
    go_wp2
    go_end0
    refine ⟨rfl, ?_, ?_⟩
    · have := HW.out
      rw [this]
      have h3 := H3.out
      exact grown_own (by rw [srt_len]) hg HH.out hc1 hc2 h3
    · rw [HW.out]; exact grown_grown _
set_option maxRecDepth 100000 in
theorem sorted_any (w : World) (gf N : Nat) (lb : Array Value) (S : List Int → Prop) (Px : Int → World → Prop) (hpx : ∀ k W W', Px k W → Px k W') (eg : ∀ args w, (callFunc gf args).run Tryz.prog w = .ok (.enter gf args) w)
    (hseq : SeqP Fence.wide 4 Tryz.prog gf lb (fun k : Int => #[.int .u64 k]) Px S N w) (hN : N ≤ 1000000) (h12 : ∀ xs, S xs → xs.length < 4611686018427387904) :
    Calls Tryz.prog 60 #[.func (.func gf) #[] lb] w (SortedOf S w) := by
  have HS := Lib.hid hseq
  have HP := Lib.hid hpx
  have HG := Lib.hid eg
  have H12 := Lib.hid h12
  clear hseq hpx eg h12
  go_enter Tryz.func60, Tryz.ntmps60
  go_wp2_with fail
  refine (collect_any w gf N lb S Px HP.out HG.out HS.out hN).mono ?_
  rintro e w1 ⟨v, xs, rfl, hS, hr, hb⟩
  have H1 := Lib.hid hS
  have H2 : Hid (w1.ownsRow w.heap.size 23 1 v xs.length (xs.map (Value.int .u64))) := Lib.hid hr
  have H3 := Lib.hid hb
  clear hS hr hb
  go_wp2_with fail
  refine (sort_any w1 w.heap.size v xs H2.out (H12.out xs H1.out)).mono ?_
  rintro e w2 ⟨rfl, hr, hg⟩
  have H4 := Lib.hid hr
  have H5 : Hid (Below w.heap.size w w2) := Lib.hid (grownBy_below H3.out hg (fun k hk => by
    have := H2.out.2
    rcases this with ⟨rfl, _⟩ | ⟨g, cap, cur, rfl, hg1, _⟩
    · simp [Value.ownBlock] at hk
    · obtain rfl : g = k := by simpa [Value.ownBlock] using hk
      exact hg1))
  clear hr hg
  go_wp2
  go_ret
  exact ⟨v, xs, rfl, H1.out, H4.out, H5.out⟩
end Go.Proofs.YtloccahcnikbfaaGreat
namespace Go.Proofs.YtloccahcnikbfaaGreat
open Go.RowKit Go.ChangeMaps
set_option linter.unusedSimpArgs false
set_option linter.unusedVariables false
attribute [local go_sem] Oper.semAt_some
def needK (ks : List Int) : List Int := insAll ((ks.map sib).filter fun s => !decide (s ∈ ks))
theorem needK_mem (ks : List Int) (k : Int) : k ∈ needK ks ↔ (∃ j ∈ ks, k = sib j) ∧ k ∉ ks := by
  unfold needK
  rw [(insAll_all _).2.1, List.mem_filter, List.mem_map]
  constructor
  · rintro ⟨⟨j, hj, rfl⟩, h⟩; exact ⟨⟨j, hj, rfl⟩, by simpa using h⟩
  · rintro ⟨⟨j, hj, rfl⟩, h⟩; exact ⟨⟨j, hj, rfl⟩, by simpa using h⟩
theorem needK_nodup (ks : List Int) : (needK ks).Nodup := (insAll_all _).1
def rowK (ks : List Int) : List Int := srt (needK ks)
theorem rowK_of {xs ks : List Int} (hn : xs.Nodup) (h : ∀ k, k ∈ xs ↔ k ∈ needK ks) : srt xs = rowK ks :=
  srt_of hn (srt_rising (needK_nodup ks)) (fun k => (h k).trans (srt_mem _ _).symm)
theorem rowK_same {ks js : List Int} (h : ∀ k, k ∈ ks ↔ k ∈ js) : rowK ks = rowK js :=
  rowK_of (needK_nodup ks) (fun k => by
    rw [needK_mem, needK_mem, h]
    constructor
    · rintro ⟨⟨j, hj, e⟩, hk⟩; exact ⟨⟨j, (h j).1 hj, e⟩, hk⟩
    · rintro ⟨⟨j, hj, e⟩, hk⟩; exact ⟨⟨j, (h j).2 hj, e⟩, hk⟩)
def rowsOf (leaves : List Int) (d : Nat) : List (List Int) := (List.range d).map fun i => rowK (insAll (leaves.map (· / 2 ^ i)))
theorem rowsOf_levs {leaves : List Int} {d : Nat} {xs : List Lev} (h : LevsOf leaves d xs) : xs.map (fun x => rowK x.2.2) = rowsOf leaves d := by
  apply List.ext_getElem
  · simp [rowsOf, h.1]
  · intro i h1 h2
    have hi : i < xs.length := by simpa using h1
    simp only [rowsOf, List.getElem_map, List.getElem_range]
    refine rowK_same (fun k => ?_)
    rw [(insAll_all _).2.1, h.2 i hi k, List.mem_map]
    constructor
    · rintro ⟨j, hj, e⟩; exact ⟨j, hj, e.symm⟩
    · rintro ⟨j, hj, e⟩; exact ⟨j, hj, e.symm⟩
def RowsAre (W : World) (base : Nat) (vals : List Value) (rs : List (List Int)) : Prop :=
  vals.length = rs.length ∧ ∀ i, ∀ h : i < rs.length, ∃ v, vals[i]? = some v ∧ W.ownsRow base 23 1 v rs[i].length (rs[i].map (Value.int .u64))
theorem RowsAre.nil (W : World) (base : Nat) : RowsAre W base [] [] := ⟨rfl, fun i h => by simp at h⟩
theorem RowsAre.snoc {W : World} {base : Nat} {vals : List Value} {rs : List (List Int)} (h : RowsAre W base vals rs) {v : Value} {r : List Int} (hv : W.ownsRow base 23 1 v r.length (r.map (Value.int .u64))) : RowsAre W base (vals ++ [v]) (rs ++ [r]) := by
  refine ⟨by simp [h.1], fun i hi => ?_⟩
  by_cases hlt : i < rs.length
  · obtain ⟨u, h1, h2⟩ := h.2 i hlt
    refine ⟨u, by rw [List.getElem?_append_left (by rw [h.1]; exact hlt)]; exact h1, ?_⟩
    rw [List.getElem_append_left hlt]; exact h2
  · have e : i = rs.length := by simp at hi; omega
    subst e
    refine ⟨v, by rw [← h.1]; simp, ?_⟩
    rw [List.getElem_append_right (Nat.le_refl _)]
    simpa using hv
theorem ownsRow_later {W W' : World} {base b' : Nat} {e size n : Nat} {v : Value} {xs : List Value} (h : W.ownsRow base e size v n xs) (hb : Below W.heap.size W W') (hbb : b' ≤ base) : W'.ownsRow b' e size v n xs := by
  have h2 := own_below h hb
  refine ⟨h2.1, ?_⟩
  rcases h2.2 with h3 | ⟨g, cap, cur, h4, h5, h6⟩
  · exact .inl h3
  · exact .inr ⟨g, cap, cur, h4, by omega, h6⟩
theorem RowsAre.kept {W W' : World} {base : Nat} {vals : List Value} {rs : List (List Int)} {row : Option Nat} (h : RowsAre W base vals rs) (hg : W.grownBy W' row)
    (hr : ∀ i : Nat, ∀ v ∈ vals, v.ownBlock = none ∨ v.ownBlock ≠ row) : RowsAre W' base vals rs :=
  ⟨h.1, fun i hi => by
    obtain ⟨v, h1, h2⟩ := h.2 i hi
    exact ⟨v, h1, h2.kept hg (hr 0 v (List.mem_of_getElem? h1))⟩⟩
theorem RowsAre.below {W W' : World} {base : Nat} {vals : List Value} {rs : List (List Int)} (h : RowsAre W base vals rs) (hb : Below W.heap.size W W') : RowsAre W' base vals rs :=
  ⟨h.1, fun i hi => by
    obtain ⟨v, h1, h2⟩ := h.2 i hi
    exact ⟨v, h1, own_below h2 hb⟩⟩
theorem RowsAre.apart {W : World} {base : Nat} {vals : List Value} {rs : List (List Int)} (h : RowsAre W base vals rs) {g : Nat} {cs : Array Value} {t : TypeId} {fr : Nat × Nat} (hg : W.heap[g]? = some (.cells cs t fr)) (ht : t ≠ 23) : ∀ i : Nat, ∀ v ∈ vals, v.ownBlock = none ∨ v.ownBlock ≠ some g := by
  intro _ v hv
  obtain ⟨i, hi, rfl⟩ := List.getElem_of_mem hv
  obtain ⟨u, h1, h2⟩ := h.2 i (by rw [← h.1]; exact hi)
  rw [List.getElem?_eq_getElem hi] at h1
  cases h1
  rcases h2.2 with ⟨e, _⟩ | ⟨g', cap, cur, e, _, hh, _⟩
  · rw [e]; exact .inl rfl
  · rw [e]
    right
    intro e2
    obtain rfl : g' = g := by simpa [Value.ownBlock] using e2
    rw [hg] at hh
    cases hh
    exact ht rfl
def Lack (ks : List Int) (nb : Nat) (seen : Array Nat) (nx : List Int) : Prop := nx.Nodup ∧ ∀ k, k ∈ nx ↔ ∃ i, ∃ h : i < ks.length, nb + i ∈ seen ∧ k = sib ks[i] ∧ k ∉ ks
theorem Lack.start (ks : List Int) (nb : Nat) : Lack ks nb #[] [] := ⟨List.nodup_nil, fun k => by simp⟩
theorem Lack.step {ks : List Int} {nb : Nat} {seen : Array Nat} {nx : List Int} (h : Lack ks nb seen nx) {i : Nat} (hi : i < ks.length) : Lack ks nb (seen.push (nb + i)) (if sib ks[i] ∈ ks then nx else insK nx (sib ks[i])) := by
  have key : ∀ k, (∃ j, ∃ h : j < ks.length, nb + j ∈ seen.push (nb + i) ∧ k = sib ks[j] ∧ k ∉ ks) ↔ (k ∈ nx ∨ (k = sib ks[i] ∧ k ∉ ks)) := fun k => by
    rw [h.2]
    constructor
    · rintro ⟨j, hj, hs, e⟩
      rcases Array.mem_push.1 hs with hs | he
      · exact .inl ⟨j, hj, hs, e⟩
      · have : j = i := by omega
        subst this; exact .inr e
    · rintro (⟨j, hj, hs, e⟩ | e)
      · exact ⟨j, hj, Array.mem_push.2 (.inl hs), e⟩
      · exact ⟨i, hi, Array.mem_push.2 (.inr rfl), e⟩
  split
  · rename_i hm
    refine ⟨h.1, fun k => ?_⟩
    rw [key]
    constructor
    · exact .inl
    · rintro (h1 | ⟨rfl, h2⟩)
      · exact h1
      · exact absurd hm h2
  · rename_i hm
    refine ⟨insK_nodup h.1 _, fun k => ?_⟩
    rw [key, insK_mem]
    constructor
    · rintro (h1 | rfl)
      · exact .inl h1
      · exact .inr ⟨rfl, hm⟩
    · rintro (h1 | ⟨rfl, _⟩)
      · exact .inl h1
      · exact .inr rfl
theorem Lack.done {ks : List Int} {nb : Nat} {seen : Array Nat} {nx : List Int} (h : Lack ks nb seen nx) (ha : ∀ i, i < (kv ks).length → nb + i ∈ seen) : ∀ k, k ∈ nx ↔ k ∈ needK ks := fun k => by
  rw [h.2, needK_mem]
  constructor
  · rintro ⟨i, hi, _, e, hk⟩; exact ⟨⟨_, List.getElem_mem hi, e⟩, hk⟩
  · rintro ⟨⟨j, hj, e⟩, hk⟩
    obtain ⟨i, hi, rfl⟩ := List.getElem_of_mem hj
    exact ⟨i, hi, ha i (by rw [kv_len]; exact hi), e, hk⟩
theorem needK_len (ks : List Int) : (needK ks).length ≤ ks.length := by
  have h1 := (insAll_all ((ks.map sib).filter fun s => !decide (s ∈ ks))).2.2
  have h2 := List.length_filter_le (fun s => !decide (s ∈ ks)) (ks.map sib)
  unfold needK
  rw [List.length_map] at h2
  omega
theorem Lack.len {ks : List Int} {nb : Nat} {seen : Array Nat} {nx : List Int} (h : Lack ks nb seen nx) (hk : ∀ k, k ∈ nx ↔ k ∈ needK ks) : nx.length ≤ ks.length :=
  Nat.le_trans (nodup_len nx (needK ks) h.1 (fun k hm => (hk k).1 hm)) (needK_len ks)
def OutIs (B base : Nat) (W : World) (rs : List (List Int)) : Prop := ∃ (v : Value) (vals : List Value), Boxed W B 56 v ∧ W.ownsRow base 24 1 v vals.length vals ∧ RowsAre W base vals rs
theorem out_own {B base B0 : Nat} {β : Type} (f : β → List (List Int)) : OwnFrom B0 (fun s W => OutIs B base W (f s)) := by
  rintro s X Y row ⟨v, vals, hv, hr, hR⟩ hg hrow
  have key : ∀ (g : Nat) (cs : Array Value) (t : TypeId) (fr : Nat × Nat), X.heap[g]? = some (.cells cs t fr) → some g ≠ row := fun g cs t fr hgc e => by
    obtain ⟨_, o, ho, hc⟩ := hrow g e.symm
    rw [hgc] at ho; cases ho; cases hc
  have key2 : ∀ {u : Value} {e n : Nat} {xs : List Value}, X.ownsRow base e 1 u n xs → u.ownBlock = none ∨ u.ownBlock ≠ row := fun {u e n xs} h => by
    rcases h.2 with ⟨rfl, _⟩ | ⟨g, cap, cur, rfl, _, hgb, _⟩
    · exact .inl rfl
    · exact .inr (key g _ _ _ hgb)
  refine ⟨v, vals, hv.kept hg (key B _ _ _ hv), hr.kept hg (key2 hr), hR.1, fun i hi => ?_⟩
  obtain ⟨u, h1, h2⟩ := hR.2 i hi
  exact ⟨u, h1, h2.kept hg (key2 h2)⟩
theorem OutIs.below {B base : Nat} {W W' : World} {rs : List (List Int)} (h : OutIs B base W rs) (hb : Below W.heap.size W W') : OutIs B base W' rs := by
  obtain ⟨v, vals, h1, h2, h3⟩ := h
  exact ⟨v, vals, (hb.block _ h1.lt).trans h1, own_below h2 hb, h3.below hb⟩
def NeedsIs (rs : List (List Int)) (w : World) (e : Ending) (w' : World) : Prop :=
  ∃ (v : Value) (vals : List Value), e = .returned v ∧ w'.ownsRow w.heap.size 24 1 v vals.length vals ∧ RowsAre w' w.heap.size vals rs ∧ Below w.heap.size w w'
theorem info_rows : (Tryz.prog.info? 24).map (fun i => (i.zero, i.size, i.bytes)) = some (some (.slice none 0 0), 1, 24) := by kernel_rfl
set_option maxRecDepth 100000 in
set_option maxHeartbeats 4000000 in
theorem needs12_any (a : Option Addr) (cap : Nat) (leaves : List Int) (d : Nat) (w : World) (hl : U64s w a leaves) (hlen : len leaves ≤ 100) (hl0 : 0 < len leaves) (hu : ∀ k ∈ leaves, U64 k) (hd : d ≤ 16) (hf : farB leaves d = false) :
    Calls Tryz.prog 37 #[.slice a (len leaves) cap, .int .i64 d] w (NeedsIs (rowsOf leaves d) w) := by
  have HL := Lib.hid hl
  have HU := Lib.hid hu
  have HF := Lib.hid hf
  clear hl hu hf
  refine (callsIn_wide (n := 9)).1 ?_
  refine callsIn_of_wp_marks Tryz.func37 rfl trivial ?_ rfl
  simp only [Tryz.ntmps37, List.size_toArray, List.length_cons, List.length_nil, Nat.reduceAdd, Nat.reduceSub, Array.replicate_succ, Array.replicate_zero, List.push_toArray, List.append_toArray, List.nil_append, List.cons_append]
  gi_wp2_with fail
  refine ⟨trivial, (callsIn_wide.2 (may_any _ _)).mono ?_⟩
  rintro e w' ⟨rfl, rfl⟩
  have b1 : (0 : Int) ≤ d := by omega
  have b2 : (d : Int) ≤ 16 := by omega
  have b3 : ((len leaves : Int) == 0) = false := by simp; omega
  obtain ⟨V, hV⟩ : ∃ V, w.alloc (.cells #[.int .i64 d] 3) = V := ⟨_, rfl⟩
  have VB : Hid (Below w.heap.size w V) := Lib.hid (by rw [← hV]; (repeat (first | exact Below.refl _ _ | assumption | (refine bdrew ?_) | (refine bdrewN ?_ _) | (refine balloc ?_ _) | (refine bset ?_ (by first | omega | (simp; done) | (simp; omega)) _) | (refine bnext ?_ (by assumption)))))
  have V0 : Hid (V.heap[w.heap.size]? = some (.cells #[.int .i64 d] 3 (0, 0))) := Lib.hid (by rw [← hV]; (repeat (first | exact alloc_new_at _ (by repeat (first | rfl | refine alloc_size _ ?_)) | refine block_alloc ?_ _)))
  have Vz : V.heap.size = w.heap.size + 1 := by rw [← hV]; simp
  rw [hV]
  have VZ := Lib.hid Vz
  clear hV Vz
  rw [show (decide ((0 : Int) ≤ d) && decide ((d : Int) ≤ 16)) = true by simp [b1, b2]]
  gi_wp2_with fail
  refine ⟨trivial, (callsIn_wide.2 (contains_any a cap leaves w.heap.size d V (block_cell V0.out 0) hd (HL.out.below VB.out) (by omega) HU.out)).mono ?_⟩
  rintro e w' ⟨rfl, rfl⟩
  rw [HF.out]
  have hcc : V.cell? ⟨w.heap.size, 0, none⟩ = some (.int .i64 d) := block_cell V0.out 0
  have hzz : w.heap.size < V.heap.size := lt_of_block V0.out
  gi_wp2_with fail
  refine ⟨trivial, (callsIn_wide.2 (levels_any a cap leaves d _)).mono ?_⟩
  rintro e Z ⟨rfl, hZ⟩
  obtain ⟨o, ho⟩ : ∃ o, V.heap.size = o := ⟨_, rfl⟩
  have Vsz : V.heap.size = w.heap.size + 1 := VZ.out
  have hs1 : (V.alloc (.cells #[.slice none 0 0] 56)).heap.size = o + 1 := by simp; omega
  have hs2 : ((V.alloc (.cells #[.slice none 0 0] 56)).alloc (.cells #[.slice a (len leaves) cap] 24)).heap.size = o + 2 := by simp; omega
  rw [hs1, ho]
  have ZB : Hid (Below w.heap.size w Z) := Lib.hid (by rw [hZ]; exact balloc (balloc (balloc VB.out _) _) _)
  have ZO : Hid (Boxed Z o 56 (.slice none 0 0)) := Lib.hid (by rw [hZ]; exact block_alloc (block_alloc (alloc_new_at _ ho) _) _)
  have Z1 : Hid (Z.heap[o + 1]? = some (.cells #[.slice a (len leaves) cap] 24 (0, 0))) := Lib.hid (by rw [hZ]; exact block_alloc (alloc_new_at _ hs1) _)
  have Z2 : Hid (Z.heap[o + 2]? = some (.cells #[.int .i64 d] 3 (0, 0))) := Lib.hid (by rw [hZ]; exact alloc_new_at _ hs2)
  have howz : w.heap.size ≤ o := by omega
  have HOZ := Lib.hid Vsz
  have hoz : Hid (o < Z.heap.size) := Lib.hid ZO.out.lt
  clear hZ hs1 hs2 hcc hzz Vsz ho VZ V0 VB HOZ
  gi_wp2_with fail
  refine wpIn_rangeFunc_P rfl (by omega) (gf := 70) (lb := #[.pointer (some ⟨o + 1, 0, none⟩), .pointer (some ⟨o + 2, 0, none⟩)]) rfl trivial (enters_of Tryz.func70 (by kernel_rfl) rfl)
    (levels_seq 8 (by omega) (o + 1) (o + 2) a cap leaves d Z (block_cell Z1.out 0) (block_cell Z2.out 0) (HL.out.below ZB.out) (by omega) (by omega) HU.out) (fun x W l r o' h hl => h.putObj o' hl) (fun _ => rfl)
    (fun pre W => OutIs o w.heap.size W (pre.map fun x => rowK x.2.2) ∧ Below w.heap.size w W)
    (OwnFrom.and (out_own fun pre : List Lev => pre.map fun x => rowK x.2.2) (ownFrom_below (Nat.le_refl _) (by have := hoz.out; omega)))
    ⟨⟨_, [], ZO.out, World.ownsRow_nil _ _ _ _, RowsAre.nil _ _⟩, ZB.out⟩ ?a1 ?assign ?body ?done
  case assign =>
    intro l x W K hK
    gi_wp2
    exact hK
  case body =>
    rintro l pre ⟨kb, nb, ks⟩ W ⟨hO, hB⟩ hPx hlt
    have HO := Lib.hid hO
    have HB := Lib.hid hB
    have HN := Lib.hid hPx.2.1
    have HLE := Lib.hid hPx.2.2.1
    have HU2 := Lib.hid hPx.2.2.2
    have HM0 : Hid (W.heap[kb]? = some (mObj .u64 nb (kv ks))) := Lib.hid hPx.1
    clear hO hB hPx
    dsimp only
    have hmm := @run_makeMap Tryz.prog
    gi_upto_region 8 with (fail)
    clear hmm
    obtain ⟨V, hV⟩ : ∃ V, W.alloc (.map #[] 0) = V := ⟨_, rfl⟩
    obtain ⟨nk, hnk⟩ : ∃ nk, W.heap.size = nk := ⟨_, rfl⟩
    have VB : Hid (Below W.heap.size W V) := Lib.hid (by rw [← hV]; exact balloc (Below.refl _ _) _)
    have VN : Hid (V.heap[nk]? = some (mObj .u64 0 (kv []))) := Lib.hid (by rw [← hV]; exact alloc_new_at _ hnk)
    have VM : Hid (V.heap[kb]? = some (mObj .u64 nb (kv ks))) := Lib.hid (by rw [← hV]; exact block_alloc HM0.out _)
    have hkn : kb < nk := by have := lt_of_block HM0.out; omega
    have NK := Lib.hid hnk
    rw [hV, hnk]
    clear hV hnk HM0
    gi_wp2_with (gi_at_range; refine wpListIn_range_m rfl _ 94 23 4 .u64 rfl Tryz.underlying94 kb nb _ rfl VM.out ?_; intro hrg)
    try go_frame
    obtain ⟨r, hr⟩ : ∃ r, V.heap.size = r := ⟨_, rfl⟩
    obtain ⟨Y, hY⟩ : ∃ Y, V.alloc (.mapIter (some kb) (nb + (kv ks).length) #[] (nb + (kv ks).length)) = Y := ⟨_, rfl⟩
    have YR : Hid (Ranging Y kb r .u64 nb (kv ks) #[]) := Lib.hid (by rw [← hY, ← hr]; exact hrg)
    have YN : Hid (Y.heap[nk]? = some (mObj .u64 0 (kv []))) := Lib.hid (by rw [← hY]; exact block_alloc VN.out _)
    have YB : Hid (Below W.heap.size W Y) := Lib.hid (by rw [← hY]; exact balloc VB.out _)
    have hnr : nk < r := by have := lt_of_block VN.out; omega
    rw [hr, hY]
    clear hr hY hrg VN VM VB
    gi_loopw [9] (fun _ wr => ∃ (seen : Array Nat) (nx : List Int), Hid (Ranging wr kb r .u64 nb (kv ks) seen) ∧ Hid (wr.heap[nk]? = some (mObj .u64 0 (kv nx))) ∧ Hid (Lack ks nb seen nx) ∧ Hid (Below W.heap.size W wr)) (fun _ wr => rLeft wr r (nb + (kv ks).length))
    case atStart => exact ⟨#[], [], YR.out, YN.out, Lack.start ks nb, YB.out⟩
    case round =>
      clear YR YN YB
      obtain ⟨seen, nx, hr, hx, hh, hz⟩ := hrel
      gi_wp2_with (gi_at_next; refine wpListIn_next_m rfl _ rfl kb r .u64 nb _ seen rfl hr.out ?_ ?_)
      · intro hall
        have HALL := Lib.hid hall
        clear hall
        gi_upto_region 14 with (fail)
        have HD := Lib.hid (hh.out.done HALL.out)
        have HLN : Hid (nx.length ≤ 100) := Lib.hid (by have := hh.out.len HD.out; have := HLE.out; omega)
        obtain ⟨v, vals, hbx, hrow, hrows⟩ := HO.out.below hz.out
        have BX := Lib.hid hbx
        have RW := Lib.hid hrow
        have RS := Lib.hid hrows
        have hc0 : wr.cell? ⟨o, 0, none⟩ = some v := hbx.cell
        have MN := hx
        have BW : Hid (Below w.heap.size w wr) := Lib.hid (bnext HB.out hz.out)
        clear hbx hrow hrows hr hx HO
        refine wpIn_region_tail (fun _ => trivial) 5 1000 none (phis [fun u _ => u = v, fun u _ => u = .map (some nk), fun u w' => ∃ b, u = .func (.func 74) #[] #[.pointer (some ⟨b, 0, none⟩)] ∧ w'.cell? ⟨b, 0, none⟩ = some (.map (some nk)),
          fun u w' => w'.ownsRow w.heap.size 23 1 u (rowK ks).length ((rowK ks).map (Value.int .u64)),
          fun u w' => ∃ b u3, u = .slice (some ⟨b, 0, none⟩) 1 1 ∧ w'.heap[b]? = some (.cells #[u3] 24 (0, 0)) ∧ w'.ownsRow w.heap.size 23 1 u3 (rowK ks).length ((rowK ks).map (Value.int .u64))]) rfl (by kernel_rfl) (by kernel_rfl)
          (mono_of ⟨mono_eq, mono_eq, ?m2, ?m3, ?m4, trivial⟩) (stepsIn_of 5 ⟨?s0, ?s1, ?s2, ?s3, ?s4, trivial⟩) ?_
        case m2 =>
          exact ⟨fun u w1 w' h ⟨b, h1, h2⟩ => ⟨b, h1, by rw [h.cell (p := ⟨b, 0, none⟩) (lt_of_cell h2)]; exact h2⟩, fun _ u w1 w' h ⟨b, h1, h2⟩ => ⟨b, h1, by rw [(extB_none h).cell (p := ⟨b, 0, none⟩) (lt_of_cell h2)]; exact h2⟩⟩
        case m3 =>
          exact ⟨fun u w1 w' h h1 => own_below h1 h, fun _ u w1 w' h h1 => own_below h1 (extB_none h)⟩
        case m4 =>
          exact ⟨fun u w1 w' h ⟨b, u3, h1, h2, h3⟩ => ⟨b, u3, h1, ext_block h h2, own_below h3 h⟩, fun _ u w1 w' h ⟨b, u3, h1, h2, h3⟩ => ⟨b, u3, h1, ext_block (extB_none h) h2, own_below h3 (extB_none h)⟩⟩
        case s0 =>
          refine stepIn_wp (fun av wv hE hS hO hD => ⟨rfl, wpIn_of_run (fun _ => trivial) (by intro c hc; cases hc) (w' := wv) (v := v) ?_ ⟨v, rfl, es_of_ext (Ext_refl _), rfl⟩⟩)
          have h6 : av.eval (.tmp 6) = .pointer (some ⟨o, 0, none⟩) := hO.2.2 6 rfl
          have f6 := (ev_form av 6).symm.trans h6
          have hc0 := extB_cell hE (by simp) hc0
          simp [go_sem, f6, hc0]
        case s1 =>
          refine stepIn_wp (fun av wv hE hS hO hD => ⟨rfl, wpIn_of_run (fun _ => trivial) (by intro c hc; cases hc) (w' := wv) (v := .map (some nk)) ?_ ⟨_, rfl, es_of_ext (Ext_refl _), rfl⟩⟩)
          have h8 : av.eval (.tmp 8) = .map (some nk) := hO.2.2 8 rfl
          have f8 := (ev_form av 8).symm.trans h8
          simp [go_sem, f8]
        case s2 =>
          refine stepIn_wp (fun av wv hE hS hO hD => ?_)
          have d45 : av.eval (.tmp 45) = .map (some nk) := hD.1 rfl _ rfl
          have f45 := (ev_form av 45).symm.trans d45
          refine ⟨rfl, wpIn_of_call (by intro c hc; cases hc) (by simp [go_sem, f45]) (keys_any (.map (some nk)) wv ⟨_, rfl⟩) ?_⟩
          rintro e w' ⟨rfl, rfl⟩
          exact ⟨_, rfl, _, rfl, es_of_ext (balloc (Ext_refl _) _), wv.heap.size, rfl, block_cell (heap_alloc_new _ _) 0⟩
        case s3 =>
          refine stepIn_wp (fun av wv hE hS hO hD => ?_)
          obtain ⟨b, d46, hcb⟩ : ∃ b, av.eval (.tmp 46) = .func (.func 74) #[] #[.pointer (some ⟨b, 0, none⟩)] ∧ wv.cell? ⟨b, 0, none⟩ = some (.map (some nk)) := hD.1 rfl _ rfl
          have f46 := (ev_form av 46).symm.trans d46
          have hB := of_drew hE
          refine ⟨rfl, wpIn_of_call (by intro c hc; cases hc) (by simp [go_sem, f46]) (sorted_any wv _ nx.length _ _ (fun k _ => k ∈ nx) (fun _ _ _ h => h) (enters_of Tryz.func74 (by kernel_rfl) rfl) (keys1_seq Fence.wide 4 trivial rfl (by omega) b nk 0 nx wv hcb ((hB.block _ (lt_of_block MN.out)).trans MN.out) hh.out.1) (by have := HLN.out; omega)
            (fun xs hS => Nat.lt_of_le_of_lt (Nat.le_trans (nodup_len xs nx hS.1 (fun k hk => (hS.2 k).1 hk)) HLN.out) (by decide))) ?_⟩
          rintro e w' ⟨u, xs, rfl, hS, hr, hb⟩
          refine ⟨u, rfl, u, rfl, es_of_ext hb, ?_⟩
          have e1 : srt xs = rowK ks := rowK_of hS.1 (fun k => (hS.2 k).trans (HD.out k))
          have e2 : xs.length = (rowK ks).length := by rw [← e1, srt_len]
          rw [e1, e2] at hr
          refine ⟨hr.1, ?_⟩
          rcases hr.2 with h3 | ⟨g, cap, cur, h4, h5, h6⟩
          · exact .inl h3
          · exact .inr ⟨g, cap, cur, h4, by have := BW.out.size; have := hB.size; omega, h6⟩
        case s4 =>
          refine stepIn_wp (fun av wv hE hS hO hD => ?_)
          have hrw : wv.ownsRow w.heap.size 23 1 (av.eval (.tmp 47)) (rowK ks).length ((rowK ks).map (Value.int .u64)) := hD.1 rfl _ rfl
          obtain ⟨u, hu⟩ : ∃ u, av.eval (.tmp 47) = u := ⟨_, rfl⟩
          rw [hu] at hrw
          have f47 := (ev_form av 47).symm.trans hu
          have hsl : ∃ ad n c, u = .slice ad n c := by
            rcases hrw.2 with ⟨e, _⟩ | ⟨g, cap, cur, e, _⟩
            · exact ⟨_, _, _, e⟩
            · exact ⟨_, _, _, e⟩
          obtain ⟨ad, n, c, rfl⟩ := hsl
          refine ⟨rfl, wpIn_of_run (fun _ => trivial) (by intro c hc; cases hc) (w' := wv.alloc (.cells #[.slice ad n c] 24)) (v := .slice (some ⟨wv.heap.size, 0, none⟩) 1 1) ?_ ⟨_, rfl, es_of_ext (balloc (Ext_refl _) _), wv.heap.size, _, rfl, heap_alloc_new _ _, own_below hrw (balloc (Below.refl _ _) _)⟩⟩
          simp [go_sem, f47]
        intro a' w' hE hO hall
        have hA := act_of_outer (ds := [44, 45, 46, 47, 48]) rfl hO (by kernel_rfl)
        have e44 : a'.eval (.tmp 44) = v := hall.1 _ rfl
        have e45 : a'.eval (.tmp 45) = .map (some nk) := hall.2.1 _ rfl
        obtain ⟨b2, e46, -⟩ : ∃ b, a'.eval (.tmp 46) = .func (.func 74) #[] #[.pointer (some ⟨b, 0, none⟩)] ∧ w'.cell? ⟨b, 0, none⟩ = some (.map (some nk)) := hall.2.2.1 _ rfl
        obtain ⟨b4, u3, e48, hb4, hu3⟩ : ∃ b u3, a'.eval (.tmp 48) = .slice (some ⟨b, 0, none⟩) 1 1 ∧ w'.heap[b]? = some (.cells #[u3] 24 (0, 0)) ∧ w'.ownsRow w.heap.size 23 1 u3 (rowK ks).length ((rowK ks).map (Value.int .u64)) := hall.2.2.2.2.1 _ rfl
        obtain ⟨v47, hv47⟩ : ∃ v, a'.eval (.tmp 47) = v := ⟨_, rfl⟩
        simp only [List.foldl_cons, List.foldl_nil, Act.put, List.setIfInBounds_toArray, List.set_cons_succ, List.set_cons_zero, e44, e45, e46, hv47, e48] at hA
        have WB := of_drew hE
        have HB4 := Lib.hid hb4
        have BX2 : Hid (Boxed w' o 56 v) := Lib.hid ((WB.block _ BX.out.lt).trans BX.out)
        have RW2 := Lib.hid (own_below RW.out WB)
        have RS2 := Lib.hid ((RS.out.below WB).snoc hu3)
        have BW2 := Lib.hid (bnext BW.out WB)
        have KO : Hid (Below W.heap.size W w') := Lib.hid (bnext hz.out WB)
        have hlv : vals.length = pre.length := by rw [RS.out.1, List.length_map]
        have HLV := Lib.hid hlv
        clear hO hall e44 e45 e46 hv47 e48 hE hb4 hu3 hc0 WB BX RW RS BW hlv hz HALL hh HD HLN
        subst hA
        simp only [List.drop_succ_cons, List.drop_zero]
        obtain ⟨i0, hi, hz0, hz1, hz2⟩ := info_parts info_rows
        refine wpListIn_append_own _ rfl _ _ 56 rfl w.heap.size 24 i0 (.slice none 0 0) 1 24 Tryz.underlying56 hi hz0 hz1 hz2 rfl (by decide) v vals.length vals rfl RW2.out ⟨b4, 0, none⟩ 1 1 [u3] rfl rfl ?c1 ?c2 ?c3 ?c4 ?c5 ?_
        case c1 =>
          intro j u hu
          cases j with
          | zero => simp at hu; subst hu; exact block_cell HB4.out 0
          | succ j => simp at hu
        case c2 =>
          have hr3 := RS2.out.2 pre.length (by simp)
          obtain ⟨u, h1, h2⟩ := hr3
          have : u = u3 := by
            rw [← HLV.out] at h1
            simpa using h1.symm
          subst this
          intro x hx
          simp at hx; subst hx
          rcases h2.2 with ⟨e, _⟩ | ⟨g, cap, cur, e, _⟩ <;> (rw [e]; rfl)
        case c3 => have := HLV.out; unfold maxLen; omega
        case c4 => have := HLV.out; omega
        case c5 => exact BW2.out.size
        intro v' w1 hown' hgrow _
        obtain ⟨g', cap', rfl⟩ := ownsRow_succ hown'
        have hv1 : Boxed w1 o 56 v := BX2.out.kept hgrow (BX2.out.not_row (by decide) RW2.out)
        have R1 : Hid (RowsAre w1 w.heap.size (vals ++ [u3]) (pre.map (fun x => rowK x.2.2) ++ [rowK ks])) := Lib.hid (RS2.out.kept hgrow (fun i u hu => by
          rcases RW2.out.2 with ⟨e, _⟩ | ⟨g, cap, cur, e, _, hgb, _⟩
          · rw [e]; cases h : u.ownBlock <;> simp [Value.ownBlock]
          · rw [e]; exact RS2.out.apart hgb (by decide) i u hu))
        have K1 : Hid (KeepsOthers W w1) := Lib.hid ((⟨KO.out.size, fun k ob hk _ => (KO.out.block k (lt_of_block hk)).trans hk⟩ : KeepsOthers W w').trans (KeepsOthers.of_grownBy hgrow fun j ob ej hj => by
          rcases RW2.out.2 with ⟨e, _⟩ | ⟨g, cap, cur, e, _, hgb, _⟩
          · rw [e] at ej; simp [Value.ownBlock] at ej
          · rw [e] at ej
            obtain rfl : g = j := by simpa [Value.ownBlock] using ej
            rw [hgb] at hj; cases hj; rfl))
        have B1 : Hid (Below w.heap.size w w1) := Lib.hid (grownBy_below BW2.out hgrow (fun k hk => by
          rcases RW2.out.2 with ⟨e, _⟩ | ⟨g, cap, cur, e, hg1, _⟩
          · rw [e] at hk; simp [Value.ownBlock] at hk
          · rw [e] at hk
            obtain rfl : g = k := by simpa [Value.ownBlock] using hk
            exact hg1))
        have hc1 := hv1.cell
        have hf1 := hv1.frozen
        have BV := Lib.hid hv1
        have OW := Lib.hid hown'
        clear hv1 hgrow hown' hi hz0 hz1 hz2
        gi_wp2
        refine ⟨(K1.out.trans (KeepsOthers.setCell _ _ _)).from _, (K1.out.trans (KeepsOthers.setCell _ _ _)).walks, ⟨_, vals ++ [u3], BV.out.set _, ?_, ?_⟩, B1.out.setCell howz _⟩
        · have := OW.out.kept (grownBy_setCell' w1 o (.slice (some ⟨g', 0, none⟩) (vals.length + 1) cap')) (.inr (BV.out.not_row (by decide) OW.out).symm)
          simpa using this
        · have := R1.out.kept (grownBy_setCell' w1 o (.slice (some ⟨g', 0, none⟩) (vals.length + 1) cap')) (R1.out.apart BV.out (by decide))
          simpa using this
      · intro j hj' w1 hns hr1 hltj hb1 hsz hoth hen
        have hi' : j < ks.length := by rw [← kv_len]; exact hj'
        have hkk : (kv ks)[j].1 = ks[j] := (kv_get ks j hj').1
        have hvv : (kv ks)[j].2 = .bool true := (kv_get ks j hj').2
        rw [hkk, hvv] at hen ⊢
        have HX6 : Hid (w1.heap[nk]? = some (mObj .u64 0 (kv nx))) := Lib.hid ((hoth nk (by omega)).trans hx.out)
        have HR6 := Lib.hid hr1
        have HLT := Lib.hid hltj
        have HH6 := Lib.hid (hh.out.step (nb := nb) hi')
        have HB6 : Hid (Below W.heap.size W w1) := Lib.hid (hz.out.trans (hb1 W.heap.size (by have := NK.out; omega)))
        have hku := HU2.out ks[j] (List.getElem_mem hi')
        obtain ⟨k, hkd⟩ : ∃ k, ks[j] = k := ⟨_, rfl⟩
        rw [hkd] at hen HH6 ⊢
        try dsimp only at hku
        rw [hkd] at hku
        unfold U64 at hku
        have hk0 := hku.1
        have hk1 := hku.2
        clear hkk hvv hns hr1 hltj hb1 hsz hoth hr hx hh hkd hku hz
        gi_wp2_with fail
        refine ⟨trivial, (CallsIn.inRound l (callsIn_wide.2 (sibling_any k w1 hk0 hk1))).mono ?_⟩
        rintro e w' ⟨rfl, rfl⟩
        clear hen
        obtain ⟨s, hs⟩ : ∃ s, sib k = s := ⟨_, rfl⟩
        rw [hs] at HH6 ⊢
        have hlook := kv_look ks s
        clear hs
        by_cases hin : s ∈ ks
        · rw [decide_eq_true hin] at hlook
          have HG := Lib.hid hlook
          have HH7 : Hid (Lack ks nb (seen.push (nb + j)) nx) := Lib.hid (by have := HH6.out; rw [if_pos hin] at this; exact this)
          clear hlook hin HH6
          gi_wp2_with (gi_at_lookup; refine wpListIn_lookup_m rfl _ _ 94 23 4 .u64 rfl Tryz.underlying94 Tryz.underlying23 (.bool false) (Tryz.zeroValue4 _) kb nb _ rfl HR6.out.map _ rfl ?_; rw [HG.out])
          go_roundw
          case rel => exact ⟨_, _, HR6.out, HX6.out, HH7.out, HB6.out⟩
          case measure => exact HLT.out
        · rw [decide_eq_false hin] at hlook
          have HG := Lib.hid hlook
          have HH7 : Hid (Lack ks nb (seen.push (nb + j)) (insK nx s)) := Lib.hid (by have := HH6.out; rw [if_neg hin] at this; exact this)
          clear hlook hin HH6
          have HR7 : Hid (Ranging (setBlock w1 nk (mObj .u64 0 (mPut (kv nx) s (.bool true)))) kb r .u64 nb (kv ks) (seen.push (nb + j))) := Lib.hid ⟨(setBlock_other (by omega)).trans HR6.out.map, (setBlock_other (by omega)).trans HR6.out.iter⟩
          have HL7 : Hid (rLeft (setBlock w1 nk (mObj .u64 0 (mPut (kv nx) s (.bool true)))) r (nb + (kv ks).length) < rLeft wr r (nb + (kv ks).length)) := Lib.hid (by have := HLT.out; rw [HR6.out.left] at this; rw [HR7.out.left]; exact this)
          gi_wp2_with (first | (gi_at_lookup; refine wpListIn_lookup_m rfl _ _ 94 23 4 .u64 rfl Tryz.underlying94 Tryz.underlying23 (.bool false) (Tryz.zeroValue4 _) kb nb _ rfl HR6.out.map _ rfl ?_; rw [HG.out]) | (gi_at_mapUpdate; refine wpListIn_mapUpdate_m rfl _ _ _ 94 23 4 .u64 rfl Tryz.underlying94 Tryz.underlying23 nk 0 _ rfl HX6.out _ _ rfl rfl ?_))
          go_roundw
          case rel =>
            (repeat apply Exists.intro)
            exact ⟨⟨seen.push (nb + j), insK nx s, HR7.out, (by rw [← kv_put]; exact setBlock_same HX6.out), HH7.out, setBlock_below HB6.out (by have := NK.out; omega)⟩, rfl⟩
          case measure => exact HL7.out
  case done =>
    rintro D xs W hD hS ⟨⟨v, vals, hv, hrow, hrows⟩, hB⟩ hK
    have hc := hv.cell
    rw [rowsOf_levs hS] at hrows
    gi_wp2
    refine ⟨by simp, .inl ⟨_, _, rfl, run_takeDeferred hK, ?_⟩⟩
    have hhb : Below W.heap.size W W := Below.refl _ _
    refine ⟨_, results_tmp rfl _ _ _, v, vals, rfl, ownsRow_putObj hrow _ hK rfl, ⟨hrows.1, fun i hi => ?_⟩, hB.trans (belowK_b (w := Z) ?_ W D _ _ hD hK rfl rfl)⟩
    · obtain ⟨u, h1, h2⟩ := hrows.2 i hi
      exact ⟨u, h1, ownsRow_putObj h2 _ hK rfl⟩
    · exact ZB.out.size
end Go.Proofs.YtloccahcnikbfaaGreat
namespace Go.Proofs.YtloccahcnikbfaaGreat
open Go.RowKit
set_option linter.unusedSimpArgs false
set_option linter.unusedVariables false
def rnth (rs : List (List Int)) (i : Nat) : List Int := rs.getD i []
theorem rnth_eq (rs : List (List Int)) (i : Nat) (h : i < rs.length) : rnth rs i = rs[i] := by
  unfold rnth; rw [List.getD_eq_getElem?_getD, List.getElem?_eq_getElem h]; rfl
def Rows2 (w : World) (a : Option Addr) (rs : List (List Int)) : Prop :=
  ∀ i, i < len rs → ∃ b off ai ci, a = some ⟨b, off, none⟩ ∧ w.cell? ⟨b, off + i, none⟩ = some (.slice ai (len (rnth rs i)) ci) ∧ U64s w ai (rnth rs i) ∧ len (rnth rs i) ≤ ci
theorem Rows2.below {w w' : World} {a : Option Addr} {rs : List (List Int)} (h : Rows2 w a rs) (hb : Below w.heap.size w w') : Rows2 w' a rs := fun i hi => by
  obtain ⟨b, off, ai, ci, rfl, h1, h2, h3⟩ := h i hi
  exact ⟨b, off, ai, ci, rfl, by rw [hb.cell (p := ⟨b, off + i, none⟩) (lt_of_cell h1)]; exact h1, h2.below hb, h3⟩
theorem Rows2.drew {w w' : World} {a : Option Addr} {rs : List (List Int)} (h : Rows2 w a rs) (hb : Drew w w') : Rows2 w' a rs := h.below (hb.below _)
theorem Rows2.nil (w : World) (a : Option Addr) : Rows2 w a [] := fun i h => by simp [len] at h
theorem own_u64 {w : World} {base n : Nat} {v : Value} {l : List Int} (h : w.ownsRow base 23 1 v n (l.map (Value.int .u64))) : ∃ a cap, v = .slice a (len l) cap ∧ U64s w a l ∧ len l ≤ cap ∧ cap ≤ maxLen := by
  have hn : len l = n := by have := h.1; rw [len_eq]; simpa using this
  rcases h.2 with ⟨rfl, h2⟩ | ⟨g, cap, cur, rfl, hg, hh, hc1, hc2, hc3, hc4⟩
  · obtain rfl : l = [] := List.eq_nil_of_length_eq_zero (by rw [← len_eq]; omega)
    exact ⟨none, 0, rfl, U64s.nil _ _, Nat.le_refl _, Nat.zero_le _⟩
  · refine ⟨some ⟨g, 0, none⟩, cap, by rw [hn], fun i hi => ⟨g, 0, rfl, ?_⟩, by omega, hc2⟩
    have := h.cellAt i (by omega)
    rw [Nat.zero_add, this, List.getElem?_map, List.getElem?_eq_getElem hi, nth_eq l i hi]; rfl
theorem rows2_of {w : World} {base : Nat} {v : Value} {vals : List Value} {rs : List (List Int)} (h : w.ownsRow base 24 1 v vals.length vals) (hr : RowsAre w base vals rs) : ∃ a cap, v = .slice a (len rs) cap ∧ Rows2 w a rs ∧ len rs ≤ cap ∧ cap ≤ maxLen := by
  have hn : len rs = vals.length := hr.1.symm
  rcases h.2 with ⟨rfl, h2⟩ | ⟨g, cap, cur, rfl, hg, hh, hc1, hc2, hc3, hc4⟩
  · obtain rfl : rs = [] := List.eq_nil_of_length_eq_zero (by rw [← len_eq]; omega)
    exact ⟨none, 0, rfl, Rows2.nil _ _, Nat.le_refl _, Nat.zero_le _⟩
  · refine ⟨some ⟨g, 0, none⟩, cap, by rw [hn], fun i hi => ?_, by omega, hc2⟩
    obtain ⟨u, h1, h2⟩ := hr.2 i hi
    obtain ⟨a, c, rfl, h3, h4, h5⟩ := own_u64 h2
    have h6 := h.cellAt i (by omega)
    rw [h1] at h6
    rw [rnth_eq rs i hi]
    exact ⟨g, 0, a, c, rfl, by rw [Nat.zero_add]; exact h6, h3, h4⟩
end Go.Proofs.YtloccahcnikbfaaGreat
namespace Go.Proofs.YtloccahcnikbfaaGreat
open Go.RowKit
set_option linter.unusedSimpArgs false
set_option linter.unusedVariables false
def needsL (leaves : List Int) (d : Int) : List (List Int) := if 0 ≤ d ∧ d ≤ 16 ∧ 0 < len leaves ∧ farB leaves d.toNat = false then rowsOf leaves d.toNat else []
theorem needsIs_nil {w w' : World} {rs : List (List Int)} (h : rs = []) (hb : Below w.heap.size w w') : NeedsIs rs w (.returned (.slice none 0 0)) w' :=
  ⟨_, [], rfl, World.ownsRow_nil _ _ _ _, by rw [h]; exact RowsAre.nil _ _, hb⟩
set_option maxRecDepth 100000 in
theorem needs_any (a : Option Addr) (cap : Nat) (leaves : List Int) (d : Int) (w : World) (hl : U64s w a leaves) (hlen : len leaves ≤ 100) (hu : ∀ k ∈ leaves, U64 k) :
    Calls Tryz.prog 37 #[.slice a (len leaves) cap, .int .i64 d] w (NeedsIs (needsL leaves d) w) := by
  by_cases hd : 0 ≤ d ∧ d ≤ 16
  · obtain ⟨hd0, hd1⟩ := hd
    obtain ⟨e, rfl⟩ := Int.eq_ofNat_of_zero_le hd0
    by_cases hl0 : 0 < len leaves
    · cases hf : farB leaves e with
      | false =>
        have E : needsL leaves e = rowsOf leaves e := by unfold needsL; rw [Int.toNat_natCast, if_pos ⟨hd0, hd1, hl0, hf⟩]
        rw [E]
        exact needs12_any a cap leaves e w hl hlen hl0 hu (by omega) hf
      | true =>
        have E : Hid (needsL leaves e = []) := Lib.hid (by unfold needsL; rw [Int.toNat_natCast, if_neg (fun h => by rw [hf] at h; exact absurd h.2.2.2 (by decide))])
        have HL := Lib.hid hl
        have HU := Lib.hid hu
        have HF := Lib.hid hf
        have hm : (decide ((0 : Int) ≤ (e : Int)) && decide ((e : Int) ≤ 16)) = true := by simp [hd1]
        have HM := Lib.hid hm
        have b3 : ((len leaves : Int) == 0) = false := by simp; omega
        clear hl hu hf hm
        go_enter Tryz.func37, Tryz.ntmps37
        go_wp2_with fail
        refine (may_any _ _).mono ?_
        rintro x w' ⟨rfl, rfl⟩
        rw [HM.out]
        obtain ⟨V, hV⟩ : ∃ V, w.alloc (.cells #[.int .i64 e] 3) = V := ⟨_, rfl⟩
        have VB : Hid (Below w.heap.size w V) := Lib.hid (by rw [← hV]; (repeat (first | exact Below.refl _ _ | assumption | (refine bdrew ?_) | (refine bdrewN ?_ _) | (refine balloc ?_ _) | (refine bset ?_ (by first | omega | (simp; done) | (simp; omega)) _) | (refine bnext ?_ (by assumption)))))
        have V0 : Hid (V.heap[w.heap.size]? = some (.cells #[.int .i64 e] 3 (0, 0))) := Lib.hid (by rw [← hV]; (repeat (first | exact alloc_new_at _ (by repeat (first | rfl | refine alloc_size _ ?_)) | refine block_alloc ?_ _)))
        rw [hV]
        clear hV
        go_wp2_with fail
        refine (contains_any a cap leaves w.heap.size e V (block_cell V0.out 0) (by omega) (HL.out.below VB.out) (by omega) HU.out).mono ?_
        rintro x w' ⟨rfl, rfl⟩
        rw [HF.out]
        go_wp2
        go_ret
        exact needsIs_nil E.out VB.out
    · have E : Hid (needsL leaves e = []) := Lib.hid (by unfold needsL; rw [if_neg (fun h => hl0 h.2.2.1)])
      have hm : (decide ((0 : Int) ≤ (e : Int)) && decide ((e : Int) ≤ 16)) = true := by simp [hd1]
      have HM := Lib.hid hm
      have b3 : ((len leaves : Int) == 0) = true := by simp; omega
      clear hl hu hm hl0
      go_enter Tryz.func37, Tryz.ntmps37
      go_wp2_with fail
      refine (may_any _ _).mono ?_
      rintro x w' ⟨rfl, rfl⟩
      rw [HM.out]
      go_wp2
      go_ret
      exact needsIs_nil E.out (by (repeat (first | exact Below.refl _ _ | assumption | (refine bdrew ?_) | (refine bdrewN ?_ _) | (refine balloc ?_ _) | (refine bset ?_ (by first | omega | (simp; done) | (simp; omega)) _) | (refine bnext ?_ (by assumption)))))
  · have hm : (decide ((0 : Int) ≤ d) && decide (d ≤ 16)) = false := by
      rw [Bool.and_eq_false_iff, decide_eq_false_iff_not, decide_eq_false_iff_not]; omega
    have HM := Lib.hid hm
    have E : Hid (needsL leaves d = []) := Lib.hid (by unfold needsL; rw [if_neg (fun h => hd ⟨h.1, h.2.1⟩)])
    clear hm hd hl hu
    go_enter Tryz.func37, Tryz.ntmps37
    go_wp2_with fail
    refine (may_any _ _).mono ?_
    rintro x w' ⟨rfl, rfl⟩
    rw [HM.out]
    go_wp2
    go_ret
    exact needsIs_nil E.out (by (repeat (first | exact Below.refl _ _ | assumption | (refine bdrew ?_) | (refine bdrewN ?_ _) | (refine balloc ?_ _) | (refine bset ?_ (by first | omega | (simp; done) | (simp; omega)) _) | (refine bnext ?_ (by assumption)))))
end Go.Proofs.YtloccahcnikbfaaGreat
namespace Go.Proofs.YtloccahcnikbfaaGreat
open Go.RowKit Go.ChangeMaps
set_option linter.unusedSimpArgs false
set_option linter.unusedVariables false
attribute [local go_sem] Oper.semAt_some
structure KpO (o : Nat) (A B : World) : Prop where
  size : A.heap.size ≤ B.heap.size
  same : ∀ b cs t fr, b ≠ o → t ≠ 9 → A.heap[b]? = some (.cells cs t fr) → B.heap[b]? = some (.cells cs t fr)
theorem KpO.trans {o : Nat} {A B C : World} (h : KpO o A B) (k : KpO o B C) : KpO o A C := ⟨Nat.le_trans h.size k.size, fun b cs t fr hb ht hc => k.same b cs t fr hb ht (h.same b cs t fr hb ht hc)⟩
theorem KpO.putObj (o : Nat) (W : World) (l : Nat) (x x' : Obj) (hl : W.heap[l]? = some x) (hx : x.isCells = false) : KpO o W (W.putObj l x') :=
  ⟨by simp, fun b cs t fr _ _ hc => by
    have : b ≠ l := fun e => by subst e; rw [hl] at hc; cases hc; cases hx
    exact (World.putObj_heap_other this).trans hc⟩
theorem own_kpo {o : Nat} {A B : World} (h : KpO o A B) {base e size n : Nat} {v : Value} {xs : List Value} (ho : o < base) (he : e ≠ 9) (hr : A.ownsRow base e size v n xs) : B.ownsRow base e size v n xs := by
  refine ⟨hr.1, ?_⟩
  rcases hr.2 with hz | ⟨g, cap, cur, hv, hg, hh, hrest⟩
  · exact Or.inl hz
  · exact Or.inr ⟨g, cap, cur, hv, hg, h.same g cur e (0, 0) (by omega) he hh, hrest⟩
theorem rows_kpo {o : Nat} {A B : World} (h : KpO o A B) {base : Nat} {vals : List Value} {rs : List (List Int)} (ho : o < base) (hr : RowsAre A base vals rs) : RowsAre B base vals rs :=
  ⟨hr.1, fun i hi => by
    obtain ⟨u, h1, h2⟩ := hr.2 i hi
    exact ⟨u, h1, own_kpo h ho (by decide) h2⟩⟩
def flatFrom : Nat → List (List Int) → List (Int × Int)
  | _, [] => []
  | i, r :: rs => r.map (fun k => ((i : Int), k)) ++ flatFrom (i + 1) rs
theorem flatFrom_app : ∀ (s : Nat) (a b : List (List Int)), flatFrom s (a ++ b) = flatFrom s a ++ flatFrom (s + a.length) b
  | _, [], _ => rfl
  | s, r :: a, b => by
    rw [List.cons_append, flatFrom, flatFrom, flatFrom_app (s + 1) a b, List.append_assoc, List.length_cons, show s + 1 + a.length = s + (a.length + 1) by omega]
def flatLv (rs : List (List Int)) : List (Int × Int) := flatFrom 0 rs
def flatAt (rs : List (List Int)) (i j : Nat) : List (Int × Int) := flatLv (rs.take i) ++ ((rnth rs i).take j).map (fun k => ((i : Int), k))
theorem flatAt_next (rs : List (List Int)) (i j : Nat) (hj : j < len (rnth rs i)) : flatAt rs i (j + 1) = flatAt rs i j ++ [((i : Int), nth (rnth rs i) j)] := by
  unfold flatAt
  have h : j < (rnth rs i).length := hj
  rw [List.take_succ_eq_append_getElem h, List.map_append, List.append_assoc, nth_eq _ _ h]
  rfl
theorem flatAt_row (rs : List (List Int)) (i : Nat) (hi : i < len rs) : flatAt rs i (len (rnth rs i)) = flatAt rs (i + 1) 0 := by
  unfold flatAt flatLv
  have h : i < rs.length := hi
  rw [take_len, List.take_zero, List.map_nil, List.append_nil, List.take_succ_eq_append_getElem h, flatFrom_app, List.length_take, Nat.min_eq_left (Nat.le_of_lt h), rnth_eq rs i h]
  simp [flatFrom]
theorem flatAt_end (rs : List (List Int)) : flatAt rs (len rs) 0 = flatLv rs := by
  unfold flatAt
  rw [take_len, List.take_zero, List.map_nil, List.append_nil]
theorem flatAt_lt (rs : List (List Int)) (i j : Nat) (hi : i < len rs) (hj : j < len (rnth rs i)) : (flatAt rs i j).length < (flatLv rs).length := by
  have h : i < rs.length := hi
  have h2 : j < (rnth rs i).length := hj
  have e : flatLv rs = flatLv (rs.take i) ++ (flatFrom (0 + (rs.take i).length) (rs.drop i)) := by
    unfold flatLv
    rw [← flatFrom_app, List.take_append_drop]
  have e2 : rs.drop i = rnth rs i :: rs.drop (i + 1) := by rw [rnth_eq rs i h]; exact List.drop_eq_getElem_cons h
  rw [e, e2, flatFrom]
  unfold flatAt
  simp only [List.length_append, List.length_map, List.length_take]
  omega
theorem flat_at (rs : List (List Int)) (i j : Nat) (hi : i < len rs) (hj : j < len (rnth rs i)) : (flatLv rs)[(flatAt rs i j).length]? = some ((i : Int), nth (rnth rs i) j) := by
  have h : i < rs.length := hi
  have h2 : j < (rnth rs i).length := hj
  have e : flatLv rs = flatLv (rs.take i) ++ (flatFrom (0 + (rs.take i).length) (rs.drop i)) := by
    unfold flatLv
    rw [← flatFrom_app, List.take_append_drop]
  have e2 : rs.drop i = rnth rs i :: rs.drop (i + 1) := by rw [rnth_eq rs i h]; exact List.drop_eq_getElem_cons h
  have e3 : rnth rs i = (rnth rs i).take j ++ nth (rnth rs i) j :: (rnth rs i).drop (j + 1) := by
    rw [nth_eq _ _ h2, ← List.drop_eq_getElem_cons h2, List.take_append_drop]
  have e4 : 0 + (rs.take i).length = i := by rw [List.length_take]; omega
  have e5 : flatLv rs = flatAt rs i j ++ (((i : Int), nth (rnth rs i) j) :: (((rnth rs i).drop (j + 1)).map (fun k => ((i : Int), k)) ++ flatFrom (i + 1) (rs.drop (i + 1)))) := by
    rw [e, e4, e2, flatFrom]
    unfold flatAt
    conv => lhs; rw [e3]
    simp only [List.map_append, List.map_cons, List.append_assoc, List.cons_append]
  rw [e5, List.getElem?_append_right (Nat.le_refl _), Nat.sub_self]
  rfl
def leavesL (l : List Int) (d : Int) : List Int := l.map fun k => turnedZ k d
theorem leavesL_len (l : List Int) (d : Int) : len (leavesL l d) = len l := by unfold leavesL; rw [len_eq, len_eq, List.length_map]
theorem turnedZ_bd (k d : Int) : 0 ≤ turnedZ k d ∧ turnedZ k d ≤ 65535 := by
  unfold turnedZ
  split
  · rename_i h
    have h1 := revOf_lt k.toNat d.toNat
    have h2 : 2 ^ d.toNat ≤ 2 ^ 16 := Nat.pow_le_pow_right (by decide) (by omega)
    have h3 : (2 : Nat) ^ 16 = 65536 := by decide
    omega
  · decide
theorem leavesL_u64 (l : List Int) (d : Int) : ∀ k ∈ leavesL l d, U64 k := by
  intro k hk
  obtain ⟨x, _, rfl⟩ := List.mem_map.1 hk
  have := turnedZ_bd x d
  unfold U64
  omega
theorem leavesL_snoc (l : List Int) (d : Int) (m : Nat) (h : m < len l) : leavesL (l.take (m + 1)) d = leavesL (l.take m) d ++ [turnedZ (nth l m) d] := by
  unfold leavesL
  have h2 : m < l.length := h
  rw [List.take_succ_eq_append_getElem h2, List.map_append, nth_eq l m h2]
  rfl
theorem mem_nth {l : List Int} {i : Nat} (h : i < len l) : nth l i ∈ l := by
  have h2 : i < l.length := h
  rw [nth_eq l i h2]; exact List.getElem_mem h2
theorem rnth_nl (leaves : List Int) (d : Int) (hlen : len leaves ≤ 100) (i : Nat) : len (rnth (needsL leaves d) i) ≤ 100 := by
  have key : ∀ r ∈ needsL leaves d, r.length ≤ 100 := by
    intro r hr
    unfold needsL at hr
    split at hr
    · unfold rowsOf at hr
      obtain ⟨j, hj, rfl⟩ := List.mem_map.1 hr
      unfold rowK
      rw [srt_len]
      refine Nat.le_trans (needK_len _) (Nat.le_trans (insAll_all _).2.2 ?_)
      rw [List.length_map]; exact hlen
    · cases hr
  by_cases hi : i < (needsL leaves d).length
  · rw [rnth_eq _ i hi, len_eq]
    have := key _ (List.getElem_mem hi); omega
  · have : rnth (needsL leaves d) i = [] := by
      unfold rnth; rw [List.getD_eq_getElem?_getD, List.getElem?_eq_none (by omega)]; rfl
    rw [this]; exact Nat.zero_le _
theorem len_nl (leaves : List Int) (d : Int) : len (needsL leaves d) ≤ 16 := by
  unfold needsL
  split
  · rename_i h
    rw [len_eq]; unfold rowsOf; rw [List.length_map, List.length_range]; have := h.2.1; omega
  · exact Nat.zero_le _
theorem flatFrom_len : ∀ (s : Nat) (rs : List (List Int)), (∀ r ∈ rs, r.length ≤ 100) → (flatFrom s rs).length ≤ 100 * rs.length
  | _, [], _ => Nat.le_refl _
  | s, r :: rs, h => by
    have h1 := flatFrom_len (s + 1) rs (fun x hx => h x (List.mem_cons_of_mem _ hx))
    have h2 := h r List.mem_cons_self
    rw [flatFrom, List.length_append, List.length_map, List.length_cons]
    omega
theorem flat_bd (leaves : List Int) (d : Int) (hlen : len leaves ≤ 100) : (flatLv (needsL leaves d)).length ≤ 1600 := by
  have h := flatFrom_len 0 (needsL leaves d) (fun r hr => by
    obtain ⟨i, hi, rfl⟩ := List.mem_iff_getElem.1 hr
    rw [← rnth_eq _ i hi]
    exact rnth_nl leaves d hlen i)
  have h2 := len_nl leaves d
  rw [len_eq] at h2
  unfold flatLv
  omega
abbrev PlSeq {α : Type} (f : α → Int × Int) (o bP bD N : Nat) (L : List α) (n : Nat) (w : World) : Prop :=
  SeqStopsK Fence.wide n Tryz.prog 35 #[.pointer (some ⟨bP, 0, none⟩), .pointer (some ⟨bD, 0, none⟩)] (fun x : α => #[.int .i64 (f x).1, .int .u64 (f x).2]) (KpO o) (fun xs => xs = L) (fun _ => True) N w
set_option maxRecDepth 100000 in
set_option maxHeartbeats 4000000 in
theorem places_seq {α : Type} (f : α → Int × Int) (L : List α) (n : Nat) (hn1 : 1 ≤ n) (o bP bD : Nat) (a : Option Addr) (cap : Nat) (l : List Int) (d : Nat) (w : World) (hcP : w.cell? ⟨bP, 0, none⟩ = some (.slice a (len l) cap)) (hcD : w.cell? ⟨bD, 0, none⟩ = some (.int .i64 d))
    (hl : U64s w a l) (hlen : len l ≤ 100) (hd : d ≤ 16) (hu : ∀ k ∈ l, U64 k) (ho : o < w.heap.size) (hLM : L.map f = flatLv (needsL (leavesL l d) d)) :
    PlSeq f o bP bD L.length L n w := by
  obtain ⟨rs, hrs⟩ : ∃ rs, needsL (leavesL l d) d = rs := ⟨_, rfl⟩
  rw [hrs] at hLM
  have HLM := Lib.hid hLM
  have HRS := Lib.hid hrs
  have HB1 : Hid (len rs ≤ 16) := Lib.hid (by rw [← hrs]; exact len_nl _ _)
  have HB2 : Hid (∀ i, len (rnth rs i) ≤ 100) := Lib.hid (by rw [← hrs]; exact rnth_nl _ _ (by rw [leavesL_len]; exact hlen))
  clear hrs hLM
  intro l0 J Jx W hW hJ hJx hY h0
  have HC1 : Hid (W.cell? ⟨bP, 0, none⟩ = some (.slice a (len l) cap)) := Lib.hid (by rw [hW.cell (p := ⟨bP, 0, none⟩) (lt_of_cell hcP)]; exact hcP)
  have HC2 : Hid (W.cell? ⟨bD, 0, none⟩ = some (.int .i64 d)) := Lib.hid (by rw [hW.cell (p := ⟨bD, 0, none⟩) (lt_of_cell hcD)]; exact hcD)
  have HL := Lib.hid (hl.below hW)
  have H0 := Lib.hid h0
  have HJ := Lib.hid hJ
  have HJX := Lib.hid hJx
  have HY := Lib.hid hY
  have HU := Lib.hid hu
  have HO : Hid (o < W.heap.size) := Lib.hid (Nat.lt_of_lt_of_le ho hW.size)
  obtain ⟨i0, hi, hz0, hz1, hz2⟩ := info_parts info_u64
  have HZ := Lib.hid hz0
  clear hcP hcD hW h0 hJ hJx hY hl hu ho hz0
  refine callsIn_of_wp Tryz.func35 rfl trivial ?_ rfl
  simp only [Tryz.ntmps35, List.size_toArray, List.length_cons, List.length_nil, Nat.reduceAdd, Nat.reduceSub, Array.replicate_succ, Array.replicate_zero, List.push_toArray, List.append_toArray, List.nil_append, List.cons_append]
  have cP := HC1.out
  gi_wp2
  clear cP
  gi_loopw [13, 4] (fun i v wr => ∃ m : Nat, m ≤ len l ∧ i = .int .i64 m ∧ Hid (wr.ownsRow W.heap.size 23 1 v m ((leavesL (l.take m) d).map (Value.int .u64))) ∧ Hid (Below W.heap.size W wr)) (fun i _ _ => len l - (intOf i).toNat)
  case atStart => exact ⟨0, Nat.zero_le _, rfl, Lib.hid (World.ownsRow_nil _ _ _ _), Lib.hid (Below.refl _ _)⟩
  case round =>
    obtain ⟨m, hm, rfl, HR, HB⟩ := hrel
    by_cases hlt : m < len l
    · obtain ⟨b, off, rfl, hcell⟩ := HL.out.below HB.out m hlt
      have b0 : (m : Int) < len l := by omega
      have cD : wr.cell? ⟨bD, 0, none⟩ = some (.int .i64 d) := by rw [HB.out.cell (p := ⟨bD, 0, none⟩) (lt_of_cell HC2.out)]; exact HC2.out
      obtain ⟨k, hk⟩ : ∃ k, nth l m = k := ⟨_, rfl⟩
      have hku : U64 k := by rw [← hk]; exact HU.out _ (mem_nth hlt)
      rw [hk] at hcell
      have HK := Lib.hid hk
      have HLF := Lib.hid (leaf_any k (d : Nat) wr hku.1 hku.2)
      clear hk hku
      gi_wp2_with fail
      refine ⟨trivial, (callsIn_wide.2 HLF.out).mono ?_⟩
      rintro e w1 ⟨rfl, rfl⟩
      gi_wp2_with (gi_at_builtin; refine wpListIn_append_own _ rfl _ _ 24 rfl W.heap.size 23 i0 (.int .u64 0) 1 8 Tryz.underlying24 hi HZ.out hz1 hz2 rfl (by decide) _ _ _ rfl (HR.out.alloc _) ⟨wr.heap.size, 0, none⟩ 1 1 [.int .u64 (turnedZ k d)] rfl rfl (World.news_of_block (heap_alloc_new _ _)) (by intro u hu9; simp at hu9; subst hu9; rfl) (by unfold maxLen; omega) (by omega) (by have := HB.out.size; simp; omega) ?_; intro v2 w4 hown2 hgrow2 _)
      have HO2 : Hid (w4.ownsRow W.heap.size 23 1 v2 (m + 1) ((leavesL (l.take (m + 1)) d).map (Value.int .u64))) := Lib.hid (by
        rw [leavesL_snoc l d m hlt, HK.out, List.map_append]
        exact hown2)
      have HB2 : Hid (Below W.heap.size W w4) := Lib.hid (grownBy_below (balloc HB.out _) hgrow2 (fun k hk' => (HR.out.lt k hk').1))
      clear hown2 hgrow2 HLF cD hcell
      gi_wp2
      go_roundw
      case rel => exact ⟨m + 1, by omega, by go_num, HO2, HB2⟩
      case measure => simp [intOf]; omega
    · obtain rfl : m = len l := by omega
      have b0 : ¬ ((len l : Nat) : Int) < len l := by omega
      have HR2 : Hid (wr.ownsRow W.heap.size 23 1 u4 (len l) ((leavesL l d).map (Value.int .u64))) := Lib.hid (by have h := HR.out; rw [take_len] at h; exact h)
      obtain ⟨a2, cap2, hv, hL2, hc2, hc3⟩ := own_u64 HR2.out
      subst hv
      have HL2 := Lib.hid hL2
      have cD : wr.cell? ⟨bD, 0, none⟩ = some (.int .i64 d) := by rw [HB.out.cell (p := ⟨bD, 0, none⟩) (lt_of_cell HC2.out)]; exact HC2.out
      have HND := Lib.hid (needs_any a2 cap2 (leavesL l d) (d : Nat) wr hL2 (by rw [leavesL_len]; exact hlen) (leavesL_u64 l d))
      rw [HRS.out] at HND
      clear hL2 hc2 hc3 HR hlt hm HR2
      gi_wp2_with fail
      refine ⟨trivial, (callsIn_wide.2 HND.out).mono ?_⟩
      rintro e w2 ⟨v, vals, rfl, hr1, hr2, hb2⟩
      obtain ⟨a3, cap3, hv, hR3, hc4, hc5⟩ := rows2_of hr1 hr2
      have HR1 := Lib.hid hr1
      have HR2 := Lib.hid hr2
      have HBS : Hid (o < wr.heap.size) := Lib.hid (Nat.lt_of_lt_of_le HO.out HB.out.size)
      have HJ2 : Hid (J [] w2) := Lib.hid (HJ.out _ _ _ none H0.out (below_grown (bnext HB.out hb2)) (fun r e => by cases e))
      have HWS : Hid (W.heap.size ≤ w2.heap.size) := Lib.hid (Nat.le_trans HB.out.size hb2.size)
      obtain ⟨B2, hB2⟩ : ∃ B2, wr.heap.size = B2 := ⟨_, rfl⟩
      rw [hB2] at HR1 HR2 HBS
      subst hv
      clear hr1 hr2 hb2 hR3 hB2 HND cD HB H0
      gi_wp2
      gi_loopw [28] (fun i wr => ∃ m : Nat, m ≤ len rs ∧ i = .int .i64 m ∧ Hid (J (L.take (flatAt rs m 0).length) wr) ∧ Hid (wr.ownsRow B2 24 1 (.slice a3 (len rs) cap3) vals.length vals) ∧ Hid (RowsAre wr B2 vals rs)) (fun i _ => len rs - (intOf i).toNat)
      case atStart => exact ⟨0, Nat.zero_le _, rfl, HJ2, HR1, HR2⟩
      case round =>
        clear HJ2 HR1 HR2
        obtain ⟨m, hm, rfl, HJ2, HR1, HR2⟩ := hrel
        by_cases hlt : m < len rs
        · have HLT := Lib.hid hlt
          have hb1 := HB1.out
          have hb2 := HB2.out m
          have b1 : (m : Int) < len rs := by omega
          obtain ⟨a4, c4, hv, hrr, -⟩ := rows2_of HR1.out HR2.out
          have hv2 : a4 = a3 := by injection hv with h1 h2 h3; exact h1.symm
          subst hv2
          obtain ⟨rb, ro, ra, rc, rfl, hrc, hru, -⟩ := hrr m hlt
          clear hrr hv
          gi_wp2
          gi_loopw [35] (fun j wr => ∃ q : Nat, q ≤ len (rnth rs m) ∧ j = .int .i64 q ∧ Hid (J (L.take (flatAt rs m q).length) wr) ∧ Hid (wr.ownsRow B2 24 1 (.slice (some ⟨rb, ro, none⟩) (len rs) cap3) vals.length vals) ∧ Hid (RowsAre wr B2 vals rs) ∧ wr.cell? ⟨rb, ro + m, none⟩ = some (.slice ra (len (rnth rs m)) rc)) (fun j _ => len (rnth rs m) - (intOf j).toNat)
          case atStart => exact ⟨0, Nat.zero_le _, rfl, HJ2, HR1, HR2, hrc⟩
          case round =>
            clear HJ2 HR1 HR2 hrc hru
            obtain ⟨q, hq, rfl, HJ2, HR1, HR2, hrc⟩ := hrel
            by_cases hlq : q < len (rnth rs m)
            · have HLQ := Lib.hid hlq
              have b2 : (q : Int) < len (rnth rs m) := by omega
              obtain ⟨a4, c4, hv, hrr, -⟩ := rows2_of HR1.out HR2.out
              obtain ⟨rb2, ro2, ra2, rc2, hra2, hrc2, hru2, -⟩ := hrr m hlt
              have hv3 : a4 = some ⟨rb, ro, none⟩ := by injection hv with h1 h2 h3; exact h1.symm
              rw [hv3] at hra2
              cases hra2
              rw [hrc] at hrc2
              have hra3 : ra = ra2 := by
                have h9 := Option.some.inj hrc2
                injection h9
              subst hra3
              obtain ⟨eb, eo, hre, hec⟩ := hru2 q hlq
              subst hre
              obtain ⟨k, hk⟩ : ∃ k, nth (rnth rs m) q = k := ⟨_, rfl⟩
              rw [hk] at hec
              have HK := Lib.hid hk
              have HRC := Lib.hid hrc
              obtain ⟨x9, hx9⟩ : ∃ x9, (flatAt rs m q).length = x9 := ⟨_, rfl⟩
              have hx8 : x9 < L.length := by
                have h1 := flatAt_lt rs m q hlt hlq
                rw [← HLM.out, List.length_map] at h1
                omega
              obtain ⟨z9, hz9⟩ : ∃ z9, L[x9]'hx8 = z9 := ⟨_, rfl⟩
              have HZ9 : Hid (L.take (x9 + 1) = L.take x9 ++ [z9]) := Lib.hid (by rw [List.take_succ_eq_append_getElem hx8, hz9])
              have hf9 : f z9 = ((m : Int), k) := by
                rw [← hz9]
                have h1 := flat_at rs m q hlt hlq
                rw [hx9, ← HLM.out, List.getElem?_map, List.getElem?_eq_getElem hx8, hk] at h1
                exact Option.some.inj h1
              have hj9 := HJ2.out
              rw [hx9] at hj9
              have HX9 := Lib.hid hx9
              have HX8 := Lib.hid hx8
              obtain ⟨fn, tmps, assign, body, hy, hR⟩ := HY.out (L.take x9) z9 wr hj9 (by rw [List.length_take]; omega)
              have HR := Lib.hid hR
              try dsimp only at hy
              rw [hf9] at hy
              clear hz9 hf9 hj9 hx9 hx8 hR hv hrr hrc2 hru2 hv3 hk
              gi_wp2
              refine HR.out.mono ?_
              rintro e W3 (⟨rfl, hJ3, hk3⟩ | ⟨rfl, hJx3⟩)
              · have J3 : Hid (J (L.take (flatAt rs m (q + 1)).length) W3) := Lib.hid (by rw [flatAt_next rs m q hlq, List.length_append, HX9.out, List.length_singleton, HZ9.out]; exact hJ3)
                have R1 : Hid (W3.ownsRow B2 24 1 (.slice (some ⟨rb, ro, none⟩) (len rs) cap3) vals.length vals) := Lib.hid (own_kpo hk3 HBS.out (by decide) HR1.out)
                have R2 : Hid (RowsAre W3 B2 vals rs) := Lib.hid (rows_kpo hk3 HBS.out HR2.out)
                have hrc3 : W3.cell? ⟨rb, ro + m, none⟩ = some (.slice (some ⟨eb, eo, none⟩) (len (rnth rs m)) rc) := by
                  rcases HR1.out.2 with ⟨hz9, _⟩ | ⟨g9, cap9, cur9, hv9, hg9, hh9, _⟩
                  · cases hz9
                  · have e9 : rb = g9 := by
                      injection hv9 with h1 h2 h3
                      have := Option.some.inj h1
                      injection this
                    rw [World.cell?_of_block (w := wr) (w' := W3) (a := ⟨rb, ro + m, none⟩) (by show W3.heap[rb]? = wr.heap[rb]?; rw [e9, hh9]; exact hk3.same _ _ _ _ (by have := HBS.out; omega) (by decide) hh9)]
                    exact HRC.out
                clear hJ3 hk3 hy HR hec HRC
                gi_wp2
                go_roundw
                case rel => exact ⟨q + 1, HLQ.out, by go_num, J3, R1, R2, hrc3⟩
                case measure => have := HLQ.out; simp [intOf]; omega
              · have JX := Lib.hid hJx3
                clear hJx3 hy HR hec HRC
                gi_wp2
                refine bodyPost_ret (results_none rfl _ _ _) rfl ?_
                exact ⟨⟨_, rfl⟩, Or.inr ⟨_, trivial, JX.out⟩⟩
            · obtain rfl : q = len (rnth rs m) := by omega
              have b2 : ¬ ((len (rnth rs m) : Nat) : Int) < len (rnth rs m) := by omega
              have HJ3 : Hid (J (L.take (flatAt rs (m + 1) 0).length) wr) := Lib.hid (by have h := HJ2.out; rw [flatAt_row rs m hlt] at h; exact h)
              gi_wp2
              go_roundw
              case rel => exact ⟨m + 1, HLT.out, by go_num, HJ3, HR1, HR2⟩
              case measure => have := HLT.out; simp [intOf]; omega
        · obtain rfl : m = len rs := by omega
          have b1 : ¬ ((len rs : Nat) : Int) < len rs := by omega
          have HJ3 : Hid (J L wr) := Lib.hid (by have h := HJ2.out; rw [flatAt_end, ← HLM.out, List.length_map, List.take_length] at h; exact h)
          gi_wp2
          go_end0
          exact ⟨⟨_, rfl⟩, Or.inl HJ3.out⟩
end Go.Proofs.YtloccahcnikbfaaGreat
namespace Go.Proofs.YtloccahcnikbfaaGreat
open Go.RowKit Go.ChangeMaps
set_option linter.unusedSimpArgs false
set_option linter.unusedVariables false
attribute [local go_sem] Oper.semAt_some
theorem KpO.setCell (o : Nat) (W : World) (k : Nat) (v : Value) : KpO o W (W.setCell ⟨o, k, none⟩ v) :=
  ⟨by simp [World.setCell], fun b cs t fr hb _ hc => (Below.heap_setCell _ _ _ _ (fun e => hb e)).trans hc⟩
theorem own_one {α : Type} (B s0 : Nat) (T : TypeId) (f : List α → Value) : OwnFrom B (fun (pre : List α) W => W.heap[s0]? = some (.cells #[f pre] T (0, 0))) := fun s W W' row hs hg hr =>
  (hg.block s0 (lt_of_block hs) (fun e => by
    obtain ⟨_, x, hx, hc⟩ := hr s0 (by rw [e])
    rw [hs] at hx
    cases hx
    cases hc)).trans hs
theorem places_any (a : Option Addr) (cap n : Nat) (d : Int) (w : World) : Calls Tryz.prog 20 #[.int .i64 d, .slice a n cap] w fun e w' => e = .returned (.func (.func 35) #[] #[.pointer (some ⟨w.heap.size + 1, 0, none⟩), .pointer (some ⟨w.heap.size, 0, none⟩)]) ∧ w' = (w.alloc (.cells #[.int .i64 d] 3)).alloc (.cells #[.slice a n cap] 24) := by
  go_enter Tryz.func20, Tryz.ntmps20
  go_wp2
  go_ret
  exact ⟨rfl, rfl⟩
def plcL (n : Int) (l : List Int) : List (Int × Int) := flatLv (needsL (leavesL l (depthZ n)) (depthZ n))
def SizeOk (n : Int) (l : List Int) : Prop := 0 ≤ n ∧ n ≤ 65536 ∧ MayOk n l
instance (n : Int) (l : List Int) : Decidable (SizeOk n l) := by unfold SizeOk; exact inferInstance
end Go.Proofs.YtloccahcnikbfaaGreat
namespace Go.Proofs.YtloccahcnikbfaaGreat
open Go.RowKit
set_option linter.unusedSimpArgs false
set_option linter.unusedVariables false
def NodeAt (b : Nat) (d : ByteArray) (k0 k1 : Option Addr) (w : World) : Prop := w.heap[b]? = some (.cells #[.string d, .pointer k0, .pointer k1] 42 (0, 0))
theorem NodeAt.below {b : Nat} {d : ByteArray} {k0 k1 : Option Addr} {w w' : World} (h : NodeAt b d k0 k1 w) (hb : Below w.heap.size w w') : NodeAt b d k0 k1 w' := (hb.block _ (lt_of_block h)).trans h
theorem NodeAt.digest {b : Nat} {d : ByteArray} {k0 k1 : Option Addr} {w : World} (h : NodeAt b d k0 k1 w) : w.cell? ⟨b, 0, none⟩ = some (.string d) := by rw [block_cell h]; rfl
def LeafIs (d : ByteArray) (w : World) (e : Ending) (w' : World) : Prop := ∃ b, e = .returned (.pointer (some ⟨b, 0, none⟩)) ∧ w.heap.size ≤ b ∧ NodeAt b d none none w' ∧ Below w.heap.size w w'
theorem txts_cells {w : World} {g : Nat} {cs : Array Value} {t : TypeId} {fr : Nat × Nat} (h : w.heap[g]? = some (.cells cs t fr)) (l : List ByteArray) (hl : ∀ i, i < len l → cs[i]? = some (.string (tth l i))) : Txts w (some ⟨g, 0, none⟩) l := fun i hi => ⟨g, 0, rfl, by rw [block_cell h, Nat.zero_add]; exact hl i hi⟩
set_option maxRecDepth 100000 in
set_option maxHeartbeats 4000000 in
theorem leaf_node (s : ByteArray) (w : World) (hs : s.size ≤ 140737488355200) : Calls Tryz.prog 16 #[.string s] w (LeafIs (hashP leafT [s]) w) := by
  have HS := Lib.hid hs
  clear hs
  go_enter Tryz.func16, Tryz.ntmps16
  go_wp2_with fail
  have hw1 : Txts (w.alloc (.cells #[.string s] 9)) (some ⟨w.heap.size, 0, none⟩) [s] := txts_cells (heap_alloc_new _ _) [s] (fun i hi => by
    have : i = 0 := by have : i < 1 := hi; omega
    subst this; rfl)
  refine (hash_any leafT [s] (some ⟨w.heap.size, 0, none⟩) 1 _ (by decide) (by decide) hw1 (by have := HS.out; show ((partL s) ++ []).length ≤ _; rw [List.append_nil, partL_len]; omega)).mono ?_
  rintro e w2 ⟨rfl, hb2⟩
  have HB2 : Hid (Below w.heap.size w w2) := Lib.hid (bnext (balloc (Below.refl _ _) _) hb2)
  clear hb2 hw1
  obtain ⟨H, hH⟩ : ∃ H, hashP leafT [s] = H := ⟨_, rfl⟩
  rw [hH]
  go_wp2
  go_ret
  exact ⟨w2.heap.size, rfl, HB2.out.size, by rw [hH]; exact heap_alloc_new _ _, balloc HB2.out _⟩
def OverIs (d : ByteArray) (b0 b1 : Nat) (w : World) (e : Ending) (w' : World) : Prop := ∃ b, e = .returned (.pointer (some ⟨b, 0, none⟩)) ∧ w.heap.size ≤ b ∧ NodeAt b d (some ⟨b0, 0, none⟩) (some ⟨b1, 0, none⟩) w' ∧ Below w.heap.size w w'
set_option maxRecDepth 100000 in
set_option maxHeartbeats 4000000 in
theorem over_any (b0 b1 : Nat) (d0 d1 : ByteArray) (w : World) (h0 : w.cell? ⟨b0, 0, none⟩ = some (.string d0)) (h1 : w.cell? ⟨b1, 0, none⟩ = some (.string d1)) (hs : d0.size ≤ 70000000000000 ∧ d1.size ≤ 70000000000000) :
    Calls Tryz.prog 14 #[.pointer (some ⟨b0, 0, none⟩), .pointer (some ⟨b1, 0, none⟩)] w (OverIs (hashP nodeT [d0, d1]) b0 b1 w) := by
  obtain ⟨H, hH⟩ : ∃ H, hashP nodeT [d0, d1] = H := ⟨_, rfl⟩
  rw [hH]
  have HH : Hid (∀ (g : Nat) (wv : World), wv.heap[g]? = some (.cells #[.string d0, .string d1] 9 (0, 0)) → Calls Tryz.prog 12 #[.string ⟨#[110, 111, 100, 101]⟩, .slice (some ⟨g, 0, none⟩) 2 2] wv fun e w' => e = .returned (.string H) ∧ Below wv.heap.size wv w') := Lib.hid (fun g wv hg => by
    rw [← hH]
    refine hash_any nodeT [d0, d1] (some ⟨g, 0, none⟩) 2 wv (by decide) (by decide) (txts_cells hg [d0, d1] (fun i hi => by
      have : i = 0 ∨ i = 1 := by have : i < 2 := hi; omega
      rcases this with rfl | rfl <;> rfl)) ?_
    show ((partL d0) ++ ((partL d1) ++ [])).length ≤ _
    rw [List.append_nil, List.length_append, partL_len, partL_len]
    omega)
  have c0 := h0
  have c1 := h1
  clear hH h0 h1 hs
  go_enter Tryz.func14, Tryz.ntmps14
  go_upto_region 1 with fail
  refine wp_region_tail 15 1000 (none) (phis [fun u _ => u = (.pointer (some ⟨b0, 0, none⟩)), fun u _ => u = (.pointer (some ⟨b0, 0, none⟩)), fun u _ => u = (.pointer (some ⟨b0, 0, none⟩)), fun u _ => u = (.string d0), fun u _ => u = (.pointer (some ⟨b1, 0, none⟩)), fun u _ => u = (.pointer (some ⟨b1, 0, none⟩)), fun u _ => u = (.pointer (some ⟨b1, 0, none⟩)), fun u _ => u = (.string d1), fun u w' => ∃ g, u = .slice (some ⟨g, 0, none⟩) 2 2 ∧ w'.heap[g]? = some (.cells #[.string d0, .string d1] 9 (0, 0)), fun u _ => u = (.string H), fun u _ => u = (.pointer (some ⟨b0, 0, none⟩)), fun u _ => u = (.pointer (some ⟨b1, 0, none⟩)), fun u _ => u = (.agg #[.pointer (some ⟨b0, 0, none⟩), .pointer (some ⟨b1, 0, none⟩)]), fun u _ => u = (.agg #[.string H, .pointer (some ⟨b0, 0, none⟩), .pointer (some ⟨b1, 0, none⟩)]), fun u w' => ∃ g, u = .pointer (some ⟨g, 0, none⟩) ∧ w.heap.size ≤ g ∧ NodeAt g H (some ⟨b0, 0, none⟩) (some ⟨b1, 0, none⟩) w']) rfl (by kernel_rfl) (by kernel_rfl) (mono_of ⟨mono_eq, mono_eq, mono_eq, mono_eq, mono_eq, mono_eq, mono_eq, mono_eq, ?m8, mono_eq, mono_eq, mono_eq, mono_eq, mono_eq, ?m14, trivial⟩) (steps_of 15 ⟨?s0, ?s1, ?s2, ?s3, ?s4, ?s5, ?s6, ?s7, ?s8, ?s9, ?s10, ?s11, ?s12, ?s13, ?s14, trivial⟩) ?_
  case m8 =>
    exact ⟨fun u w1 w' h ⟨b, h1, hb⟩ => ⟨b, h1, ext_block h hb⟩, fun _ u w1 w' h ⟨b, h1, hb⟩ => ⟨b, h1, extB_block h (by simp) hb⟩⟩
  case m14 =>
    exact ⟨fun u w1 w' h ⟨b, h1, h2, hb⟩ => ⟨b, h1, h2, ext_block h hb⟩, fun _ u w1 w' h ⟨b, h1, h2, hb⟩ => ⟨b, h1, h2, extB_block h (by simp) hb⟩⟩
  case s0 =>
    refine step_val (v := (.pointer (some ⟨b0, 0, none⟩))) (fun av wv hE hS hO hD => ?_) (fun _ => rfl)
    have h0 : av.eval (.tmp 0) = (.pointer (some ⟨b0, 0, none⟩)) := hO.2.2 0 rfl
    have f0 := (ev_form av 0).symm.trans h0
    refine ⟨rfl, ?_⟩
    simp [go_sem, f0]
  case s1 =>
    refine step_val (v := (.pointer (some ⟨b0, 0, none⟩))) (fun av wv hE hS hO hD => ?_) (fun _ => rfl)
    have d5 : av.eval (.tmp 5) = (.pointer (some ⟨b0, 0, none⟩)) := hD.1 rfl _ rfl
    have f5 := (ev_form av 5).symm.trans d5
    refine ⟨rfl, ?_⟩
    simp [go_sem, f5]
  case s2 =>
    refine step_val (v := (.pointer (some ⟨b0, 0, none⟩))) (fun av wv hE hS hO hD => ?_) (fun _ => rfl)
    have d6 : av.eval (.tmp 6) = (.pointer (some ⟨b0, 0, none⟩)) := hD.1 rfl _ rfl
    have f6 := (ev_form av 6).symm.trans d6
    refine ⟨rfl, ?_⟩
    simp [go_sem, f6]
  case s3 =>
    refine step_val (v := (.string d0)) (fun av wv hE hS hO hD => ?_) (fun _ => rfl)
    have d7 : av.eval (.tmp 7) = (.pointer (some ⟨b0, 0, none⟩)) := hD.1 rfl _ rfl
    have f7 := (ev_form av 7).symm.trans d7
    have c0 := extB_cell hE (by simp) c0
    have c1 := extB_cell hE (by simp) c1
    refine ⟨rfl, ?_⟩
    simp [go_sem, f7, c0, c1]
  case s4 =>
    refine step_val (v := (.pointer (some ⟨b1, 0, none⟩))) (fun av wv hE hS hO hD => ?_) (fun _ => rfl)
    have h1 : av.eval (.tmp 1) = (.pointer (some ⟨b1, 0, none⟩)) := hO.2.2 1 rfl
    have f1 := (ev_form av 1).symm.trans h1
    refine ⟨rfl, ?_⟩
    simp [go_sem, f1]
  case s5 =>
    refine step_val (v := (.pointer (some ⟨b1, 0, none⟩))) (fun av wv hE hS hO hD => ?_) (fun _ => rfl)
    have d9 : av.eval (.tmp 9) = (.pointer (some ⟨b1, 0, none⟩)) := hD.1 rfl _ rfl
    have f9 := (ev_form av 9).symm.trans d9
    refine ⟨rfl, ?_⟩
    simp [go_sem, f9]
  case s6 =>
    refine step_val (v := (.pointer (some ⟨b1, 0, none⟩))) (fun av wv hE hS hO hD => ?_) (fun _ => rfl)
    have d10 : av.eval (.tmp 10) = (.pointer (some ⟨b1, 0, none⟩)) := hD.1 rfl _ rfl
    have f10 := (ev_form av 10).symm.trans d10
    refine ⟨rfl, ?_⟩
    simp [go_sem, f10]
  case s7 =>
    refine step_val (v := (.string d1)) (fun av wv hE hS hO hD => ?_) (fun _ => rfl)
    have d11 : av.eval (.tmp 11) = (.pointer (some ⟨b1, 0, none⟩)) := hD.1 rfl _ rfl
    have f11 := (ev_form av 11).symm.trans d11
    have c0 := extB_cell hE (by simp) c0
    have c1 := extB_cell hE (by simp) c1
    refine ⟨rfl, ?_⟩
    simp [go_sem, f11, c0, c1]
  case s8 =>
    refine step_wp (fun av wv hE hS hO hD => ?_)
    have d8 : av.eval (.tmp 8) = (.string d0) := hD.1 rfl _ rfl
    have f8 := (ev_form av 8).symm.trans d8
    have d12 : av.eval (.tmp 12) = (.string d1) := hD.2.1 rfl _ rfl
    have f12 := (ev_form av 12).symm.trans d12
    refine ⟨rfl, ?_⟩
    refine wp_of_run (v := .slice (some ⟨wv.heap.size, 0, none⟩) 2 2) (w' := wv.alloc (.cells #[.string d0, .string d1] 9)) (by simp [go_sem, f8, f12]) ⟨_, rfl, es_of_ext (balloc (Ext_refl _) _), wv.heap.size, rfl, heap_alloc_new _ _⟩
  case s9 =>
    refine step_wp (fun av wv hE hS hO hD => ?_)
    have d13 : (fun u w' => ∃ g, u = .slice (some ⟨g, 0, none⟩) 2 2 ∧ w'.heap[g]? = some (.cells #[.string d0, .string d1] 9 (0, 0))) (av.eval (.tmp 13)) wv := hD.1 rfl _ rfl
    refine ⟨rfl, ?_⟩
    obtain ⟨g, h13, hg⟩ := d13
    have f13 := (ev_form av 13).symm.trans h13
    refine wp_of_call (v := .string H) (by simp [go_sem, f13]) (HH.out g wv hg) (fun w2 hb => ⟨_, rfl, es_of_ext hb, rfl⟩)
  case s10 =>
    refine step_val (v := (.pointer (some ⟨b0, 0, none⟩))) (fun av wv hE hS hO hD => ?_) (fun _ => rfl)
    have h0 : av.eval (.tmp 0) = (.pointer (some ⟨b0, 0, none⟩)) := hO.2.2 0 rfl
    have f0 := (ev_form av 0).symm.trans h0
    refine ⟨rfl, ?_⟩
    simp [go_sem, f0]
  case s11 =>
    refine step_val (v := (.pointer (some ⟨b1, 0, none⟩))) (fun av wv hE hS hO hD => ?_) (fun _ => rfl)
    have h1 : av.eval (.tmp 1) = (.pointer (some ⟨b1, 0, none⟩)) := hO.2.2 1 rfl
    have f1 := (ev_form av 1).symm.trans h1
    refine ⟨rfl, ?_⟩
    simp [go_sem, f1]
  case s12 =>
    refine step_val (v := (.agg #[.pointer (some ⟨b0, 0, none⟩), .pointer (some ⟨b1, 0, none⟩)])) (fun av wv hE hS hO hD => ?_) (fun _ => rfl)
    have d15 : av.eval (.tmp 15) = (.pointer (some ⟨b0, 0, none⟩)) := hD.1 rfl _ rfl
    have f15 := (ev_form av 15).symm.trans d15
    have d16 : av.eval (.tmp 16) = (.pointer (some ⟨b1, 0, none⟩)) := hD.2.1 rfl _ rfl
    have f16 := (ev_form av 16).symm.trans d16
    refine ⟨rfl, ?_⟩
    simp [go_sem, f15, f16]
  case s13 =>
    refine step_val (v := (.agg #[.string H, .pointer (some ⟨b0, 0, none⟩), .pointer (some ⟨b1, 0, none⟩)])) (fun av wv hE hS hO hD => ?_) (fun _ => rfl)
    have d14 : av.eval (.tmp 14) = (.string H) := hD.1 rfl _ rfl
    have f14 := (ev_form av 14).symm.trans d14
    have d17 : av.eval (.tmp 17) = (.agg #[.pointer (some ⟨b0, 0, none⟩), .pointer (some ⟨b1, 0, none⟩)]) := hD.2.1 rfl _ rfl
    have f17 := (ev_form av 17).symm.trans d17
    refine ⟨rfl, ?_⟩
    simp [go_sem, f14, f17]
  case s14 =>
    refine step_wp (fun av wv hE hS hO hD => ?_)
    have d18 : av.eval (.tmp 18) = (.agg #[.string H, .pointer (some ⟨b0, 0, none⟩), .pointer (some ⟨b1, 0, none⟩)]) := hD.1 rfl _ rfl
    have f18 := (ev_form av 18).symm.trans d18
    refine ⟨rfl, ?_⟩
    refine wp_of_run (v := .pointer (some ⟨wv.heap.size, 0, none⟩)) (w' := wv.alloc (.cells #[.string H, .pointer (some ⟨b0, 0, none⟩), .pointer (some ⟨b1, 0, none⟩)] 42)) (by simp [go_sem, f18]) ⟨_, rfl, es_of_ext (balloc (Ext_refl _) _), wv.heap.size, rfl, (by have := hE.size; simp at this; omega), heap_alloc_new _ _⟩
  intro a' w' hE hO hall
  have hA := act_of_outer (ds := [5, 6, 7, 8, 9, 10, 11, 12, 13, 14, 15, 16, 17, 18, 19]) rfl hO (by kernel_rfl)
  have e5 : (fun u _ => u = (.pointer (some ⟨b0, 0, none⟩))) (a'.eval (.tmp 5)) w' := hall.1 _ rfl
  have e6 : (fun u _ => u = (.pointer (some ⟨b0, 0, none⟩))) (a'.eval (.tmp 6)) w' := hall.2.1 _ rfl
  have e7 : (fun u _ => u = (.pointer (some ⟨b0, 0, none⟩))) (a'.eval (.tmp 7)) w' := hall.2.2.1 _ rfl
  have e8 : (fun u _ => u = (.string d0)) (a'.eval (.tmp 8)) w' := hall.2.2.2.1 _ rfl
  have e9 : (fun u _ => u = (.pointer (some ⟨b1, 0, none⟩))) (a'.eval (.tmp 9)) w' := hall.2.2.2.2.1 _ rfl
  have e10 : (fun u _ => u = (.pointer (some ⟨b1, 0, none⟩))) (a'.eval (.tmp 10)) w' := hall.2.2.2.2.2.1 _ rfl
  have e11 : (fun u _ => u = (.pointer (some ⟨b1, 0, none⟩))) (a'.eval (.tmp 11)) w' := hall.2.2.2.2.2.2.1 _ rfl
  have e12 : (fun u _ => u = (.string d1)) (a'.eval (.tmp 12)) w' := hall.2.2.2.2.2.2.2.1 _ rfl
  have e13 : (fun u w' => ∃ g, u = .slice (some ⟨g, 0, none⟩) 2 2 ∧ w'.heap[g]? = some (.cells #[.string d0, .string d1] 9 (0, 0))) (a'.eval (.tmp 13)) w' := hall.2.2.2.2.2.2.2.2.1 _ rfl
  have e14 : (fun u _ => u = (.string H)) (a'.eval (.tmp 14)) w' := hall.2.2.2.2.2.2.2.2.2.1 _ rfl
  have e15 : (fun u _ => u = (.pointer (some ⟨b0, 0, none⟩))) (a'.eval (.tmp 15)) w' := hall.2.2.2.2.2.2.2.2.2.2.1 _ rfl
  have e16 : (fun u _ => u = (.pointer (some ⟨b1, 0, none⟩))) (a'.eval (.tmp 16)) w' := hall.2.2.2.2.2.2.2.2.2.2.2.1 _ rfl
  have e17 : (fun u _ => u = (.agg #[.pointer (some ⟨b0, 0, none⟩), .pointer (some ⟨b1, 0, none⟩)])) (a'.eval (.tmp 17)) w' := hall.2.2.2.2.2.2.2.2.2.2.2.2.1 _ rfl
  have e18 : (fun u _ => u = (.agg #[.string H, .pointer (some ⟨b0, 0, none⟩), .pointer (some ⟨b1, 0, none⟩)])) (a'.eval (.tmp 18)) w' := hall.2.2.2.2.2.2.2.2.2.2.2.2.2.1 _ rfl
  have e19 : (fun u w' => ∃ g, u = .pointer (some ⟨g, 0, none⟩) ∧ w.heap.size ≤ g ∧ NodeAt g H (some ⟨b0, 0, none⟩) (some ⟨b1, 0, none⟩) w') (a'.eval (.tmp 19)) w' := hall.2.2.2.2.2.2.2.2.2.2.2.2.2.2.1 _ rfl
  obtain ⟨v13, hv13⟩ : ∃ v, a'.eval (.tmp 13) = v := ⟨_, rfl⟩
  rw [hv13] at e13
  obtain ⟨v19, hv19⟩ : ∃ v, a'.eval (.tmp 19) = v := ⟨_, rfl⟩
  rw [hv19] at e19
  simp only [List.foldl_cons, List.foldl_nil, Act.put, List.setIfInBounds_toArray, List.set_cons_succ, List.set_cons_zero, e5, e6, e7, e8, e9, e10, e11, e12, hv13, e14, e15, e16, e17, e18, hv19] at hA
  clear hO hall e5 e6 e7 e8 e9 e10 e11 e12 hv13 e14 e15 e16 e17 e18 hv19
  subst hA
  obtain ⟨g, rfl, hg, hn⟩ := e19
  have HN := Lib.hid hn
  have HG := Lib.hid hg
  have HW : Hid (Below w.heap.size w w') := Lib.hid (of_drew hE)
  clear hn hg hE
  go_wp2
  go_ret
  exact ⟨g, rfl, HG.out, HN.out, HW.out⟩
end Go.Proofs.YtloccahcnikbfaaGreat
namespace Go.Proofs.YtloccahcnikbfaaGreat
open Go.RowKit
set_option linter.unusedSimpArgs false
set_option linter.unusedVariables false
def PlaceIs (els : List ByteArray) (d : Nat) : Nat → Nat → Nat → World → Prop
  | 0, k, b, w => NodeAt b (plD els d 0 k) none none w
  | l + 1, k, b, w => ∃ b0 b1, NodeAt b (plD els d (l + 1) k) (some ⟨b0, 0, none⟩) (some ⟨b1, 0, none⟩) w ∧ PlaceIs els d l (2 * k) b0 w ∧ PlaceIs els d l (2 * k + 1) b1 w
theorem PlaceIs.below {els : List ByteArray} {d : Nat} : ∀ {l k b : Nat} {w w' : World}, PlaceIs els d l k b w → Below w.heap.size w w' → PlaceIs els d l k b w'
  | 0, _, _, _, _, h, hb => NodeAt.below h hb
  | l + 1, _, _, _, _, ⟨b0, b1, h, h0, h1⟩, hb => ⟨b0, b1, h.below hb, h0.below hb, h1.below hb⟩
theorem PlaceIs.digest {els : List ByteArray} {d : Nat} : ∀ {l k b : Nat} {w : World}, PlaceIs els d l k b w → w.cell? ⟨b, 0, none⟩ = some (.string (plD els d l k))
  | 0, _, _, _, h => NodeAt.digest h
  | l + 1, _, _, _, ⟨b0, b1, h, _, _⟩ => h.digest
theorem PlaceIs.ext {els : List ByteArray} {d l k b : Nat} {w w' : World} (h : PlaceIs els d l k b w) (hb : Ext w w') : PlaceIs els d l k b w' := h.below hb
theorem PlaceIs.extB {els : List ByteArray} {d l k b : Nat} {w w' : World} (h : PlaceIs els d l k b w) (hb : ExtB none w w') : PlaceIs els d l k b w' := h.below (extB_none hb)
structure EnvT (els : List ByteArray) (d bF bD bE bN nb : Nat) (a : Option Addr) (cap : Nat) (w : World) : Prop where
  f : w.heap[bF]? = some (.cells #[.func (.func 13) #[] #[.pointer (some ⟨bF, 0, none⟩), .pointer (some ⟨bD, 0, none⟩), .pointer (some ⟨bE, 0, none⟩), .pointer (some ⟨bN, 0, none⟩)]] 43 (0, 0))
  d : w.heap[bD]? = some (.cells #[.int .i64 (d : Nat)] 3 (0, 0))
  e : w.heap[bE]? = some (.cells #[.slice a (len els) cap] 22 (0, 0))
  n : w.heap[bN]? = some (.cells #[.pointer (some ⟨nb, 0, none⟩)] 38 (0, 0))
  nb : NodeAt nb (hashP noneT []) none none w
  t : Txts w a els
theorem EnvT.below {els : List ByteArray} {d bF bD bE bN nb : Nat} {a : Option Addr} {cap : Nat} {w w' : World} (h : EnvT els d bF bD bE bN nb a cap w) (hb : Below w.heap.size w w') : EnvT els d bF bD bE bN nb a cap w' :=
  ⟨(hb.block _ (lt_of_block h.f)).trans h.f, (hb.block _ (lt_of_block h.d)).trans h.d, (hb.block _ (lt_of_block h.e)).trans h.e, (hb.block _ (lt_of_block h.n)).trans h.n, h.nb.below hb, h.t.below hb⟩
def AtIs (els : List ByteArray) (d l k : Nat) (w : World) (e : Ending) (w' : World) : Prop := ∃ g, e = .returned (.pointer (some ⟨g, 0, none⟩)) ∧ PlaceIs els d l k g w' ∧ Below w.heap.size w w'
theorem turned_rev {k d : Nat} (hd : d ≤ 16) (hk : k < 2 ^ d) : turnedZ (k : Nat) (d : Nat) = ((revOf k d : Nat) : Int) := by
  unfold turnedZ
  rw [if_pos]
  · simp
  · refine ⟨by omega, by omega, ?_⟩
    rw [Int.toNat_natCast, pow_cast]
    exact_mod_cast hk
theorem pow_le16 {d : Nat} (hd : d ≤ 16) : 2 ^ d ≤ 65536 := Nat.pow_le_pow_right (by decide) hd
set_option maxRecDepth 100000 in
set_option maxHeartbeats 4000000 in
theorem at_zero (els : List ByteArray) (d bF bD bE bN nb : Nat) (a : Option Addr) (cap k : Nat) (w : World) (hd : d ≤ 16) (hk : k < 2 ^ d) (hn : len els ≤ 65536) (hz : ∀ i, i < len els → (tth els i).size ≤ 140737488355200) (h : EnvT els d bF bD bE bN nb a cap w) :
    Calls Tryz.prog 13 #[.int .i64 0, .int .u64 k, .pointer (some ⟨bF, 0, none⟩), .pointer (some ⟨bD, 0, none⟩), .pointer (some ⟨bE, 0, none⟩), .pointer (some ⟨bN, 0, none⟩)] w (AtIs els d 0 k w) := by
  have H := Lib.hid h
  have HK : Hid (k < 65536) := Lib.hid (Nat.lt_of_lt_of_le hk (pow_le16 hd))
  have HN := Lib.hid hn
  have HZ := Lib.hid hz
  have HEL := Lib.hid (element_any (k : Nat) (d : Nat) w (by omega) (by have := HK.out; omega))
  rw [turned_rev hd hk] at HEL
  have cd : w.cell? ⟨bD, 0, none⟩ = some (.int .i64 (d : Nat)) := by rw [block_cell h.d]; rfl
  have ce : w.cell? ⟨bE, 0, none⟩ = some (.slice a (len els) cap) := by rw [block_cell h.e]; rfl
  have cn : w.cell? ⟨bN, 0, none⟩ = some (.pointer (some ⟨nb, 0, none⟩)) := by rw [block_cell h.n]; rfl
  have HPL : Hid (plD els d 0 k = if revOf k d < len els then hashP leafT [tth els (revOf k d)] else hashP noneT []) := Lib.hid rfl
  have HRL : Hid (revOf k d < 65536) := Lib.hid (Nat.lt_of_lt_of_le (revOf_lt k d) (pow_le16 hd))
  obtain ⟨i, hi⟩ : ∃ i, revOf k d = i := ⟨_, rfl⟩
  rw [hi] at HEL HPL HRL
  clear h hi hd hk hn hz
  go_enter Tryz.func13, Tryz.ntmps13
  go_wp2_with fail
  refine HEL.out.mono ?_
  rintro e w1 ⟨rfl, rfl⟩
  have HNB := HN.out
  have hil := HRL.out
  by_cases hlt : i < len els
  · have i1 : (i : Int) < (len els : Nat) := by omega
    have i2 : IntKind.u64.wrap ((len els : Nat) : Int) = ((len els : Nat) : Int) := IntWalk.u64_in _ (by omega)
    obtain ⟨pb, po, rfl, hpc⟩ := H.out.t i hlt
    obtain ⟨x, hx⟩ : ∃ x, tth els i = x := ⟨_, rfl⟩
    rw [hx] at hpc
    have HX := Lib.hid hx
    clear hx
    go_wp2_with fail
    refine (leaf_node x w (by rw [← HX.out]; exact HZ.out i hlt)).mono ?_
    rintro e w2 ⟨g, rfl, hg, hn2, hb2⟩
    have HE2 : Hid (PlaceIs els d 0 k g w2) := Lib.hid (by
      show NodeAt g (plD els d 0 k) none none w2
      rw [HPL.out, if_pos hlt, HX.out]; exact hn2)
    have HB2 := Lib.hid hb2
    clear hg hn2 hb2 hpc
    go_wp2
    go_ret
    exact ⟨g, rfl, HE2.out, HB2.out⟩
  · have i1 : ¬ (i : Int) < (len els : Nat) := by omega
    have i2 : IntKind.u64.wrap ((len els : Nat) : Int) = ((len els : Nat) : Int) := IntWalk.u64_in _ (by omega)
    have HE2 : Hid (PlaceIs els d 0 k nb w) := Lib.hid (by
      show NodeAt nb (plD els d 0 k) none none w
      rw [HPL.out, if_neg hlt]; exact H.out.nb)
    clear hlt
    go_wp2
    go_ret
    exact ⟨nb, rfl, HE2.out, Below.refl _ _⟩
set_option maxRecDepth 100000 in
set_option maxHeartbeats 4000000 in
theorem at_step (els : List ByteArray) (d bF bD bE bN nb : Nat) (a : Option Addr) (cap l k : Nat) (w : World) (hd : l + 1 ≤ 16) (hk : k < 65536) (h : EnvT els d bF bD bE bN nb a cap w)
    (hr : ∀ (k' : Nat) (wv : World), Below w.heap.size w wv → (k' = 2 * k ∨ k' = 2 * k + 1) → Calls Tryz.prog 13 #[.int .i64 (l : Nat), .int .u64 ((k' : Nat) : Int), .pointer (some ⟨bF, 0, none⟩), .pointer (some ⟨bD, 0, none⟩), .pointer (some ⟨bE, 0, none⟩), .pointer (some ⟨bN, 0, none⟩)] wv (AtIs els d l k' wv)) :
    Calls Tryz.prog 13 #[.int .i64 ((l + 1 : Nat) : Int), .int .u64 k, .pointer (some ⟨bF, 0, none⟩), .pointer (some ⟨bD, 0, none⟩), .pointer (some ⟨bE, 0, none⟩), .pointer (some ⟨bN, 0, none⟩)] w (AtIs els d (l + 1) k w) := by
  have HR := Lib.hid hr
  have K1 : 2 * k = 2 * k ∨ 2 * k = 2 * k + 1 := Or.inl rfl
  have K2 : 2 * k + 1 = 2 * k ∨ 2 * k + 1 = 2 * k + 1 := Or.inr rfl
  have cf : w.cell? ⟨bF, 0, none⟩ = some (.func (.func 13) #[] #[.pointer (some ⟨bF, 0, none⟩), .pointer (some ⟨bD, 0, none⟩), .pointer (some ⟨bE, 0, none⟩), .pointer (some ⟨bN, 0, none⟩)]) := by rw [block_cell h.f]; rfl
  have l1 : (0 : Int) < ((l + 1 : Nat) : Int) := by omega
  have s1 : IntKind.i64.wrap (l : Int) = (l : Int) := IntWalk.i64_in _ (by omega)
  have m1 : IntKind.u64.wrap (2 * (k : Int)) = 2 * (k : Int) := IntWalk.u64_in _ (by omega)
  have m2 : IntKind.u64.wrap (2 * (k : Int) + 1) = 2 * (k : Int) + 1 := IntWalk.u64_in _ (by omega)
  clear hr h
  go_enter Tryz.func13, Tryz.ntmps13
  go_upto_region 2 with fail
  refine wp_region_tail 14 1000 (none) (phis [fun u _ => u = (.func (.func 13) #[] #[.pointer (some ⟨bF, 0, none⟩), .pointer (some ⟨bD, 0, none⟩), .pointer (some ⟨bE, 0, none⟩), .pointer (some ⟨bN, 0, none⟩)]), fun u _ => u = (.int .i64 ((l + 1 : Nat) : Int)), fun u _ => u = (.int .i64 (l : Nat)), fun u _ => u = (.int .u64 k), fun u _ => u = (.int .u64 ((2 * k : Nat) : Int)), fun u w' => ∃ g, u = .pointer (some ⟨g, 0, none⟩) ∧ PlaceIs els d l (2 * k) g w', fun u _ => u = (.func (.func 13) #[] #[.pointer (some ⟨bF, 0, none⟩), .pointer (some ⟨bD, 0, none⟩), .pointer (some ⟨bE, 0, none⟩), .pointer (some ⟨bN, 0, none⟩)]), fun u _ => u = (.int .i64 ((l + 1 : Nat) : Int)), fun u _ => u = (.int .i64 (l : Nat)), fun u _ => u = (.int .u64 k), fun u _ => u = (.int .u64 ((2 * k : Nat) : Int)), fun u _ => u = (.int .u64 ((2 * k + 1 : Nat) : Int)), fun u w' => ∃ g, u = .pointer (some ⟨g, 0, none⟩) ∧ PlaceIs els d l (2 * k + 1) g w', fun u w' => ∃ g, u = .pointer (some ⟨g, 0, none⟩) ∧ PlaceIs els d (l + 1) k g w']) rfl (by kernel_rfl) (by kernel_rfl) (mono_of ⟨mono_eq, mono_eq, mono_eq, mono_eq, mono_eq, ?m5, mono_eq, mono_eq, mono_eq, mono_eq, mono_eq, mono_eq, ?m12, ?m13, trivial⟩) (steps_of 14 ⟨?s0, ?s1, ?s2, ?s3, ?s4, ?s5, ?s6, ?s7, ?s8, ?s9, ?s10, ?s11, ?s12, ?s13, trivial⟩) ?_
  case m5 =>
    exact ⟨fun u w1 w' h ⟨b, h1, hb⟩ => ⟨b, h1, hb.ext h⟩, fun _ u w1 w' h ⟨b, h1, hb⟩ => ⟨b, h1, hb.extB h⟩⟩
  case m12 =>
    exact ⟨fun u w1 w' h ⟨b, h1, hb⟩ => ⟨b, h1, hb.ext h⟩, fun _ u w1 w' h ⟨b, h1, hb⟩ => ⟨b, h1, hb.extB h⟩⟩
  case m13 =>
    exact ⟨fun u w1 w' h ⟨b, h1, hb⟩ => ⟨b, h1, hb.ext h⟩, fun _ u w1 w' h ⟨b, h1, hb⟩ => ⟨b, h1, hb.extB h⟩⟩
  case s0 =>
    refine step_val (v := (.func (.func 13) #[] #[.pointer (some ⟨bF, 0, none⟩), .pointer (some ⟨bD, 0, none⟩), .pointer (some ⟨bE, 0, none⟩), .pointer (some ⟨bN, 0, none⟩)])) (fun av wv hE hS hO hD => ?_) (fun _ => rfl)
    have h2 : av.eval (.tmp 2) = (.pointer (some ⟨bF, 0, none⟩)) := hO.2.2 2 rfl
    have f2 := (ev_form av 2).symm.trans h2
    have cf := extB_cell hE (by simp) cf
    refine ⟨rfl, ?_⟩
    simp [go_sem, f2, cf, s1, m1, m2]
  case s1 =>
    refine step_val (v := (.int .i64 ((l + 1 : Nat) : Int))) (fun av wv hE hS hO hD => ?_) (fun _ => rfl)
    have h0 : av.eval (.tmp 0) = (.int .i64 ((l + 1 : Nat) : Int)) := hO.2.2 0 rfl
    have f0 := (ev_form av 0).symm.trans h0
    refine ⟨rfl, ?_⟩
    simp [go_sem, f0, s1, m1, m2]
  case s2 =>
    refine step_val (v := (.int .i64 (l : Nat))) (fun av wv hE hS hO hD => ?_) (fun _ => rfl)
    have d13 : av.eval (.tmp 13) = (.int .i64 ((l + 1 : Nat) : Int)) := hD.1 rfl _ rfl
    have f13 := (ev_form av 13).symm.trans d13
    refine ⟨rfl, ?_⟩
    simp [go_sem, f13, s1, m1, m2]
  case s3 =>
    refine step_val (v := (.int .u64 k)) (fun av wv hE hS hO hD => ?_) (fun _ => rfl)
    have h1 : av.eval (.tmp 1) = (.int .u64 k) := hO.2.2 1 rfl
    have f1 := (ev_form av 1).symm.trans h1
    refine ⟨rfl, ?_⟩
    simp [go_sem, f1, s1, m1, m2]
  case s4 =>
    refine step_val (v := (.int .u64 ((2 * k : Nat) : Int))) (fun av wv hE hS hO hD => ?_) (fun _ => rfl)
    have d15 : av.eval (.tmp 15) = (.int .u64 k) := hD.1 rfl _ rfl
    have f15 := (ev_form av 15).symm.trans d15
    refine ⟨rfl, ?_⟩
    simp [go_sem, f15, s1, m1, m2]
  case s5 =>
    refine step_wp (fun av wv hE hS hO hD => ?_)
    have d12 : av.eval (.tmp 12) = (.func (.func 13) #[] #[.pointer (some ⟨bF, 0, none⟩), .pointer (some ⟨bD, 0, none⟩), .pointer (some ⟨bE, 0, none⟩), .pointer (some ⟨bN, 0, none⟩)]) := hD.1 rfl _ rfl
    have f12 := (ev_form av 12).symm.trans d12
    have d14 : av.eval (.tmp 14) = (.int .i64 (l : Nat)) := hD.2.1 rfl _ rfl
    have f14 := (ev_form av 14).symm.trans d14
    have d16 : av.eval (.tmp 16) = (.int .u64 ((2 * k : Nat) : Int)) := hD.2.2.1 rfl _ rfl
    have f16 := (ev_form av 16).symm.trans d16
    refine ⟨rfl, ?_⟩
    refine wp_of_callV (R := fun u w2 => (∃ g, u = .pointer (some ⟨g, 0, none⟩) ∧ PlaceIs els d l (2 * k) g w2) ∧ Below wv.heap.size wv w2) (f := 13) (args := #[.int .i64 (l : Nat), .int .u64 ((2 * k : Nat) : Int), .pointer (some ⟨bF, 0, none⟩), .pointer (some ⟨bD, 0, none⟩), .pointer (some ⟨bE, 0, none⟩), .pointer (some ⟨bN, 0, none⟩)]) (by simp [go_sem, f12, f14, f16]) ((HR.out (2 * k) wv (of_drew hE) K1).mono (fun e w2 ⟨g, h1, h2, h3⟩ => ⟨_, h1, ⟨g, rfl, h2⟩, h3⟩)) (fun u w2 ⟨h1, h2⟩ => ⟨_, rfl, es_of_ext h2, h1⟩)
  case s6 =>
    refine step_val (v := (.func (.func 13) #[] #[.pointer (some ⟨bF, 0, none⟩), .pointer (some ⟨bD, 0, none⟩), .pointer (some ⟨bE, 0, none⟩), .pointer (some ⟨bN, 0, none⟩)])) (fun av wv hE hS hO hD => ?_) (fun _ => rfl)
    have h2 : av.eval (.tmp 2) = (.pointer (some ⟨bF, 0, none⟩)) := hO.2.2 2 rfl
    have f2 := (ev_form av 2).symm.trans h2
    have cf := extB_cell hE (by simp) cf
    refine ⟨rfl, ?_⟩
    simp [go_sem, f2, cf, s1, m1, m2]
  case s7 =>
    refine step_val (v := (.int .i64 ((l + 1 : Nat) : Int))) (fun av wv hE hS hO hD => ?_) (fun _ => rfl)
    have h0 : av.eval (.tmp 0) = (.int .i64 ((l + 1 : Nat) : Int)) := hO.2.2 0 rfl
    have f0 := (ev_form av 0).symm.trans h0
    refine ⟨rfl, ?_⟩
    simp [go_sem, f0, s1, m1, m2]
  case s8 =>
    refine step_val (v := (.int .i64 (l : Nat))) (fun av wv hE hS hO hD => ?_) (fun _ => rfl)
    have d19 : av.eval (.tmp 19) = (.int .i64 ((l + 1 : Nat) : Int)) := hD.1 rfl _ rfl
    have f19 := (ev_form av 19).symm.trans d19
    refine ⟨rfl, ?_⟩
    simp [go_sem, f19, s1, m1, m2]
  case s9 =>
    refine step_val (v := (.int .u64 k)) (fun av wv hE hS hO hD => ?_) (fun _ => rfl)
    have h1 : av.eval (.tmp 1) = (.int .u64 k) := hO.2.2 1 rfl
    have f1 := (ev_form av 1).symm.trans h1
    refine ⟨rfl, ?_⟩
    simp [go_sem, f1, s1, m1, m2]
  case s10 =>
    refine step_val (v := (.int .u64 ((2 * k : Nat) : Int))) (fun av wv hE hS hO hD => ?_) (fun _ => rfl)
    have d21 : av.eval (.tmp 21) = (.int .u64 k) := hD.1 rfl _ rfl
    have f21 := (ev_form av 21).symm.trans d21
    refine ⟨rfl, ?_⟩
    simp [go_sem, f21, s1, m1, m2]
  case s11 =>
    refine step_val (v := (.int .u64 ((2 * k + 1 : Nat) : Int))) (fun av wv hE hS hO hD => ?_) (fun _ => rfl)
    have d22 : av.eval (.tmp 22) = (.int .u64 ((2 * k : Nat) : Int)) := hD.1 rfl _ rfl
    have f22 := (ev_form av 22).symm.trans d22
    refine ⟨rfl, ?_⟩
    simp [go_sem, f22, s1, m1, m2]
  case s12 =>
    refine step_wp (fun av wv hE hS hO hD => ?_)
    have d18 : av.eval (.tmp 18) = (.func (.func 13) #[] #[.pointer (some ⟨bF, 0, none⟩), .pointer (some ⟨bD, 0, none⟩), .pointer (some ⟨bE, 0, none⟩), .pointer (some ⟨bN, 0, none⟩)]) := hD.1 rfl _ rfl
    have f18 := (ev_form av 18).symm.trans d18
    have d20 : av.eval (.tmp 20) = (.int .i64 (l : Nat)) := hD.2.1 rfl _ rfl
    have f20 := (ev_form av 20).symm.trans d20
    have d23 : av.eval (.tmp 23) = (.int .u64 ((2 * k + 1 : Nat) : Int)) := hD.2.2.1 rfl _ rfl
    have f23 := (ev_form av 23).symm.trans d23
    refine ⟨rfl, ?_⟩
    refine wp_of_callV (R := fun u w2 => (∃ g, u = .pointer (some ⟨g, 0, none⟩) ∧ PlaceIs els d l (2 * k + 1) g w2) ∧ Below wv.heap.size wv w2) (f := 13) (args := #[.int .i64 (l : Nat), .int .u64 ((2 * k + 1 : Nat) : Int), .pointer (some ⟨bF, 0, none⟩), .pointer (some ⟨bD, 0, none⟩), .pointer (some ⟨bE, 0, none⟩), .pointer (some ⟨bN, 0, none⟩)]) (by simp [go_sem, f18, f20, f23]) ((HR.out (2 * k + 1) wv (of_drew hE) K2).mono (fun e w2 ⟨g, h1, h2, h3⟩ => ⟨_, h1, ⟨g, rfl, h2⟩, h3⟩)) (fun u w2 ⟨h1, h2⟩ => ⟨_, rfl, es_of_ext h2, h1⟩)
  case s13 =>
    refine step_wp (fun av wv hE hS hO hD => ?_)
    have d17 : (fun u w' => ∃ g, u = .pointer (some ⟨g, 0, none⟩) ∧ PlaceIs els d l (2 * k) g w') (av.eval (.tmp 17)) wv := hD.1 rfl _ rfl
    have d24 : (fun u w' => ∃ g, u = .pointer (some ⟨g, 0, none⟩) ∧ PlaceIs els d l (2 * k + 1) g w') (av.eval (.tmp 24)) wv := hD.2.1 rfl _ rfl
    refine ⟨rfl, ?_⟩
    obtain ⟨g0, h17, hg0⟩ := d17
    obtain ⟨g1, h24, hg1⟩ := d24
    have f17 := (ev_form av 17).symm.trans h17
    have f24 := (ev_form av 24).symm.trans h24
    refine wp_of_callV (R := fun u w2 => ∃ g, u = .pointer (some ⟨g, 0, none⟩) ∧ NodeAt g (plD els d (l + 1) k) (some ⟨g0, 0, none⟩) (some ⟨g1, 0, none⟩) w2 ∧ Below wv.heap.size wv w2) (f := 14) (args := #[.pointer (some ⟨g0, 0, none⟩), .pointer (some ⟨g1, 0, none⟩)]) (by simp [go_sem, f17, f24]) ((over_any g0 g1 (plD els d l (2 * k)) (plD els d l (2 * k + 1)) wv hg0.digest hg1.digest ⟨by rw [plD_size]; decide, by rw [plD_size]; decide⟩).mono (fun e w2 ⟨g, h1, _, h2, h3⟩ => ⟨_, h1, g, rfl, h2, h3⟩)) (fun u w2 ⟨g, h1, h2, h3⟩ => ⟨_, rfl, es_of_ext h3, g, h1, g0, g1, h2, hg0.below h3, hg1.below h3⟩)
  intro a' w' hE hO hall
  have hA := act_of_outer (ds := [12, 13, 14, 15, 16, 17, 18, 19, 20, 21, 22, 23, 24, 25]) rfl hO (by kernel_rfl)
  have e12 : (fun u _ => u = (.func (.func 13) #[] #[.pointer (some ⟨bF, 0, none⟩), .pointer (some ⟨bD, 0, none⟩), .pointer (some ⟨bE, 0, none⟩), .pointer (some ⟨bN, 0, none⟩)])) (a'.eval (.tmp 12)) w' := hall.1 _ rfl
  have e13 : (fun u _ => u = (.int .i64 ((l + 1 : Nat) : Int))) (a'.eval (.tmp 13)) w' := hall.2.1 _ rfl
  have e14 : (fun u _ => u = (.int .i64 (l : Nat))) (a'.eval (.tmp 14)) w' := hall.2.2.1 _ rfl
  have e15 : (fun u _ => u = (.int .u64 k)) (a'.eval (.tmp 15)) w' := hall.2.2.2.1 _ rfl
  have e16 : (fun u _ => u = (.int .u64 ((2 * k : Nat) : Int))) (a'.eval (.tmp 16)) w' := hall.2.2.2.2.1 _ rfl
  have e17 : (fun u w' => ∃ g, u = .pointer (some ⟨g, 0, none⟩) ∧ PlaceIs els d l (2 * k) g w') (a'.eval (.tmp 17)) w' := hall.2.2.2.2.2.1 _ rfl
  have e18 : (fun u _ => u = (.func (.func 13) #[] #[.pointer (some ⟨bF, 0, none⟩), .pointer (some ⟨bD, 0, none⟩), .pointer (some ⟨bE, 0, none⟩), .pointer (some ⟨bN, 0, none⟩)])) (a'.eval (.tmp 18)) w' := hall.2.2.2.2.2.2.1 _ rfl
  have e19 : (fun u _ => u = (.int .i64 ((l + 1 : Nat) : Int))) (a'.eval (.tmp 19)) w' := hall.2.2.2.2.2.2.2.1 _ rfl
  have e20 : (fun u _ => u = (.int .i64 (l : Nat))) (a'.eval (.tmp 20)) w' := hall.2.2.2.2.2.2.2.2.1 _ rfl
  have e21 : (fun u _ => u = (.int .u64 k)) (a'.eval (.tmp 21)) w' := hall.2.2.2.2.2.2.2.2.2.1 _ rfl
  have e22 : (fun u _ => u = (.int .u64 ((2 * k : Nat) : Int))) (a'.eval (.tmp 22)) w' := hall.2.2.2.2.2.2.2.2.2.2.1 _ rfl
  have e23 : (fun u _ => u = (.int .u64 ((2 * k + 1 : Nat) : Int))) (a'.eval (.tmp 23)) w' := hall.2.2.2.2.2.2.2.2.2.2.2.1 _ rfl
  have e24 : (fun u w' => ∃ g, u = .pointer (some ⟨g, 0, none⟩) ∧ PlaceIs els d l (2 * k + 1) g w') (a'.eval (.tmp 24)) w' := hall.2.2.2.2.2.2.2.2.2.2.2.2.1 _ rfl
  have e25 : (fun u w' => ∃ g, u = .pointer (some ⟨g, 0, none⟩) ∧ PlaceIs els d (l + 1) k g w') (a'.eval (.tmp 25)) w' := hall.2.2.2.2.2.2.2.2.2.2.2.2.2.1 _ rfl
  obtain ⟨v17, hv17⟩ : ∃ v, a'.eval (.tmp 17) = v := ⟨_, rfl⟩
  rw [hv17] at e17
  obtain ⟨v24, hv24⟩ : ∃ v, a'.eval (.tmp 24) = v := ⟨_, rfl⟩
  rw [hv24] at e24
  obtain ⟨v25, hv25⟩ : ∃ v, a'.eval (.tmp 25) = v := ⟨_, rfl⟩
  rw [hv25] at e25
  simp only [List.foldl_cons, List.foldl_nil, Act.put, List.setIfInBounds_toArray, List.set_cons_succ, List.set_cons_zero, e12, e13, e14, e15, e16, hv17, e18, e19, e20, e21, e22, e23, hv24, hv25] at hA
  clear hO hall e12 e13 e14 e15 e16 hv17 e18 e19 e20 e21 e22 e23 hv24 hv25
  subst hA
  obtain ⟨g, rfl, hg⟩ := e25
  have HG := Lib.hid hg
  have HW : Hid (Below w.heap.size w w') := Lib.hid (of_drew hE)
  clear hg hE e17 e24
  go_wp2
  go_ret
  exact ⟨g, rfl, HG.out, HW.out⟩
theorem at_any (els : List ByteArray) (d bF bD bE bN nb : Nat) (a : Option Addr) (cap : Nat) (hd : d ≤ 16) (hn : len els ≤ 65536) (hz : ∀ i, i < len els → (tth els i).size ≤ 140737488355200) :
    ∀ (l k : Nat) (w : World), l ≤ d → k < 2 ^ (d - l) → EnvT els d bF bD bE bN nb a cap w →
    Calls Tryz.prog 13 #[.int .i64 (l : Nat), .int .u64 k, .pointer (some ⟨bF, 0, none⟩), .pointer (some ⟨bD, 0, none⟩), .pointer (some ⟨bE, 0, none⟩), .pointer (some ⟨bN, 0, none⟩)] w (AtIs els d l k w)
  | 0, k, w, _, hk, h => at_zero els d bF bD bE bN nb a cap k w hd (by simpa using hk) hn hz h
  | l + 1, k, w, hl, hk, h => by
    have h2 : 2 ^ (d - (l + 1)) ≤ 65536 := Nat.le_trans (Nat.pow_le_pow_right (by decide) (show d - (l + 1) ≤ 16 by omega)) (by decide)
    refine at_step els d bF bD bE bN nb a cap l k w (by omega) (by omega) h fun k' wv hb hk' => ?_
    refine at_any els d bF bD bE bN nb a cap hd hn hz l k' wv (by omega) ?_ (h.below hb)
    have : 2 ^ (d - l) = 2 * 2 ^ (d - (l + 1)) := by rw [show d - l = (d - (l + 1)) + 1 by omega, Nat.pow_succ]; omega
    rcases hk' with rfl | rfl <;> omega
end Go.Proofs.YtloccahcnikbfaaGreat
namespace Go.Proofs.YtloccahcnikbfaaGreat
open Go.RowKit
set_option linter.unusedSimpArgs false
set_option linter.unusedVariables false
def depN (els : List ByteArray) : Nat := Lib.bitLen (len els - 1)
theorem depN_le {els : List ByteArray} (h : len els ≤ 65536) : depN els ≤ 16 := (depth_bd (len els) h).1
theorem depthZ_len {els : List ByteArray} (h : len els ≤ 65536) : depthZ (len els : Nat) = ((depN els : Nat) : Int) := by
  unfold depthZ depN
  rw [if_neg (by omega), Int.toNat_natCast]
def TreeAt (els : List ByteArray) (b : Nat) (w : World) : Prop := ∃ p, w.heap[b]? = some (.cells #[.pointer (some ⟨p, 0, none⟩), .int .i64 (depN els : Nat), .int .i64 (len els : Nat)] 48 (0, 0)) ∧ PlaceIs els (depN els) (depN els) 0 p w
theorem TreeAt.below {els : List ByteArray} {b : Nat} {w w' : World} (h : TreeAt els b w) (hb : Below w.heap.size w w') : TreeAt els b w' := by
  obtain ⟨p, h1, h2⟩ := h
  exact ⟨p, (hb.block _ (lt_of_block h1)).trans h1, h2.below hb⟩
def BuildIs (els : List ByteArray) (w : World) (e : Ending) (w' : World) : Prop := ∃ b, e = .returned (.tuple #[.pointer (some ⟨b, 0, none⟩), .int .i64 0]) ∧ w.heap.size ≤ b ∧ TreeAt els b w' ∧ Below w.heap.size w w'
set_option maxRecDepth 100000 in
set_option maxHeartbeats 4000000 in
theorem build_any (els : List ByteArray) (a : Option Addr) (cap : Nat) (w : World) (ht : Txts w a els) (hn : len els ≤ 65536) (hz : ∀ i, i < len els → (tth els i).size ≤ 140737488355200) :
    Calls Tryz.prog 5 #[.slice a (len els) cap] w (BuildIs els w) := by
  have HT := Lib.hid ht
  have HN := Lib.hid hn
  have HZ := Lib.hid hz
  obtain ⟨d, hd⟩ : ∃ d, depN els = d := ⟨_, rfl⟩
  have HDD := Lib.hid hd
  have HD16 : Hid (d ≤ 16) := Lib.hid (by rw [← hd]; exact depN_le hn)
  have HDZ : Hid (depthZ (len els : Nat) = ((d : Nat) : Int)) := Lib.hid (by rw [← hd]; exact depthZ_len hn)
  have n1 : ¬ (65536 : Int) < (len els : Nat) := by omega
  clear ht hz hd
  go_enter Tryz.func5, Tryz.ntmps5
  go_wp2_with fail
  refine (depth_any (len els : Nat) _ (by omega) (by omega)).mono ?_
  rintro e w1 ⟨rfl, rfl⟩
  rw [HDZ.out]
  clear n1 hn
  go_wp2_with fail
  obtain ⟨bE, hbE⟩ : ∃ bE, w.heap.size = bE := ⟨_, rfl⟩
  obtain ⟨bD, hbD⟩ : ∃ bD, w.heap.size + 1 = bD := ⟨_, rfl⟩
  rw [hbD, hbE]
  obtain ⟨V, hV⟩ : ∃ V, (w.alloc (.cells #[.slice a (len els) cap] 22)).alloc (.cells #[.int .i64 (d : Nat)] 3) = V := ⟨_, rfl⟩
  rw [hV]
  have HVE : Hid (V.heap[bE]? = some (.cells #[.slice a (len els) cap] 22 (0, 0))) := Lib.hid (by rw [← hV]; exact block_alloc (alloc_new_at _ hbE) _)
  have HVD : Hid (V.heap[bD]? = some (.cells #[.int .i64 (d : Nat)] 3 (0, 0))) := Lib.hid (by rw [← hV]; exact alloc_new_at _ (by rw [alloc_size _ rfl]; exact hbD))
  have HVW : Hid (Below w.heap.size w V) := Lib.hid (by rw [← hV]; exact balloc (balloc (Below.refl _ _) _) _)
  clear hV hbE hbD
  refine (hash_any noneT [] none 0 V (by decide) (by decide) (Txts.nil _ _) (by decide)).mono ?_
  rintro e w2 ⟨rfl, hb2⟩
  have H2E : Hid (w2.heap[bE]? = some (.cells #[.slice a (len els) cap] 22 (0, 0))) := Lib.hid ((hb2.block _ (lt_of_block HVE.out)).trans HVE.out)
  have H2D : Hid (w2.heap[bD]? = some (.cells #[.int .i64 (d : Nat)] 3 (0, 0))) := Lib.hid ((hb2.block _ (lt_of_block HVD.out)).trans HVD.out)
  have H2W : Hid (Below w.heap.size w w2) := Lib.hid (bnext HVW.out hb2)
  obtain ⟨Hn, hHn⟩ : ∃ Hn, hashP noneT [] = Hn := ⟨_, rfl⟩
  rw [hHn]
  have HHN := Lib.hid hHn
  clear hb2 hHn HVE HVD HVW
  go_upto_region 7 with fail
  obtain ⟨nb, hnb⟩ : ∃ nb, w2.heap.size = nb := ⟨_, rfl⟩
  obtain ⟨bN, hbN⟩ : ∃ bN, w2.heap.size + 1 = bN := ⟨_, rfl⟩
  obtain ⟨bF, hbF⟩ : ∃ bF, w2.heap.size + 1 + 1 = bF := ⟨_, rfl⟩
  rw [hbF, hbN, hnb]
  obtain ⟨U, hU⟩ : ∃ U, (((w2.alloc (.cells #[.string Hn, .pointer none, .pointer none] 42)).alloc (.cells #[.pointer (some ⟨nb, 0, none⟩)] 38)).alloc (.cells #[.func (.func 13) #[] #[.pointer (some ⟨bF, 0, none⟩), .pointer (some ⟨bD, 0, none⟩), .pointer (some ⟨bE, 0, none⟩), .pointer (some ⟨bN, 0, none⟩)]] 43)) = U := ⟨_, rfl⟩
  rw [hU]
  have HEN : Hid (EnvT els d bF bD bE bN nb a cap U) := Lib.hid (by
    have hbw : Below w.heap.size w U := by rw [← hU]; exact balloc (balloc (balloc H2W.out _) _) _
    refine ⟨?_, ?_, ?_, ?_, ?_, HT.out.below hbw⟩
    · rw [← hU]; exact alloc_new_at _ (by rw [alloc_size _ (alloc_size _ rfl)]; exact hbF)
    · rw [← hU]; exact block_alloc (block_alloc (block_alloc H2D.out _) _) _
    · rw [← hU]; exact block_alloc (block_alloc (block_alloc H2E.out _) _) _
    · rw [← hU]; exact block_alloc (alloc_new_at _ (by rw [alloc_size _ rfl]; exact hbN)) _
    · rw [← hU, HHN.out]; exact block_alloc (block_alloc (alloc_new_at _ hnb) _) _)
  have HUW : Hid (Below w.heap.size w U) := Lib.hid (by rw [← hU]; exact balloc (balloc (balloc H2W.out _) _) _)
  have HVS : Hid (w.heap.size ≤ U.heap.size) := Lib.hid HUW.out.size
  have HA : Hid (∀ wv : World, Below U.heap.size U wv → Calls Tryz.prog 13 #[.int .i64 (d : Nat), .int .u64 0, .pointer (some ⟨bF, 0, none⟩), .pointer (some ⟨bD, 0, none⟩), .pointer (some ⟨bE, 0, none⟩), .pointer (some ⟨bN, 0, none⟩)] wv (AtIs els d d 0 wv)) := Lib.hid (fun wv hb => at_any els d bF bD bE bN nb a cap HD16.out HN.out HZ.out d 0 wv (Nat.le_refl _) (Nat.two_pow_pos _) (HEN.out.below hb))
  have cf : U.cell? ⟨bF, 0, none⟩ = some (.func (.func 13) #[] #[.pointer (some ⟨bF, 0, none⟩), .pointer (some ⟨bD, 0, none⟩), .pointer (some ⟨bE, 0, none⟩), .pointer (some ⟨bN, 0, none⟩)]) := by rw [block_cell HEN.out.f]; rfl
  have cd : U.cell? ⟨bD, 0, none⟩ = some (.int .i64 (d : Nat)) := by rw [block_cell HEN.out.d]; rfl
  have ce : U.cell? ⟨bE, 0, none⟩ = some (.slice a (len els) cap) := by rw [block_cell HEN.out.e]; rfl
  clear hU hnb hbN hbF H2D H2E H2W
  refine wp_region_tail 8 1000 (none) (phis [fun u _ => u = (.func (.func 13) #[] #[.pointer (some ⟨bF, 0, none⟩), .pointer (some ⟨bD, 0, none⟩), .pointer (some ⟨bE, 0, none⟩), .pointer (some ⟨bN, 0, none⟩)]), fun u _ => u = (.int .i64 (d : Nat)), fun u w' => ∃ g, u = .pointer (some ⟨g, 0, none⟩) ∧ PlaceIs els d d 0 g w', fun u _ => u = (.int .i64 (d : Nat)), fun u _ => u = (.slice a (len els) cap), fun u _ => u = (.int .i64 (len els)), fun u w' => ∃ g, u = .agg #[.pointer (some ⟨g, 0, none⟩), .int .i64 (d : Nat), .int .i64 (len els)] ∧ PlaceIs els d d 0 g w', fun u w' => ∃ b, u = .pointer (some ⟨b, 0, none⟩) ∧ w.heap.size ≤ b ∧ TreeAt els b w']) rfl (by kernel_rfl) (by kernel_rfl) (mono_of ⟨mono_eq, mono_eq, ?m2, mono_eq, mono_eq, mono_eq, ?m6, ?m7, trivial⟩) (steps_of 8 ⟨?s0, ?s1, ?s2, ?s3, ?s4, ?s5, ?s6, ?s7, trivial⟩) ?_
  case m2 =>
    exact ⟨fun u w1 w' h ⟨b, h1, hb⟩ => ⟨b, h1, hb.ext h⟩, fun _ u w1 w' h ⟨b, h1, hb⟩ => ⟨b, h1, hb.extB h⟩⟩
  case m6 =>
    exact ⟨fun u w1 w' h ⟨b, h1, hb⟩ => ⟨b, h1, hb.ext h⟩, fun _ u w1 w' h ⟨b, h1, hb⟩ => ⟨b, h1, hb.extB h⟩⟩
  case m7 =>
    exact ⟨fun u w1 w' h ⟨b, h1, h2, hb⟩ => ⟨b, h1, h2, hb.below h⟩, fun _ u w1 w' h ⟨b, h1, h2, hb⟩ => ⟨b, h1, h2, hb.below (extB_none h)⟩⟩
  case s0 =>
    refine step_val (v := (.func (.func 13) #[] #[.pointer (some ⟨bF, 0, none⟩), .pointer (some ⟨bD, 0, none⟩), .pointer (some ⟨bE, 0, none⟩), .pointer (some ⟨bN, 0, none⟩)])) (fun av wv hE hS hO hD => ?_) (fun _ => rfl)
    have h6 : av.eval (.tmp 6) = (.pointer (some ⟨bF, 0, none⟩)) := hO.2.2 6 rfl
    have f6 := (ev_form av 6).symm.trans h6
    have cf := extB_cell hE (by simp) cf
    have cd := extB_cell hE (by simp) cd
    have ce := extB_cell hE (by simp) ce
    refine ⟨rfl, ?_⟩
    simp [go_sem, f6, cf, cd, ce]
  case s1 =>
    refine step_val (v := (.int .i64 (d : Nat))) (fun av wv hE hS hO hD => ?_) (fun _ => rfl)
    have h4 : av.eval (.tmp 4) = (.pointer (some ⟨bD, 0, none⟩)) := hO.2.2 4 rfl
    have f4 := (ev_form av 4).symm.trans h4
    have cf := extB_cell hE (by simp) cf
    have cd := extB_cell hE (by simp) cd
    have ce := extB_cell hE (by simp) ce
    refine ⟨rfl, ?_⟩
    simp [go_sem, f4, cf, cd, ce]
  case s2 =>
    refine step_wp (fun av wv hE hS hO hD => ?_)
    have d17 : av.eval (.tmp 17) = (.func (.func 13) #[] #[.pointer (some ⟨bF, 0, none⟩), .pointer (some ⟨bD, 0, none⟩), .pointer (some ⟨bE, 0, none⟩), .pointer (some ⟨bN, 0, none⟩)]) := hD.1 rfl _ rfl
    have f17 := (ev_form av 17).symm.trans d17
    have d18 : av.eval (.tmp 18) = (.int .i64 (d : Nat)) := hD.2.1 rfl _ rfl
    have f18 := (ev_form av 18).symm.trans d18
    refine ⟨rfl, ?_⟩
    refine wp_of_callV (R := fun u w2 => (∃ g, u = .pointer (some ⟨g, 0, none⟩) ∧ PlaceIs els d d 0 g w2) ∧ Below wv.heap.size wv w2) (f := 13) (args := #[.int .i64 (d : Nat), .int .u64 0, .pointer (some ⟨bF, 0, none⟩), .pointer (some ⟨bD, 0, none⟩), .pointer (some ⟨bE, 0, none⟩), .pointer (some ⟨bN, 0, none⟩)]) (by simp [go_sem, f17, f18]) ((HA.out wv (of_drew hE)).mono (fun e w2 ⟨g, h1, h2, h3⟩ => ⟨_, h1, ⟨g, rfl, h2⟩, h3⟩)) (fun u w2 ⟨h1, h2⟩ => ⟨_, rfl, es_of_ext h2, h1⟩)
  case s3 =>
    refine step_val (v := (.int .i64 (d : Nat))) (fun av wv hE hS hO hD => ?_) (fun _ => rfl)
    have h4 : av.eval (.tmp 4) = (.pointer (some ⟨bD, 0, none⟩)) := hO.2.2 4 rfl
    have f4 := (ev_form av 4).symm.trans h4
    have cf := extB_cell hE (by simp) cf
    have cd := extB_cell hE (by simp) cd
    have ce := extB_cell hE (by simp) ce
    refine ⟨rfl, ?_⟩
    simp [go_sem, f4, cf, cd, ce]
  case s4 =>
    refine step_val (v := (.slice a (len els) cap)) (fun av wv hE hS hO hD => ?_) (fun _ => rfl)
    have h1 : av.eval (.tmp 1) = (.pointer (some ⟨bE, 0, none⟩)) := hO.2.2 1 rfl
    have f1 := (ev_form av 1).symm.trans h1
    have cf := extB_cell hE (by simp) cf
    have cd := extB_cell hE (by simp) cd
    have ce := extB_cell hE (by simp) ce
    refine ⟨rfl, ?_⟩
    simp [go_sem, f1, cf, cd, ce]
  case s5 =>
    refine step_val (v := (.int .i64 (len els))) (fun av wv hE hS hO hD => ?_) (fun _ => rfl)
    have d21 : av.eval (.tmp 21) = (.slice a (len els) cap) := hD.1 rfl _ rfl
    have f21 := (ev_form av 21).symm.trans d21
    refine ⟨rfl, ?_⟩
    simp [go_sem, f21]
  case s6 =>
    refine step_wp (fun av wv hE hS hO hD => ?_)
    have d19 : (fun u w' => ∃ g, u = .pointer (some ⟨g, 0, none⟩) ∧ PlaceIs els d d 0 g w') (av.eval (.tmp 19)) wv := hD.1 rfl _ rfl
    have d20 : av.eval (.tmp 20) = (.int .i64 (d : Nat)) := hD.2.1 rfl _ rfl
    have f20 := (ev_form av 20).symm.trans d20
    have d22 : av.eval (.tmp 22) = (.int .i64 (len els)) := hD.2.2.1 rfl _ rfl
    have f22 := (ev_form av 22).symm.trans d22
    refine ⟨rfl, ?_⟩
    obtain ⟨g, h19, hg⟩ := d19
    have f19 := (ev_form av 19).symm.trans h19
    exact wp_of_run (v := .agg #[.pointer (some ⟨g, 0, none⟩), .int .i64 (d : Nat), .int .i64 (len els)]) (by simp [go_sem, f19, f20, f22]) ⟨_, rfl, es_of_ext (Ext_refl _), g, rfl, hg⟩
  case s7 =>
    refine step_wp (fun av wv hE hS hO hD => ?_)
    have d23 : (fun u w' => ∃ g, u = .agg #[.pointer (some ⟨g, 0, none⟩), .int .i64 (d : Nat), .int .i64 (len els)] ∧ PlaceIs els d d 0 g w') (av.eval (.tmp 23)) wv := hD.1 rfl _ rfl
    refine ⟨rfl, ?_⟩
    obtain ⟨g, h23, hg⟩ := d23
    have f23 := (ev_form av 23).symm.trans h23
    refine wp_of_run (v := .pointer (some ⟨wv.heap.size, 0, none⟩)) (w' := wv.alloc (.cells #[.pointer (some ⟨g, 0, none⟩), .int .i64 (d : Nat), .int .i64 (len els)] 48)) (by simp [go_sem, f23]) ⟨_, rfl, es_of_ext (balloc (Ext_refl _) _), wv.heap.size, rfl, (by have := hE.size; have := HVS.out; simp at *; omega), g, ?_, ?_⟩
    · rw [HDD.out]; exact heap_alloc_new _ _
    · rw [HDD.out]; exact hg.below (balloc (Below.refl _ _) _)
  intro a' w' hE hO hall
  have hA := act_of_outer (ds := [17, 18, 19, 20, 21, 22, 23, 24]) rfl hO (by kernel_rfl)
  have e17 : (fun u _ => u = (.func (.func 13) #[] #[.pointer (some ⟨bF, 0, none⟩), .pointer (some ⟨bD, 0, none⟩), .pointer (some ⟨bE, 0, none⟩), .pointer (some ⟨bN, 0, none⟩)])) (a'.eval (.tmp 17)) w' := hall.1 _ rfl
  have e18 : (fun u _ => u = (.int .i64 (d : Nat))) (a'.eval (.tmp 18)) w' := hall.2.1 _ rfl
  have e19 : (fun u w' => ∃ g, u = .pointer (some ⟨g, 0, none⟩) ∧ PlaceIs els d d 0 g w') (a'.eval (.tmp 19)) w' := hall.2.2.1 _ rfl
  have e20 : (fun u _ => u = (.int .i64 (d : Nat))) (a'.eval (.tmp 20)) w' := hall.2.2.2.1 _ rfl
  have e21 : (fun u _ => u = (.slice a (len els) cap)) (a'.eval (.tmp 21)) w' := hall.2.2.2.2.1 _ rfl
  have e22 : (fun u _ => u = (.int .i64 (len els))) (a'.eval (.tmp 22)) w' := hall.2.2.2.2.2.1 _ rfl
  have e23 : (fun u w' => ∃ g, u = .agg #[.pointer (some ⟨g, 0, none⟩), .int .i64 (d : Nat), .int .i64 (len els)] ∧ PlaceIs els d d 0 g w') (a'.eval (.tmp 23)) w' := hall.2.2.2.2.2.2.1 _ rfl
  have e24 : (fun u w' => ∃ b, u = .pointer (some ⟨b, 0, none⟩) ∧ w.heap.size ≤ b ∧ TreeAt els b w') (a'.eval (.tmp 24)) w' := hall.2.2.2.2.2.2.2.1 _ rfl
  obtain ⟨v19, hv19⟩ : ∃ v, a'.eval (.tmp 19) = v := ⟨_, rfl⟩
  rw [hv19] at e19
  obtain ⟨v23, hv23⟩ : ∃ v, a'.eval (.tmp 23) = v := ⟨_, rfl⟩
  rw [hv23] at e23
  obtain ⟨v24, hv24⟩ : ∃ v, a'.eval (.tmp 24) = v := ⟨_, rfl⟩
  rw [hv24] at e24
  simp only [List.foldl_cons, List.foldl_nil, Act.put, List.setIfInBounds_toArray, List.set_cons_succ, List.set_cons_zero, e17, e18, hv19, e20, e21, e22, hv23, hv24] at hA
  clear hO hall e17 e18 hv19 e20 e21 e22 hv23 hv24
  subst hA
  obtain ⟨g, rfl, hg, ht⟩ := e24
  have HG : Hid (w.heap.size ≤ g) := Lib.hid hg
  have HT2 := Lib.hid ht
  have HW : Hid (Below w.heap.size w w') := Lib.hid (bnext HUW.out (of_drew hE))
  clear hg ht hE e19 e23
  go_wp2
  go_ret2
  exact ⟨g, rfl, HG.out, HT2.out, HW.out⟩
theorem root_any (els : List ByteArray) (b : Nat) (w : World) (h : TreeAt els b w) : Calls Tryz.prog 28 #[.pointer (some ⟨b, 0, none⟩)] w fun e w' => e = .returned (.string (plD els (depN els) (depN els) 0)) ∧ w = w' := by
  obtain ⟨p, h1, h2⟩ := h
  have c0 : w.cell? ⟨b, 0, none⟩ = some (.pointer (some ⟨p, 0, none⟩)) := by rw [block_cell h1]; rfl
  have c1 := h2.digest
  clear h1 h2
  go_enter Tryz.func28, Tryz.ntmps28
  go_wp2
  go_ret
  exact ⟨rfl, rfl⟩
theorem tdepth_any (els : List ByteArray) (b : Nat) (w : World) (h : TreeAt els b w) : Calls Tryz.prog 21 #[.pointer (some ⟨b, 0, none⟩)] w fun e w' => e = .returned (.int .i64 (depN els : Nat)) ∧ w = w' := by
  obtain ⟨p, h1, h2⟩ := h
  have c0 : w.cell? ⟨b, 1, none⟩ = some (.int .i64 (depN els : Nat)) := by rw [block_cell h1]; rfl
  clear h1 h2
  go_enter Tryz.func21, Tryz.ntmps21
  go_wp2
  go_ret
  exact ⟨rfl, rfl⟩
theorem tlen_any (els : List ByteArray) (b : Nat) (w : World) (h : TreeAt els b w) : Calls Tryz.prog 18 #[.pointer (some ⟨b, 0, none⟩)] w fun e w' => e = .returned (.int .i64 (len els : Nat)) ∧ w = w' := by
  obtain ⟨p, h1, h2⟩ := h
  have c0 : w.cell? ⟨b, 2, none⟩ = some (.int .i64 (len els : Nat)) := by rw [block_cell h1]; rfl
  clear h1 h2
  go_enter Tryz.func18, Tryz.ntmps18
  go_wp2
  go_ret
  exact ⟨rfl, rfl⟩
end Go.Proofs.YtloccahcnikbfaaGreat
namespace Go.Proofs.YtloccahcnikbfaaGreat
open Go.RowKit
set_option linter.unusedSimpArgs false
set_option linter.unusedVariables false
theorem mem_flatFrom : ∀ (s : Nat) (rs : List (List Int)) (x : Int × Int), x ∈ flatFrom s rs → ∃ j, j < rs.length ∧ ∃ k ∈ rnth rs j, x = (((s + j : Nat) : Int), k)
  | _, [], x, h => by simp [flatFrom] at h
  | s, r :: rs, x, h => by
    rw [flatFrom, List.mem_append] at h
    rcases h with h | h
    · obtain ⟨k, hk, rfl⟩ := List.mem_map.1 h
      exact ⟨0, by simp, k, by simpa [rnth] using hk, rfl⟩
    · obtain ⟨j, hj, k, hk, rfl⟩ := mem_flatFrom (s + 1) rs x h
      refine ⟨j + 1, by simp; omega, k, by simpa [rnth] using hk, ?_⟩
      rw [show s + 1 + j = s + (j + 1) by omega]
theorem sib_bd {k : Int} {e : Nat} (h0 : 0 ≤ k) (h1 : k < 2 ^ (e + 1)) : 0 ≤ sib k ∧ sib k < 2 ^ (e + 1) := by
  have h2 : (2 : Int) ^ (e + 1) = 2 * 2 ^ e := by rw [Int.pow_succ]; omega
  rw [h2] at h1 ⊢
  generalize (2 : Int) ^ e = p at h1 ⊢
  unfold sib
  split <;> omega
theorem half_bd {y : Int} {d i : Nat} (h0 : 0 ≤ y) (h1 : y < 2 ^ d) (hi : i ≤ d) : 0 ≤ y / 2 ^ i ∧ y / 2 ^ i < 2 ^ (d - i) := by
  obtain ⟨n, rfl⟩ := Int.eq_ofNat_of_zero_le h0
  rw [pow_cast] at h1
  have h3 : n < 2 ^ d := by exact_mod_cast h1
  have h4 : n / 2 ^ i < 2 ^ (d - i) := by
    apply Nat.div_lt_of_lt_mul
    rw [← Nat.pow_add, show i + (d - i) = d by omega]
    exact h3
  rw [pow_cast, pow_cast]
  constructor
  · exact Int.ediv_nonneg h0 (Int.natCast_nonneg _)
  · exact_mod_cast h4
theorem plc_bd {leaves : List Int} {d : Nat} (hd : d ≤ 16) (h : ∀ y ∈ leaves, 0 ≤ y ∧ y < 2 ^ d) : ∀ x ∈ flatLv (needsL leaves (d : Nat)), ∃ i k : Nat, x = ((i : Int), (k : Int)) ∧ i < d ∧ k < 2 ^ (d - i) := by
  intro x hx
  obtain ⟨i, hi, k, hk, rfl⟩ := mem_flatFrom 0 _ x hx
  unfold needsL at hi hk
  split at hi
  · rename_i hc
    rw [if_pos hc, Int.toNat_natCast] at hk
    rw [Int.toNat_natCast] at hi
    unfold rowsOf at hi hk
    rw [List.length_map, List.length_range] at hi
    rw [rnth_eq _ i (by simpa using hi)] at hk
    simp only [List.getElem_map, List.getElem_range] at hk
    unfold rowK at hk
    rw [srt_mem, needK_mem] at hk
    obtain ⟨⟨j, hj, rfl⟩, _⟩ := hk
    rw [(insAll_all _).2.1, List.mem_map] at hj
    obtain ⟨y, hy, rfl⟩ := hj
    have h1 := half_bd (h y hy).1 (h y hy).2 (Nat.le_of_lt hi)
    obtain ⟨e, he⟩ : ∃ e, d - i = e + 1 := ⟨d - i - 1, by omega⟩
    rw [he] at h1
    have h2 := sib_bd h1.1 h1.2
    refine ⟨i, (sib (y / 2 ^ i)).toNat, ?_, hi, ?_⟩
    · rw [Int.toNat_of_nonneg h2.1, Nat.zero_add]
    · rw [he]
      have h3 := h2.2
      rw [pow_cast] at h3
      exact (Int.toNat_lt h2.1).2 h3
  · simp at hi
theorem leaves_in {l : List Int} {d : Nat} (hd : d ≤ 16) : ∀ y ∈ leavesL l (d : Nat), 0 ≤ y ∧ y < 2 ^ d := by
  intro y hy
  obtain ⟨k, _, rfl⟩ := List.mem_map.1 hy
  unfold turnedZ
  split
  · have := revOf_lt k.toNat ((d : Nat) : Int).toNat
    rw [Int.toNat_natCast] at this ⊢
    rw [pow_cast]
    omega
  · rw [pow_cast]
    have := Nat.two_pow_pos d
    omega
def dgsL (els : List ByteArray) (L : List (Int × Int)) : List ByteArray := L.map fun x => plD els (depN els) x.1.toNat x.2.toNat
theorem dgsL_snoc (els : List ByteArray) (L : List (Int × Int)) (x : Int × Int) : dgsL els (L ++ [x]) = dgsL els L ++ [plD els (depN els) x.1.toNat x.2.toNat] := by unfold dgsL; rw [List.map_append]; rfl
theorem row_litE {ks l m : List Int} (h : needK ks = l) (hm : m.Pairwise (fun x y => x < y)) (he : ∀ k, k ∈ l ↔ k ∈ m) : rowK ks = m := by
  unfold rowK
  exact srt_of (needK_nodup ks) hm (fun k => by rw [h]; exact he k)
theorem needsE : needsL (leavesL [0] ((2 : Nat) : Int)) ((2 : Nat) : Int) = [[1], [1]] := by
  have e0 : leavesL [0] ((2 : Nat) : Int) = [0] := by decide
  have e1 : rowsOf [0] 2 = [rowK (insAll [0]), rowK (insAll [0])] := by simp [rowsOf, List.range_succ_eq_map]
  rw [e0]
  unfold needsL
  rw [Int.toNat_natCast, if_pos ⟨by decide, by decide, by decide, by decide⟩, e1, row_litE (l := [1]) (m := [1]) (by decide) (by decide) (fun k => Iff.rfl)]
def abcE : List ByteArray := [⟨#[97]⟩, ⟨#[98]⟩, ⟨#[99]⟩]
theorem depE : depN abcE = 2 := by decide
theorem depZE : depthZ (len abcE : Nat) = ((2 : Nat) : Int) := by decide
theorem plcE : plcL (len abcE : Nat) [0] = [(0, 1), (1, 1)] := by unfold plcL; rw [depZE, needsE]; rfl
theorem leafE (k : Nat) (s : ByteArray) (h : revOf k 2 < len abcE) (hs : tth abcE (revOf k 2) = s) : plD abcE 2 0 k = hashP leafT [s] := by
  show (if revOf k 2 < len abcE then hashP leafT [tth abcE (revOf k 2)] else hashP noneT []) = _
  rw [if_pos h, hs]
theorem noneE (k : Nat) (h : ¬ revOf k 2 < len abcE) : plD abcE 2 0 k = hashP noneT [] := by
  show (if revOf k 2 < len abcE then hashP leafT [tth abcE (revOf k 2)] else hashP noneT []) = _
  rw [if_neg h]
def cE : ByteArray := hashP leafT [⟨#[99]⟩]
def rightE : ByteArray := hashP nodeT [hashP leafT [⟨#[98]⟩], hashP noneT []]
theorem plE1 : plD abcE 2 0 1 = cE := leafE 1 ⟨#[99]⟩ (by decide) rfl
theorem plE2 : plD abcE 2 1 1 = rightE := by
  show hashP nodeT [plD abcE 2 0 (2 * 1), plD abcE 2 0 (2 * 1 + 1)] = _
  rw [leafE (2 * 1) ⟨#[98]⟩ (by decide) rfl, noneE (2 * 1 + 1) (by decide)]
  rfl
theorem plE0 : plD abcE 2 2 0 = hashP nodeT [hashP nodeT [hashP leafT [⟨#[97]⟩], cE], rightE] := by
  show hashP nodeT [hashP nodeT [plD abcE 2 0 (2 * (2 * 0)), plD abcE 2 0 (2 * (2 * 0) + 1)], plD abcE 2 1 (2 * 0 + 1)] = _
  rw [leafE (2 * (2 * 0)) ⟨#[97]⟩ (by decide) rfl, show 2 * (2 * 0) + 1 = 1 from rfl, plE1, plE2]
theorem dgsE : dgsL abcE (plcL (len abcE : Nat) [0]) = [cE, rightE] := by
  rw [plcE]
  unfold dgsL
  rw [depE]
  show [plD abcE 2 0 1, plD abcE 2 1 1] = _
  rw [plE1, plE2]
end Go.Proofs.YtloccahcnikbfaaGreat
namespace Go.Proofs.YtloccahcnikbfaaGreat
open Go.RowKit
set_option linter.unusedSimpArgs false
set_option linter.unusedVariables false
set_option maxRecDepth 100000 in
set_option maxHeartbeats 4000000 in
theorem tat_any (els : List ByteArray) (b l k : Nat) (w : World) (h : TreeAt els b w) (hn : len els ≤ 65536) (hl : l ≤ depN els) (hk : k < 2 ^ (depN els - l)) :
    Calls Tryz.prog 19 #[.pointer (some ⟨b, 0, none⟩), .int .i64 (l : Nat), .int .u64 (k : Nat)] w fun e w' => e = .returned (.tuple #[.string (plD els (depN els) l k), .bool true]) ∧ Below w.heap.size w w' := by
  obtain ⟨p0, h1, h2⟩ := h
  have hd16 := depN_le hn
  obtain ⟨d, hd⟩ : ∃ d, depN els = d := ⟨_, rfl⟩
  rw [hd] at h1 h2 hl hk hd16 ⊢
  have c0 : w.cell? ⟨b, 0, none⟩ = some (.pointer (some ⟨p0, 0, none⟩)) := by rw [block_cell h1]; rfl
  have c1 : w.cell? ⟨b, 1, none⟩ = some (.int .i64 (d : Nat)) := by rw [block_cell h1]; rfl
  have HP : Hid (PlaceIs els d (l + (d - l)) (k / 2 ^ (d - l)) p0 w) := Lib.hid (by rw [Nat.div_eq_of_lt hk, show l + (d - l) = d by omega]; exact h2)
  have HK : Hid (k < 65536) := Lib.hid (Nat.lt_of_lt_of_le hk (pow_le16 (by omega)))
  have a2 : ¬ ((d : Nat) : Int) < ((l : Nat) : Int) := by omega
  obtain ⟨e, he⟩ : ∃ e, d - l = e := ⟨_, rfl⟩
  rw [he] at HP hk
  have a3 : IntKind.i64.wrap ((d : Int) - (l : Int)) = ((e : Nat) : Int) := by rw [IntWalk.i64_in _ (by omega)]; omega
  have a5 : ¬ (e : Int) < 0 := by omega
  have a4 : ((k : Nat) : Int) / 2 ^ e = 0 := by
    rw [pow_cast]
    have : k / 2 ^ e = 0 := Nat.div_eq_of_lt hk
    exact_mod_cast this
  have a6 : IntKind.i64.wrap ((e : Int) - 1) = (e : Int) - 1 := IntWalk.i64_in _ (by omega)
  have a1 : ¬ ((l : Nat) : Int) < 0 := by omega
  have a7 : min e 64 = e := by omega
  have HE : Hid (e ≤ 16) := Lib.hid (by omega)
  clear h1 h2 hd hk he hl hd16
  go_enter Tryz.func19, Tryz.ntmps19
  go_upto_region 5 with fail
  clear c0 c1 a1 a2 a3 a4 a5 a6 a7
  go_loopg [9, 8] e (fun g i p wr => ∃ (t q : Nat), g = t ∧ i = .int .i64 ((t : Int) - 1) ∧ p = .pointer (some ⟨q, 0, none⟩) ∧ t ≤ 16 ∧ Hid (PlaceIs els d (l + t) (k / 2 ^ t) q wr) ∧ Hid (Below w.heap.size w wr))
  case atStart => exact ⟨e, p0, rfl, rfl, rfl, HE.out, HP, Lib.hid (Below.refl _ _)⟩
  case round =>
    clear HP
    obtain ⟨t, q, hgt, rfl, rfl, ht, HP, HW⟩ := hrel
    have HGT := Lib.hid hgt
    clear hgt
    cases t with
    | zero =>
      have i1 : ¬ (0 : Int) ≤ ((0 : Nat) : Int) - 1 := by decide
      have cq : wr.cell? ⟨q, 0, none⟩ = some (.string (plD els d l k)) := by
        have := HP.out.digest
        rwa [Nat.add_zero, Nat.pow_zero, Nat.div_one] at this
      go_wp2
      go_ret2
      exact ⟨rfl, HW.out⟩
    | succ t =>
      rw [show ((t + 1 : Nat) : Int) - 1 = ((t : Nat) : Int) by omega]
      have i1 : (0 : Int) ≤ ((t : Nat) : Int) := by omega
      obtain ⟨W, hW⟩ : ∃ W, wr = W := ⟨_, rfl⟩
      rw [hW] at HP HW ⊢
      clear hW
      obtain ⟨b0, b1, hn9, h0, h1⟩ := HP.out
      obtain ⟨x, hx⟩ : ∃ x, k / 2 ^ t = x := ⟨_, rfl⟩
      obtain ⟨y, hy⟩ : ∃ y, x % 2 = y := ⟨_, rfl⟩
      have hxx : k / 2 ^ (t + 1) = x / 2 := by rw [← hx, Nat.div_div_eq_div_mul, Nat.pow_succ]
      have hx6 : x < 65536 := by rw [← hx]; exact Nat.lt_of_le_of_lt (Nat.div_le_self _ _) HK.out
      rw [hxx] at h0 h1
      obtain ⟨q2, hq2⟩ : ∃ q2, (if y = 0 then b0 else b1) = q2 := ⟨_, rfl⟩
      have cq : W.cell? ⟨q, 1 + y, none⟩ = some (.pointer (some ⟨q2, 0, none⟩)) := by
        rw [block_cell hn9, ← hq2]
        by_cases hy0 : y = 0
        · rw [if_pos hy0, hy0]; rfl
        · rw [if_neg hy0, show y = 1 by omega]; rfl
      have HP2 : Hid (PlaceIs els d (l + t) (k / 2 ^ t) q2 W) := Lib.hid (by
        rw [hx, ← hq2]
        by_cases hy0 : y = 0
        · rw [if_pos hy0, show x = 2 * (x / 2) by omega]; exact h0
        · rw [if_neg hy0, show x = 2 * (x / 2) + 1 by omega]; exact h1)
      have s1 : min t 64 = t := by omega
      have s2 : ((k : Nat) : Int) / 2 ^ t = ((x : Nat) : Int) := by rw [pow_cast, ← hx]; rfl
      have s3 : bits .and .u64 ((x : Nat) : Int) 1 = ((y : Nat) : Int) := by
        rw [show (1 : Int) = ((1 : Nat) : Int) from rfl, u64_and_nat _ _ (by omega) (by omega), Nat.and_one_is_mod, hy]
      have s4 : ¬ (2 : Int) ≤ ((y : Nat) : Int) := by omega
      have s5 : ¬ ((t : Nat) : Int) < 0 := by omega
      clear hx hy hxx hx6 hn9 h0 h1 hq2
      go_upto_region 7 with fail
      refine wp_region_tail 9 1000 (none) (phis [fun u _ => u = (.pointer (some ⟨q, 0, none⟩)), fun u _ => u = (.int .u64 (k : Nat)), fun u _ => u = (.int .i64 (t : Nat)), fun u _ => u = (.int .u64 (x : Nat)), fun u _ => u = (.int .u64 (y : Nat)), fun u _ => u = (.pointer (some ⟨q, 0, none⟩)), fun u _ => u = (.pointer (some ⟨q, 1, none⟩)), fun u _ => u = (.pointer (some ⟨q, 1 + y, none⟩)), fun u _ => u = (.pointer (some ⟨q2, 0, none⟩))]) rfl (by kernel_rfl) (by kernel_rfl) (mono_of ⟨mono_eq, mono_eq, mono_eq, mono_eq, mono_eq, mono_eq, mono_eq, mono_eq, mono_eq, trivial⟩) (steps_of 9 ⟨?s0, ?s1, ?s2, ?s3, ?s4, ?s5, ?s6, ?s7, ?s8, trivial⟩) ?_
      case s0 =>
        refine step_val (v := (.pointer (some ⟨q, 0, none⟩))) (fun av wv hE hS hO hD => ?_) (fun _ => rfl)
        have h8 : av.eval (.tmp 8) = (.pointer (some ⟨q, 0, none⟩)) := hO.2.2 8 rfl
        have f8 := (ev_form av 8).symm.trans h8
        refine ⟨rfl, ?_⟩
        simp [go_sem, f8, s1, s2, s3, s4, s5]
      case s1 =>
        refine step_val (v := (.int .u64 (k : Nat))) (fun av wv hE hS hO hD => ?_) (fun _ => rfl)
        have h2 : av.eval (.tmp 2) = (.int .u64 (k : Nat)) := hO.2.2 2 rfl
        have f2 := (ev_form av 2).symm.trans h2
        refine ⟨rfl, ?_⟩
        simp [go_sem, f2, s1, s2, s3, s4, s5]
      case s2 =>
        refine step_val (v := (.int .i64 (t : Nat))) (fun av wv hE hS hO hD => ?_) (fun _ => rfl)
        have h9 : av.eval (.tmp 9) = (.int .i64 (t : Nat)) := hO.2.2 9 rfl
        have f9 := (ev_form av 9).symm.trans h9
        refine ⟨rfl, ?_⟩
        simp [go_sem, f9, s1, s2, s3, s4, s5]
      case s3 =>
        refine step_val (v := (.int .u64 (x : Nat))) (fun av wv hE hS hO hD => ?_) (fun _ => rfl)
        have d51 : av.eval (.tmp 51) = (.int .u64 (k : Nat)) := hD.1 rfl _ rfl
        have f51 := (ev_form av 51).symm.trans d51
        have d52 : av.eval (.tmp 52) = (.int .i64 (t : Nat)) := hD.2.1 rfl _ rfl
        have f52 := (ev_form av 52).symm.trans d52
        refine ⟨rfl, ?_⟩
        simp [go_sem, f51, f52, s1, s2, s3, s4, s5]
      case s4 =>
        refine step_val (v := (.int .u64 (y : Nat))) (fun av wv hE hS hO hD => ?_) (fun _ => rfl)
        have d53 : av.eval (.tmp 53) = (.int .u64 (x : Nat)) := hD.1 rfl _ rfl
        have f53 := (ev_form av 53).symm.trans d53
        refine ⟨rfl, ?_⟩
        simp [go_sem, f53, s1, s2, s3, s4, s5]
      case s5 =>
        refine step_val (v := (.pointer (some ⟨q, 0, none⟩))) (fun av wv hE hS hO hD => ?_) (fun _ => rfl)
        have d50 : av.eval (.tmp 50) = (.pointer (some ⟨q, 0, none⟩)) := hD.1 rfl _ rfl
        have f50 := (ev_form av 50).symm.trans d50
        refine ⟨rfl, ?_⟩
        simp [go_sem, f50, s1, s2, s3, s4, s5]
      case s6 =>
        refine step_val (v := (.pointer (some ⟨q, 1, none⟩))) (fun av wv hE hS hO hD => ?_) (fun _ => rfl)
        have d55 : av.eval (.tmp 55) = (.pointer (some ⟨q, 0, none⟩)) := hD.1 rfl _ rfl
        have f55 := (ev_form av 55).symm.trans d55
        refine ⟨rfl, ?_⟩
        simp [go_sem, f55, s1, s2, s3, s4, s5]
      case s7 =>
        refine step_val (v := (.pointer (some ⟨q, 1 + y, none⟩))) (fun av wv hE hS hO hD => ?_) (fun _ => rfl)
        have d56 : av.eval (.tmp 56) = (.pointer (some ⟨q, 1, none⟩)) := hD.1 rfl _ rfl
        have f56 := (ev_form av 56).symm.trans d56
        have d54 : av.eval (.tmp 54) = (.int .u64 (y : Nat)) := hD.2.1 rfl _ rfl
        have f54 := (ev_form av 54).symm.trans d54
        refine ⟨rfl, ?_⟩
        simp [go_sem, f56, f54, s1, s2, s3, s4, s5]
      case s8 =>
        refine step_val (v := (.pointer (some ⟨q2, 0, none⟩))) (fun av wv hE hS hO hD => ?_) (fun _ => rfl)
        have d57 : av.eval (.tmp 57) = (.pointer (some ⟨q, 1 + y, none⟩)) := hD.1 rfl _ rfl
        have f57 := (ev_form av 57).symm.trans d57
        have cq := extB_cell hE (by simp) cq
        refine ⟨rfl, ?_⟩
        simp [go_sem, f57, cq, s1, s2, s3, s4, s5]
      intro a' w' hE hO hall
      have hA := act_of_outer (ds := [50, 51, 52, 53, 54, 55, 56, 57, 58]) rfl hO (by kernel_rfl)
      have e50 : (fun u _ => u = (.pointer (some ⟨q, 0, none⟩))) (a'.eval (.tmp 50)) w' := hall.1 _ rfl
      have e51 : (fun u _ => u = (.int .u64 (k : Nat))) (a'.eval (.tmp 51)) w' := hall.2.1 _ rfl
      have e52 : (fun u _ => u = (.int .i64 (t : Nat))) (a'.eval (.tmp 52)) w' := hall.2.2.1 _ rfl
      have e53 : (fun u _ => u = (.int .u64 (x : Nat))) (a'.eval (.tmp 53)) w' := hall.2.2.2.1 _ rfl
      have e54 : (fun u _ => u = (.int .u64 (y : Nat))) (a'.eval (.tmp 54)) w' := hall.2.2.2.2.1 _ rfl
      have e55 : (fun u _ => u = (.pointer (some ⟨q, 0, none⟩))) (a'.eval (.tmp 55)) w' := hall.2.2.2.2.2.1 _ rfl
      have e56 : (fun u _ => u = (.pointer (some ⟨q, 1, none⟩))) (a'.eval (.tmp 56)) w' := hall.2.2.2.2.2.2.1 _ rfl
      have e57 : (fun u _ => u = (.pointer (some ⟨q, 1 + y, none⟩))) (a'.eval (.tmp 57)) w' := hall.2.2.2.2.2.2.2.1 _ rfl
      have e58 : (fun u _ => u = (.pointer (some ⟨q2, 0, none⟩))) (a'.eval (.tmp 58)) w' := hall.2.2.2.2.2.2.2.2.1 _ rfl
      simp only [List.foldl_cons, List.foldl_nil, Act.put, List.setIfInBounds_toArray, List.set_cons_succ, List.set_cons_zero, e50, e51, e52, e53, e54, e55, e56, e57, e58] at hA
      clear hO hall e50 e51 e52 e53 e54 e55 e56 e57 e58
      subst hA
      have HW2 : Hid (Below w.heap.size w w') := Lib.hid (bnext HW.out (of_drew hE))
      have HP3 : Hid (PlaceIs els d (l + t) (k / 2 ^ t) q2 w') := Lib.hid (HP2.out.below (of_drew hE))
      have a6 : IntKind.i64.wrap (((t : Nat) : Int) - 1) = ((t : Nat) : Int) - 1 := IntWalk.i64_in _ (by omega)
      clear hE cq s1 s2 s3 s4 s5
      go_wp2
      go_roundg t
      case rel => exact ⟨t, q2, rfl, rfl, rfl, by omega, HP3, HW2⟩
      case measure => have := HGT.out; omega
end Go.Proofs.YtloccahcnikbfaaGreat
namespace Go.Proofs.YtloccahcnikbfaaGreat
open Go.RowKit Go.ChangeMaps
set_option linter.unusedSimpArgs false
set_option linter.unusedVariables false
attribute [local go_sem] Oper.semAt_some
theorem info_str : (Tryz.prog.info? 9).map (fun i => (i.zero, i.size, i.bytes)) = some (some (.string ⟨#[]⟩), 1, 16) := by kernel_rfl
def ProofIs (l : List ByteArray) (er : Int) (w : World) (e : Ending) (w' : World) : Prop := ∃ v, e = .returned (.tuple #[v, .int .i64 er]) ∧ w'.ownsRow w.heap.size 9 1 v (len l) (l.map Value.string) ∧ Below w.heap.size w w'
set_option maxRecDepth 100000 in
set_option maxHeartbeats 4000000 in
theorem prove_bad (els : List ByteArray) (b : Nat) (l : List Int) (a : Option Addr) (cap : Nat) (w : World) (ht : TreeAt els b w) (hn : len els ≤ 65536) (h : U64s w a l) (hl : len l ≤ 1000000000) (hb : ¬ MayOk (len els : Nat) l) :
    Calls Tryz.prog 7 #[.pointer (some ⟨b, 0, none⟩), .slice a (len l) cap] w (ProofIs [] 2 w) := by
  have HL := Lib.hid (tlen_any els b w ht)
  have HM := Lib.hid (mmay_any (len els : Nat) l a cap w h hl (by omega) (by omega))
  rw [decide_eq_false hb] at HM
  clear ht h hb
  go_enter Tryz.func7, Tryz.ntmps7
  go_wp2_with fail
  refine HL.out.mono ?_
  rintro e w1 ⟨rfl, rfl⟩
  go_wp2_with fail
  refine HM.out.mono ?_
  rintro e w1 ⟨rfl, hb1⟩
  have HB1 := Lib.hid hb1
  clear hb1
  go_wp2
  go_ret2
  exact ⟨_, rfl, World.ownsRow_nil _ _ _ _, HB1.out⟩
theorem exists_sub {α : Type} (P : α → Prop) : ∀ (l : List α), (∀ x ∈ l, P x) → ∃ L : List { x // P x }, L.map Subtype.val = l
  | [], _ => ⟨[], rfl⟩
  | x :: l, h => by
    obtain ⟨L, hL⟩ := exists_sub P l (fun y hy => h y (List.mem_cons_of_mem _ hy))
    exact ⟨⟨x, h x List.mem_cons_self⟩ :: L, by rw [List.map_cons, hL]⟩
abbrev PlX (d : Nat) := { x : Int × Int // ∃ i k : Nat, x = ((i : Int), (k : Int)) ∧ i < d ∧ k < 2 ^ (d - i) }
theorem kpo_append {o base k : Nat} {W w4 : World} {tmp : Obj} {v v' : Value} {xs : List Value} (hrow : W.ownsRow base 9 1 v k xs) (hg : (W.alloc tmp).grownBy w4 v.ownBlock) : KpO o W (w4.setCell ⟨o, 0, none⟩ v') := by
  have hs := hg.size
  refine ⟨by simp at hs; simp [World.setCell]; omega, fun b cs t fr hb ht hc => ?_⟩
  have hlt := lt_of_block hc
  refine (Below.heap_setCell _ _ _ _ (fun e => hb e)).trans ?_
  refine (hg.block b (by simp; omega) (fun e => ?_)).trans (block_alloc hc _)
  rcases hrow.2 with ⟨rfl, _⟩ | ⟨g, cap, cur, rfl, _, hgb, _⟩
  · simp [Value.ownBlock] at e
  · simp [Value.ownBlock] at e
    subst e
    rw [hgb] at hc
    cases hc
    exact ht rfl
set_option maxRecDepth 100000 in
set_option maxHeartbeats 4000000 in
theorem prove_ok (els : List ByteArray) (b : Nat) (l : List Int) (a : Option Addr) (cap : Nat) (w : World) (ht : TreeAt els b w) (hn : len els ≤ 65536) (h : U64s w a l) (hl : len l ≤ 100) (hu : ∀ k ∈ l, U64 k) (hb : MayOk (len els : Nat) l) :
    Calls Tryz.prog 7 #[.pointer (some ⟨b, 0, none⟩), .slice a (len l) cap] w (ProofIs (dgsL els (plcL (len els : Nat) l)) 0 w) := by
  have HT := Lib.hid ht
  have HN := Lib.hid hn
  have HM := Lib.hid (mmay_any (len els : Nat) l a cap w h (by omega) (by omega) (by omega))
  rw [decide_eq_true hb] at HM
  have HLN := Lib.hid (tlen_any els b w ht)
  have H := Lib.hid h
  have HU := Lib.hid hu
  obtain ⟨d, hd⟩ : ∃ d, depN els = d := ⟨_, rfl⟩
  have HDD := Lib.hid hd
  have HD16 : Hid (d ≤ 16) := Lib.hid (by rw [← hd]; exact depN_le hn)
  have HPL : Hid (plcL (len els : Nat) l = flatLv (needsL (leavesL l d) d)) := Lib.hid (by unfold plcL; rw [depthZ_len hn, hd])
  clear ht hn h hu hb hd
  obtain ⟨i0, hi, hz0, hz1, hz2⟩ := info_parts info_str
  have HZ := Lib.hid hz0
  clear hz0
  refine (callsIn_wide (n := 9)).1 ?_
  refine callsIn_of_wp_marks Tryz.func7 rfl trivial ?_ rfl
  simp only [Tryz.ntmps7, List.size_toArray, List.length_cons, List.length_nil, Nat.reduceAdd, Nat.reduceSub, Array.replicate_succ, Array.replicate_zero, List.push_toArray, List.append_toArray, List.nil_append, List.cons_append]
  gi_wp2_with fail
  refine ⟨trivial, (callsIn_wide.2 HLN.out).mono ?_⟩
  rintro e w1 ⟨rfl, rfl⟩
  gi_wp2_with fail
  refine ⟨trivial, (callsIn_wide.2 HM.out).mono ?_⟩
  rintro e w1 ⟨rfl, hb1⟩
  have HB1 := Lib.hid hb1
  have HT1 := Lib.hid (HT.out.below hb1)
  clear hb1 HM HLN
  obtain ⟨ab, hab⟩ : ∃ ab, w1.heap.size = ab := ⟨_, rfl⟩
  gi_wp2_with fail
  obtain ⟨o, ho⟩ : ∃ o, ab + 1 = o := ⟨_, rfl⟩
  rw [ho]
  obtain ⟨V, hV⟩ : ∃ V, ((w1.alloc (.cells #[.func (.func 19) #[.pointer (some ⟨b, 0, none⟩)] #[]] 51)).alloc (.cells #[.slice none 0 0] 22)) = V := ⟨_, rfl⟩
  rw [hV]
  have V1 : Hid (V.heap[ab]? = some (.cells #[.func (.func 19) #[.pointer (some ⟨b, 0, none⟩)] #[]] 51 (0, 0))) := Lib.hid (by rw [← hV]; exact block_alloc (alloc_new_at _ hab) _)
  have V2 : Hid (Boxed V o 22 (.slice none 0 0)) := Lib.hid (by rw [← hV]; exact alloc_new_at _ (by rw [alloc_size _ rfl]; omega))
  have VB : Hid (Below w.heap.size w V) := Lib.hid (by rw [← hV]; exact balloc (balloc HB1.out _) _)
  have VS : Hid (w.heap.size ≤ ab ∧ ab < o) := Lib.hid ⟨by rw [← hab]; exact HB1.out.size, by omega⟩
  have HDP := Lib.hid (tdepth_any els b V (HT.out.below VB.out))
  rw [HDD.out] at HDP
  clear hV hab ho HT1
  refine ⟨trivial, (callsIn_wide.2 HDP.out).mono ?_⟩
  rintro e w2 ⟨rfl, rfl⟩
  gi_wp2_with fail
  refine ⟨trivial, (callsIn_wide.2 (places_any a cap (len l) (d : Nat) _)).mono ?_⟩
  rintro e w3 ⟨rfl, hw3⟩
  obtain ⟨s1, hs1⟩ : ∃ s1, V.heap.size = s1 := ⟨_, rfl⟩
  rw [hs1]
  have Z1 : Hid (w3.heap[ab]? = some (.cells #[.func (.func 19) #[.pointer (some ⟨b, 0, none⟩)] #[]] 51 (0, 0))) := Lib.hid (by rw [hw3]; exact block_alloc (block_alloc V1.out _) _)
  have Z0 : Hid (Boxed w3 o 22 (.slice none 0 0)) := Lib.hid (by rw [hw3]; exact block_alloc (block_alloc V2.out _) _)
  have Z2 : Hid (w3.heap[s1]? = some (.cells #[.int .i64 (d : Nat)] 3 (0, 0))) := Lib.hid (by rw [hw3]; exact block_alloc (alloc_new_at _ hs1) _)
  have Z3 : Hid (w3.heap[s1 + 1]? = some (.cells #[.slice a (len l) cap] 24 (0, 0))) := Lib.hid (by rw [hw3]; exact alloc_new_at _ (by rw [alloc_size _ rfl, hs1]))
  have ZB : Hid (Below w.heap.size w w3) := Lib.hid (by rw [hw3]; exact balloc (balloc VB.out _) _)
  have ZS : Hid (o < w3.heap.size) := Lib.hid (Z0.out.lt)
  clear hw3 hs1 V1 V2 HDP
  obtain ⟨L, hL⟩ : ∃ L : List (PlX d), L.map Subtype.val = flatLv (needsL (leavesL l d) d) := exists_sub _ _ (plc_bd HD16.out (leaves_in HD16.out))
  have HLL := Lib.hid hL
  have HLB : Hid (L.length ≤ 1600) := Lib.hid (by
    have h1 := flat_bd (leavesL l d) d (by rw [leavesL_len]; exact hl)
    rw [← hL, List.length_map] at h1
    exact h1)
  gi_wp2_with fail
  refine wpIn_rangeFunc_ownF rfl (by omega) (gf := 35) (lb := #[.pointer (some ⟨s1 + 1, 0, none⟩), .pointer (some ⟨s1, 0, none⟩)]) rfl trivial (enters_of Tryz.func35 (by kernel_rfl) rfl)
    (places_seq (Subtype.val : PlX d → Int × Int) L 8 (by omega) o (s1 + 1) s1 a cap l d w3 (by rw [block_cell Z3.out]; rfl) (by rw [block_cell Z2.out]; rfl) (H.out.below ZB.out) hl HD16.out HU.out ZS.out hL)
    KpO.trans (fun W l9 x x' _ hl hx _ => KpO.putObj o W l9 x x' hl hx) (Below.refl _ _) (fun _ => rfl)
    (fun pre W => (∃ v, Boxed W o 22 v ∧ W.ownsRow w.heap.size 9 1 v (len (dgsL els (pre.map Subtype.val))) ((dgsL els (pre.map Subtype.val)).map Value.string) ∧ True) ∧ W.heap[ab]? = some (.cells #[.func (.func 19) #[.pointer (some ⟨b, 0, none⟩)] #[]] 51 (0, 0)) ∧ Below w.heap.size w W) (fun _ _ _ => False)
    (OwnFrom.and (Own.from (holdsRow_own w.heap.size o 22 9 1 (fun pre : List (PlX d) => len (dgsL els (pre.map Subtype.val))) (fun pre => (dgsL els (pre.map Subtype.val)).map Value.string) (fun _ _ => True)) _) (OwnFrom.and (own_one _ ab 51 (fun _ : List (PlX d) => .func (.func 19) #[.pointer (some ⟨b, 0, none⟩)] #[])) (ownFrom_below (Nat.le_refl _) ZB.out.size))) (fun _ _ _ _ _ h _ _ => h)
    ⟨⟨_, Z0.out, World.ownsRow_nil _ _ _ _, trivial⟩, Z1.out, ZB.out⟩ ?a1 ?assign ?body ?done ?stop
  case assign =>
    intro l9 x W K hK
    gi_wp2
    exact hK
  case body =>
    rintro l9 pre ⟨x, i, k, rfl, hi9, hk9⟩ W ⟨⟨v, hv, hrow, -⟩, hO, hB⟩ hlt
    have ca : W.cell? ⟨ab, 0, none⟩ = some (.func (.func 19) #[.pointer (some ⟨b, 0, none⟩)] #[]) := by rw [block_cell hO]; rfl
    have HV := Lib.hid hv
    have HRW := Lib.hid hrow
    have HO := Lib.hid hO
    have HB := Lib.hid hB
    have HAT := Lib.hid (tat_any els b i k W (HT.out.below hB) HN.out (by rw [HDD.out]; omega) (by rw [HDD.out]; exact hk9))
    rw [HDD.out] at HAT
    have HPB : Hid (len (dgsL els (pre.map Subtype.val)) ≤ 1600) := Lib.hid (by unfold dgsL; rw [len_eq, List.length_map, List.length_map]; have := HLB.out; omega)
    have HSN : Hid (dgsL els ((pre ++ [(⟨((i : Int), (k : Int)), i, k, rfl, hi9, hk9⟩ : PlX d)]).map Subtype.val) = dgsL els (pre.map Subtype.val) ++ [plD els d i k]) := Lib.hid (by
      rw [List.map_append]
      show dgsL els (pre.map Subtype.val ++ [((i : Int), (k : Int))]) = _
      rw [dgsL_snoc, HDD.out]
      simp)
    obtain ⟨P9, hP9⟩ : ∃ P9, dgsL els (pre.map Subtype.val) = P9 := ⟨_, rfl⟩
    rw [hP9] at HRW HPB HSN
    obtain ⟨X9, hX9⟩ : ∃ X9, plD els d i k = X9 := ⟨_, rfl⟩
    rw [hX9] at HAT HSN
    clear hv hrow hO hB hlt hP9 hX9
    dsimp only
    gi_wp2_with fail
    refine ⟨trivial, (CallsIn.inRound l9 (callsIn_wide.2 HAT.out)).mono ?_⟩
    rintro e W2 ⟨rfl, hb2⟩
    have HV2 : Hid (Boxed W2 o 22 v) := Lib.hid ((hb2.block _ HV.out.lt).trans HV.out)
    have HR2 : Hid (W2.ownsRow w.heap.size 9 1 v (len P9) (P9.map Value.string)) := Lib.hid (own_below HRW.out hb2)
    have HO2 : Hid (W2.heap[ab]? = some (.cells #[.func (.func 19) #[.pointer (some ⟨b, 0, none⟩)] #[]] 51 (0, 0))) := Lib.hid ((hb2.block _ (lt_of_block HO.out)).trans HO.out)
    have HB2 : Hid (Below w.heap.size w W2) := Lib.hid (bnext HB.out hb2)
    have HWW := Lib.hid hb2
    have hc := HV2.out.cell
    have hpb := HPB.out
    clear hb2 ca HAT
    gi_wp2_with (gi_at_builtin; refine wpListIn_append_own _ rfl _ _ 22 rfl w.heap.size 9 i0 (.string ⟨#[]⟩) 1 16 Tryz.underlying22 hi HZ.out hz1 hz2 rfl (by decide) _ _ _ rfl (HR2.out.alloc _) ⟨W2.heap.size, 0, none⟩ 1 1 [.string X9] rfl rfl (World.news_of_block (heap_alloc_new _ _)) (by intro u hu9; simp at hu9; subst hu9; rfl) (by unfold maxLen; omega) (by omega) (by have := HB2.out.size; simp; omega) ?_; intro v' w4 hown' hgrow _; obtain ⟨g', cap', rfl⟩ := ownsRow_succ hown'; obtain ⟨hv1, hv2, hr2, hk2, hb3⟩ := HV2.out.appended (by decide) HR2.out HB2.out.size (by have := VS.out; omega) hown' hgrow; have hc1 := hv1.cell; have hf1 := hv1.frozen; have HQ1 := Lib.hid hv2; have HQ2 := Lib.hid hr2; have HQ3 := Lib.hid hk2; have HQ4 := Lib.hid hb3; have HQ5 := Lib.hid (kpo_append (o := o) (v' := .slice (some ⟨g', 0, none⟩) (len P9 + 1) cap') HR2.out hgrow); clear hv2 hr2 hk2 hb3 hown' hgrow)
    have HKO : Hid (KeepsOthers W W2) := Lib.hid (KeepsOthers.of_grownBy (below_grown HWW.out) (fun j o h => by cases h))
    have HKP : Hid (KpO o W W2) := Lib.hid ⟨HWW.out.size, fun b9 cs t fr _ _ hc9 => (HWW.out.block _ (lt_of_block hc9)).trans hc9⟩
    refine ⟨HKO.out.trans HQ3.out, HKP.out.trans HQ5.out, ⟨_, HQ1.out, ?_, trivial⟩, ?_, HB2.out.trans HQ4.out⟩
    · have e9 : len (P9 ++ [X9]) = len P9 + 1 := by rw [len_eq, List.length_append]; rfl
      rw [HSN.out, List.map_append, e9]
      exact HQ2.out
    · exact HQ5.out.same _ _ _ _ (by have := VS.out; omega) (by decide) HO2.out
  case done =>
    rintro D ys W hD rfl ⟨⟨v, hv, hrow, -⟩, hO, hB⟩ hK
    have hc := hv.cell
    rw [HLL.out] at hrow
    have HR := Lib.hid (ownsRow_putObj hrow (.deferred none) hK rfl)
    have HB : Hid (Below w.heap.size w (W.putObj D (.deferred none))) := Lib.hid (hB.trans (belowK_b (w := w) (Nat.le_refl _) W D _ _ (Nat.le_trans ZB.out.size hD) hK rfl rfl))
    have HK := Lib.hid hK
    clear hO hB hrow
    gi_wp2
    refine ⟨by simp, .inl ⟨_, _, rfl, run_takeDeferred HK.out, ?_⟩⟩
    refine ⟨_, results_tmp2 rfl _ _ _, v, rfl, ?_, HB.out⟩
    rw [HPL.out]
    exact HR.out
  case stop =>
    intro D c pre W _ _ h _
    exact h.elim
end Go.Proofs.YtloccahcnikbfaaGreat
namespace Go.Proofs.YtloccahcnikbfaaGreat
open Go.RowKit
set_option linter.unusedSimpArgs false
set_option linter.unusedVariables false
def memB (k : Int) (l : List Int) : Bool := decide (k ∈ l)
theorem memB_true {k : Int} {l : List Int} {n : Nat} (h : n < len l) (e : nth l n = k) : memB k l = true := by
  unfold memB; rw [nth_eq l n h] at e; simp only [← e, decide_eq_true_eq]; exact List.getElem_mem _
theorem memB_false {k : Int} {l : List Int} (h : ∀ j, j < len l → nth l j ≠ k) : memB k l = false := by
  unfold memB
  simp only [decide_eq_false_iff_not]
  intro hm
  obtain ⟨i, hi, e⟩ := List.getElem_of_mem hm
  exact h i hi (by rw [nth_eq l i hi]; exact e)
set_option maxHeartbeats 400000 in
theorem has_any (a : Option Addr) (cap : Nat) (k : Int) (l : List Int) (w : World) (hlen : len l ≤ 9223372036854775807) (hc : U64s w a l) :
    Calls Tryz.prog 40 #[.slice a (len l) cap, .int .u64 k] w fun e w' => e = .returned (.bool (memB k l)) ∧ w' = w := by
  have HC := Lib.hid hc
  clear hc
  go_enter Tryz.func40, Tryz.ntmps40
  go_wp2
  go_loop [5] (fun i => ∃ n : Nat, n ≤ len l ∧ i = .int .i64 n ∧ Hid (∀ j, j < n → nth l j ≠ k)) (fun i => len l - (intOf i).toNat)
  case atStart => exact ⟨0, Nat.zero_le _, rfl, fun j hj => by omega⟩
  case round =>
    obtain ⟨n, hn, rfl, hk⟩ := hrel
    by_cases hlt : n < len l
    · obtain ⟨b, off, rfl, hcell⟩ := HC.out n hlt
      by_cases hh : nth l n = k
      · have hh' : (nth l n == k) = true := by simpa using hh
        have HH := Lib.hid hh
        clear hh
        go_wp2
        go_ret
        exact ⟨ret_bool (memB_true hlt HH.out).symm, rfl⟩
      · have hh' : (nth l n == k) = false := by simpa using hh
        have HH := Lib.hid hh
        clear hh
        go_wp2
        go_round
        case rel => exact ⟨n + 1, by omega, by go_num, fun j hj => by
          by_cases e : j = n
          · subst e; exact HH.out
          · exact hk.out j (by omega)⟩
        case measure => simp [intOf]; omega
    · go_wp2
      go_ret
      exact ⟨ret_bool (memB_false (fun j hj => hk.out j (by omega))).symm, rfl⟩
abbrev Rising (l : List Int) : Prop := l.Pairwise (fun x y => x < y)
theorem put_rising {l : List Int} {k : Int} {m : Nat} (hr : Rising l) (h1 : ∀ j, j < m → nth l j < k) (hm : m ≤ len l) (h2 : m < len l → k < nth l m) : Rising (l.take m ++ [k] ++ l.drop m) := by
  have h3 : ∀ x ∈ l.take m, x < k := by
    intro x hx
    obtain ⟨i, hi, rfl⟩ := List.getElem_of_mem hx
    have hi' : i < m := by simp at hi; omega
    have := h1 i hi'
    rw [nth_eq l i (by rw [len_eq] at hm; omega)] at this
    simpa using this
  have h4 : ∀ x ∈ l.drop m, k < x := by
    intro x hx
    by_cases hlt : m < len l
    · have hlt' : m < l.length := hlt
      rw [List.drop_eq_getElem_cons hlt'] at hx
      have h5 := h2 hlt
      rw [nth_eq l m hlt'] at h5
      rcases List.mem_cons.1 hx with rfl | hx
      · exact h5
      · have h6 : (l.drop m).Pairwise (fun x y => x < y) := List.Pairwise.drop hr
        rw [List.drop_eq_getElem_cons hlt', List.pairwise_cons] at h6
        have := h6.1 x hx
        omega
    · rw [List.drop_eq_nil_of_le (by rw [← len_eq]; omega)] at hx; cases hx
  refine List.pairwise_append.2 ⟨List.pairwise_append.2 ⟨hr.take, List.pairwise_singleton .., fun x hx y hy => ?_⟩, hr.drop, fun x hx y hy => ?_⟩
  · rw [List.mem_singleton] at hy; subst hy; exact h3 x hx
  · rcases List.mem_append.1 hx with hx | hx
    · have := h3 x hx; have := h4 y hy; omega
    · rw [List.mem_singleton] at hx; subst hx; exact h4 y hy
theorem put_mem (l : List Int) (k : Int) (m : Nat) (x : Int) : x ∈ l.take m ++ [k] ++ l.drop m ↔ x ∈ l ∨ x = k := by
  have h : x ∈ l ↔ x ∈ l.take m ∨ x ∈ l.drop m := by
    rw [← List.mem_append, List.take_append_drop]
  rw [h, List.mem_append, List.mem_append, List.mem_singleton]
  constructor
  · rintro ((h | h) | h)
    · exact .inl (.inl h)
    · exact .inr h
    · exact .inl (.inr h)
  · rintro ((h | h) | h)
    · exact .inl (.inl h)
    · exact .inr h
    · exact .inl (.inr h)
theorem put_len (l : List Int) (k : Int) (m : Nat) : len (l.take m ++ [k] ++ l.drop m) = len l + 1 := by
  rw [len_eq, len_eq]; simp; omega
def PutIs (base : Nat) (l : List Int) (k : Int) (w : World) (e : Ending) (w' : World) : Prop :=
  ∃ (v : Value) (l' : List Int), e = .returned v ∧ Rising l' ∧ (∀ x, x ∈ l' ↔ x ∈ l ∨ x = k) ∧ len l' ≤ len l + 1 ∧ w'.ownsRow base 23 1 v (len l') (l'.map (Value.int .u64)) ∧ Below w.heap.size w w'
theorem own_lower {w : World} {base b' e size n : Nat} {v : Value} {xs : List Value} (h : w.ownsRow base e size v n xs) (hb : b' ≤ base) : w.ownsRow b' e size v n xs :=
  ownsRow_later h (Below.refl _ _) hb
theorem part_len (l : List Int) (a n : Nat) (h : a + n ≤ len l) : (((l.drop a).take n).map (Value.int .u64)).length = n := by
  have : l.length = len l := rfl
  simp; omega
theorem part_one (l : List Int) : ∀ u ∈ l.map (Value.int .u64), u.oneCell' = true := by
  intro u hu
  obtain ⟨x, _, rfl⟩ := List.mem_map.1 hu
  rfl
theorem part_news (w : World) (g : Nat) (l : List Int) (h : ∀ j, j < len l → w.cell? ⟨g, j, none⟩ = some (.int .u64 (nth l j))) (a n : Nat) (han : a + n ≤ len l) : ∀ j u, (((l.drop a).take n).map (Value.int .u64))[j]? = some u → w.cell? ((⟨g, a, none⟩ : Addr).add j) = some u := by
  intro j u hu
  have hj : j < n := by
    have h1 := (List.getElem?_eq_some_iff.1 hu).1
    rw [part_len l a n han] at h1; exact h1
  have hjl : a + j < l.length := by have : l.length = len l := rfl; omega
  rw [List.getElem?_map, List.getElem?_take_of_lt hj, List.getElem?_drop, List.getElem?_eq_getElem hjl] at hu
  cases hu
  have h2 := h (a + j) hjl
  rw [nth_eq l (a + j) hjl] at h2
  have h3 : (⟨g, a, none⟩ : Addr).add j = ⟨g, a + j, none⟩ := by
    by_cases hj0 : j = 0
    · subst hj0; rfl
    · simp [Addr.add, hj0]
  rw [h3]; exact h2
theorem one_news (w : World) (v : Value) (t : TypeId) : ∀ j u, [v][j]? = some u → (w.alloc (.cells #[v] t)).cell? ((⟨w.heap.size, 0, none⟩ : Addr).add j) = some u := by
  intro j u hu
  cases j with
  | zero => simp at hu; subst hu; exact block_cell (heap_alloc_new _ _) 0
  | succ j => simp at hu
theorem put_xs1 (l : List Int) (k : Int) (m : Nat) (h : len l - m = 0) : List.take m (l.map (Value.int .u64)) ++ [.int .u64 k] = (l.take m ++ [k] ++ l.drop m).map (Value.int .u64) := by
  rw [List.drop_eq_nil_of_le (by rw [← len_eq]; omega)]; simp
theorem put_xs2 (l : List Int) (k : Int) (m : Nat) : List.take m (l.map (Value.int .u64)) ++ .int .u64 k :: List.take (len l - m) (List.drop m (l.map (Value.int .u64))) = (l.take m ++ [k] ++ l.drop m).map (Value.int .u64) := by
  rw [List.take_of_length_le (l := List.drop m _) (by rw [List.length_drop, List.length_map]; exact Nat.le_refl _)]
  simp
theorem put_end {base : Nat} {l : List Int} {k : Int} {m n : Nat} {w w' : World} {v : Value} (hm : m ≤ len l) (hr : Rising l) (hk : ∀ j, j < m → nth l j < k) (h2 : m < len l → k < nth l m) (hbase : base ≤ w.heap.size)
    {xs : List Value} (hx : xs = (l.take m ++ [k] ++ l.drop m).map (Value.int .u64)) (hown : w'.ownsRow w.heap.size 23 1 v n xs) (hb : Below w.heap.size w w') : PutIs base l k w (.returned v) w' := by
  subst hx
  have hn : n = len (l.take m ++ [k] ++ l.drop m) := by
    have := hown.1
    rw [List.length_map, Nat.mul_one] at this
    rw [len_eq]; exact this.symm
  subst hn
  exact ⟨v, _, rfl, put_rising hr hk hm h2, put_mem l k m, by rw [put_len]; exact Nat.le_refl _, own_lower hown hbase, hb⟩
set_option maxRecDepth 100000 in
set_option maxHeartbeats 2000000 in
theorem put_any (base : Nat) (v0 : Value) (l : List Int) (k : Int) (w : World) (hown : w.ownsRow base 23 1 v0 (len l) (l.map (Value.int .u64))) (hr : Rising l) (hlen : len l ≤ 1000) (hbase : base ≤ w.heap.size) :
    Calls Tryz.prog 38 #[v0, .int .u64 k] w (PutIs base l k w) := by
  obtain ⟨i0, hi, hz0, hz1, hz2⟩ := info_parts info_u64
  have HR := Lib.hid hr
  have HOWN := Lib.hid hown
  clear hr
  rcases hown.2 with ⟨rfl, h2⟩ | ⟨g, cap, cur, rfl, hg, hh, hc1, hc2, hc3, hc4⟩
  · obtain rfl : l = [] := List.eq_nil_of_length_eq_zero (by rw [← len_eq]; omega)
    clear hown h2
    have W0 : w.ownsRow w.heap.size 23 1 (.slice none 0 0) 0 [] := World.ownsRow_nil _ _ _ _
    have HW0 := Lib.hid W0
    clear W0
    show Calls Tryz.prog 38 #[.slice none 0 0, .int .u64 k] w _
    have l0 : len ([] : List Int) = 0 := rfl
    go_enter Tryz.func38, Tryz.ntmps38
    go_wp2_with fail
    refine wp_loop_rounds 1 ?_
    rw [rounds_succ]
    go_wp2_with (first | (at_builtin; refine wpList_append_own_none rfl _ _ 24 rfl w.heap.size 23 i0 1 Tryz.underlying24 hi _ _ _ rfl HW0.out rfl ?_) | (at_builtin; refine wpList_append_own _ rfl _ _ 24 rfl w.heap.size 23 i0 (.int .u64 0) 1 8 Tryz.underlying24 hi hz0 hz1 hz2 rfl (by decide) _ _ _ rfl (HW0.out.alloc _) ⟨w.heap.size, 0, none⟩ 1 1 [.int .u64 k] rfl rfl ?c1 ?c2 ?c3 ?c4 ?c5 ?_))
    case c1 =>
      intro j u hu
      cases j with
      | zero => simp at hu; subst hu; exact block_cell (heap_alloc_new _ _) 0
      | succ j => simp at hu
    case c2 => intro u hu; simp at hu; subst hu; rfl
    case c3 => unfold maxLen; omega
    case c4 => omega
    case c5 => simp
    intro v' w2 hown' hgrow _
    have hb2 : Below w.heap.size w w2 := grownBy_below (balloc (Below.refl _ _) _) hgrow (fun k hk' => by simp [Value.ownBlock] at hk')
    obtain ⟨g', cap', rfl⟩ := ownsRow_succ hown'
    have HO2 := Lib.hid hown'
    clear hown' hgrow
    go_wp2_with (at_builtin; refine wpList_append_own_none rfl _ _ 24 rfl w.heap.size 23 i0 1 Tryz.underlying24 hi _ _ _ rfl HO2.out rfl ?_)
    go_wp2
    go_ret
    exact ⟨_, [k], rfl, List.pairwise_singleton .., fun x => by simp, Nat.le_refl _, own_lower HO2.out hbase, hb2⟩
  · have hlc : len l ≤ cap := by omega
    have HC : Hid (∀ j, j < len l → w.cell? ⟨g, j, none⟩ = some (.int .u64 (nth l j))) := Lib.hid (fun j hj => by
      have := hown.cellAt j (by omega)
      rw [this, List.getElem?_map, List.getElem?_eq_getElem (by simpa [len_eq] using hj), nth_eq l j (by simpa [len_eq] using hj)]; rfl)
    have hgl : g < w.heap.size := (Array.getElem?_eq_some_iff.1 hh).1
    clear hown hh hc3 hc4 hc1
    have W0 : w.ownsRow w.heap.size 23 1 (.slice none 0 0) 0 [] := World.ownsRow_nil _ _ _ _
    have HW0 := Lib.hid W0
    clear W0
    have HZ := Lib.hid hz0
    go_enter Tryz.func38, Tryz.ntmps38
    go_wp2
    go_loopg [5] (len l) (fun g i wr => ∃ m : Nat, g + m = len l ∧ i = .int .i64 m ∧ Hid (∀ j, j < m → nth l j < k) ∧ w = wr)
    case atStart => exact ⟨0, rfl, rfl, fun j hj => by omega, rfl⟩
    case round =>
      obtain ⟨m, hm, rfl, hk, rfl⟩ := hrel
      by_cases hlt : m < len l
      · have hcell := HC.out m hlt
        by_cases h1 : nth l m < k
        · go_wp2
          go_roundg (len l - (m + 1))
          case rel => exact ⟨m + 1, by omega, by go_num, Lib.hid (fun j hj => by
            by_cases e : j = m
            · subst e; exact h1
            · exact hk.out j (by omega)), rfl⟩
          case measure => omega
        · by_cases h3 : nth l m = k
          · have h3' : (nth l m == k) = true := by simpa using h3
            have H3 := Lib.hid h3
            clear h3
            go_wp2
            go_ret
            exact ⟨_, l, rfl, HR.out, fun x => ⟨.inl, fun h => by
              rcases h with h | h
              · exact h
              · rw [h, ← H3.out, nth_eq l m hlt]; exact List.getElem_mem _⟩, by omega, HOWN.out, Below.refl _ _⟩
          · have h3' : (nth l m == k) = false := by simpa using h3
            have H4 : Hid (m < len l → k < nth l m) := Lib.hid (fun _ => by omega)
            have HK := Lib.hid hk.out
            clear h3 hk
            have hmc : m ≤ cap := by omega
            have hml : m ≤ len l := by omega
            go_wp2_with (at_builtin; refine wpList_append_own _ rfl _ _ 24 rfl w.heap.size 23 i0 (.int .u64 0) 1 8 Tryz.underlying24 hi HZ.out hz1 hz2 rfl (by decide) _ _ _ rfl HW0.out ⟨g, 0, none⟩ _ _ (((l.drop 0).take m).map (Value.int .u64)) rfl (by rw [part_len l 0 m (by omega)]; simp) (part_news w g l HC.out 0 m (by omega)) (part_one _) (by unfold maxLen; omega) (by omega) (Nat.le_refl _) ?_)
            intro v1 w1 hown1 hgrow1 _
            have HB1 : Hid (Below w.heap.size w w1) := Lib.hid (grownBy_below (Below.refl _ _) hgrow1 (fun k hk' => by simp [Value.ownBlock] at hk'))
            have HO1 := Lib.hid hown1
            clear hown1 hgrow1
            go_wp2_with (at_builtin; refine wpList_append_own _ rfl _ _ 24 rfl w.heap.size 23 i0 (.int .u64 0) 1 8 Tryz.underlying24 hi HZ.out hz1 hz2 rfl (by decide) _ _ _ rfl (HO1.out.alloc _) ⟨w1.heap.size, 0, none⟩ 1 1 [.int .u64 k] rfl rfl (one_news _ _ _) (by intro u hu; simp at hu; subst hu; rfl) (by unfold maxLen; omega) (by omega) (by have := HB1.out.size; simp; omega) ?_)
            intro v2 w2 hown2 hgrow2 _
            have HB2 : Hid (Below w.heap.size w w2) := Lib.hid (grownBy_below (balloc HB1.out _) hgrow2 (fun k hk' => (HO1.out.lt k hk').1))
            have HO2 := Lib.hid hown2
            clear hown2 hgrow2
            have HC2 : Hid (∀ j, j < len l → w2.cell? ⟨g, j, none⟩ = some (.int .u64 (nth l j))) := Lib.hid (fun j hj => by rw [HB2.out.cell (p := ⟨g, j, none⟩) hgl]; exact HC.out j hj)
            have HE : Hid (PutIs base l k w = PutIs base l k w) := Lib.hid rfl
            by_cases hcm : cap = m
            · have hz : len l - m = 0 := by omega
              go_wp2_with (at_builtin; refine wpList_append_own _ rfl _ _ 24 rfl w.heap.size 23 i0 (.int .u64 0) 1 8 Tryz.underlying24 hi HZ.out hz1 hz2 rfl (by decide) _ _ _ rfl HO2.out _ _ _ (((l.drop m).take (len l - m)).map (Value.int .u64)) rfl (by rw [part_len l m (len l - m) (by omega)]; omega) (by intro j u hu; rw [hz] at hu; simp at hu) (part_one _) (by unfold maxLen; omega) (by omega) HB2.out.size ?_)
              intro v3 w3 hown3 hgrow3 _
              have HB3 : Hid (Below w.heap.size w w3) := Lib.hid (grownBy_below HB2.out hgrow3 (fun k hk' => (HO2.out.lt k hk').1))
              have HO3 := Lib.hid hown3
              clear hown3 hgrow3
              go_wp2
              go_ret
              exact put_end hml HR.out HK.out H4.out hbase (put_xs1 l k m hz) HO3.out HB3.out
            · have hcm2 : m < cap := by omega
              go_wp2_with (at_builtin; refine wpList_append_own _ rfl _ _ 24 rfl w.heap.size 23 i0 (.int .u64 0) 1 8 Tryz.underlying24 hi HZ.out hz1 hz2 rfl (by decide) _ _ _ rfl HO2.out ⟨g, m, none⟩ _ _ (((l.drop m).take (len l - m)).map (Value.int .u64)) rfl (by rw [part_len l m (len l - m) (by omega)]; omega) (part_news w2 g l HC2.out m (len l - m) (by omega)) (part_one _) (by unfold maxLen; omega) (by omega) HB2.out.size ?_)
              intro v3 w3 hown3 hgrow3 _
              have HB3 : Hid (Below w.heap.size w w3) := Lib.hid (grownBy_below HB2.out hgrow3 (fun k hk' => (HO2.out.lt k hk').1))
              have HO3 := Lib.hid hown3
              clear hown3 hgrow3
              go_wp2
              go_ret
              exact put_end hml HR.out HK.out H4.out hbase (put_xs2 l k m) HO3.out HB3.out
      · have H4 : Hid (m < len l → k < nth l m) := Lib.hid (fun h => absurd h hlt)
        have HK := Lib.hid hk.out
        clear hk
        have hmc : m ≤ cap := by omega
        have hml : m ≤ len l := by omega
        go_wp2_with (at_builtin; refine wpList_append_own _ rfl _ _ 24 rfl w.heap.size 23 i0 (.int .u64 0) 1 8 Tryz.underlying24 hi HZ.out hz1 hz2 rfl (by decide) _ _ _ rfl HW0.out ⟨g, 0, none⟩ _ _ (((l.drop 0).take m).map (Value.int .u64)) rfl (by rw [part_len l 0 m (by omega)]; simp) (part_news w g l HC.out 0 m (by omega)) (part_one _) (by unfold maxLen; omega) (by omega) (Nat.le_refl _) ?_)
        intro v1 w1 hown1 hgrow1 _
        have HB1 : Hid (Below w.heap.size w w1) := Lib.hid (grownBy_below (Below.refl _ _) hgrow1 (fun k hk' => by simp [Value.ownBlock] at hk'))
        have HO1 := Lib.hid hown1
        clear hown1 hgrow1
        go_wp2_with (at_builtin; refine wpList_append_own _ rfl _ _ 24 rfl w.heap.size 23 i0 (.int .u64 0) 1 8 Tryz.underlying24 hi HZ.out hz1 hz2 rfl (by decide) _ _ _ rfl (HO1.out.alloc _) ⟨w1.heap.size, 0, none⟩ 1 1 [.int .u64 k] rfl rfl (one_news _ _ _) (by intro u hu; simp at hu; subst hu; rfl) (by unfold maxLen; omega) (by omega) (by have := HB1.out.size; simp; omega) ?_)
        intro v2 w2 hown2 hgrow2 _
        have HB2 : Hid (Below w.heap.size w w2) := Lib.hid (grownBy_below (balloc HB1.out _) hgrow2 (fun k hk' => (HO1.out.lt k hk').1))
        have HO2 := Lib.hid hown2
        clear hown2 hgrow2
        have HC2 : Hid (∀ j, j < len l → w2.cell? ⟨g, j, none⟩ = some (.int .u64 (nth l j))) := Lib.hid (fun j hj => by rw [HB2.out.cell (p := ⟨g, j, none⟩) hgl]; exact HC.out j hj)
        have HE : Hid (PutIs base l k w = PutIs base l k w) := Lib.hid rfl
        by_cases hcm : cap = m
        · have hz : len l - m = 0 := by omega
          go_wp2_with (at_builtin; refine wpList_append_own _ rfl _ _ 24 rfl w.heap.size 23 i0 (.int .u64 0) 1 8 Tryz.underlying24 hi HZ.out hz1 hz2 rfl (by decide) _ _ _ rfl HO2.out _ _ _ (((l.drop m).take (len l - m)).map (Value.int .u64)) rfl (by rw [part_len l m (len l - m) (by omega)]; omega) (by intro j u hu; rw [hz] at hu; simp at hu) (part_one _) (by unfold maxLen; omega) (by omega) HB2.out.size ?_)
          intro v3 w3 hown3 hgrow3 _
          have HB3 : Hid (Below w.heap.size w w3) := Lib.hid (grownBy_below HB2.out hgrow3 (fun k hk' => (HO2.out.lt k hk').1))
          have HO3 := Lib.hid hown3
          clear hown3 hgrow3
          go_wp2
          go_ret
          exact put_end hml HR.out HK.out H4.out hbase (put_xs1 l k m hz) HO3.out HB3.out
        · have hcm2 : m < cap := by omega
          go_wp2_with (at_builtin; refine wpList_append_own _ rfl _ _ 24 rfl w.heap.size 23 i0 (.int .u64 0) 1 8 Tryz.underlying24 hi HZ.out hz1 hz2 rfl (by decide) _ _ _ rfl HO2.out ⟨g, m, none⟩ _ _ (((l.drop m).take (len l - m)).map (Value.int .u64)) rfl (by rw [part_len l m (len l - m) (by omega)]; omega) (part_news w2 g l HC2.out m (len l - m) (by omega)) (part_one _) (by unfold maxLen; omega) (by omega) HB2.out.size ?_)
          intro v3 w3 hown3 hgrow3 _
          have HB3 : Hid (Below w.heap.size w w3) := Lib.hid (grownBy_below HB2.out hgrow3 (fun k hk' => (HO2.out.lt k hk').1))
          have HO3 := Lib.hid hown3
          clear hown3 hgrow3
          go_wp2
          go_ret
          exact put_end hml HR.out HK.out H4.out hbase (put_xs2 l k m) HO3.out HB3.out
end Go.Proofs.YtloccahcnikbfaaGreat
namespace Go.Proofs.YtloccahcnikbfaaGreat
open Go.RowKit
set_option linter.unusedSimpArgs false
set_option linter.unusedVariables false
def Kn (W : World) (base : Nat) (v : Value) (l : List Int) : Prop := Rising l ∧ W.ownsRow base 23 1 v (len l) (l.map (Value.int .u64))
theorem Kn.nil (W : World) (base : Nat) : Kn W base (.slice none 0 0) [] := ⟨List.Pairwise.nil, World.ownsRow_nil _ _ _ _⟩
theorem Kn.below {W W' : World} {base : Nat} {v : Value} {l : List Int} (h : Kn W base v l) (hb : Below W.heap.size W W') : Kn W' base v l := ⟨h.1, own_below h.2 hb⟩
theorem Kn.shape {W : World} {base : Nat} {v : Value} {l : List Int} (h : Kn W base v l) : ∃ a cap, v = .slice a (len l) cap ∧ U64s W a l := by
  obtain ⟨a, cap, h1, h2, _⟩ := own_u64 h.2; exact ⟨a, cap, h1, h2⟩
theorem putk_any (base : Nat) (v0 : Value) (l : List Int) (k : Int) (w : World) (h : Kn w base v0 l) (hlen : len l ≤ 1000) (hbase : base ≤ w.heap.size) :
    Calls Tryz.prog 38 #[v0, .int .u64 k] w fun e w' => ∃ v l', e = .returned v ∧ Kn w' base v l' ∧ (∀ x, x ∈ l' ↔ x ∈ l ∨ x = k) ∧ len l' ≤ len l + 1 ∧ Below w.heap.size w w' :=
  (put_any base v0 l k w h.2 h.1 hlen hbase).mono (fun e w' ⟨v, l', h1, h2, h3, h4, h5, h6⟩ => ⟨v, l', h1, ⟨h2, h5⟩, h3, h4, h6⟩)
theorem has_one (a : Option Addr) (cap : Nat) (k : Int) (l : List Int) (w : World) (hlen : len l ≤ 9223372036854775807) (hc : U64s w a l) :
    Calls Tryz.prog 40 #[.slice a (len l) cap, .int .u64 k] w fun e w' => e = .returned (.bool (memB k l)) ∧ w = w' :=
  (has_any a cap k l w hlen hc).mono (fun e w' h => ⟨h.1, h.2.symm⟩)
theorem take_mem_succ {l : List Int} {m : Nat} (h : m < len l) (x : Int) : x ∈ l.take (m + 1) ↔ x ∈ l.take m ∨ x = nth l m := by
  have h' : m < l.length := h
  rw [List.take_succ_eq_append_getElem h', List.mem_append, List.mem_singleton, nth_eq l m h']
theorem take_all (l : List Int) : l.take (len l) = l := List.take_length
def Fill (kn nd nx : List Int) (m : Nat) : Prop := (∀ x, x ∈ nd ↔ (∃ j ∈ kn.take m, x = sib j) ∧ x ∉ kn) ∧ (∀ x, x ∈ nx ↔ ∃ j ∈ kn.take m, x = j / 2) ∧ len nd ≤ m ∧ len nx ≤ m
theorem Fill.start (kn : List Int) : Fill kn [] [] 0 := ⟨fun x => by simp, fun x => by simp, Nat.le_refl _, Nat.le_refl _⟩
theorem Fill.step {kn nd nx nd' nx' : List Int} {m : Nat} (h : Fill kn nd nx m) (hm : m < len kn) (h1 : ∀ x, x ∈ nd' ↔ x ∈ nd ∨ (x = sib (nth kn m) ∧ x ∉ kn)) (h2 : ∀ x, x ∈ nx' ↔ x ∈ nx ∨ x = nth kn m / 2) (l1 : len nd' ≤ len nd + 1) (l2 : len nx' ≤ len nx + 1) : Fill kn nd' nx' (m + 1) := by
  refine ⟨fun x => ?_, fun x => ?_, by have := h.2.2.1; omega, by have := h.2.2.2; omega⟩
  · rw [h1, h.1]
    constructor
    · rintro (⟨⟨j, hj, e⟩, hx⟩ | ⟨e, hx⟩)
      · exact ⟨⟨j, (take_mem_succ hm j).2 (.inl hj), e⟩, hx⟩
      · exact ⟨⟨_, (take_mem_succ hm _).2 (.inr rfl), e⟩, hx⟩
    · rintro ⟨⟨j, hj, e⟩, hx⟩
      rcases (take_mem_succ hm j).1 hj with hj | rfl
      · exact .inl ⟨⟨j, hj, e⟩, hx⟩
      · exact .inr ⟨e, hx⟩
  · rw [h2, h.2.1]
    constructor
    · rintro (⟨j, hj, e⟩ | e)
      · exact ⟨j, (take_mem_succ hm j).2 (.inl hj), e⟩
      · exact ⟨_, (take_mem_succ hm _).2 (.inr rfl), e⟩
    · rintro ⟨j, hj, e⟩
      rcases (take_mem_succ hm j).1 hj with hj | rfl
      · exact .inl ⟨j, hj, e⟩
      · exact .inr e
theorem Fill.row {kn nd nx : List Int} (h : Fill kn nd nx (len kn)) (hr : Rising nd) : nd = rowK kn := by
  refine rising_eq hr (srt_rising (needK_nodup kn)) (fun k => ?_)
  rw [h.1, take_all]
  unfold rowK
  rw [srt_mem, needK_mem]
def At (leaves : List Int) (lv : Nat) (kn : List Int) : Prop := ∀ x, x ∈ kn ↔ ∃ j ∈ leaves, x = j / 2 ^ lv
theorem At.row {leaves kn : List Int} {lv : Nat} (h : At leaves lv kn) : rowK kn = rowK (insAll (leaves.map (· / 2 ^ lv))) := rowK_same (fun k => by
  rw [h k, (insAll_all _).2.1, List.mem_map]
  constructor
  · rintro ⟨j, hj, e⟩; exact ⟨j, hj, e.symm⟩
  · rintro ⟨j, hj, e⟩; exact ⟨j, hj, e.symm⟩)
theorem At.next {leaves kn nd nx : List Int} {lv : Nat} (h : At leaves lv kn) (hf : Fill kn nd nx (len kn)) : At leaves (lv + 1) nx := fun x => by
  have hp : ∀ j : Int, j / 2 ^ lv / 2 = j / 2 ^ (lv + 1) := fun j => by
    rw [Int.pow_succ, Int.ediv_ediv_of_nonneg (Int.pow_nonneg (by decide))]
  rw [hf.2.1, take_all]
  constructor
  · rintro ⟨j, hj, rfl⟩
    obtain ⟨i, hi, rfl⟩ := (h j).1 hj
    exact ⟨i, hi, hp i⟩
  · rintro ⟨i, hi, rfl⟩
    exact ⟨i / 2 ^ lv, (h _).2 ⟨i, hi, rfl⟩, (hp i).symm⟩
theorem At.u64 {leaves kn : List Int} {lv : Nat} (h : At leaves lv kn) (hu : ∀ k ∈ leaves, U64 k) : ∀ k ∈ kn, U64 k := by
  intro k hk
  obtain ⟨j, hj, rfl⟩ := (h k).1 hk
  have := hu j hj
  unfold U64 at this ⊢
  have hp : (0 : Int) < 2 ^ lv := Int.pow_pos (by decide)
  exact ⟨Int.ediv_nonneg this.1 (by omega), Int.le_trans (Int.ediv_le_self _ this.1) this.2⟩
theorem rowsOf_succ (leaves : List Int) (lv : Nat) : rowsOf leaves (lv + 1) = rowsOf leaves lv ++ [rowK (insAll (leaves.map (· / 2 ^ lv)))] := by
  simp [rowsOf, List.range_succ]
theorem kn_grow {W X w1 : World} {base b2 n : Nat} {v vo : Value} {l : List Int} {xs : List Value} (h : Kn W base v l) (hb : Below W.heap.size W X) (hq : X.ownsRow b2 24 1 vo n xs) (hg : X.grownBy w1 vo.ownBlock) : Kn w1 base v l :=
  ⟨h.1, (own_below h.2 hb).kept hg (own_apart (own_below h.2 hb) hq (by decide))⟩
theorem rows_grow {X w1 : World} {base b2 n : Nat} {vo : Value} {xs vals : List Value} {rs : List (List Int)} (h : RowsAre X base vals rs) (hq : X.ownsRow b2 24 1 vo n xs) (hg : X.grownBy w1 vo.ownBlock) : RowsAre w1 base vals rs :=
  h.kept hg (fun i u hu => by
    rcases hq.2 with ⟨e, _⟩ | ⟨g, cap, cur, e, _, hgb, _⟩
    · rw [e]; cases h : u.ownBlock <;> simp [Value.ownBlock]
    · rw [e]; exact h.apart hgb (by decide) i u hu)
def Laid8 (W : World) (base : Nat) (v : Value) (rs : List (List Int)) : Prop := ∃ vals : List Value, W.ownsRow base 24 1 v vals.length vals ∧ RowsAre W base vals rs
theorem Laid8.nil (W : World) (base : Nat) : Laid8 W base (.slice none 0 0) [] := ⟨[], World.ownsRow_nil _ _ _ _, RowsAre.nil _ _⟩
theorem Laid8.below {W W' : World} {base : Nat} {v : Value} {rs : List (List Int)} (h : Laid8 W base v rs) (hb : Below W.heap.size W W') : Laid8 W' base v rs := by
  obtain ⟨vals, h1, h2⟩ := h; exact ⟨vals, own_below h1 hb, h2.below hb⟩
def Lev8 (leaves : List Int) (w : World) (lv : Nat) (vk vo : Value) (wr : World) : Prop := ∃ kn, Kn wr w.heap.size vk kn ∧ At leaves lv kn ∧ len kn ≤ 100 ∧ Laid8 wr w.heap.size vo (rowsOf leaves lv) ∧ Below w.heap.size w wr
def In8 (w W : World) (kn : List Int) (m : Nat) (vd vx : Value) (wr : World) : Prop := ∃ nd nx, Kn wr w.heap.size vd nd ∧ Kn wr w.heap.size vx nx ∧ Fill kn nd nx m ∧ Below W.heap.size W wr
set_option maxRecDepth 100000 in
set_option maxHeartbeats 4000000 in
theorem refNeeds_any (a : Option Addr) (cap : Nat) (leaves : List Int) (d : Int) (w : World) (hl : U64s w a leaves) (hlen : len leaves ≤ 100) (hu : ∀ k ∈ leaves, U64 k) :
    Calls Tryz.prog 24 #[.slice a (len leaves) cap, .int .i64 d] w (NeedsIs (needsL leaves d) w) := by
  have HL := Lib.hid hl
  have HU := Lib.hid hu
  clear hl hu
  by_cases hd : d < 0 ∨ 16 < d ∨ len leaves = 0
  · have E : Hid (needsL leaves d = []) := Lib.hid (by unfold needsL; rw [if_neg (fun h => by have := h.1; have := h.2.1; have := h.2.2.1; omega)])
    by_cases h1 : d < 0
    · have e1 : decide (d < 0) = true := decide_eq_true h1
      go_enter Tryz.func24, Tryz.ntmps24
      go_wp2
      go_ret
      exact needsIs_nil E.out (Below.refl _ _)
    · by_cases h2 : 16 < d
      · have e1 : decide (d < 0) = false := decide_eq_false h1
        have e2 : decide (16 < d) = true := decide_eq_true h2
        go_enter Tryz.func24, Tryz.ntmps24
        go_wp2
        go_ret
        exact needsIs_nil E.out (Below.refl _ _)
      · have e1 : decide (d < 0) = false := decide_eq_false h1
        have e2 : decide (16 < d) = false := decide_eq_false h2
        have e3 : ((len leaves : Int) == 0) = true := by simp; omega
        go_enter Tryz.func24, Tryz.ntmps24
        go_wp2
        go_ret
        exact needsIs_nil E.out (Below.refl _ _)
  obtain ⟨e, rfl⟩ := Int.eq_ofNat_of_zero_le (a := d) (by omega)
  have he16 : e ≤ 16 := by omega
  have hl0 : 0 < len leaves := by omega
  have p16 : 2 ^ e ≤ 65536 := Nat.pow_le_pow_right (n := 2) (by decide) he16
  have e1 : decide ((e : Int) < 0) = false := decide_eq_false (by omega)
  have e2 : decide ((16 : Int) < (e : Int)) = false := decide_eq_false (by omega)
  have e3 : ((len leaves : Int) == 0) = false := by simp; omega
  have N1 : Hid (farB leaves e = true → needsL leaves e = []) := Lib.hid (fun h => by unfold needsL; rw [Int.toNat_natCast, if_neg (fun hh => by rw [h] at hh; exact absurd hh.2.2.2 (by decide))])
  have N2 : Hid (farB leaves e = false → needsL leaves e = rowsOf leaves e) := Lib.hid (fun h => by unfold needsL; rw [Int.toNat_natCast, if_pos ⟨by omega, by omega, hl0, h⟩])
  have F1 : Hid ((∃ k ∈ leaves, ((2 ^ e : Nat) : Int) ≤ k) → farB leaves e = true) := Lib.hid (fun ⟨k, hk, h⟩ => decide_eq_true ⟨k, hk, by rw [pow_cast]; exact h⟩)
  have F2 : Hid ((∀ k ∈ leaves, k < ((2 ^ e : Nat) : Int)) → farB leaves e = false) := Lib.hid (fun h => decide_eq_false (fun ⟨k, hk, h2⟩ => by rw [pow_cast] at h2; have := h k hk; omega))
  obtain ⟨p, hp⟩ : ∃ p : Nat, 2 ^ e = p := ⟨_, rfl⟩
  have hw : IntKind.u64.wrap ((2 : Int) ^ e) = (p : Int) := by rw [pow_cast, IntKind.wrap_u64, hp]; omega
  rw [hp] at p16 F1 F2
  clear hp hd
  go_enter Tryz.func24, Tryz.ntmps24
  go_wp2
  go_loopg [5, 6] (len leaves) (fun g v i wr => ∃ m : Nat, g + m = len leaves ∧ i = .int .i64 m ∧ Below w.heap.size w wr ∧ Hid (∃ kn, Kn wr w.heap.size v kn ∧ (∀ x, x ∈ kn ↔ x ∈ leaves.take m) ∧ len kn ≤ m ∧ ∀ x ∈ leaves.take m, x < (p : Int)))
  case atStart => exact ⟨0, rfl, rfl, Below.refl _ _, ⟨[], Kn.nil _ _, fun x => by simp, Nat.le_refl _, fun x h => by simp at h⟩⟩
  case round =>
    obtain ⟨m, hm, rfl, hb, hk⟩ := hrel
    by_cases hlt : m < len leaves
    · obtain ⟨b, off, rfl, hcell⟩ := (HL.out.below hb) m hlt
      have hmem : nth leaves m ∈ leaves := by rw [nth_eq leaves m hlt]; exact List.getElem_mem _
      by_cases hf : (p : Int) ≤ nth leaves m
      · have hf' : decide ((p : Int) ≤ nth leaves m) = true := decide_eq_true hf
        have E : Hid (needsL leaves e = []) := Lib.hid (N1.out (F1.out ⟨_, hmem, hf⟩))
        clear hmem
        go_wp2_with fail
        go_quiet (fail)
        go_wp2
        go_ret
        exact needsIs_nil E.out (by (repeat (first | exact Below.refl _ _ | assumption | (refine bdrew ?_) | (refine bdrewN ?_ _) | (refine balloc ?_ _) | (refine bset ?_ (by first | omega | (simp; done) | (simp; omega)) _) | (refine bnext ?_ (by assumption)))))
      · have hf' : decide ((p : Int) ≤ nth leaves m) = false := decide_eq_false hf
        have HF := Lib.hid hf
        clear hmem hf
        go_upto_region 9 with (go_quiet (fail))
        obtain ⟨kn, h1, h2, h3, h4⟩ := hk.out
        clear hk
        have hdw := fun n => Kn.below h1 (below_drewN (Below.refl _ wr) n)
        go_wp2_with fail
        refine (putk_any w.heap.size _ kn (nth leaves m) _ (by first | exact h1 | exact hdw _ | exact Kn.below h1 (by (repeat (first | exact Below.refl _ _ | assumption | (refine bdrew ?_) | (refine bdrewN ?_ _) | (refine balloc ?_ _) | (refine bset ?_ (by first | omega | (simp; done) | (simp; omega)) _) | (refine bnext ?_ (by assumption)))))) (by omega) (by first | exact hb.size | (have := hb.size; simp; omega))).mono ?_
        rintro x w1 ⟨v1, kn1, rfl, k1, k2, k3, k4⟩
        have B1 : Hid (Below w.heap.size w w1) := Lib.hid (bnext (by (repeat (first | exact Below.refl _ _ | assumption | (refine bdrew ?_) | (refine bdrewN ?_ _) | (refine balloc ?_ _) | (refine bset ?_ (by first | omega | (simp; done) | (simp; omega)) _) | (refine bnext ?_ (by assumption))))) k4)
        have K1 : Hid (∃ kn, Kn w1 w.heap.size v1 kn ∧ (∀ x, x ∈ kn ↔ x ∈ leaves.take (m + 1)) ∧ len kn ≤ m + 1 ∧ ∀ x ∈ leaves.take (m + 1), x < (p : Int)) := Lib.hid ⟨kn1, k1, fun x => by rw [k2, h2, take_mem_succ hlt], by omega, fun x hx => by
          rcases (take_mem_succ hlt x).1 hx with hx | rfl
          · exact h4 x hx
          · have := HF.out; omega⟩
        clear k1 k2 k3 k4 h1 h2 h3 h4 hdw
        go_wp2
        go_roundg (len leaves - (m + 1))
        case rel => exact ⟨m + 1, by omega, by go_num, B1.out, K1.out⟩
        case measure => omega
    · obtain rfl : m = len leaves := by omega
      obtain ⟨kn, h1, h2, h3, h4⟩ := hk.out
      have K := Lib.hid (show _ ∧ At leaves 0 kn ∧ len kn ≤ 100 from ⟨h1, fun x => by rw [h2, take_all]; simp, by omega⟩)
      have E : Hid (needsL leaves e = rowsOf leaves e) := Lib.hid (N2.out (F2.out (by intro k hk2; exact h4 k (by rw [take_all]; exact hk2))))
      clear h1 h2 h3 h4 hk hw N1 N2 F1 F2
      go_wp2
      go_loopg [5, 7, 8] e (fun g vk vo i wx => ∃ lv : Nat, g + lv = e ∧ i = .int .i64 lv ∧ Hid (Lev8 leaves w lv vk vo wx))
      case atStart => exact ⟨0, rfl, rfl, ⟨kn, K.out.1, K.out.2.1, K.out.2.2, Laid8.nil _ _, hb⟩⟩
      case round =>
        clear K
        obtain ⟨lv, hlv, rfl, hk⟩ := hrel
        obtain ⟨kn, k1, k2, k3, k4, k5⟩ := hk.out
        by_cases hle : lv < e
        · obtain ⟨GK, hGK⟩ : ∃ G, G = gk := ⟨_, rfl⟩
          subst hGK
          obtain ⟨W1, hW1⟩ : ∃ W, W = wr := ⟨_, rfl⟩
          subst hW1
          obtain ⟨ak, ck, hvk, hku⟩ := k1.shape
          subst hvk
          have K1 := Lib.hid k1
          have K2 := Lib.hid k2
          have K4 := Lib.hid k4
          have K5 := Lib.hid k5
          have KU := Lib.hid hku
          have KI := Lib.hid (k2.u64 HU.out)
          clear k1 k2 k4 k5 hk hku
          go_wp2
          go_loopg [9, 10, 11] (len kn) (fun g vd vx i wy => ∃ m : Nat, g + m = len kn ∧ i = .int .i64 m ∧ Hid (In8 w W1 kn m vd vx wy))
          case atStart => exact ⟨0, rfl, rfl, ⟨[], [], Kn.nil _ _, Kn.nil _ _, Fill.start kn, Below.refl _ _⟩⟩
          case round =>
            obtain ⟨m, hm2, rfl, hin⟩ := hrel
            obtain ⟨nd, nx, n1, n2, n3, n4⟩ := hin.out
            have M1 := Lib.hid n1
            have M2 := Lib.hid n2
            have M3 := Lib.hid n3
            have M4 := Lib.hid n4
            clear hin n1 n2 n3 n4
            by_cases hltm : m < len kn
            · obtain ⟨bk, ok, rfl, hcellk⟩ := (KU.out.below M4.out) m hltm
              have hu := KI.out (nth kn m) (by rw [nth_eq kn m hltm]; exact List.getElem_mem _)
              obtain ⟨x, hx⟩ := Int.eq_ofNat_of_zero_le hu.1
              have hx1 : (x : Int) ≤ 18446744073709551615 := by rw [← hx]; exact hu.2
              rw [hx] at hcellk
              have HX := Lib.hid hx
              have HCK := Lib.hid hcellk
              clear hx hu
              go_wp2_with fail
              refine (refSibling_any (x : Int) _ (by omega) hx1).mono ?_
              rintro y w' ⟨rfl, rfl⟩
              go_wp2_with fail
              refine (has_one (some ⟨bk, ok, none⟩) ck (sib (x : Int)) kn _ (by omega) (KU.out.below M4.out)).mono ?_
              rintro y w' ⟨rfl, rfl⟩
              have ML3 : len nd ≤ 100 := by have := M3.out.2.2.1; omega
              have ML4 : len nx ≤ 100 := by have := M3.out.2.2.2; omega
              have HS2 : w.heap.size ≤ wr.heap.size := by have := M4.out.size; have := K5.out.size; omega
              by_cases hmem : sib (x : Int) ∈ kn
              · rw [show memB (sib (x : Int)) kn = true from decide_eq_true hmem]
                have HM := Lib.hid hmem
                clear hmem
                go_wp2_with fail
                refine (putk_any w.heap.size _ nx ((x : Int) / 2) _ M2.out (by omega) HS2).mono ?_
                rintro y w1 ⟨v1, nx1, rfl, t1, t2, t3, t4⟩
                have R : Hid (In8 w W1 kn (m + 1) _ v1 w1) := Lib.hid ⟨nd, nx1, M1.out.below t4, t1, M3.out.step hltm (fun y => ⟨.inl, fun h => by
                  rcases h with h | ⟨h, h2⟩
                  · exact h
                  · rw [HX.out] at h; rw [h] at h2; exact absurd HM.out h2⟩) (fun y => by rw [t2, HX.out]) (by omega) t3, bnext M4.out t4⟩
                clear t1 t2 t3 t4
                go_wp2
                go_roundg (len kn - (m + 1))
                case rel => exact ⟨m + 1, by omega, by go_num, R.out⟩
                case measure => omega
              · rw [show memB (sib (x : Int)) kn = false from decide_eq_false hmem]
                have HM := Lib.hid hmem
                clear hmem
                go_wp2_with fail
                refine (putk_any w.heap.size _ nd (sib (x : Int)) _ M1.out (by omega) HS2).mono ?_
                rintro y w1 ⟨v1, nd1, rfl, t1, t2, t3, t4⟩
                have T1 := Lib.hid t1
                have T2 := Lib.hid t2
                have T3 := Lib.hid t3
                have T4 := Lib.hid t4
                have hcell1 : w1.cell? ⟨bk, ok + m, none⟩ = some (.int .u64 (x : Int)) := by
                  rw [t4.cell (p := ⟨bk, ok + m, none⟩) (lt_of_cell HCK.out)]; exact HCK.out
                have HS3 : w.heap.size ≤ w1.heap.size := by have := t4.size; omega
                clear t1 t2 t3 t4 hcellk
                go_wp2_with fail
                refine (putk_any w.heap.size _ nx ((x : Int) / 2) _ (M2.out.below T4.out) (by omega) HS3).mono ?_
                rintro y w2 ⟨v2, nx1, rfl, t1, t2, t3, t4⟩
                have R : Hid (In8 w W1 kn (m + 1) v1 v2 w2) := Lib.hid ⟨nd1, nx1, T1.out.below t4, t1, M3.out.step hltm (fun y => by
                  rw [T2.out, HX.out]
                  constructor
                  · rintro (h | rfl)
                    · exact .inl h
                    · exact .inr ⟨rfl, HM.out⟩
                  · rintro (h | ⟨h, _⟩)
                    · exact .inl h
                    · exact .inr h) (fun y => by rw [t2, HX.out]) T3.out t3, bnext (bnext M4.out T4.out) t4⟩
                clear t1 t2 t3 t4
                go_wp2
                go_roundg (len kn - (m + 1))
                case rel => exact ⟨m + 1, by omega, by go_num, R.out⟩
                case measure => omega
            · obtain rfl : m = len kn := by omega
              obtain ⟨vals, q1, q2⟩ := K4.out.below M4.out
              have hlv : vals.length = lv := by rw [q2.1]; simp [rowsOf]
              have Q1 := Lib.hid q1
              have Q2 := Lib.hid q2
              have hrow := M3.out.row M1.out.1
              have RW : Hid (rowsOf leaves (lv + 1) = rowsOf leaves lv ++ [nd]) := Lib.hid (by rw [rowsOf_succ, hrow, K2.out.row])
              have HLV := Lib.hid hlv
              have BY : Hid (Below w.heap.size w wr) := Lib.hid (bnext K5.out M4.out)
              have ML4 : len nx ≤ 100 := by have := M3.out.2.2.2; omega
              obtain ⟨ad, cd, hvd, hud⟩ := M1.out.shape
              subst hvd
              clear q1 q2 hrow hlv hud
              obtain ⟨i0, hi, hz0, hz1, hz2⟩ := info_parts info_rows
              go_wp2_with (at_builtin; refine wpList_append_own _ rfl _ _ 56 rfl w.heap.size 24 i0 (.slice none 0 0) 1 24 Tryz.underlying56 hi hz0 hz1 hz2 rfl (by decide) _ vals.length vals rfl (Q1.out.alloc _) ⟨wr.heap.size, 0, none⟩ 1 1 [.slice ad (len nd) cd] rfl rfl (one_news _ _ _) (by intro u hu; simp at hu; subst hu; rfl) (by have := HLV.out; unfold maxLen; omega) (by have := HLV.out; omega) (by have := BY.out.size; simp; omega) ?_)
              intro v' w1 hown' hgrow _
              have B1 : Hid (Below w.heap.size w w1) := Lib.hid (grownBy_below (balloc BY.out _) hgrow (fun k hk => (Q1.out.lt k hk).1))
              have X1 := Lib.hid (kn_grow M2.out (balloc (Below.refl _ _) _) (Q1.out.alloc _) hgrow)
              have X2 : Hid (RowsAre w1 w.heap.size (vals ++ [.slice ad (len nd) cd]) (rowsOf leaves (lv + 1))) := Lib.hid (by
                rw [RW.out]
                exact rows_grow ((Q2.out.below (balloc (Below.refl _ _) _)).snoc (own_below M1.out.2 (balloc (Below.refl _ _) _))) (Q1.out.alloc _) hgrow)
              have X3 := Lib.hid hown'
              clear hown' hgrow hi hz0 hz1 hz2
              go_wp2
              go_roundg (e - (lv + 1))
              case rel => exact ⟨lv + 1, by omega, by go_num, ⟨nx, X1.out, K2.out.next M3.out, ML4, ⟨_, by simpa using X3.out, X2.out⟩, B1.out⟩⟩
              case measure => omega
        · obtain rfl : lv = e := by omega
          have K := Lib.hid k4
          have K5 := Lib.hid k5
          clear k1 k2 k3 k4 k5 hk
          go_wp2
          go_ret
          obtain ⟨vals, q1, q2⟩ := K.out
          exact ⟨_, vals, rfl, q1, by rw [E.out]; exact q2, K5.out⟩
end Go.Proofs.YtloccahcnikbfaaGreat
namespace Go.Proofs.YtloccahcnikbfaaGreat
open Go.RowKit Go.ChangeMaps
set_option linter.unusedSimpArgs false
set_option linter.unusedVariables false
def LeavesIs (l : List Int) (d : Int) (w : World) (e : Ending) (w' : World) : Prop := ∃ a c, e = .returned (.slice a (len l) c) ∧ U64s w' a (leavesL l d) ∧ Below w.heap.size w w'
set_option maxRecDepth 100000 in
set_option maxHeartbeats 4000000 in
theorem rleaves_any (l : List Int) (a : Option Addr) (cap : Nat) (d : Int) (w : World) (hl : U64s w a l) (hn : len l ≤ 1000000) (hu : ∀ k ∈ l, U64 k) (hd64 : -9223372036854775808 ≤ d) (hd65 : d ≤ 9223372036854775807) :
    Calls Tryz.prog 25 #[.slice a (len l) cap, .int .i64 d] w (LeavesIs l d w) := by
  have HL := Lib.hid hl
  have HU := Lib.hid hu
  have HN := Lib.hid hn
  have HD1 := Lib.hid hd64
  have HD2 := Lib.hid hd65
  obtain ⟨i0, hi, hz0, hz1, hz2⟩ := info_parts info_u64
  have HZ := Lib.hid hz0
  clear hl hn hu hz0 hd64 hd65
  go_enter Tryz.func25, Tryz.ntmps25
  go_wp2
  go_loopg [6, 5] (len l) (fun g i v wr => ∃ m : Nat, g + m = len l ∧ i = .int .i64 m ∧ Hid (wr.ownsRow w.heap.size 23 1 v m ((leavesL (l.take m) d).map (Value.int .u64))) ∧ Hid (Below w.heap.size w wr))
  case atStart => exact ⟨0, rfl, rfl, Lib.hid (World.ownsRow_nil _ _ _ _), Lib.hid (Below.refl _ _)⟩
  case round =>
    obtain ⟨m, hm, rfl, HR, HB⟩ := hrel
    have HNN := HN.out
    by_cases hlt : m < len l
    · obtain ⟨b, off, rfl, hcell⟩ := HL.out.below HB.out m hlt
      have b0 : (m : Int) < len l := by omega
      obtain ⟨k, hk⟩ : ∃ k, nth l m = k := ⟨_, rfl⟩
      have hku : U64 k := by rw [← hk]; exact HU.out _ (mem_nth hlt)
      rw [hk] at hcell
      have HK := Lib.hid hk
      have HLF := Lib.hid (refLeaf_any k d wr hku.1 hku.2 HD1.out HD2.out)
      clear hk hku
      go_wp2_with fail
      refine HLF.out.mono ?_
      rintro e w1 ⟨rfl, rfl⟩
      go_wp2_with (at_builtin; refine wpList_append_own _ rfl _ _ 24 rfl w.heap.size 23 i0 (.int .u64 0) 1 8 Tryz.underlying24 hi HZ.out hz1 hz2 rfl (by decide) _ _ _ rfl (HR.out.alloc _) ⟨wr.heap.size, 0, none⟩ 1 1 [.int .u64 (turnedZ k d)] rfl rfl (World.news_of_block (heap_alloc_new _ _)) (by intro u hu9; simp at hu9; subst hu9; rfl) (by unfold maxLen; omega) (by omega) (by have := HB.out.size; simp; omega) ?_; intro v2 w4 hown2 hgrow2 _)
      have HO2 : Hid (w4.ownsRow w.heap.size 23 1 v2 (m + 1) ((leavesL (l.take (m + 1)) d).map (Value.int .u64))) := Lib.hid (by
        rw [leavesL_snoc l d m hlt, HK.out, List.map_append]
        exact hown2)
      have HB2 : Hid (Below w.heap.size w w4) := Lib.hid (grownBy_below (balloc HB.out _) hgrow2 (fun k hk' => (HR.out.lt k hk').1))
      clear hown2 hgrow2 HLF hcell
      go_wp2
      go_roundg (len l - (m + 1))
      case rel => exact ⟨m + 1, by omega, by go_num, HO2, HB2⟩
      case measure => omega
    · obtain rfl : m = len l := by omega
      have b0 : ¬ ((len l : Nat) : Int) < len l := by omega
      have HR2 : Hid (wr.ownsRow w.heap.size 23 1 u5 (len l) ((leavesL l d).map (Value.int .u64))) := Lib.hid (by have h := HR.out; rw [take_len] at h; exact h)
      obtain ⟨a2, cap2, hv, hL2, hc2, hc3⟩ := own_u64 HR2.out
      rw [leavesL_len] at hv
      subst hv
      have HL2 := Lib.hid hL2
      clear hL2 hc2 hc3 HR2 HR hlt
      go_wp2
      go_ret
      exact ⟨a2, cap2, rfl, HL2.out, HB.out⟩
end Go.Proofs.YtloccahcnikbfaaGreat
namespace Go.Proofs.YtloccahcnikbfaaGreat
open Go.RowKit Go.ChangeMaps
set_option linter.unusedSimpArgs false
set_option linter.unusedVariables false
set_option maxRecDepth 100000 in
set_option maxHeartbeats 4000000 in
theorem rprove_bad (els : List ByteArray) (l : List Int) (ae : Option Addr) (ce : Nat) (a : Option Addr) (cap : Nat) (w : World) (hn : len els ≤ 65536) (h : U64s w a l) (hl : len l ≤ 1000000000) (hb : ¬ MayOk (len els : Nat) l) :
    Calls Tryz.prog 8 #[.slice ae (len els) ce, .slice a (len l) cap] w (ProofIs [] 2 w) := by
  have HM := Lib.hid (rmay_any (len els : Nat) l a cap w h hl (by omega) (by omega))
  rw [decide_eq_false hb] at HM
  clear h hb
  go_enter Tryz.func8, Tryz.ntmps8
  go_wp2_with fail
  refine HM.out.mono ?_
  rintro e w1 ⟨rfl, hb1⟩
  have HB1 := Lib.hid hb1
  clear hb1
  go_wp2
  go_ret2
  exact ⟨_, rfl, World.ownsRow_nil _ _ _ _, HB1.out⟩
theorem dgsL_len (els : List ByteArray) (L : List (Int × Int)) : len (dgsL els L) = L.length := by unfold dgsL; rw [len_eq, List.length_map]
set_option maxRecDepth 100000 in
set_option maxHeartbeats 8000000 in
theorem rprove_ok (els : List ByteArray) (ae : Option Addr) (ce : Nat) (l : List Int) (a : Option Addr) (cap : Nat) (w : World) (ht : Txts w ae els) (hn : len els ≤ 65536) (hz : ∀ i, i < len els → (tth els i).size ≤ 140737488355200) (h : U64s w a l) (hl : len l ≤ 100) (hu : ∀ k ∈ l, U64 k) (hb : MayOk (len els : Nat) l) :
    Calls Tryz.prog 8 #[.slice ae (len els) ce, .slice a (len l) cap] w (ProofIs (dgsL els (plcL (len els : Nat) l)) 0 w) := by
  have HM := Lib.hid (rmay_any (len els : Nat) l a cap w h (by omega) (by omega) (by omega))
  rw [decide_eq_true hb] at HM
  have HT := Lib.hid ht
  have HNE := Lib.hid hn
  have HZE := Lib.hid hz
  have H := Lib.hid h
  have HU := Lib.hid hu
  obtain ⟨d, hd⟩ : ∃ d, depN els = d := ⟨_, rfl⟩
  have HDD := Lib.hid hd
  have HD16 : Hid (d ≤ 16) := Lib.hid (by rw [← hd]; exact depN_le hn)
  have HPL : Hid (plcL (len els : Nat) l = flatLv (needsL (leavesL l d) d)) := Lib.hid (by unfold plcL; rw [depthZ_len hn, hd])
  have HDZ := Lib.hid (fun w9 => refDepth_any (len els : Nat) w9 (by omega) (by omega))
  rw [depthZ_len hn, hd] at HDZ
  have HN := Lib.hid hl
  have HPB : Hid (∀ x ∈ flatLv (needsL (leavesL l d) (d : Nat)), ∃ i k : Nat, x = ((i : Int), (k : Int)) ∧ i < d ∧ k < 2 ^ (d - i)) := Lib.hid (plc_bd HD16.out (leaves_in HD16.out))
  obtain ⟨i0, hi, hz0, hz1, hz2⟩ := info_parts info_str
  have HZ0 := Lib.hid hz0
  clear ht hn hz h hu hb hd hl hz0
  go_enter Tryz.func8, Tryz.ntmps8
  go_wp2_with fail
  refine HM.out.mono ?_
  rintro e w1 ⟨rfl, hb1⟩
  have HB1 := Lib.hid hb1
  clear hb1 HM
  go_wp2_with fail
  refine (HDZ.out _).mono ?_
  rintro e w2 ⟨rfl, rfl⟩
  go_wp2_with fail
  refine (rleaves_any l a cap (d : Nat) w1 (H.out.below HB1.out) (by have := HN.out; omega) HU.out (by have := HD16.out; omega) (by have := HD16.out; omega)).mono ?_
  rintro e w2 ⟨a2, cap2, rfl, hl2, hb2⟩
  have HL2 := Lib.hid hl2
  have HB2 : Hid (Below w.heap.size w w2) := Lib.hid (bnext HB1.out hb2)
  clear hl2 hb2
  have HND := Lib.hid (refNeeds_any a2 cap2 (leavesL l d) (d : Nat) w2 HL2.out (by rw [leavesL_len]; exact HN.out) (leavesL_u64 l d))
  rw [leavesL_len] at HND
  go_wp2_with fail
  refine HND.out.mono ?_
  rintro e w3 ⟨v, vals, rfl, hr1, hr2, hb3⟩
  obtain ⟨rs, hrs⟩ : ∃ rs, needsL (leavesL l d) d = rs := ⟨_, rfl⟩
  have HR1 : Hid (len rs ≤ 16) := Lib.hid (by rw [← hrs]; exact len_nl _ _)
  have HR2 : Hid (∀ i, len (rnth rs i) ≤ 100) := Lib.hid (by rw [← hrs]; exact rnth_nl _ _ (by rw [leavesL_len]; exact HN.out))
  have HR3 : Hid ((flatLv rs).length ≤ 1600) := Lib.hid (by rw [← hrs]; exact flat_bd _ _ (by rw [leavesL_len]; exact HN.out))
  rw [hrs] at hr2 HPL HPB
  obtain ⟨a3, cap3, hv, hR3, hc4, hc5⟩ := rows2_of hr1 hr2
  subst hv
  have R3 := Lib.hid hR3
  have HB3 : Hid (Below w.heap.size w w3) := Lib.hid (bnext HB2.out hb3)
  clear hr1 hr2 hb3 hR3 hrs HND hc4 hc5
  have HT3 := Lib.hid (HT.out.below HB3.out)
  have HO0 : Hid (w3.ownsRow w3.heap.size 9 1 (.slice none 0 0) (len (dgsL els (flatAt rs 0 0))) ((dgsL els (flatAt rs 0 0)).map Value.string)) := Lib.hid (World.ownsRow_nil _ _ _ _)
  clear HB1 HB2 HL2 HDZ
  go_upto_region 7 with fail
  go_loopg [9, 8] (len rs) (fun g i v wr => ∃ m : Nat, g + m = len rs ∧ i = .int .i64 m ∧ Hid (wr.ownsRow w3.heap.size 9 1 v (len (dgsL els (flatAt rs m 0))) ((dgsL els (flatAt rs m 0)).map Value.string)) ∧ Hid (Below w3.heap.size w3 wr))
  case atStart => exact ⟨0, rfl, rfl, HO0, Lib.hid (Below.refl _ _)⟩
  case round =>
    clear HO0
    obtain ⟨m, hm, rfl, HO, HB⟩ := hrel
    have hb1 := HR1.out
    by_cases hlt : m < len rs
    · have b1 : (m : Int) < len rs := by omega
      obtain ⟨rb, ro, ra, rc, rfl, hrc, hru, -⟩ := R3.out m hlt
      have HRC := Lib.hid hrc
      have HRU := Lib.hid hru
      obtain ⟨row, hrow⟩ : ∃ row, rnth rs m = row := ⟨_, rfl⟩
      have HROW := Lib.hid hrow
      have HRL : Hid (len row ≤ 100) := Lib.hid (by rw [← hrow]; exact HR2.out m)
      rw [hrow] at HRC HRU
      have hrl := HRL.out
      have HM9 := Lib.hid hm
      obtain ⟨GK, hGK⟩ : ∃ G, G = gk := ⟨_, rfl⟩
      subst hGK
      have hrc2 := (HB.out.cell (p := ⟨rb, ro + m, none⟩) (lt_of_cell HRC.out)).trans HRC.out
      clear hrc hru hrow hm
      go_upto_region 10 with fail
      clear hrc2
      go_loopg [10, 8] (len row) (fun g j v wr => ∃ q : Nat, g + q = len row ∧ j = .int .i64 q ∧ Hid (wr.ownsRow w3.heap.size 9 1 v (len (dgsL els (flatAt rs m q))) ((dgsL els (flatAt rs m q)).map Value.string)) ∧ Hid (Below w3.heap.size w3 wr))
      case atStart => exact ⟨0, rfl, rfl, HO, HB⟩
      case round =>
        clear HO HB
        obtain ⟨q, hq, rfl, HO, HB⟩ := hrel
        have bm : ¬ len rs ≤ m := by omega
        have cr := (HB.out.cell (p := ⟨rb, ro + m, none⟩) (lt_of_cell HRC.out)).trans HRC.out
        have lcr := lt_of_cell cr
        by_cases hlq : q < len row
        · have b2 : (q : Int) < len row := by omega
          obtain ⟨ub, uo, rfl, hk⟩ := (HRU.out.below HB.out) q hlq
          have lck := lt_of_cell hk
          have hmem : ((m : Int), nth row q) ∈ flatLv rs := by
            have h9 := flat_at rs m q hlt (by rw [HROW.out]; exact hlq)
            rw [HROW.out] at h9
            exact List.mem_of_getElem? h9
          obtain ⟨i9, k, hx, hi9, hk9⟩ := HPB.out _ hmem
          have e1 : i9 = m := by have := congrArg Prod.fst hx; simp only at this; omega
          have e2 : nth row q = ((k : Nat) : Int) := congrArg Prod.snd hx
          subst e1
          rw [e2] at hk
          have HDG := Lib.hid (rdigest_any els ae ce d HD16.out HNE.out HZE.out i9 k wr (by omega) hk9 (HT3.out.below HB.out))
          obtain ⟨X9, hX9⟩ : ∃ X9, plD els d i9 k = X9 := ⟨_, rfl⟩
          rw [hX9] at HDG
          have HSN : Hid (dgsL els (flatAt rs i9 (q + 1)) = dgsL els (flatAt rs i9 q) ++ [X9]) := Lib.hid (by
            rw [flatAt_next rs i9 q (by rw [HROW.out]; exact hlq), dgsL_snoc, HROW.out, e2, HDD.out, ← hX9]
            simp)
          obtain ⟨P9, hP9⟩ : ∃ P9, dgsL els (flatAt rs i9 q) = P9 := ⟨_, rfl⟩
          have HPL9 : Hid (len P9 ≤ 1600) := Lib.hid (by
            rw [← hP9, dgsL_len]
            have h8 := flatAt_lt rs i9 q hlt (by rw [HROW.out]; exact hlq)
            have := HR3.out
            omega)
          rw [hP9] at HO HSN
          clear hmem hx hi9 hk9 e2 hX9 hP9
          go_wp2_with fail
          refine HDG.out.mono ?_
          rintro e w4 ⟨rfl, hb4⟩
          have HO4 : Hid (w4.ownsRow w3.heap.size 9 1 u8 (len P9) (P9.map Value.string)) := Lib.hid (own_below HO.out hb4)
          have HB4 : Hid (Below w3.heap.size w3 w4) := Lib.hid (bnext HB.out hb4)
          have hpb := HPL9.out
          clear hb4 hk cr lck lcr bm HO HB HDG
          go_wp2_with (at_builtin; refine wpList_append_own _ rfl _ _ 22 rfl w3.heap.size 9 i0 (.string ⟨#[]⟩) 1 16 Tryz.underlying22 hi HZ0.out hz1 hz2 rfl (by decide) _ _ _ rfl (HO4.out.alloc _) ⟨w4.heap.size, 0, none⟩ 1 1 [.string X9] rfl rfl (World.news_of_block (heap_alloc_new _ _)) (by intro u hu9; simp at hu9; subst hu9; rfl) (by unfold maxLen; omega) (by omega) (by have := HB4.out.size; simp; omega) ?_; intro v2 w5 hown2 hgrow2 _)
          have HO5 : Hid (w5.ownsRow w3.heap.size 9 1 v2 (len (dgsL els (flatAt rs i9 (q + 1)))) ((dgsL els (flatAt rs i9 (q + 1))).map Value.string)) := Lib.hid (by
            have e9 : len (P9 ++ [X9]) = len P9 + 1 := by rw [len_eq, List.length_append]; rfl
            rw [HSN.out, List.map_append, e9]
            exact hown2)
          have HB5 : Hid (Below w3.heap.size w3 w5) := Lib.hid (grownBy_below (balloc HB4.out _) hgrow2 (fun k hk' => (HO4.out.lt k hk').1))
          clear hown2 hgrow2
          go_wp2
          go_roundg (len row - (q + 1))
          case rel => exact ⟨q + 1, by omega, by go_num, HO5, HB5⟩
          case measure => omega
        · obtain rfl : q = len row := by omega
          have b2 : ¬ ((len row : Nat) : Int) < len row := by omega
          have HO2 : Hid (wr.ownsRow w3.heap.size 9 1 u8 (len (dgsL els (flatAt rs (m + 1) 0))) ((dgsL els (flatAt rs (m + 1) 0)).map Value.string)) := Lib.hid (by
            have h9 := HO.out
            rw [← HROW.out, flatAt_row rs m hlt] at h9
            exact h9)
          have hm := HM9.out
          go_wp2
          go_roundg (len rs - (m + 1))
          case rel => exact ⟨m + 1, by omega, by go_num, HO2, HB⟩
          case measure => omega
    · obtain rfl : m = len rs := by omega
      have b1 : ¬ ((len rs : Nat) : Int) < len rs := by omega
      have HO2 : Hid (wr.ownsRow w.heap.size 9 1 u8 (len (dgsL els (plcL (len els : Nat) l))) ((dgsL els (plcL (len els : Nat) l)).map Value.string)) := Lib.hid (by
        have h9 := HO.out
        rw [flatAt_end, ← HPL.out] at h9
        exact own_lower h9 HB3.out.size)
      go_wp2
      go_ret2
      exact ⟨_, rfl, HO2.out, bnext HB3.out HB.out⟩
end Go.Proofs.YtloccahcnikbfaaGreat
namespace Go.Proofs.YtloccahcnikbfaaGreat
open Go.RowKit
set_option linter.unusedSimpArgs false
set_option linter.unusedVariables false
theorem own_txts {w : World} {base n : Nat} {v : Value} {l : List ByteArray} (h : w.ownsRow base 9 1 v n (l.map Value.string)) : ∃ a cap, v = .slice a (len l) cap ∧ Txts w a l := by
  have hn : len l = n := by have := h.1; rw [len_eq]; simpa using this
  rcases h.2 with ⟨rfl, h2⟩ | ⟨g, cap, cur, rfl, hg, hh, hc1, hc2, hc3, hc4⟩
  · obtain rfl : l = [] := List.eq_nil_of_length_eq_zero (by rw [← len_eq]; omega)
    exact ⟨none, 0, rfl, Txts.nil _ _⟩
  · refine ⟨some ⟨g, 0, none⟩, cap, by rw [hn], fun i hi => ⟨g, 0, rfl, ?_⟩⟩
    have := h.cellAt i (by omega)
    have hi2 : i < l.length := hi
    rw [Nat.zero_add, this, List.getElem?_map, List.getElem?_eq_getElem hi2, tth_eq l i hi]; rfl
theorem str_beq (a b : ByteArray) : (a.toList == b.toList) = decide (a = b) := by
  rw [ByteArray.toList_eq, ByteArray.toList_eq]
  by_cases h : a = b
  · subst h; simp
  · rw [decide_eq_false h]
    rw [beq_eq_false_iff_ne]
    intro h2
    exact h (ByteArray.ext (Array.ext' h2))
theorem hash0_any (tag : ByteArray) (w : World) (h1 : 1 ≤ tag.size) (h2 : tag.size ≤ 16) : Calls Tryz.prog 12 #[.string tag, .slice none 0 0] w fun e w' => e = .returned (.string (hashP tag [])) ∧ Below w.heap.size w w' :=
  hash_any tag [] none 0 w h1 h2 (Txts.nil _ _) (by decide)
theorem hash1_any (tag s : ByteArray) (w : World) (h1 : 1 ≤ tag.size) (h2 : tag.size ≤ 16) (hs : s.size ≤ 1000000) : Calls Tryz.prog 12 #[.string tag, .slice (some ⟨w.heap.size, 0, none⟩) 1 1] (w.alloc (.cells #[.string s] 9)) fun e w' => e = .returned (.string (hashP tag [s])) ∧ Below w.heap.size w w' := by
  have hw1 : Txts (w.alloc (.cells #[.string s] 9)) (some ⟨w.heap.size, 0, none⟩) [s] := txts_cells (heap_alloc_new _ _) [s] (fun i hi => by
    have : i = 0 := by have : i < 1 := hi; omega
    subst this; rfl)
  refine (hash_any tag [s] (some ⟨w.heap.size, 0, none⟩) 1 _ h1 h2 hw1 (by show ((partL s) ++ []).length ≤ _; rw [List.append_nil, partL_len]; omega)).mono ?_
  rintro e w2 ⟨rfl, hb2⟩
  exact ⟨rfl, bnext (balloc (Below.refl _ _) _) hb2⟩
theorem hash2_any (tag s t : ByteArray) (w : World) (h1 : 1 ≤ tag.size) (h2 : tag.size ≤ 16) (hs : s.size ≤ 1000000) (ht : t.size ≤ 1000000) : Calls Tryz.prog 12 #[.string tag, .slice (some ⟨w.heap.size, 0, none⟩) 2 2] (w.alloc (.cells #[.string s, .string t] 9)) fun e w' => e = .returned (.string (hashP tag [s, t])) ∧ Below w.heap.size w w' := by
  have hw1 : Txts (w.alloc (.cells #[.string s, .string t] 9)) (some ⟨w.heap.size, 0, none⟩) [s, t] := txts_cells (heap_alloc_new _ _) [s, t] (fun i hi => by
    have : i = 0 ∨ i = 1 := by have : i < 2 := hi; omega
    rcases this with rfl | rfl <;> rfl)
  refine (hash_any tag [s, t] (some ⟨w.heap.size, 0, none⟩) 2 _ h1 h2 hw1 (by show ((partL s) ++ ((partL t) ++ [])).length ≤ _; rw [List.append_nil, List.length_append, partL_len, partL_len]; omega)).mono ?_
  rintro e w2 ⟨rfl, hb2⟩
  exact ⟨rfl, bnext (balloc (Below.refl _ _) _) hb2⟩
theorem errno_any (a b : Int) (w : World) : Calls Tryz.prog 27 #[.int .i64 a, .int .i64 b] w fun e w' => e = .returned (.bool (a == b)) ∧ w = w' := by
  go_enter Tryz.func27, Tryz.ntmps27
  go_wp2
  go_ret
  exact ⟨rfl, rfl⟩
theorem tth_ext {la lb : List ByteArray} (hl : len la = len lb) (h : ∀ i, i < len la → tth la i = tth lb i) : la = lb := by
  apply List.ext_getElem hl
  intro i h1 h2
  have := h i h1
  rwa [tth_eq la i h1, tth_eq lb i h2] at this
set_option maxRecDepth 100000 in
set_option maxHeartbeats 4000000 in
theorem alike_any (la lb : List ByteArray) (a b : Option Addr) (ca cb : Nat) (w : World) (ha : Txts w a la) (hb : Txts w b lb) (hn : len la ≤ 1000000) (hn2 : len lb ≤ 1000000) : Calls Tryz.prog 9 #[.slice a (len la) ca, .slice b (len lb) cb] w fun e w' => e = .returned (.bool (decide (la = lb))) ∧ Below w.heap.size w w' := by
  have HA := Lib.hid ha
  have HB := Lib.hid hb
  have HN := Lib.hid hn
  have HN2 := Lib.hid hn2
  clear ha hb
  by_cases hl : len la = len lb
  · have l1 : ((len la : Nat) : Int) = (len lb : Nat) := by omega
    have HL := Lib.hid hl
    clear hn hn2 hl
    go_enter Tryz.func9, Tryz.ntmps9
    go_wp2
    go_loopg [5] (len la) (fun g i wr => ∃ m : Nat, g + m = len la ∧ i = .int .i64 m ∧ Hid (∀ j, j < m → tth la j = tth lb j) ∧ Hid (Below w.heap.size w wr))
    case atStart => exact ⟨0, rfl, rfl, Lib.hid (fun j hj => by omega), Lib.hid (Below.refl _ _)⟩
    case round =>
      obtain ⟨m, hm, rfl, HE, HW⟩ := hrel
      have HNN := HN.out
      by_cases hlt : m < len la
      · have b0 : (m : Int) < len la := by omega
        have b1 : (m : Int) < len lb := by have := HL.out; omega
        obtain ⟨ba, oa, rfl, e1⟩ := (HA.out.below HW.out) m hlt
        obtain ⟨bb, ob, rfl, e2⟩ := (HB.out.below HW.out) m (by have := HL.out; omega)
        obtain ⟨x, hx⟩ : ∃ x, tth la m = x := ⟨_, rfl⟩
        obtain ⟨y, hy⟩ : ∃ y, tth lb m = y := ⟨_, rfl⟩
        rw [hx] at e1
        rw [hy] at e2
        have HX := Lib.hid hx
        have HY := Lib.hid hy
        have l3 := lt_of_cell e1
        have l4 := lt_of_cell e2
        clear hx hy
        cases hq : (x.toList == y.toList) with
        | true =>
          have HQ := Lib.hid hq
          go_wp2
          go_quiet (fail)
          go_wp2
          go_roundg (len la - (m + 1))
          case rel => exact ⟨m + 1, by omega, by go_num, Lib.hid (fun j hj => by
            by_cases e : j = m
            · subst e
              rw [HX.out, HY.out]
              have := HQ.out
              rw [str_beq] at this
              exact of_decide_eq_true this
            · exact HE.out j (by omega)), by (repeat (first | exact Below.refl _ _ | assumption | (refine bdrew ?_) | (refine bdrewN ?_ _) | (refine balloc ?_ _) | (refine bset ?_ (by first | omega | (simp; done) | (simp; omega)) _) | (refine bnext ?_ (by assumption))))⟩
          case measure => omega
        | false =>
          have HQ := Lib.hid hq
          go_wp2
          go_quiet (fail)
          go_wp2
          go_ret
          refine ⟨?_, bnext HW.out (by (repeat (first | exact Below.refl _ _ | assumption | (refine bdrew ?_) | (refine bdrewN ?_ _) | (refine balloc ?_ _) | (refine bset ?_ (by first | omega | (simp; done) | (simp; omega)) _) | (refine bnext ?_ (by assumption)))))⟩
          have : ¬ la = lb := fun h9 => by
            have := HQ.out
            rw [str_beq, ← HX.out, ← HY.out, h9] at this
            simp at this
          rw [decide_eq_false this]; rfl
      · obtain rfl : m = len la := by omega
        have b0 : ¬ ((len la : Nat) : Int) < len la := by omega
        go_wp2
        go_ret
        exact ⟨by rw [decide_eq_true (tth_ext HL.out HE.out)]; rfl, HW.out⟩
  · have l1 : ¬ ((len la : Nat) : Int) = (len lb : Nat) := by omega
    have HL : Hid (decide (la = lb) = false) := Lib.hid (decide_eq_false (fun h9 => hl (by rw [h9])))
    clear hn hn2 hl
    go_enter Tryz.func9, Tryz.ntmps9
    go_wp2
    go_ret
    exact ⟨by rw [HL.out]; rfl, Below.refl _ _⟩
end Go.Proofs.YtloccahcnikbfaaGreat
namespace Go.Proofs.YtloccahcnikbfaaGreat
open Go.RowKit
set_option linter.unusedSimpArgs false
set_option linter.unusedVariables false
theorem hashP_small (t : ByteArray) (l : List ByteArray) : (hashP t l).size ≤ 1000000 := by rw [hashP_size]; decide
set_option maxRecDepth 100000 in
set_option maxHeartbeats 4000000 in
theorem works10_any (w : World) : Calls Tryz.prog 10 #[] w fun e w' => e = .returned (.bool true) ∧ Below w.heap.size w w' := by
  go_enter Tryz.func10, Tryz.ntmps10
  go_wp2_with fail
  have ht0 : Txts (w.alloc (.cells #[.string ⟨#[97]⟩, .string ⟨#[98]⟩, .string ⟨#[99]⟩] 9)) (some ⟨w.heap.size, 0, none⟩) abcE := txts_cells (heap_alloc_new _ _) abcE (fun i hi => by
    have : i = 0 ∨ i = 1 ∨ i = 2 := by have : i < 3 := hi; omega
    rcases this with rfl | rfl | rfl <;> rfl)
  refine (build_any abcE (some ⟨w.heap.size, 0, none⟩) 3 _ ht0 (by decide) (fun i hi => by
    have : i = 0 ∨ i = 1 ∨ i = 2 := by have : i < 3 := hi; omega
    rcases this with rfl | rfl | rfl <;> decide)).mono ?_
  rintro e w1 ⟨b, rfl, hbs, htr, hb1⟩
  have HT1 := Lib.hid htr
  have HB1 : Hid (Below w.heap.size w w1) := Lib.hid (bnext (balloc (Below.refl _ _) _) hb1)
  clear ht0 htr hb1 hbs
  go_wp2_with fail
  refine (prove_ok abcE b [0] (some ⟨w1.heap.size, 0, none⟩) 1 _ (HT1.out.below (balloc (Below.refl _ _) _)) (by decide) (fun i hi => ⟨w1.heap.size, 0, rfl, by
    have : i = 0 := by have : i < 1 := hi; omega
    subst this
    rw [block_cell (heap_alloc_new _ _)]; rfl⟩) (by decide) (fun k hk => by simp at hk; subst hk; unfold U64; omega) (by decide)).mono ?_
  rintro e w2 ⟨v, rfl, hown, hb2⟩
  rw [dgsE] at hown
  obtain ⟨pa, pc, rfl, hpt⟩ := own_txts hown
  have HP := Lib.hid hpt
  have HB2 : Hid (Below w.heap.size w w2) := Lib.hid (bnext (balloc HB1.out _) hb2)
  have HT2 : Hid (TreeAt abcE b w2) := Lib.hid ((HT1.out.below (balloc (Below.refl _ _) _)).below hb2)
  clear hown hpt hb2 HT1
  go_wp2_with fail
  refine (hash1_any leafT ⟨#[99]⟩ w2 (by decide) (by decide) (by decide)).mono ?_
  rintro e w3 ⟨rfl, hb3⟩
  have HB3 : Hid (Below w.heap.size w w3) := Lib.hid (bnext HB2.out hb3)
  have HBX3 : Hid (Below w2.heap.size w2 w3) := Lib.hid hb3
  clear hb3
  have hcE : hashP leafT [⟨#[99]⟩] = cE := rfl
  rw [hcE]
  have HCS : Hid (cE.size ≤ 1000000) := Lib.hid (hashP_small _ _)
  have HRS : Hid (rightE.size ≤ 1000000) := Lib.hid (hashP_small _ _)
  obtain ⟨C9, hC9⟩ : ∃ C9, cE = C9 := ⟨_, rfl⟩
  rw [hC9] at HP HCS ⊢
  have HC9 := Lib.hid hC9
  clear hcE hC9
  go_wp2_with fail
  refine (hash1_any leafT ⟨#[98]⟩ w3 (by decide) (by decide) (by decide)).mono ?_
  rintro e w4 ⟨rfl, hb4⟩
  have HB4 : Hid (Below w.heap.size w w4) := Lib.hid (bnext HB3.out hb4)
  have HBX4 : Hid (Below w2.heap.size w2 w4) := Lib.hid (bnext HBX3.out hb4)
  clear hb4
  obtain ⟨B9, hB9⟩ : ∃ B9, hashP leafT [⟨#[98]⟩] = B9 := ⟨_, rfl⟩
  have HBS9 : Hid (B9.size ≤ 1000000) := Lib.hid (by rw [← hB9]; exact hashP_small _ _)
  rw [hB9]
  have HB9 := Lib.hid hB9
  clear hB9
  go_wp2_with fail
  refine (hash0_any noneT w4 (by decide) (by decide)).mono ?_
  rintro e w5 ⟨rfl, hb5⟩
  have HB5 : Hid (Below w.heap.size w w5) := Lib.hid (bnext HB4.out hb5)
  have HBX5 : Hid (Below w2.heap.size w2 w5) := Lib.hid (bnext HBX4.out hb5)
  clear hb5
  obtain ⟨N9, hN9⟩ : ∃ N9, hashP noneT [] = N9 := ⟨_, rfl⟩
  have HNS9 : Hid (N9.size ≤ 1000000) := Lib.hid (by rw [← hN9]; exact hashP_small _ _)
  rw [hN9]
  have HN9 := Lib.hid hN9
  clear hN9
  go_wp2_with fail
  refine (hash2_any nodeT B9 N9 w5 (by decide) (by decide) HBS9.out HNS9.out).mono ?_
  rintro e w6 ⟨rfl, hb6⟩
  have HB6 : Hid (Below w.heap.size w w6) := Lib.hid (bnext HB5.out hb6)
  have hb6x := Lib.hid hb6
  clear hb6
  have HBX : Hid (Below w2.heap.size w2 w6) := Lib.hid (bnext HBX5.out hb6x.out)
  have hR9 : hashP nodeT [B9, N9] = rightE := by rw [← HB9.out, ← HN9.out]; rfl
  rw [hR9]
  obtain ⟨R9, hR8⟩ : ∃ R9, rightE = R9 := ⟨_, rfl⟩
  rw [hR8] at HP HRS ⊢
  have HR9 := Lib.hid hR8
  clear hR9 hR8
  go_wp2_with fail
  refine (errno_any 0 0 w6).mono ?_
  rintro e w7 ⟨rfl, rfl⟩
  rw [show ((0 : Int) == 0) = true from rfl]
  go_wp2_with fail
  have HP6 : Hid (Txts w6 pa [C9, R9]) := Lib.hid (HP.out.below HBX.out)
  have ht6 : Txts (w6.alloc (.cells #[.string C9, .string R9] 9)) (some ⟨w6.heap.size, 0, none⟩) [C9, R9] := txts_cells (heap_alloc_new _ _) [C9, R9] (fun i hi => by
    have : i = 0 ∨ i = 1 := by have : i < 2 := hi; omega
    rcases this with rfl | rfl <;> rfl)
  refine (alike_any [C9, R9] [C9, R9] pa (some ⟨w6.heap.size, 0, none⟩) pc 2 _ (HP6.out.below (balloc (Below.refl _ _) _)) ht6 (by show 2 ≤ 1000000; decide) (by show 2 ≤ 1000000; decide)).mono ?_
  rintro e w7 ⟨rfl, hb7⟩
  rw [show decide ([C9, R9] = [C9, R9]) = true from decide_eq_true rfl]
  have HB7 : Hid (Below w.heap.size w w7) := Lib.hid (bnext (balloc HB6.out _) hb7)
  have HT7 : Hid (TreeAt abcE b w7) := Lib.hid (HT2.out.below (bnext (balloc HBX.out _) hb7))
  clear hb7 ht6
  go_wp2_with fail
  refine (root_any abcE b w7 HT7.out).mono ?_
  rintro e w8 ⟨rfl, rfl⟩
  rw [depE, plE0]
  obtain ⟨T9, hT9⟩ : ∃ T9, hashP nodeT [hashP nodeT [hashP leafT [⟨#[97]⟩], cE], rightE] = T9 := ⟨_, rfl⟩
  have HT9 := Lib.hid hT9
  rw [hT9]
  clear hT9
  go_wp2_with fail
  refine (hash1_any leafT ⟨#[97]⟩ w7 (by decide) (by decide) (by decide)).mono ?_
  rintro e w9 ⟨rfl, hb9⟩
  have HB9w : Hid (Below w.heap.size w w9) := Lib.hid (bnext HB7.out hb9)
  clear hb9
  obtain ⟨A9, hA9⟩ : ∃ A9, hashP leafT [⟨#[97]⟩] = A9 := ⟨_, rfl⟩
  have HAS9 : Hid (A9.size ≤ 1000000) := Lib.hid (by rw [← hA9]; exact hashP_small _ _)
  rw [hA9]
  have HA9 := Lib.hid hA9
  clear hA9
  go_wp2_with fail
  refine (hash2_any nodeT A9 C9 w9 (by decide) (by decide) HAS9.out HCS.out).mono ?_
  rintro e w10 ⟨rfl, hb10⟩
  have HB10 : Hid (Below w.heap.size w w10) := Lib.hid (bnext HB9w.out hb10)
  clear hb10
  obtain ⟨L9, hL9⟩ : ∃ L9, hashP nodeT [A9, C9] = L9 := ⟨_, rfl⟩
  have HLS9 : Hid (L9.size ≤ 1000000) := Lib.hid (by rw [← hL9]; exact hashP_small _ _)
  rw [hL9]
  have HL9 := Lib.hid hL9
  clear hL9
  go_wp2_with fail
  refine (hash2_any nodeT L9 R9 w10 (by decide) (by decide) HLS9.out HRS.out).mono ?_
  rintro e w11 ⟨rfl, hb11⟩
  have HB11 : Hid (Below w.heap.size w w11) := Lib.hid (bnext HB10.out hb11)
  clear hb11
  have hE9 : hashP nodeT [L9, R9] = T9 := by rw [← HL9.out, ← HA9.out, ← HC9.out, ← HR9.out]; exact HT9.out
  rw [hE9]
  clear hE9
  go_wp2
  go_ret
  refine ⟨?_, HB11.out⟩
  simp
end Go.Proofs.YtloccahcnikbfaaGreat
namespace Go.Proofs.YtloccahcnikbfaaGreat
open Go.RowKit
set_option linter.unusedSimpArgs false
set_option linter.unusedVariables false
theorem plc_len (n : Int) (l : List Int) (h : len l ≤ 100) : (plcL n l).length ≤ 1600 := by
  unfold plcL
  exact flat_bd _ _ (by rw [leavesL_len]; exact h)
theorem dgs_len (els : List ByteArray) (L : List (Int × Int)) : len (dgsL els L) = L.length := by unfold dgsL; rw [len_eq, List.length_map]
def risL (n b : Nat) : List Int := ((List.range n).filter fun i => b.testBit i).map fun i => ((i : Nat) : Int)
theorem risL_snoc (n b : Nat) : risL (n + 1) b = if b.testBit n then risL n b ++ [((n : Nat) : Int)] else risL n b := by
  unfold risL
  rw [List.range_succ, List.filter_append, List.map_append]
  by_cases h : b.testBit n
  · rw [if_pos h]; simp [h]
  · rw [if_neg h]; simp [h]
theorem risL_mem (n b : Nat) (k : Int) : k ∈ risL n b ↔ ∃ i, i < n ∧ b.testBit i = true ∧ k = ((i : Nat) : Int) := by
  unfold risL
  simp only [List.mem_map, List.mem_filter, List.mem_range]
  constructor
  · rintro ⟨i, ⟨h1, h2⟩, rfl⟩; exact ⟨i, h1, h2, rfl⟩
  · rintro ⟨i, h1, h2, rfl⟩; exact ⟨i, ⟨h1, h2⟩, rfl⟩
theorem risL_le (n b : Nat) : len (risL n b) ≤ n := by
  induction n with
  | zero => exact Nat.le_refl _
  | succ n ih =>
    rw [risL_snoc]
    split
    · rw [len_eq, List.length_append]; rw [len_eq] at ih; simp; omega
    · omega
theorem ris_u64 (n b : Nat) (hn : n ≤ 64) : ∀ k ∈ risL n b, U64 k := fun k hk => by
  obtain ⟨i, h1, _, rfl⟩ := (risL_mem n b k).1 hk
  unfold U64
  omega
end Go.Proofs.YtloccahcnikbfaaGreat
namespace Go.Proofs.YtloccahcnikbfaaGreat
open Go.RowKit
set_option linter.unusedSimpArgs false
set_option linter.unusedVariables false
theorem own_ge {base : Nat} {w : World} {e size n : Nat} {v : Value} {xs : List Value} (h : w.ownsRow base e size v n xs) {b : Nat} (hb : w.heap.size ≤ b) : some b ≠ v.ownBlock := fun e => by
  have := h.lt b e.symm; omega
theorem own_lo {base : Nat} {w : World} {e size n : Nat} {v : Value} {xs : List Value} (h : w.ownsRow base e size v n xs) {b : Nat} (hb : b < base) : some b ≠ v.ownBlock := fun e => by
  have := h.lt b e.symm; omega
def FewIs (l : List ByteArray) (w : World) (e : Ending) (w' : World) : Prop := ∃ v L, e = .returned v ∧ w'.ownsRow w.heap.size 9 1 v (len L) (L.map Value.string) ∧ len L ≤ 40 ∧ (∀ x ∈ L, x.size ≤ 40) ∧ Below w.heap.size w w'
set_option maxRecDepth 100000 in
set_option maxHeartbeats 4000000 in
theorem few_any (l : List ByteArray) (a : Option Addr) (cap : Nat) (w : World) (hl : Txts w a l) (hn : len l ≤ 9223372036854775807) : Calls Tryz.prog 4 #[.slice a (len l) cap] w (FewIs l w) := by
  have HL := Lib.hid hl
  have HN := Lib.hid hn
  obtain ⟨i0, hi, hz0, hz1, hz2⟩ := info_parts info_str
  have HZ := Lib.hid hz0
  clear hl hn hz0
  go_enter Tryz.func4, Tryz.ntmps4
  go_wp2
  go_loopg [4, 3] 40 (fun g i v wr => ∃ (m : Nat) (L : List ByteArray), g + m = 40 ∧ i = .int .i64 m ∧ Hid (wr.ownsRow w.heap.size 9 1 v (len L) (L.map Value.string)) ∧ Hid (len L = m ∧ m ≤ len l ∧ ∀ x ∈ L, x.size ≤ 40) ∧ Hid (Below w.heap.size w wr))
  case atStart => exact ⟨0, [], rfl, rfl, Lib.hid (World.ownsRow_nil _ _ _ _), Lib.hid ⟨rfl, Nat.zero_le _, fun x hx => by cases hx⟩, Lib.hid (Below.refl _ _)⟩
  case round =>
    obtain ⟨m, L, hm, rfl, HO, HI, HW⟩ := hrel
    by_cases hlt : m < len l
    · by_cases h40 : m < 40
      · have b0 : (m : Int) < len l := by omega
        have b1 : (m : Int) < 40 := by omega
        obtain ⟨pb, po, rfl, cs⟩ := (HL.out.below HW.out) m hlt
        have hpl : pb < w.heap.size := by
          obtain ⟨b9, o9, e9, h9⟩ := HL.out m hlt
          cases e9
          exact lt_of_cell h9
        have hne : some pb ≠ u3.ownBlock := own_lo HO.out hpl
        obtain ⟨x, hx⟩ : ∃ x, tth l m = x := ⟨_, rfl⟩
        rw [hx] at cs
        obtain ⟨k, hk⟩ : ∃ k : Nat, min x.size 40 = k := ⟨_, rfl⟩
        have HK : Hid (k ≤ 40 ∧ k ≤ x.size) := Lib.hid (by omega)
        have kx : ¬ x.size < k := by omega
        have mk : min ((x.size : Nat) : Int) 40 = ((k : Nat) : Int) := by omega
        have bl : ¬ len l ≤ m := by omega
        have hil := HI.out.1
        have HM40 := Lib.hid h40
        have HMLT := Lib.hid hlt
        clear hx hk
        go_upto_region 5 with fail
        refine wp_region_tail 14 13 (u3.ownBlock) (phis [fun u _ => u = (u3), fun u _ => u = (.slice (some ⟨pb, po, none⟩) (len l) cap), fun u _ => u = (.int .i64 (m : Nat)), fun u _ => u = (.pointer (some ⟨pb, po + m, none⟩)), fun u _ => u = (.string x), fun u _ => u = (.slice (some ⟨pb, po, none⟩) (len l) cap), fun u _ => u = (.int .i64 (m : Nat)), fun u _ => u = (.pointer (some ⟨pb, po + m, none⟩)), fun u _ => u = (.string x), fun u _ => u = (.int .i64 (x.size : Nat)), fun u _ => u = (.int .i64 (k : Nat)), fun u _ => u = (.string (x.extract 0 k)), fun u w' => ∃ b, u = .slice (some ⟨b, 0, none⟩) 1 1 ∧ some b ≠ u3.ownBlock ∧ w'.heap[b]? = some (.cells #[.string (x.extract 0 k)] 9 (0, 0)), fun u w' => w'.ownsRow w.heap.size 9 1 u (len L + 1) (L.map Value.string ++ [.string (x.extract 0 k)])]) rfl (by kernel_rfl) (by kernel_rfl) (mono_of ⟨mono_eq, mono_eq, mono_eq, mono_eq, mono_eq, mono_eq, mono_eq, mono_eq, mono_eq, mono_eq, mono_eq, mono_eq, ?m12, ?m13, trivial⟩) (steps_of 14 ⟨?s0, ?s1, ?s2, ?s3, ?s4, ?s5, ?s6, ?s7, ?s8, ?s9, ?s10, ?s11, ?s12, ?s13, trivial⟩) ?_
        case m12 =>
          exact ⟨fun u w1 w' h ⟨b, h1, hb, hb'⟩ => ⟨b, h1, hb, ext_block h hb'⟩, fun _ u w1 w' h ⟨b, h1, hb, hb'⟩ => ⟨b, h1, hb, extB_block h hb hb'⟩⟩
        case m13 =>
          exact ⟨fun u w1 w' h hu => own_below hu h, fun hn => absurd rfl hn⟩
        case s0 =>
          refine step_val (v := (u3)) (fun av wv hE hS hO hD => ?_) (fun _ => rfl)
          have h3 : av.eval (.tmp 3) = (u3) := hO.2.2 3 rfl
          have f3 := (ev_form av 3).symm.trans h3
          refine ⟨rfl, ?_⟩
          simp [go_sem, f3, bl, mk, kx]
        case s1 =>
          refine step_val (v := (.slice (some ⟨pb, po, none⟩) (len l) cap)) (fun av wv hE hS hO hD => ?_) (fun _ => rfl)
          have h0 : av.eval (.tmp 0) = (.slice (some ⟨pb, po, none⟩) (len l) cap) := hO.2.2 0 rfl
          have f0 := (ev_form av 0).symm.trans h0
          refine ⟨rfl, ?_⟩
          simp [go_sem, f0, bl, mk, kx]
        case s2 =>
          refine step_val (v := (.int .i64 (m : Nat))) (fun av wv hE hS hO hD => ?_) (fun _ => rfl)
          have h4 : av.eval (.tmp 4) = (.int .i64 (m : Nat)) := hO.2.2 4 rfl
          have f4 := (ev_form av 4).symm.trans h4
          refine ⟨rfl, ?_⟩
          simp [go_sem, f4, bl, mk, kx]
        case s3 =>
          refine step_val (v := (.pointer (some ⟨pb, po + m, none⟩))) (fun av wv hE hS hO hD => ?_) (fun _ => rfl)
          have d16 : av.eval (.tmp 16) = (.slice (some ⟨pb, po, none⟩) (len l) cap) := hD.1 rfl _ rfl
          have f16 := (ev_form av 16).symm.trans d16
          have d17 : av.eval (.tmp 17) = (.int .i64 (m : Nat)) := hD.2.1 rfl _ rfl
          have f17 := (ev_form av 17).symm.trans d17
          refine ⟨rfl, ?_⟩
          simp [go_sem, f16, f17, bl, mk, kx]
        case s4 =>
          refine step_val (v := (.string x)) (fun av wv hE hS hO hD => ?_) (fun _ => rfl)
          have d18 : av.eval (.tmp 18) = (.pointer (some ⟨pb, po + m, none⟩)) := hD.1 rfl _ rfl
          have f18 := (ev_form av 18).symm.trans d18
          have cs := extB_cell hE hne cs
          refine ⟨rfl, ?_⟩
          simp [go_sem, f18, cs, bl, mk, kx]
        case s5 =>
          refine step_val (v := (.slice (some ⟨pb, po, none⟩) (len l) cap)) (fun av wv hE hS hO hD => ?_) (fun _ => rfl)
          have h0 : av.eval (.tmp 0) = (.slice (some ⟨pb, po, none⟩) (len l) cap) := hO.2.2 0 rfl
          have f0 := (ev_form av 0).symm.trans h0
          refine ⟨rfl, ?_⟩
          simp [go_sem, f0, bl, mk, kx]
        case s6 =>
          refine step_val (v := (.int .i64 (m : Nat))) (fun av wv hE hS hO hD => ?_) (fun _ => rfl)
          have h4 : av.eval (.tmp 4) = (.int .i64 (m : Nat)) := hO.2.2 4 rfl
          have f4 := (ev_form av 4).symm.trans h4
          refine ⟨rfl, ?_⟩
          simp [go_sem, f4, bl, mk, kx]
        case s7 =>
          refine step_val (v := (.pointer (some ⟨pb, po + m, none⟩))) (fun av wv hE hS hO hD => ?_) (fun _ => rfl)
          have d20 : av.eval (.tmp 20) = (.slice (some ⟨pb, po, none⟩) (len l) cap) := hD.1 rfl _ rfl
          have f20 := (ev_form av 20).symm.trans d20
          have d21 : av.eval (.tmp 21) = (.int .i64 (m : Nat)) := hD.2.1 rfl _ rfl
          have f21 := (ev_form av 21).symm.trans d21
          refine ⟨rfl, ?_⟩
          simp [go_sem, f20, f21, bl, mk, kx]
        case s8 =>
          refine step_val (v := (.string x)) (fun av wv hE hS hO hD => ?_) (fun _ => rfl)
          have d22 : av.eval (.tmp 22) = (.pointer (some ⟨pb, po + m, none⟩)) := hD.1 rfl _ rfl
          have f22 := (ev_form av 22).symm.trans d22
          have cs := extB_cell hE hne cs
          refine ⟨rfl, ?_⟩
          simp [go_sem, f22, cs, bl, mk, kx]
        case s9 =>
          refine step_val (v := (.int .i64 (x.size : Nat))) (fun av wv hE hS hO hD => ?_) (fun _ => rfl)
          have d23 : av.eval (.tmp 23) = (.string x) := hD.1 rfl _ rfl
          have f23 := (ev_form av 23).symm.trans d23
          refine ⟨rfl, ?_⟩
          simp [go_sem, f23, bl, mk, kx]
        case s10 =>
          refine step_val (v := (.int .i64 (k : Nat))) (fun av wv hE hS hO hD => ?_) (fun _ => rfl)
          have d24 : av.eval (.tmp 24) = (.int .i64 (x.size : Nat)) := hD.1 rfl _ rfl
          have f24 := (ev_form av 24).symm.trans d24
          refine ⟨rfl, ?_⟩
          simp [go_sem, f24, bl, mk, kx]
        case s11 =>
          refine step_val (v := (.string (x.extract 0 k))) (fun av wv hE hS hO hD => ?_) (fun _ => rfl)
          have d19 : av.eval (.tmp 19) = (.string x) := hD.1 rfl _ rfl
          have f19 := (ev_form av 19).symm.trans d19
          have d25 : av.eval (.tmp 25) = (.int .i64 (k : Nat)) := hD.2.1 rfl _ rfl
          have f25 := (ev_form av 25).symm.trans d25
          refine ⟨rfl, ?_⟩
          simp [go_sem, f19, f25, bl, mk, kx]
        case s12 =>
          refine step_wp (fun av wv hE hS hO hD => ?_)
          have d26 : av.eval (.tmp 26) = (.string (x.extract 0 k)) := hD.1 rfl _ rfl
          have f26 := (ev_form av 26).symm.trans d26
          refine ⟨rfl, ?_⟩
          refine wp_of_run (v := .slice (some ⟨wv.heap.size, 0, none⟩) 1 1) (w' := wv.alloc (.cells #[.string (x.extract 0 k)] 9)) (by simp [go_sem, f26]) ⟨_, rfl, es_of_ext (balloc (Ext_refl _) _), wv.heap.size, rfl, ?_, heap_alloc_new _ _⟩
          exact own_ge HO.out (by have := hE.size; simp at this; omega)
        case s13 =>
          refine step_wp (fun av wv hE hS hO hD => ?_)
          have d15 : av.eval (.tmp 15) = (u3) := hD.1 rfl _ rfl
          have f15 := (ev_form av 15).symm.trans d15
          have d27 : (fun u w' => ∃ b, u = .slice (some ⟨b, 0, none⟩) 1 1 ∧ some b ≠ u3.ownBlock ∧ w'.heap[b]? = some (.cells #[.string (x.extract 0 k)] 9 (0, 0))) (av.eval (.tmp 27)) wv := hD.2.1 rfl _ rfl
          refine ⟨rfl, ?_⟩
          obtain ⟨b27, h27, hb27, hc27⟩ := d27
          have hown1 : wv.ownsRow w.heap.size 9 1 u3 (len L) (L.map Value.string) := own_below (w := wr.drew) HO.out (hS rfl)
          refine wp_append_lies wv _ _ _ rfl w.heap.size 9 i0 (.string ⟨#[]⟩) 1 16 Tryz.underlying22 hi HZ.out hz1 hz2 rfl (by decide) u3 (len L) _ d15 hown1 ⟨b27, 0, none⟩ 1 1 [.string (x.extract 0 k)] (by exact h27) rfl (World.news_of_block hc27) (by intro u hu; simp at hu; rcases hu with rfl; rfl) (by decide) (by unfold maxLen; omega) (by omega) (by have := hE.size; have := HW.out.size; simp at *; omega) _ rfl ?_
          intro g2 cap2 w2 hown2 hgrow hat hlt2
          exact ⟨_, rfl, es_sp hgrow, hown2⟩
        intro a' w' hE hO hall
        have hA := act_of_outer (ds := [15, 16, 17, 18, 19, 20, 21, 22, 23, 24, 25, 26, 27, 28]) rfl hO (by kernel_rfl)
        have e15 : (fun u _ => u = (u3)) (a'.eval (.tmp 15)) w' := hall.1 _ rfl
        have e16 : (fun u _ => u = (.slice (some ⟨pb, po, none⟩) (len l) cap)) (a'.eval (.tmp 16)) w' := hall.2.1 _ rfl
        have e17 : (fun u _ => u = (.int .i64 (m : Nat))) (a'.eval (.tmp 17)) w' := hall.2.2.1 _ rfl
        have e18 : (fun u _ => u = (.pointer (some ⟨pb, po + m, none⟩))) (a'.eval (.tmp 18)) w' := hall.2.2.2.1 _ rfl
        have e19 : (fun u _ => u = (.string x)) (a'.eval (.tmp 19)) w' := hall.2.2.2.2.1 _ rfl
        have e20 : (fun u _ => u = (.slice (some ⟨pb, po, none⟩) (len l) cap)) (a'.eval (.tmp 20)) w' := hall.2.2.2.2.2.1 _ rfl
        have e21 : (fun u _ => u = (.int .i64 (m : Nat))) (a'.eval (.tmp 21)) w' := hall.2.2.2.2.2.2.1 _ rfl
        have e22 : (fun u _ => u = (.pointer (some ⟨pb, po + m, none⟩))) (a'.eval (.tmp 22)) w' := hall.2.2.2.2.2.2.2.1 _ rfl
        have e23 : (fun u _ => u = (.string x)) (a'.eval (.tmp 23)) w' := hall.2.2.2.2.2.2.2.2.1 _ rfl
        have e24 : (fun u _ => u = (.int .i64 (x.size : Nat))) (a'.eval (.tmp 24)) w' := hall.2.2.2.2.2.2.2.2.2.1 _ rfl
        have e25 : (fun u _ => u = (.int .i64 (k : Nat))) (a'.eval (.tmp 25)) w' := hall.2.2.2.2.2.2.2.2.2.2.1 _ rfl
        have e26 : (fun u _ => u = (.string (x.extract 0 k))) (a'.eval (.tmp 26)) w' := hall.2.2.2.2.2.2.2.2.2.2.2.1 _ rfl
        have e27 : (fun u w' => ∃ b, u = .slice (some ⟨b, 0, none⟩) 1 1 ∧ some b ≠ u3.ownBlock ∧ w'.heap[b]? = some (.cells #[.string (x.extract 0 k)] 9 (0, 0))) (a'.eval (.tmp 27)) w' := hall.2.2.2.2.2.2.2.2.2.2.2.2.1 _ rfl
        have e28 : (fun u w' => w'.ownsRow w.heap.size 9 1 u (len L + 1) (L.map Value.string ++ [.string (x.extract 0 k)])) (a'.eval (.tmp 28)) w' := hall.2.2.2.2.2.2.2.2.2.2.2.2.2.1 _ rfl
        obtain ⟨v27, hv27⟩ : ∃ v, a'.eval (.tmp 27) = v := ⟨_, rfl⟩
        rw [hv27] at e27
        obtain ⟨v28, hv28⟩ : ∃ v, a'.eval (.tmp 28) = v := ⟨_, rfl⟩
        rw [hv28] at e28
        simp only [List.foldl_cons, List.foldl_nil, Act.put, List.setIfInBounds_toArray, List.set_cons_succ, List.set_cons_zero, e15, e16, e17, e18, e19, e20, e21, e22, e23, e24, e25, e26, hv27, hv28] at hA
        clear hO hall e15 e16 e17 e18 e19 e20 e21 e22 e23 e24 e25 e26 hv27 hv28
        subst hA
        have HO2 : Hid (w'.ownsRow w.heap.size 9 1 v28 (len (L ++ [x.extract 0 k])) ((L ++ [x.extract 0 k]).map Value.string)) := Lib.hid (by
          have e9 : len (L ++ [x.extract 0 k]) = len L + 1 := by rw [len_eq, List.length_append]; rfl
          rw [List.map_append, e9]
          exact e28)
        have HW2 : Hid (Below w.heap.size w w') := Lib.hid (grownBy_below (bdrew HW.out) hE (fun k9 hk' => (HO.out.lt k9 hk').1))
        have HI2 : Hid (len (L ++ [x.extract 0 k]) = m + 1 ∧ m + 1 ≤ len l ∧ ∀ y ∈ L ++ [x.extract 0 k], y.size ≤ 40) := Lib.hid ⟨by rw [len_eq, List.length_append, ← len_eq, hil]; rfl, HMLT.out, fun y hy => by
          rw [List.mem_append, List.mem_singleton] at hy
          rcases hy with hy | rfl
          · exact HI.out.2.2 y hy
          · rw [ByteArray.size_extract]; have := HK.out; omega⟩
        clear e27 e28 hE cs bl mk kx hil hne
        go_wp2
        go_roundg (40 - (m + 1))
        case rel => exact ⟨m + 1, L ++ [x.extract 0 k], by omega, by go_num, HO2, HI2, HW2⟩
        case measure => omega
      · obtain rfl : m = 40 := by omega
        have b0 : ((40 : Nat) : Int) < len l := by omega
        have b1 : ¬ ((40 : Nat) : Int) < 40 := by decide
        go_wp2
        go_ret
        exact ⟨_, L, rfl, HO.out, by have := HI.out.1; omega, HI.out.2.2, HW.out⟩
    · have b0 : ¬ (m : Int) < len l := by omega
      go_wp2
      go_ret
      exact ⟨_, L, rfl, HO.out, by have := HI.out.1; omega, HI.out.2.2, HW.out⟩
def RisIs (n b : Nat) (w : World) (e : Ending) (w' : World) : Prop := ∃ v, e = .returned v ∧ w'.ownsRow w.heap.size 23 1 v (len (risL n b)) ((risL n b).map (Value.int .u64)) ∧ Below w.heap.size w w'
set_option maxRecDepth 100000 in
set_option maxHeartbeats 4000000 in
theorem rising_any (n b : Nat) (w : World) (hn : n ≤ 64) (hb : b < 18446744073709551616) : Calls Tryz.prog 6 #[.int .i64 (n : Nat), .int .u64 (b : Nat)] w (RisIs n b w) := by
  have HN := Lib.hid hn
  have HB := Lib.hid hb
  obtain ⟨i0, hi, hz0, hz1, hz2⟩ := info_parts info_u64
  have HZ := Lib.hid hz0
  clear hn hb hz0
  go_enter Tryz.func6, Tryz.ntmps6
  go_wp2
  go_loopg [6, 5] n (fun g i v wr => ∃ m : Nat, g + m = n ∧ i = .int .i64 m ∧ Hid (wr.ownsRow w.heap.size 23 1 v (len (risL m b)) ((risL m b).map (Value.int .u64))) ∧ Hid (Below w.heap.size w wr))
  case atStart => exact ⟨0, rfl, rfl, Lib.hid (World.ownsRow_nil _ _ _ _), Lib.hid (Below.refl _ _)⟩
  case round =>
    obtain ⟨m, hm, rfl, HO, HW⟩ := hrel
    have hnn := HN.out
    by_cases hlt : m < n
    · have b0 : (m : Int) < n := by omega
      have b1 : (m : Int) < 64 := by omega
      have b2 : ¬ (m : Int) < 0 := by omega
      have b3 : min m 64 = m := by omega
      obtain ⟨x, hx⟩ : ∃ x, b / 2 ^ m = x := ⟨_, rfl⟩
      have s2 : ((b : Nat) : Int) / 2 ^ m = ((x : Nat) : Int) := by rw [pow_cast, ← hx]; rfl
      have hxl : x < 18446744073709551616 := by rw [← hx]; exact Nat.lt_of_le_of_lt (Nat.div_le_self _ _) HB.out
      obtain ⟨y, hy⟩ : ∃ y, x % 2 = y := ⟨_, rfl⟩
      have s3 : bits .and .u64 ((x : Nat) : Int) 1 = ((y : Nat) : Int) := by
        rw [show (1 : Int) = ((1 : Nat) : Int) from rfl, u64_and_nat _ _ hxl (by omega), Nat.and_one_is_mod, hy]
      have HT : Hid (b.testBit m = decide (y = 1)) := Lib.hid (by rw [Nat.testBit_eq_decide_div_mod_eq, hx, hy])
      have HS := Lib.hid (risL_snoc m b)
      have HLE : Hid (len (risL m b) ≤ m) := Lib.hid (risL_le m b)
      have u1 : IntKind.u64.wrap (m : Int) = (m : Int) := IntWalk.u64_in _ (by omega)
      clear hx hxl
      by_cases hy1 : y = 1
      · have y1 : ((y : Nat) : Int) = 1 := by omega
        have HT1 : Hid (risL (m + 1) b = risL m b ++ [((m : Nat) : Int)]) := Lib.hid (by rw [HS.out, HT.out, if_pos (decide_eq_true hy1)])
        have hle := HLE.out
        clear hy hy1
        go_wp2_with (at_builtin; refine wpList_append_own _ rfl _ _ 24 rfl w.heap.size 23 i0 (.int .u64 0) 1 8 Tryz.underlying24 hi HZ.out hz1 hz2 rfl (by decide) _ _ _ rfl (HO.out.alloc _) ⟨wr.heap.size, 0, none⟩ 1 1 [.int .u64 (m : Nat)] rfl rfl (World.news_of_block (heap_alloc_new _ _)) (by intro u hu9; simp at hu9; subst hu9; rfl) (by unfold maxLen; omega) (by omega) (by have := HW.out.size; simp; omega) ?_; intro v2 w4 hown2 hgrow2 _)
        have HO2 : Hid (w4.ownsRow w.heap.size 23 1 v2 (len (risL (m + 1) b)) ((risL (m + 1) b).map (Value.int .u64))) := Lib.hid (by
          have e9 : len (risL m b ++ [((m : Nat) : Int)]) = len (risL m b) + 1 := by rw [len_eq, List.length_append]; rfl
          rw [HT1.out, List.map_append, e9]
          exact hown2)
        have HB2 : Hid (Below w.heap.size w w4) := Lib.hid (grownBy_below (balloc HW.out _) hgrow2 (fun k hk' => (HO.out.lt k hk').1))
        clear hown2 hgrow2
        go_wp2
        go_roundg (n - (m + 1))
        case rel => exact ⟨m + 1, by omega, by go_num, HO2, HB2⟩
        case measure => omega
      · have y1 : ¬ ((y : Nat) : Int) = 1 := by omega
        have HO2 : Hid (wr.ownsRow w.heap.size 23 1 u5 (len (risL (m + 1) b)) ((risL (m + 1) b).map (Value.int .u64))) := Lib.hid (by
          rw [HS.out, HT.out, if_neg (by rw [decide_eq_false hy1]; simp)]
          exact HO.out)
        clear hy hy1
        go_wp2
        go_roundg (n - (m + 1))
        case rel => exact ⟨m + 1, by omega, by go_num, HO2, HW⟩
        case measure => omega
    · obtain rfl : m = n := by omega
      have b0 : ¬ ((m : Nat) : Int) < (m : Nat) := by omega
      go_wp2
      go_ret
      exact ⟨_, rfl, HO.out, HW.out⟩
end Go.Proofs.YtloccahcnikbfaaGreat
namespace Go.Proofs.YtloccahcnikbfaaGreat
open Go.RowKit Go.ChangeMaps
set_option linter.unusedSimpArgs false
set_option linter.unusedVariables false
def prvL (els : List ByteArray) (l : List Int) : List ByteArray := if MayOk (len els : Nat) l then dgsL els (plcL (len els : Nat) l) else []
def prvE (els : List ByteArray) (l : List Int) : Int := if MayOk (len els : Nat) l then 0 else 2
theorem prvL_len (els : List ByteArray) (l : List Int) (hl : len l ≤ 100) : len (prvL els l) ≤ 1000000 := by
  unfold prvL
  split
  · rw [dgs_len]
    have := plc_len (len els : Nat) l hl
    omega
  · show 0 ≤ _; omega
theorem mprove_any (els : List ByteArray) (b : Nat) (l : List Int) (a : Option Addr) (cap : Nat) (w : World) (ht : TreeAt els b w) (hn : len els ≤ 65536) (h : U64s w a l) (hl : len l ≤ 100) (hu : ∀ k ∈ l, U64 k) :
    Calls Tryz.prog 7 #[.pointer (some ⟨b, 0, none⟩), .slice a (len l) cap] w (ProofIs (prvL els l) (prvE els l) w) := by
  unfold prvL prvE
  by_cases hb : MayOk (len els : Nat) l
  · rw [if_pos hb, if_pos hb]; exact prove_ok els b l a cap w ht hn h hl hu hb
  · rw [if_neg hb, if_neg hb]; exact prove_bad els b l a cap w ht hn h (by omega) hb
theorem rprove_any (els : List ByteArray) (ae : Option Addr) (ce : Nat) (l : List Int) (a : Option Addr) (cap : Nat) (w : World) (ht : Txts w ae els) (hn : len els ≤ 65536) (hz : ∀ i, i < len els → (tth els i).size ≤ 140737488355200) (h : U64s w a l) (hl : len l ≤ 100) (hu : ∀ k ∈ l, U64 k) :
    Calls Tryz.prog 8 #[.slice ae (len els) ce, .slice a (len l) cap] w (ProofIs (prvL els l) (prvE els l) w) := by
  unfold prvL prvE
  by_cases hb : MayOk (len els : Nat) l
  · rw [if_pos hb, if_pos hb]; exact rprove_ok els ae ce l a cap w ht hn hz h hl hu hb
  · rw [if_neg hb, if_neg hb]; exact rprove_bad els l ae ce a cap w hn h (by omega) hb
theorem u64s_take {w : World} {a : Option Addr} {l : List Int} (h : U64s w a l) (m : Nat) : U64s w a (l.take m) := fun i hi => by
  have h2 : i < (l.take m).length := hi
  have h3 : i < m ∧ i < l.length := by rw [List.length_take] at h2; omega
  obtain ⟨b, off, e1, e2⟩ := h i h3.2
  refine ⟨b, off, e1, ?_⟩
  rw [e2]
  unfold nth
  simp [h3.1]
set_option maxRecDepth 100000 in
set_option maxHeartbeats 8000000 in
theorem proves_law (l : List ByteArray) (a0 : Option Addr) (c0 : Nat) (A : Nat) (ol : List Int) (ao : Option Addr) (co : Nat) (w : World) (hl : Txts w a0 l) (hn : len l ≤ 9223372036854775807) (hA : A < 18446744073709551616) (ho : U64s w ao ol) (hon : len ol ≤ 9223372036854775807) (hoc : len ol ≤ co) (hou9 : ∀ i, 0 ≤ nth ol i ∧ nth ol i < 18446744073709551616) :
    Calls Tryz.prog 3 #[.slice a0 (len l) c0, .int .u64 (A : Nat), .slice ao (len ol) co] w fun e w' => e = .returned (.bool true) ∧ Below w.heap.size w w' := by
  have hou : ∀ k ∈ ol, U64 k := fun k hk => by
    obtain ⟨i, hi, rfl⟩ := List.getElem_of_mem hk
    have := hou9 i
    rw [nth_eq ol i hi] at this
    unfold U64; omega
  have HL := Lib.hid hl
  have HN := Lib.hid hn
  have HA := Lib.hid hA
  obtain ⟨q, hq⟩ : ∃ q : Nat, min (len ol) 6 = q := ⟨_, rfl⟩
  obtain ⟨PO, hPO⟩ : ∃ PO, ol.take q = PO := ⟨_, rfl⟩
  have HPO := Lib.hid (u64s_take ho q)
  have HPU : Hid (∀ k ∈ PO, U64 k) := Lib.hid (fun k hk => hou k (by rw [← hPO] at hk; exact List.mem_of_mem_take hk))
  have HPQ : Hid (len PO = q ∧ q ≤ 6 ∧ q ≤ len ol) := Lib.hid ⟨by rw [← hPO, len_eq, List.length_take]; rw [len_eq] at hq; omega, by omega, by omega⟩
  rw [hPO] at HPO
  have mm : min (len ol : Int) 6 = (q : Int) := by omega
  have HQ := Lib.hid (And.intro mm (And.intro (show q ≤ len ol by omega) (And.intro (show q ≤ 6 by omega) hoc)))
  clear hl hn hA ho hon hou hou9 hPO hq mm hoc
  go_enter Tryz.func3, Tryz.ntmps3
  go_wp2_with fail
  refine (few_any l a0 c0 w HL.out HN.out).mono ?_
  rintro e w2 ⟨v, L, rfl, hown, h40, hsz, hb2⟩
  obtain ⟨a, c, rfl, htx⟩ := own_txts hown
  have HB2 := Lib.hid hb2
  have HTX := Lib.hid htx
  have HSZ : Hid (∀ j, j < len L → (tth L j).size ≤ 140737488355200) := Lib.hid (fun j hj => by
    rw [tth_eq L j hj]
    have := hsz _ (List.getElem_mem (show j < L.length from hj)); omega)
  have H40 := Lib.hid h40
  clear hown hb2 htx hsz h40
  go_wp2_with fail
  refine (build_any L a c w2 HTX.out (by have := H40.out; omega) HSZ.out).mono ?_
  rintro e w3 ⟨b, rfl, hbs, htr, hb3⟩
  have HT3 := Lib.hid htr
  have HTX3 := Lib.hid (HTX.out.below hb3)
  have HB3 : Hid (Below w.heap.size w w3) := Lib.hid (bnext HB2.out hb3)
  clear htr hb3 hbs HTX HB2
  go_wp2_with fail
  refine (rising_any (len L) A w3 (by have := H40.out; omega) HA.out).mono ?_
  rintro e w4 ⟨vp, rfl, ho4, hb4⟩
  obtain ⟨ap, cp, rfl, hp4, hcp1, hcp2⟩ := own_u64 ho4
  obtain ⟨P, hP⟩ : ∃ P, risL (len L) A = P := ⟨_, rfl⟩
  have HU : Hid (∀ k ∈ P, U64 k) := Lib.hid (by rw [← hP]; exact ris_u64 (len L) A (by have := H40.out; omega))
  have HLP : Hid (len P ≤ 100) := Lib.hid (by have h1 := risL_le (len L) A; rw [hP] at h1; have := H40.out; omega)
  rw [hP] at hp4 ⊢
  have HP4 := Lib.hid hp4
  have HB4 : Hid (Below w.heap.size w w4) := Lib.hid (bnext HB3.out hb4)
  have HT4 := Lib.hid (HT3.out.below hb4)
  have HTX4 := Lib.hid (HTX3.out.below hb4)
  clear ho4 hp4 hb4 hP hcp1 hcp2 HT3 HTX3 HB3
  go_wp2_with fail
  refine (mprove_any L b P ap cp w4 HT4.out (by have := H40.out; omega) HP4.out HLP.out HU.out).mono ?_
  rintro e w5 ⟨v5, rfl, ho5, hb5⟩
  obtain ⟨a5, c5, rfl, hp5⟩ := own_txts ho5
  have HP5 := Lib.hid hp5
  have HB5 : Hid (Below w.heap.size w w5) := Lib.hid (bnext HB4.out hb5)
  have HT5 := Lib.hid (HT4.out.below hb5)
  have HTX5 := Lib.hid (HTX4.out.below hb5)
  have HQ5 := Lib.hid (HP4.out.below hb5)
  clear ho5 hp5 hb5 HT4 HTX4 HB4 HP4
  go_wp2_with fail
  refine (rprove_any L a c P ap cp w5 HTX5.out (by have := H40.out; omega) HSZ.out HQ5.out HLP.out HU.out).mono ?_
  rintro e w6 ⟨v6, rfl, ho6, hb6⟩
  obtain ⟨a6, c6, rfl, hp6⟩ := own_txts ho6
  have HP6 := Lib.hid hp6
  have HX6 := Lib.hid (HP5.out.below hb6)
  have HB6 : Hid (Below w.heap.size w w6) := Lib.hid (bnext HB5.out hb6)
  have HT6 := Lib.hid (HT5.out.below hb6)
  have HTX6 := Lib.hid (HTX5.out.below hb6)
  clear ho6 hp6 hb6 HT5 HTX5 HB5 HQ5 HP5
  have HLL : Hid (len (prvL L P) ≤ 1000000) := Lib.hid (prvL_len L P HLP.out)
  obtain ⟨D, hD⟩ : ∃ D, prvL L P = D := ⟨_, rfl⟩
  obtain ⟨E, hE⟩ : ∃ E, prvE L P = E := ⟨_, rfl⟩
  rw [hD] at HP6 HX6 HLL ⊢
  rw [hE]
  clear hD hE
  go_wp2_with fail
  refine (alike_any D D a5 a6 c5 c6 w6 HX6.out HP6.out HLL.out HLL.out).mono ?_
  rintro e w7 ⟨rfl, hb7⟩
  rw [decide_eq_true rfl]
  have HB7 : Hid (Below w.heap.size w w7) := Lib.hid (bnext HB6.out hb7)
  have HT7 := Lib.hid (HT6.out.below hb7)
  have HTX7 := Lib.hid (HTX6.out.below hb7)
  have HPO7 := Lib.hid (HPO.out.below HB7.out)
  clear hb7 HT6 HTX6 HB6 HP6 HX6
  obtain ⟨mm, q1, q2, hoc⟩ := HQ.out
  go_wp2_with fail
  clear mm q1 q2 hoc
  have HM7 := Lib.hid (mprove_any L b PO ao co w7 HT7.out (by have := H40.out; omega) HPO7.out (by have := HPQ.out; omega) HPU.out)
  rw [HPQ.out.1] at HM7
  refine HM7.out.mono ?_
  rintro e w8 ⟨v8, rfl, ho8, hb8⟩
  obtain ⟨a8, c8, rfl, hp8⟩ := own_txts ho8
  have HP8 := Lib.hid hp8
  have HB8 : Hid (Below w.heap.size w w8) := Lib.hid (bnext HB7.out hb8)
  have HTX8 := Lib.hid (HTX7.out.below hb8)
  have HPO8 := Lib.hid (HPO7.out.below hb8)
  clear ho8 hp8 hb8 HT7 HTX7 HB7 HPO7 HM7
  have HM8 := Lib.hid (rprove_any L a c PO ao co w8 HTX8.out (by have := H40.out; omega) HSZ.out HPO8.out (by have := HPQ.out; omega) HPU.out)
  rw [HPQ.out.1] at HM8
  go_wp2_with fail
  refine HM8.out.mono ?_
  rintro e w9 ⟨v9, rfl, ho9, hb9⟩
  obtain ⟨a9, c9, rfl, hp9⟩ := own_txts ho9
  have HP9 := Lib.hid hp9
  have HX9 := Lib.hid (HP8.out.below hb9)
  have HB9 : Hid (Below w.heap.size w w9) := Lib.hid (bnext HB8.out hb9)
  clear ho9 hp9 hb9 HTX8 HB8 HPO8 HP8 HM8
  have HLL2 : Hid (len (prvL L PO) ≤ 1000000) := Lib.hid (prvL_len L PO (by have := HPQ.out; omega))
  obtain ⟨D2, hD2⟩ : ∃ D2, prvL L PO = D2 := ⟨_, rfl⟩
  obtain ⟨E2, hE2⟩ : ∃ E2, prvE L PO = E2 := ⟨_, rfl⟩
  rw [hD2] at HP9 HX9 HLL2 ⊢
  rw [hE2]
  clear hD2 hE2
  go_wp2_with fail
  refine (alike_any D2 D2 a8 a9 c8 c9 w9 HX9.out HP9.out HLL2.out HLL2.out).mono ?_
  rintro e w10 ⟨rfl, hb10⟩
  rw [decide_eq_true rfl]
  have HB10 : Hid (Below w.heap.size w w10) := Lib.hid (bnext HB9.out hb10)
  clear hb10
  go_wp2_with fail
  refine (works10_any w10).mono ?_
  rintro e w11 ⟨rfl, hb11⟩
  have HB11 : Hid (Below w.heap.size w w11) := Lib.hid (bnext HB10.out hb11)
  clear hb11
  go_wp2
  go_ret
  exact ⟨rfl, HB11.out⟩
end Go.Proofs.YtloccahcnikbfaaGreat
