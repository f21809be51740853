/- Package pack: the table, head. -/
import Derived.Test.YtihiaopilnjonaaGreatDoorPackB
namespace Go.Proofs.YtihiaopilnjonaaGreatDoor
open Go.RowKit
set_option linter.unusedSimpArgs false
set_option linter.unusedVariables false

/-- The package's table, as it lies below B. -/
structure PTab (B : Nat) (w : World) : Prop where
  glob : 4 < B
  size : B ≤ w.heap.size
  tab : ∀ k, k < 5 → ∃ tb tq rc, tb < B ∧ w.cell? ⟨4, k, none⟩ = some (.slice (some ⟨tb, tq, none⟩) (len (rowsP k)) rc) ∧ PRows w (some ⟨tb, tq, none⟩) (rowsP k)
theorem PTab.keep {B B' : Nat} {w w' : World} (h : PTab B w) (hb : Below B' w w') (hB : B ≤ B') : PTab B w' := by
  refine ⟨h.glob, Nat.le_trans h.size hb.size, fun k hk => ?_⟩
  obtain ⟨tb, tq, rc, h1, h2, h3⟩ := h.tab k hk
  have e : ∀ b o, b < B → w'.cell? ⟨b, o, none⟩ = w.cell? ⟨b, o, none⟩ := fun b o hb2 => hb.cell (p := ⟨b, o, none⟩) (Nat.lt_of_lt_of_le hb2 hB)
  refine ⟨tb, tq, rc, h1, (e _ _ h.glob).trans h2, fun i hi => ?_⟩
  obtain ⟨b, off, e2, c0, c1, c2⟩ := h3 i hi
  cases e2
  exact ⟨tb, tq, rfl, (e _ _ h1).trans c0, (e _ _ h1).trans c1, (e _ _ h1).trans c2⟩
theorem rowsP_pos (k : Nat) : 0 < len (rowsP k) := by
  unfold rowsP; split <;> simp [len]
theorem rowsP_ok {sort : Nat} {n : Int} (h0 : 0 ≤ n) (i : Nat) (hi : i < len (rowsP sort)) : (prth (rowsP sort) i).Ok n := by
  have hi' : i < (rowsP sort).length := hi
  rw [prth_eq _ i hi']
  have hm : (rowsP sort)[i] ∈ rowsP sort := List.getElem_mem _
  generalize (rowsP sort)[i] = r at hm
  unfold rowsP at hm
  split at hm <;> simp at hm
  · rcases hm with rfl | rfl <;> exact ⟨by decide, by decide, by decide, by decide, by decide, by decide, fun h => by simp at h⟩
  · rcases hm with rfl | rfl | rfl
    · exact ⟨by decide, by decide, by decide, by decide, by decide, by decide, fun _ h => by simp at h; simp; omega⟩
    · exact ⟨by decide, by decide, by decide, by decide, by decide, by decide, fun h => by simp at h⟩
    · exact ⟨by decide, by decide, by decide, by decide, by decide, by decide, fun h => by simp at h⟩
  · rcases hm with rfl | rfl
    · exact ⟨by decide, by decide, by decide, by decide, by decide, by decide, fun _ h => by simp at h; simp; omega⟩
    · exact ⟨by decide, by decide, by decide, by decide, by decide, by decide, fun h => by simp at h⟩
  · rcases hm with rfl | rfl
    · exact ⟨by decide, by decide, by decide, by decide, by decide, by decide, fun _ h => by simp at h; simp; omega⟩
    · exact ⟨by decide, by decide, by decide, by decide, by decide, by decide, fun h => by simp at h⟩
  · rcases hm with rfl | rfl | rfl | rfl | rfl
    · exact ⟨by decide, by decide, by decide, by decide, by decide, by decide, fun _ h => by simp at h; simp; omega⟩
    all_goals exact ⟨by decide, by decide, by decide, by decide, by decide, by decide, fun h => by simp at h⟩
theorem headP_at {sort i : Nat} {n : Int} (hi : i < len (rowsP sort)) (hn : ∀ j, j < i → ¬ (n < (prth (rowsP sort) j).below ∨ (prth (rowsP sort) j).below = 0)) (hy : n < (prth (rowsP sort) i).below ∨ (prth (rowsP sort) i).below = 0) : headP sort n = rowB (prth (rowsP sort) i) n := by
  have hi' : i < (rowsP sort).length := hi
  have hf : (rowsP sort).find? (fun r => decide (n < r.below ∨ r.below = 0)) = some (prth (rowsP sort) i) := by
    rw [prth_eq _ i hi'] at hy ⊢
    rw [List.find?_eq_some_iff_getElem]
    refine ⟨by simpa using hy, i, hi', rfl, fun j hj => ?_⟩
    have := hn j hj
    rw [prth_eq _ j (by omega)] at this
    simpa using this
  unfold headP
  rw [hf]
theorem headP_end {sort : Nat} {n : Int} (hn : ∀ j, j < len (rowsP sort) → ¬ (n < (prth (rowsP sort) j).below ∨ (prth (rowsP sort) j).below = 0)) : headP sort n = [] := by
  have hf : (rowsP sort).find? (fun r => decide (n < r.below ∨ r.below = 0)) = none := by
    rw [List.find?_eq_none]
    intro x hx
    obtain ⟨j, hj, rfl⟩ := List.getElem_of_mem hx
    have := hn j hj
    rw [prth_eq _ j hj] at this
    simpa using this
  unfold headP
  rw [hf]

theorem prows_keep {w w' : World} {tb tq B B' : Nat} {l : List PRow} (h : PRows w (some ⟨tb, tq, none⟩) l) (htb : tb < B) (hb : Below B' w w') (hB : B ≤ B') : PRows w' (some ⟨tb, tq, none⟩) l := fun i hi => by
  have e : ∀ o, w'.cell? ⟨tb, o, none⟩ = w.cell? ⟨tb, o, none⟩ := fun o => hb.cell (p := ⟨tb, o, none⟩) (Nat.lt_of_lt_of_le htb hB)
  obtain ⟨b, off, e2, c0, c1, c2⟩ := h i hi
  cases e2
  exact ⟨tb, tq, rfl, (e _).trans c0, (e _).trans c1, (e _).trans c2⟩
def HeadOut (s' : ByteArray) (b base : Nat) (w : World) (e : Ending) (w' : World) : Prop := e = .returned (.tuple #[]) ∧ WrB w' b base s' ∧ WK base b w w'

set_option maxRecDepth 100000 in
set_option maxHeartbeats 4000000 in
theorem phead_any (B b base sort : Nat) (n : Int) (s : ByteArray) (w : World) (ht : PTab B w) (hB : B ≤ base) (hW : WrB w b base s) (h5 : sort < 5) (h0 : 0 ≤ n) (h1 : n ≤ 18446744073709551615) (hs : s.size ≤ 70000000000000) :
    Calls Tryz.prog 222 #[.pointer (some ⟨b, 0, none⟩), .int .i64 sort, .int .u64 n] w (HeadOut (s ++ baL (headP sort n)) b base w) := by
  have HT := Lib.hid ht
  have HWR := Lib.hid hW
  obtain ⟨tb, tq, rc, htb, hg, hrows⟩ := ht.tab sort h5
  have HROWS := Lib.hid hrows
  have HBS : Hid (base ≤ w.heap.size) := Lib.hid (by have := hW.1; have := hW.lt; omega)
  have hgl : 4 < w.heap.size := lt_of_cell hg
  have i5 : (sort : Int) < 5 := by omega
  have eg := enters_of Tryz.func255 (by kernel_rfl) rfl
  clear hrows ht hW
  obtain ⟨nr, hnr⟩ : ∃ nr, len (rowsP sort) = nr := ⟨_, rfl⟩
  have HNR := Lib.hid hnr
  have nr5 : nr ≤ 5 := by rw [← hnr]; unfold rowsP; split <;> simp [len]
  rw [hnr] at hg
  clear hnr
  go_enter Tryz.func222, Tryz.ntmps222
  go_wp2
  obtain ⟨bw, hbw⟩ : ∃ bw, w.heap.size = bw := ⟨_, rfl⟩
  obtain ⟨V, hV⟩ : ∃ V, (w.alloc (.cells #[.pointer (some ⟨b, 0, none⟩)] 166)).alloc (.cells #[.int .u64 n] 23) = V := ⟨_, rfl⟩
  have VW : Hid (V.heap[bw]? = some (.cells #[.pointer (some ⟨b, 0, none⟩)] 166 (0, 0))) := Lib.hid (by rw [← hV, ← hbw]; exact block_alloc (heap_alloc_new _ _) _)
  have VN : Hid (V.heap[bw + 1]? = some (.cells #[.int .u64 n] 23 (0, 0))) := Lib.hid (by rw [← hV, ← hbw]; exact alloc_new_at _ (by simp))
  have VB : Hid (Below w.heap.size w V) := Lib.hid (by rw [← hV]; (repeat (first | exact Below.refl _ _ | assumption | (refine bdrew ?_) | (refine bdrewN ?_ _) | (refine balloc ?_ _) | (refine bset ?_ (by first | omega | (simp; done) | (simp; omega)) _) | (refine bnext ?_ (by assumption)))))
  have HWV : Hid (WrB V b base s) := Lib.hid (HWR.out.below VB.out)
  have hbb : Hid (b < bw) := Lib.hid (by rw [← hbw]; exact HWR.out.lt)
  have HBV : Hid (base ≤ V.heap.size) := Lib.hid (by have := VB.out.size; have := HBS.out; omega)
  rw [hbw]
  try rw [hV]
  clear hV hbw hgl
  go_loopg [14] nr (fun g i wr => ∃ m : Nat, g + m = nr ∧ i = .int .i64 m ∧ Hid (∀ j, j < m → ¬ (n < (prth (rowsP sort) j).below ∨ (prth (rowsP sort) j).below = 0)) ∧ Hid (WrB wr b base s) ∧ Hid (WK base b V wr))
  case atStart => exact ⟨0, rfl, rfl, fun j hj => by omega, HWV.out, WK.refl _ _ _⟩
  case round =>
    clear HWV
    obtain ⟨m, hm, rfl, HN, HWW, HWK⟩ := hrel
    by_cases hlt : m < nr
    · have i1 : (m : Int) < nr := by omega
      obtain ⟨rb, ro, hre, c0, c1, c2⟩ := prows_keep (prows_keep HROWS.out htb VB.out (Nat.le_trans hB HBS.out)) htb HWK.out.bel hB m (by rw [HNR.out]; exact hlt)
      cases hre
      obtain ⟨r, hr⟩ : ∃ r, prth (rowsP sort) m = r := ⟨_, rfl⟩
      have HRE := Lib.hid hr
      rw [hr] at c0 c1 c2
      clear hr
      have n8n : Not8 (.cells #[.int .u64 n] 23 (0, 0)) := not8_cells (by decide)
      have n8b : Not8 (.cells #[.pointer (some ⟨b, 0, none⟩)] 166 (0, 0)) := not8_cells (by decide)
      go_wp2_with fail
      refine (head1_any r (bw + 1) bw b base n s _ (block_alloc (HWK.out.keep _ _ VN.out (by have := hbb.out; omega) n8n) _) (block_alloc (HWK.out.keep _ _ VW.out (by have := hbb.out; omega) n8b) _) (HWW.out.below (balloc (Below.refl _ _) _)) h0 h1 (by rw [← HRE.out]; exact rowsP_ok h0 m (by rw [HNR.out]; exact hlt)) hs).mono ?_
      rintro e w6 ⟨rfl, hw6, hk6⟩
      have HK6 : Hid (WK base b V w6) := Lib.hid ((HWK.out.next (balloc (Below.refl _ _) _) HBV.out).trans hk6)
      have HW6 := Lib.hid hw6
      clear hw6 hk6 HWK HWW c0 c1 c2 n8n n8b
      by_cases hx : n < r.below ∨ r.below = 0
      · rw [decide_eq_true hx]
        rw [if_pos hx] at HW6
        have HP : Hid (headP sort n = rowB r n) := Lib.hid (by rw [← HRE.out]; exact headP_at (by rw [HNR.out]; exact hlt) HN.out (by rw [HRE.out]; exact hx))
        clear hx
        go_wp2
        refine bodyPost_ret (results_none rfl _ _ _) rfl ?_
        refine ⟨rfl, ?_, (WK.of_below VB.out HBS.out).trans HK6.out⟩
        rw [HP.out]; exact HW6.out
      · rw [decide_eq_false hx]
        rw [if_neg hx] at HW6
        have HN2 : Hid (∀ j, j < m + 1 → ¬ (n < (prth (rowsP sort) j).below ∨ (prth (rowsP sort) j).below = 0)) := Lib.hid (fun j hj => by
          by_cases e : j = m
          · subst e; rw [HRE.out]; exact hx
          · exact HN.out j (by omega))
        clear hx
        go_wp2
        go_roundg (nr - (m + 1))
        case rel => exact ⟨m + 1, by omega, by go_num, HN2.out, HW6.out, HK6.out⟩
        case measure => omega
    · obtain rfl : m = nr := by omega
      have i1 : ¬ (m : Int) < m := by omega
      go_wp2
      go_end0
      refine ⟨rfl, ?_, (WK.of_below VB.out HBS.out).trans HWK.out⟩
      rw [headP_end (fun j hj => HN.out j (by rw [HNR.out] at hj; exact hj))]
      have e : s ++ baL [] = s := ba_ext (by simp [baL])
      rw [e]; exact HWW.out
end Go.Proofs.YtihiaopilnjonaaGreatDoor
