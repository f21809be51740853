/- The statements of layer 15: works. -/
import Derived.Test.YtmcmapcijncblaaPartC
namespace Go.Proofs.Ytmcmapcijncblaa
open Go.RowKit

theorem oks {L : List Prt} (h : ∀ p ∈ L, p.Ok) : ∀ i, (pnth L i).Ok := fun i => by
  rcases Nat.lt_or_ge i L.length with hi | hi
  · rw [pnth_eq L i hi]; exact h _ (List.getElem_mem _)
  · have : pnth L i = Prt.zero := by unfold pnth; rw [List.getD_eq_getElem?_getD, List.getElem?_eq_none hi]; rfl
    rw [this]; exact Prt.zero_ok
def cutR : Prt := ⟨fullR.extract 1 32, 1, 0, 0, 0⟩
def badL (k : Nat) : List Prt := match k with | 0 => [] | 1 => [prtOf 0] | 2 => [cutR] | _ => [prtOf 18446744073709551615, prtOf 1]
theorem badL_ok (k : Nat) : ∀ i, (pnth (badL k) i).Ok := oks (fun p hp => by
  have c : cutR.Ok := ⟨by decide, by decide, by decide, by decide, by decide, by decide, by decide, by decide⟩
  match k, hp with
  | 0, hp => simp [badL] at hp
  | 1, hp => simp [badL] at hp; subst hp; exact prtOf_ok (by decide) (by decide)
  | 2, hp => simp [badL] at hp; subst hp; exact c
  | k + 3, hp =>
    simp [badL] at hp
    rcases hp with rfl | rfl
    · exact prtOf_ok (by decide) (by decide)
    · exact prtOf_ok (by decide) (by decide))
theorem badL_check (k : Nat) : checkOf (badL k) = 2 := match k with
  | 0 => by decide
  | 1 => by decide
  | 2 => by decide
  | _ + 3 => by show checkOf (badL 3) = 2; decide
theorem badL_total (k : Nat) : totalOf (badL k) = 0 := by unfold totalOf; rw [badL_check]; rfl
def twoL : List Prt := [prtOf 3, prtOf 4]
def oneL : List Prt := [prtOf 18446744073709551615]
theorem twoL_ok : ∀ i, (pnth twoL i).Ok := oks (fun p hp => by
  simp [twoL] at hp
  rcases hp with rfl | rfl
  · exact prtOf_ok (by decide) (by decide)
  · exact prtOf_ok (by decide) (by decide))
theorem oneL_ok : ∀ i, (pnth oneL i).Ok := oks (fun p hp => by
  simp [oneL] at hp
  subst hp
  exact prtOf_ok (by decide) (by decide))
theorem twoL_is : checkOf twoL = 0 ∧ totalOf twoL = 7 := by decide
theorem oneL_is : checkOf oneL = 0 ∧ totalOf oneL = 18446744073709551615 := by decide

def badV (B k : Nat) : Value := match k with | 0 => .slice none 0 0 | 1 => .slice (some ⟨B + 1, 0, none⟩) 1 1 | 2 => .slice (some ⟨B + 1 + 1, 0, none⟩) 1 1 | _ => .slice (some ⟨B + 1 + 1 + 1, 0, none⟩) 2 2
structure Blocks15 (B : Nat) (w : World) : Prop where
  b0 : w.heap[B]? = some (.cells (twoL.flatMap Prt.cells).toArray 49 (0, 0))
  b1 : w.heap[B + 1]? = some (.cells ((badL 1).flatMap Prt.cells).toArray 49 (0, 0))
  b2 : w.heap[B + 1 + 1]? = some (.cells ((badL 2).flatMap Prt.cells).toArray 49 (0, 0))
  b3 : w.heap[B + 1 + 1 + 1]? = some (.cells ((badL 3).flatMap Prt.cells).toArray 49 (0, 0))
  b4 : w.heap[B + 1 + 1 + 1 + 1]? = some (.cells #[badV B 0, badV B 1, badV B 2, badV B 3] 46 (0, 0))
theorem Blocks15.below {B : Nat} {w w' : World} (h : Blocks15 B w) (hb : Below w.heap.size w w') : Blocks15 B w' :=
  ⟨(hb.block _ (lt_of_block h.b0)).trans h.b0, (hb.block _ (lt_of_block h.b1)).trans h.b1, (hb.block _ (lt_of_block h.b2)).trans h.b2, (hb.block _ (lt_of_block h.b3)).trans h.b3, (hb.block _ (lt_of_block h.b4)).trans h.b4⟩
theorem Blocks15.bad {B : Nat} {w : World} (h : Blocks15 B w) (k : Nat) (hk : k < 4) : ∃ a c, badV B k = .slice a (len (badL k)) c ∧ Prts w a (badL k) ∧ w.cell? ⟨B + 1 + 1 + 1 + 1, k, none⟩ = some (.slice a (len (badL k)) c) := by
  have hc := block_cell h.b4 k
  match k, hk with
  | 0, _ => exact ⟨_, _, rfl, Prts.nil _ _, hc⟩
  | 1, _ => exact ⟨_, _, rfl, Prts.block h.b1, hc⟩
  | 2, _ => exact ⟨_, _, rfl, Prts.block h.b2, hc⟩
  | 3, _ => exact ⟨_, _, rfl, Prts.block h.b3, hc⟩

set_option maxRecDepth 100000 in
set_option maxHeartbeats 1000000 in
theorem works15_any (w : World) : Calls Try.prog 19 #[] w fun e w' => e = .returned (.bool true) ∧ Below w.heap.size w w' := by
  go_enter Try.func19, Try.ntmps19
  go_wp2_with fail
  refine (full_any _).mono ?_
  rintro e w1 ⟨rfl, hb1⟩
  have HB1 := Lib.hid hb1
  clear hb1
  have hfs : fullR.size = 32 := fullR_size
  go_wp2
  clear hfs
  go_loopw [5] (fun i wr => ∃ k : Nat, k ≤ 4 ∧ i = .int .i64 k ∧ Below w1.heap.size w1 wr ∧ Hid (Blocks15 w1.heap.size wr)) (fun i _ => 4 - (intOf i).toNat)
  case atStart => exact ⟨0, by decide, rfl, (by (repeat (first | exact Below.refl _ _ | assumption | (refine bdrew ?_) | (refine bdrewN ?_ _) | (refine balloc ?_ _) | (refine bset ?_ (by first | omega | (simp; done) | (simp; omega)) _) | (refine bnext ?_ (by assumption))))), Lib.hid ⟨by (repeat (first | exact alloc_new_at _ (by repeat (first | rfl | refine alloc_size _ ?_)) | refine block_alloc ?_ _)), by (repeat (first | exact alloc_new_at _ (by repeat (first | rfl | refine alloc_size _ ?_)) | refine block_alloc ?_ _)), by (repeat (first | exact alloc_new_at _ (by repeat (first | rfl | refine alloc_size _ ?_)) | refine block_alloc ?_ _)), by (repeat (first | exact alloc_new_at _ (by repeat (first | rfl | refine alloc_size _ ?_)) | refine block_alloc ?_ _)), by (repeat (first | exact alloc_new_at _ (by repeat (first | rfl | refine alloc_size _ ?_)) | refine block_alloc ?_ _))⟩⟩
  case round =>
    obtain ⟨k, hk, rfl, hd, hb⟩ := hrel
    by_cases hlt : k < 4
    · obtain ⟨a, c, -, hp, hc⟩ := hb.out.bad k hlt
      have HP := Lib.hid hp
      have b0 : (k : Int) < 4 := by omega
      have E1 := Lib.hid (badL_check k)
      have E2 := Lib.hid (badL_total k)
      have hl : len (badL k) ≤ 9223372036854775807 := by
        rcases (by omega : k = 0 ∨ k = 1 ∨ k = 2 ∨ k = 3) with rfl | rfl | rfl | rfl <;> decide
      clear hp
      go_wp2_with fail
      refine (check_any a c (badL k) _ hl HP.out (badL_ok k)).mono ?_
      rintro e w2 ⟨he, hb2⟩
      rw [E1.out] at he
      subst he
      have B2 := Lib.hid hb2
      have hc' : w2.cell? ⟨w1.heap.size + 1 + 1 + 1 + 1, k, none⟩ = _ := (hb2.cell (p := ⟨_, _, none⟩) (lt_of_cell hc)).trans hc
      clear hc hb2
      go_wp2_with fail
      refine (total_any a c (badL k) _ hl (HP.out.below B2.out) (badL_ok k)).mono ?_
      rintro e w3 ⟨he, hb3⟩
      rw [E2.out] at he
      subst he
      have B3 := Lib.hid (bnext B2.out hb3)
      clear hc' hb3
      go_wp2
      go_roundw
      case rel => exact ⟨k + 1, by omega, by go_num, bnext hd B3.out, Lib.hid (hb.out.below B3.out)⟩
      case measure => simp [intOf]; omega
    · obtain rfl : k = 4 := by omega
      have hc : wr.cell? ⟨w1.heap.size + 1 + 1 + 1 + 1, 3, none⟩ = some (.slice (some ⟨w1.heap.size + 1 + 1 + 1, 0, none⟩) 2 2) := block_cell hb.out.b4 3
      have P2 := Lib.hid (Prts.block hb.out.b0)
      have P1 := Lib.hid ((Prts.block hb.out.b3).take 1)
      go_wp2_with fail
      refine (check_any (some ⟨w1.heap.size, 0, none⟩) 2 twoL _ (by decide) P2.out twoL_ok).mono ?_
      rintro e w2 ⟨he, hb2⟩
      rw [twoL_is.1] at he
      subst he
      have B2 := Lib.hid hb2
      clear hb2
      go_wp2_with fail
      refine (total_any (some ⟨w1.heap.size, 0, none⟩) 2 twoL _ (by decide) (P2.out.below B2.out) twoL_ok).mono ?_
      rintro e w3 ⟨he, hb3⟩
      rw [twoL_is.2] at he
      subst he
      have B3 := Lib.hid (bnext B2.out hb3)
      clear hb3
      go_wp2_with fail
      refine (check_any _ 2 oneL _ (by decide) (P1.out.below B3.out) oneL_ok).mono ?_
      rintro e w4 ⟨he, hb4⟩
      rw [oneL_is.1] at he
      subst he
      have B4 := Lib.hid (bnext B3.out hb4)
      clear hb4
      go_wp2_with fail
      refine (total_any _ 2 oneL _ (by decide) (P1.out.below B4.out) oneL_ok).mono ?_
      rintro e w5 ⟨he, hb5⟩
      rw [oneL_is.2] at he
      subst he
      have B5 := Lib.hid (bnext HB1.out (bnext hd (bnext B4.out hb5)))
      clear hb5
      go_wp2
      go_ret
      exact ⟨rfl, B5.out⟩
end Go.Proofs.Ytmcmapcijncblaa
