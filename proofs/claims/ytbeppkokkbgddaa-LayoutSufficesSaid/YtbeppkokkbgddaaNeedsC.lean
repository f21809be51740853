/- Package layout: Needs of at most twelve leaves, whatever the depth. -/
import Derived.Test.YtbeppkokkbgddaaSame
namespace Go.Proofs.Ytbeppkokkbgddaa
open Go.RowKit
set_option linter.unusedSimpArgs false
set_option linter.unusedVariables false

/-- What Needs says of these leaves. -/
def needsL (leaves : List Int) (d : Int) : List (List Int) := if 0 ≤ d ∧ d ≤ 16 ∧ 0 < len leaves ∧ farB leaves d.toNat = false then rowsOf leaves d.toNat else []

theorem needsIs_nil {w w' : World} {rs : List (List Int)} (h : rs = []) (hb : Below w.heap.size w w') : NeedsIs rs w (.returned (.slice none 0 0)) w' :=
  ⟨_, [], rfl, World.ownsRow_nil _ _ _ _, by rw [h]; exact RowsAre.nil _ _, hb⟩

set_option maxRecDepth 100000 in
theorem needs_any (a : Option Addr) (cap : Nat) (leaves : List Int) (d : Int) (w : World) (hl : U64s w a leaves) (hlen : len leaves ≤ 100) (hu : ∀ k ∈ leaves, U64 k) :
    Calls Try.prog 23 #[.slice a (len leaves) cap, .int .i64 d] w (NeedsIs (needsL leaves d) w) := by
  by_cases hd : 0 ≤ d ∧ d ≤ 16
  · obtain ⟨hd0, hd1⟩ := hd
    obtain ⟨e, rfl⟩ := Int.eq_ofNat_of_zero_le hd0
    by_cases hl0 : 0 < len leaves
    · cases hf : farB leaves e with
      | false =>
        have E : needsL leaves e = rowsOf leaves e := by unfold needsL; rw [Int.toNat_natCast, if_pos ⟨hd0, hd1, hl0, hf⟩]
        rw [E]
        exact needs12_any a cap leaves e w hl hlen hl0 hu (by omega) hf
      | true =>
        have E : Hid (needsL leaves e = []) := Lib.hid (by unfold needsL; rw [Int.toNat_natCast, if_neg (fun h => by rw [hf] at h; exact absurd h.2.2.2 (by decide))])
        have HL := Lib.hid hl
        have HU := Lib.hid hu
        have HF := Lib.hid hf
        have hm : (decide ((0 : Int) ≤ (e : Int)) && decide ((e : Int) ≤ 16)) = true := by simp [hd1]
        have HM := Lib.hid hm
        have b3 : ((len leaves : Int) == 0) = false := by simp; omega
        clear hl hu hf hm
        go_enter Try.func23, Try.ntmps23
        go_wp2_with fail
        refine (may_any _ _).mono ?_
        rintro x w' ⟨rfl, rfl⟩
        rw [HM.out]
        obtain ⟨V, hV⟩ : ∃ V, w.alloc (.cells #[.int .i64 e] 3) = V := ⟨_, rfl⟩
        have VB : Hid (Below w.heap.size w V) := Lib.hid (by rw [← hV]; (repeat (first | exact Below.refl _ _ | assumption | (refine bdrew ?_) | (refine bdrewN ?_ _) | (refine balloc ?_ _) | (refine bset ?_ (by first | omega | (simp; done) | (simp; omega)) _) | (refine bnext ?_ (by assumption)))))
        have V0 : Hid (V.heap[w.heap.size]? = some (.cells #[.int .i64 e] 3 (0, 0))) := Lib.hid (by rw [← hV]; (repeat (first | exact alloc_new_at _ (by repeat (first | rfl | refine alloc_size _ ?_)) | refine block_alloc ?_ _)))
        rw [hV]
        clear hV
        go_wp2_with fail
        refine (contains_any a cap leaves w.heap.size e V (block_cell V0.out 0) (by omega) (HL.out.below VB.out) (by omega) HU.out).mono ?_
        rintro x w' ⟨rfl, rfl⟩
        rw [HF.out]
        go_wp2
        go_ret
        exact needsIs_nil E.out VB.out
    · have E : Hid (needsL leaves e = []) := Lib.hid (by unfold needsL; rw [if_neg (fun h => hl0 h.2.2.1)])
      have hm : (decide ((0 : Int) ≤ (e : Int)) && decide ((e : Int) ≤ 16)) = true := by simp [hd1]
      have HM := Lib.hid hm
      have b3 : ((len leaves : Int) == 0) = true := by simp; omega
      clear hl hu hm hl0
      go_enter Try.func23, Try.ntmps23
      go_wp2_with fail
      refine (may_any _ _).mono ?_
      rintro x w' ⟨rfl, rfl⟩
      rw [HM.out]
      go_wp2
      go_ret
      exact needsIs_nil E.out (by (repeat (first | exact Below.refl _ _ | assumption | (refine bdrew ?_) | (refine bdrewN ?_ _) | (refine balloc ?_ _) | (refine bset ?_ (by first | omega | (simp; done) | (simp; omega)) _) | (refine bnext ?_ (by assumption)))))
  · have hm : (decide ((0 : Int) ≤ d) && decide (d ≤ 16)) = false := by
      rw [Bool.and_eq_false_iff, decide_eq_false_iff_not, decide_eq_false_iff_not]; omega
    have HM := Lib.hid hm
    have E : Hid (needsL leaves d = []) := Lib.hid (by unfold needsL; rw [if_neg (fun h => hd ⟨h.1, h.2.1⟩)])
    clear hm hd hl hu
    go_enter Try.func23, Try.ntmps23
    go_wp2_with fail
    refine (may_any _ _).mono ?_
    rintro x w' ⟨rfl, rfl⟩
    rw [HM.out]
    go_wp2
    go_ret
    exact needsIs_nil E.out (by (repeat (first | exact Below.refl _ _ | assumption | (refine bdrew ?_) | (refine bdrewN ?_ _) | (refine balloc ?_ _) | (refine bset ?_ (by first | omega | (simp; done) | (simp; omega)) _) | (refine bnext ?_ (by assumption)))))
end Go.Proofs.Ytbeppkokkbgddaa
