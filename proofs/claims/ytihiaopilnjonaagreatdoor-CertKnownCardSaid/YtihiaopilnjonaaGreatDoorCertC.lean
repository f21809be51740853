/- Contracts: pairs over reveals, ContainsFunc over reveals. -/
import Derived.Test.YtihiaopilnjonaaGreatDoorCertB
import Derived.StillTailTactics
namespace Go.Proofs.YtihiaopilnjonaaGreatDoor
open Go.RowKit

/-- The numbers of a reveal are uint64. -/
structure Rev.Ok (r : Rev) : Prop where
  pos0 : 0 ≤ r.pos
  pos1 : r.pos < 18446744073709551616
  L0 : 0 ≤ r.L
  L1 : r.L < 18446744073709551616
  wt0 : 0 ≤ r.wt
  wt1 : r.wt < 18446744073709551616

/-- Each one's weight ends ahead of the next one's L. -/
def apartB (l : List Rev) : Bool := decide (∀ i, i < l.length - 1 → withinB (rnth l i).L (rnth l i).wt (rnth l (i + 1)).L = true)

theorem apartB_true {l : List Rev} {n : Nat} (hn : len l ≤ n) (h : ∀ i, i + 1 < n → withinB (rnth l i).L (rnth l i).wt (rnth l (i + 1)).L = true) : apartB l = true := by
  rw [len_eq] at hn
  unfold apartB; simp only [decide_eq_true_eq]; intro i hi; exact h i (by omega)
theorem apartB_false {l : List Rev} {i : Nat} (hi : i + 1 < len l) (h : withinB (rnth l i).L (rnth l i).wt (rnth l (i + 1)).L = false) : apartB l = false := by
  rw [len_eq] at hi
  unfold apartB; simp only [decide_eq_false_iff_not]; intro H; have := H i (by omega); rw [h] at this; cases this

set_option maxHeartbeats 400000 in
set_option maxRecDepth 100000 in
theorem pairsR_any (a : Option Addr) (cap : Nat) (l : List Rev) (w : World) (hlen : len l ≤ 9223372036854775807) (hc : Revs w a l) (hok : ∀ i, (rnth l i).Ok) :
    Calls Tryz.prog 116 #[.slice a (len l) cap, .func (.func 117) #[] #[]] w fun e w' => e = .returned (.bool (apartB l)) ∧ Below w.heap.size w w' := by
  have HC := Lib.hid hc
  have HO := Lib.hid hok
  clear hc hok
  go_enter Tryz.func116, Tryz.ntmps116
  go_wp2
  go_loopw [5] (fun i wr => ∃ m : Nat, i = .int .i64 (m + 1) ∧ Below w.heap.size w wr ∧ Hid (∀ i, i + 1 < m + 1 → withinB (rnth l i).L (rnth l i).wt (rnth l (i + 1)).L = true)) (fun i _ => len l + 1 - (intOf i).toNat)
  case atStart => exact ⟨0, rfl, Below.refl _ _, fun j hj => by omega⟩
  case round =>
    obtain ⟨m, rfl, hd, hk⟩ := hrel
    by_cases hlt : m + 1 < len l
    · obtain ⟨b, off, rfl, ⟨c0, c1, c2, c3, c4, c5, c6, c7, c8, c9, c10⟩⟩ := HC.out.below hd m (by omega)
      obtain ⟨b', off', he, ⟨d0, d1, d2, d3, d4, d5, d6, d7, d8, d9, d10⟩⟩ := HC.out.below hd (m + 1) hlt
      cases he
      have o1 := HO.out m
      have o2 := HO.out (m + 1)
      have hlt' : (m : Int) + 1 < len l := by omega
      have hm : m < len l := by omega
      by_cases hh : withinB (rnth l m).L (rnth l m).wt (rnth l (m + 1)).L = true
      all_goals
        have HH := Lib.hid hh
        try simp only [Bool.not_eq_true] at hh
        go_wp2
        have i1 : IntKind.i64.wrap (m : Int) = m := (IntWalk.i64_in _ (by omega)); have i2 : 0 ≤ (m : Int) + 1 := (by omega); have i3 : ((m : Int) + 1).toNat = m + 1 := (by omega)
        go_still_tail 10, (by kernel_rfl)
        clear i1 i2 i3
        clear c0 c1 c2 c3 c4 c5 c6 c7 c8 c9 c10 d0 d1 d2 d3 d4 d5 d6 d7 d8 d9 d10
        go_wp2_with (go_at_call 117; refine (shape2_any (rnth l m) (rnth l (m + 1)) _ o1.L0 o1.wt0 o2.L1).mono ?_; rintro e w1 ⟨rfl, hb⟩)
        first
          | (go_roundw
             case rel => exact ⟨m + 1, by go_num, (by (repeat (first | exact Below.refl _ _ | assumption | (refine bdrew ?_) | (refine bdrewN ?_ _) | (refine balloc ?_ _) | (refine bset ?_ (by first | omega | (simp; done) | (simp; omega)) _) | (refine bnext ?_ (by assumption))))), fun i hi => by
               by_cases e : i = m
               · subst e; exact HH.out
               · exact hk.out i (by omega)⟩
             case measure => simp [intOf]; omega)
          | (go_ret
             exact ⟨ret_bool (apartB_false hlt (by simpa using HH.out)).symm, by (repeat (first | exact Below.refl _ _ | assumption | (refine bdrew ?_) | (refine bdrewN ?_ _) | (refine balloc ?_ _) | (refine bset ?_ (by first | omega | (simp; done) | (simp; omega)) _) | (refine bnext ?_ (by assumption))))⟩)
    · have hlt' : ¬ (m : Int) + 1 < len l := by omega
      go_wp2
      go_ret
      exact ⟨ret_bool (apartB_true (n := m + 1) (by omega) hk.out).symm, hd⟩
end Go.Proofs.YtihiaopilnjonaaGreatDoor
