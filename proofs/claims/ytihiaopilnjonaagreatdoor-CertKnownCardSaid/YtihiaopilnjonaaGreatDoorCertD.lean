/- Contracts: ContainsFunc over reveals, by the closure that Shape hands it. -/
import Derived.Test.YtihiaopilnjonaaGreatDoorCertC
namespace Go.Proofs.YtihiaopilnjonaaGreatDoor
open Go.RowKit

theorem shape3_any (r : Rev) (cb : Nat) (n : Int) (w : World) (hr : r.Ok) (h3 : n < 18446744073709551616) (hc : w.cell? ⟨cb, 1, none⟩ = some (.int .u64 n)) :
    Calls Tryz.prog 120 #[r.val, .pointer (some ⟨cb, 0, none⟩)] w fun e w' => e = .returned (.bool (!withinB r.L r.wt n)) ∧ Below w.heap.size w w' := by
  have hl := lt_of_cell hc
  go_enter Tryz.func120, Tryz.ntmps120
  go_wp2_with (go_at_call 118; refine (within_any r _ _ hr.L0 hr.wt0 h3).mono ?_; rintro e w1 ⟨rfl, hb⟩)
  go_ret
  refine ⟨rfl, ?_⟩
  (repeat (first | exact Below.refl _ _ | assumption | (refine bdrew ?_) | (refine bdrewN ?_ _) | (refine balloc ?_ _) | (refine bset ?_ (by first | omega | (simp; done) | (simp; omega)) _) | (refine bnext ?_ (by assumption))))

/-- The first reveal that does not end ahead of n. -/
def outIdx (l : List Rev) (n : Int) : Int := match l.findIdx? (fun r => !withinB r.L r.wt n) with | some i => i | none => -1

theorem outIdx_hit {l : List Rev} {n : Int} {i : Nat} (hi : i < len l) (h : ∀ j, j < i → withinB (rnth l j).L (rnth l j).wt n = true) (h' : withinB (rnth l i).L (rnth l i).wt n = false) : outIdx l n = i := by
  have e : l.findIdx? (fun r => !withinB r.L r.wt n) = some i := by
    rw [List.findIdx?_eq_some_iff_getElem]
    refine ⟨hi, ?_, fun j hj => ?_⟩
    · rw [rnth_eq l i hi] at h'; simp [h']
    · have := h j hj; rw [rnth_eq l j (Nat.lt_trans hj hi)] at this; simp [this]
  unfold outIdx; rw [e]
theorem outIdx_none {l : List Rev} {n : Int} (h : ∀ j, j < len l → withinB (rnth l j).L (rnth l j).wt n = true) : outIdx l n = -1 := by
  have e : l.findIdx? (fun r => !withinB r.L r.wt n) = none := by
    rw [List.findIdx?_eq_none_iff]
    intro x hx
    obtain ⟨i, hi, rfl⟩ := List.getElem_of_mem hx
    have := h i hi; rw [rnth_eq l i hi] at this; simp [this]
  unfold outIdx; rw [e]

set_option maxRecDepth 100000 in
theorem indexR_any (a : Option Addr) (cap : Nat) (l : List Rev) (cb : Nat) (n : Int) (w : World) (hlen : len l ≤ 9223372036854775807) (hc : Revs w a l) (hok : ∀ i, (rnth l i).Ok)
    (h3 : n < 18446744073709551616) (hn : w.cell? ⟨cb, 1, none⟩ = some (.int .u64 n)) :
    Calls Tryz.prog 197 #[.slice a (len l) cap, .func (.func 120) #[] #[.pointer (some ⟨cb, 0, none⟩)]] w
      fun e w' => e = .returned (.int .i64 (outIdx l n)) ∧ Below w.heap.size w w' := by
  have HC := Lib.hid hc
  have HO := Lib.hid hok
  have HN := Lib.hid hn
  have HL := Lib.hid (lt_of_cell hn)
  have H3 := Lib.hid h3
  clear hc hok hn h3
  go_enter Tryz.func197, Tryz.ntmps197
  go_wp2
  go_loopw [8] (fun i wr => ∃ m : Nat, m ≤ len l ∧ i = .int .i64 m ∧ Below w.heap.size w wr ∧ Hid (∀ j, j < m → withinB (rnth l j).L (rnth l j).wt n = true)) (fun i _ => len l - (intOf i).toNat)
  case atStart => exact ⟨0, Nat.zero_le _, rfl, Below.refl _ _, fun j hj => by omega⟩
  case round =>
    obtain ⟨m, hm, rfl, hd, hk⟩ := hrel
    by_cases hlt : m < len l
    · obtain ⟨b, off, rfl, ⟨c0, c1, c2, c3, c4, c5, c6, c7, c8, c9, c10⟩⟩ := HC.out.below hd m hlt
      have o1 := HO.out m
      have hn' : wr.cell? ⟨cb, 1, none⟩ = some (.int .u64 n) := by rw [hd.cell (p := ⟨cb, 1, none⟩) HL.out]; exact HN.out
      have HN' := Lib.hid hn'
      clear hn'
      by_cases hh : withinB (rnth l m).L (rnth l m).wt n = true
      all_goals
        have HH := Lib.hid hh
        try simp only [Bool.not_eq_true] at hh
        go_wp2_with fail
        clear c0 c1 c2 c3 c4 c5 c6 c7 c8 c9 c10
        go_wp2_with (go_at_call 120; refine (shape3_any (rnth l m) cb n _ o1 H3.out HN'.out).mono ?_; rintro e w1 ⟨rfl, hb⟩)
        first
          | (go_roundw
             case rel => exact ⟨m + 1, by omega, by go_num, (by (repeat (first | exact Below.refl _ _ | assumption | (refine bdrew ?_) | (refine bdrewN ?_ _) | (refine balloc ?_ _) | (refine bset ?_ (by first | omega | (simp; done) | (simp; omega)) _) | (refine bnext ?_ (by assumption))))), fun i hi => by
               by_cases e : i = m
               · subst e; exact HH.out
               · exact hk.out i (by omega)⟩
             case measure => simp [intOf]; omega)
          | (go_ret
             exact ⟨ret_int (outIdx_hit hlt hk.out (by simpa using HH.out)).symm, by (repeat (first | exact Below.refl _ _ | assumption | (refine bdrew ?_) | (refine bdrewN ?_ _) | (refine balloc ?_ _) | (refine bset ?_ (by first | omega | (simp; done) | (simp; omega)) _) | (refine bnext ?_ (by assumption))))⟩)
    · go_wp2
      go_ret
      exact ⟨ret_int (outIdx_none (fun j hj => hk.out j (by omega))).symm, hd⟩

/-- Is there a reveal that does not end ahead of n? -/
def outB (l : List Rev) (n : Int) : Bool := decide (0 ≤ outIdx l n)

theorem containsR_any (a : Option Addr) (cap : Nat) (l : List Rev) (cb : Nat) (n : Int) (w : World) (hlen : len l ≤ 9223372036854775807) (hc : Revs w a l) (hok : ∀ i, (rnth l i).Ok)
    (h3 : n < 18446744073709551616) (hn : w.cell? ⟨cb, 1, none⟩ = some (.int .u64 n)) :
    Calls Tryz.prog 119 #[.slice a (len l) cap, .func (.func 120) #[] #[.pointer (some ⟨cb, 0, none⟩)]] w
      fun e w' => e = .returned (.bool (outB l n)) ∧ Below w.heap.size w w' := by
  have HC := Lib.hid hc
  have HO := Lib.hid hok
  have HN := Lib.hid hn
  have H3 := Lib.hid h3
  clear hc hok hn h3
  go_enter Tryz.func119, Tryz.ntmps119
  go_wp2_with (go_at_call 197; refine (indexR_any _ _ l cb n _ hlen HC.out HO.out H3.out HN.out).mono ?_; rintro e w1 ⟨rfl, hb⟩)
  go_ret
  exact ⟨rfl, hb⟩
end Go.Proofs.YtihiaopilnjonaaGreatDoor
