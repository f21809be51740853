/- Contracts of package part and of its reference: the weights together, whether a list may be. -/
import Derived.Test.YtmcmapcijncblaaPartA
namespace Go.Proofs.Ytmcmapcijncblaa
open Go.RowKit

set_option maxRecDepth 100000 in
set_option maxHeartbeats 1000000 in
theorem weigh_any (a : Option Addr) (cap : Nat) (l : List Prt) (w : World) (hlen : len l ≤ 9223372036854775807) (hc : Prts w a l) (hok : ∀ i, (pnth l i).Ok) :
    Calls Try.prog 37 #[.slice a (len l) cap] w
      fun e w' => e = .returned (.agg #[.int .u64 (wsum l (len l) / 18446744073709551616), .int .u64 (wsum l (len l) % 18446744073709551616)]) ∧ Below w.heap.size w w' := by
  have HC := Lib.hid hc
  have HO := Lib.hid hok
  clear hc hok
  go_enter Try.func37, Try.ntmps37
  go_wp2
  go_loopw [7] (fun i wr => ∃ m : Nat, ∃ hi lo : Int, m ≤ len l ∧ i = .int .i64 m ∧ Below w.heap.size w wr ∧ 0 ≤ hi ∧ hi ≤ m ∧ 0 ≤ lo ∧ lo < 18446744073709551616 ∧ Hid (wsum l m = hi * 18446744073709551616 + lo) ∧ Hid (wr.heap[w.heap.size]? = some (.cells #[.int .u64 hi, .int .u64 lo] 77 (0, 0)))) (fun i _ => len l - (intOf i).toNat)
  case atStart => exact ⟨0, 0, 0, Nat.zero_le _, rfl, by (repeat (first | exact Below.refl _ _ | assumption | (refine bdrew ?_) | (refine bdrewN ?_ _) | (refine balloc ?_ _) | (refine bset ?_ (by first | omega | (simp; done) | (simp; omega)) _) | (refine bnext ?_ (by assumption)))), by decide, by decide, by decide, by decide, rfl, heap_alloc_new w _⟩
  case round =>
    obtain ⟨m, hi, lo, hm, rfl, hd, h0, h1, l0, l1, hs, hb⟩ := hrel
    have hb' := hb.out
    have k0 : ∀ o, wr.cell? ⟨w.heap.size, o, none⟩ = _ := block_cell hb'
    have k1 : ∀ o, wr.frozen? ⟨w.heap.size, o, none⟩ = false := block_free hb'
    have hz : w.heap.size < wr.heap.size := lt_of_block hb'
    clear hb'
    by_cases hlt : m < len l
    · obtain ⟨b, off, rfl, ⟨c0, c1, c2, c3, c4⟩⟩ := HC.out.below hd m hlt
      have o1 := HO.out m
      have w0 := o1.wt0
      have w1 := o1.wt1
      clear o1
      have hm2 : (m : Int) ≤ 9223372036854775807 := by omega
      go_wp2_with fail
      refine (plus_any hi lo (pnth l m).wt _ h0 (by omega) l0 l1 w0 w1).mono ?_
      rintro e w2 ⟨rfl, hb2⟩
      have HB := hb2.block w.heap.size (by simp; omega)
      rw [show (wr.alloc _).heap[w.heap.size]? = _ from Below.heap_alloc _ _ _ hz, hb.out] at HB
      have q0 : ∀ o, w2.cell? ⟨w.heap.size, o, none⟩ = _ := block_cell HB
      have q1 : ∀ o, w2.frozen? ⟨w.heap.size, o, none⟩ = false := block_free HB
      have HB2 := Lib.hid HB
      have HD2 := Lib.hid (bnext (balloc hd _) hb2)
      clear hb2 HB k0 k1 c0 c1 c2 c3 c4
      go_wp2
      have HB3 := block_setCell (block_setCell HB2.out (o := 0) (.int .u64 (hi + (lo + (pnth l m).wt) / 18446744073709551616))) (o := 1) (.int .u64 ((lo + (pnth l m).wt) % 18446744073709551616))
      go_roundw
      case rel => exact ⟨m + 1, hi + (lo + (pnth l m).wt) / 18446744073709551616, (lo + (pnth l m).wt) % 18446744073709551616, by omega, by go_num, bset (bset HD2.out (by simp) _) (by simp) _, by omega, by omega, by omega, by omega, (by show wsum l m + (pnth l m).wt = _; rw [hs.out]; omega), HB3⟩
      case measure => simp [intOf]; omega
    · obtain rfl : m = len l := by omega
      go_wp2
      refine bodyPost_ret (v := .agg #[.int .u64 hi, .int .u64 lo]) (by simp [results, Try.results37, go_sem, k0]) rfl ⟨?_, ?_⟩
      · have := hs.out
        rw [show wsum l (len l) / 18446744073709551616 = hi by omega, show wsum l (len l) % 18446744073709551616 = lo by omega]
      · (repeat (first | exact Below.refl _ _ | assumption | (refine bdrew ?_) | (refine bdrewN ?_ _) | (refine balloc ?_ _) | (refine bset ?_ (by first | omega | (simp; done) | (simp; omega)) _) | (refine bnext ?_ (by assumption))))

theorem sum_at0 (x y : Int) (w : World) : (Instr.index 77 (.agg #[.int .u64 x, .int .u64 y]) (.int .i64 0)).run Try.prog w = .ok (.int .u64 x) w := by kernel_rfl
theorem sum_at1 (x y : Int) (w : World) : (Instr.index 77 (.agg #[.int .u64 x, .int .u64 y]) (.int .i64 1)).run Try.prog w = .ok (.int .u64 y) w := by kernel_rfl

/-- Whether a list may be: 0, or 2. -/
def checkOf (l : List Prt) : Int := if 1 ≤ len l ∧ len l ≤ 65536 ∧ lackB l = false ∧ wsum l (len l) < 18446744073709551616 then 0 else 2
theorem checkOf_ok {l : List Prt} (h1 : 1 ≤ len l) (h2 : len l ≤ 65536) (h3 : lackB l = false) (h4 : wsum l (len l) < 18446744073709551616) : checkOf l = 0 := by unfold checkOf; rw [if_pos ⟨h1, h2, h3, h4⟩]
theorem checkOf_no {l : List Prt} (h : ¬ (1 ≤ len l ∧ len l ≤ 65536 ∧ lackB l = false ∧ wsum l (len l) < 18446744073709551616)) : checkOf l = 2 := by unfold checkOf; rw [if_neg h]
theorem checkOf_two (l : List Prt) : checkOf l = 0 ∨ checkOf l = 2 := by unfold checkOf; split <;> simp

set_option maxRecDepth 100000 in
set_option maxHeartbeats 1000000 in
theorem check_any (a : Option Addr) (cap : Nat) (l : List Prt) (w : World) (hlen : len l ≤ 9223372036854775807) (hc : Prts w a l) (hok : ∀ i, (pnth l i).Ok) :
    Calls Try.prog 15 #[.slice a (len l) cap] w fun e w' => e = .returned (.int .i64 (checkOf l)) ∧ Below w.heap.size w w' := by
  have HC := Lib.hid hc
  have HO := Lib.hid hok
  have HBD := (wsum_bd hok (len l)).1
  clear hc hok
  by_cases h1 : len l = 0
  · have a1 : ((len l : Int) == 0) = true := by simp; omega
    have H1 := Lib.hid h1
    clear h1
    go_enter Try.func15, Try.ntmps15
    go_wp2
    go_ret
    exact ⟨ret_int (checkOf_no (by rw [H1.out]; omega)).symm, by (repeat (first | exact Below.refl _ _ | assumption | (refine bdrew ?_) | (refine bdrewN ?_ _) | (refine balloc ?_ _) | (refine bset ?_ (by first | omega | (simp; done) | (simp; omega)) _) | (refine bnext ?_ (by assumption))))⟩
  have a1 : ((len l : Int) == 0) = false := by simp; omega
  by_cases h2 : 65536 < len l
  · have a2 : decide (65536 < (len l : Int)) = true := by simp; omega
    go_enter Try.func15, Try.ntmps15
    go_wp2
    go_ret
    exact ⟨ret_int (checkOf_no (by omega)).symm, by (repeat (first | exact Below.refl _ _ | assumption | (refine bdrew ?_) | (refine bdrewN ?_ _) | (refine balloc ?_ _) | (refine bset ?_ (by first | omega | (simp; done) | (simp; omega)) _) | (refine bnext ?_ (by assumption))))⟩
  have a2 : decide (65536 < (len l : Int)) = false := by simp; omega
  cases h3 : lackB l
  · by_cases h4 : wsum l (len l) < 18446744073709551616
    · have a4 : decide (0 < wsum l (len l) / 18446744073709551616) = false := by simp; omega
      have E := Lib.hid (checkOf_ok (by omega) (by omega) h3 h4)
      clear h4
      have H3 := Lib.hid h3
      clear h3
      go_enter Try.func15, Try.ntmps15
      go_wp2_with fail
      refine (containsP_any _ _ l _ hlen HC.out HO.out).mono ?_
      rintro e w1 ⟨rfl, hb1⟩
      rw [H3.out]
      have HB1 := Lib.hid hb1
      clear hb1
      go_wp2_with fail
      refine (weigh_any _ _ l _ hlen (HC.out.below HB1.out) HO.out).mono ?_
      rintro e w2 ⟨rfl, hb2⟩
      have HB2 := Lib.hid (bnext HB1.out hb2)
      clear hb2
      go_wp2_with (simp only [sum_at0])
      go_ret
      exact ⟨ret_int E.out.symm, HB2.out⟩
    · have a4 : decide (0 < wsum l (len l) / 18446744073709551616) = true := by simp; omega
      have E := Lib.hid (checkOf_no (l := l) (by omega))
      clear h4
      have H3 := Lib.hid h3
      clear h3
      go_enter Try.func15, Try.ntmps15
      go_wp2_with fail
      refine (containsP_any _ _ l _ hlen HC.out HO.out).mono ?_
      rintro e w1 ⟨rfl, hb1⟩
      rw [H3.out]
      have HB1 := Lib.hid hb1
      clear hb1
      go_wp2_with fail
      refine (weigh_any _ _ l _ hlen (HC.out.below HB1.out) HO.out).mono ?_
      rintro e w2 ⟨rfl, hb2⟩
      have HB2 := Lib.hid (bnext HB1.out hb2)
      clear hb2
      go_wp2_with (simp only [sum_at0])
      go_ret
      exact ⟨ret_int E.out.symm, HB2.out⟩
  · have E := Lib.hid (checkOf_no (l := l) (by rw [h3]; simp))
    have H3 := Lib.hid h3
    clear h3
    go_enter Try.func15, Try.ntmps15
    go_wp2_with fail
    refine (containsP_any _ _ l _ hlen HC.out HO.out).mono ?_
    rintro e w1 ⟨rfl, hb1⟩
    rw [H3.out]
    have HB1 := Lib.hid hb1
    clear hb1
    go_wp2
    go_ret
    exact ⟨ret_int E.out.symm, HB1.out⟩

set_option maxRecDepth 100000 in
set_option maxHeartbeats 1000000 in
theorem refCheck_any (a : Option Addr) (cap : Nat) (l : List Prt) (w : World) (hlen : len l ≤ 9223372036854775807) (hc : Prts w a l) (hok : ∀ i, (pnth l i).Ok) :
    Calls Try.prog 16 #[.slice a (len l) cap] w fun e w' => e = .returned (.int .i64 (checkOf l)) ∧ w' = w := by
  have HC := Lib.hid hc
  have HO := Lib.hid hok
  clear hc hok
  by_cases h1 : len l = 0
  · have a1 : decide ((len l : Int) < 1) = true := by simp; omega
    have H1 := Lib.hid h1
    clear h1
    go_enter Try.func16, Try.ntmps16
    go_wp2
    go_ret
    exact ⟨ret_int (checkOf_no (by rw [H1.out]; omega)).symm, rfl⟩
  have a1 : decide ((len l : Int) < 1) = false := by simp; omega
  by_cases h2 : 65536 < len l
  · have a2 : decide (65536 < (len l : Int)) = true := by simp; omega
    go_enter Try.func16, Try.ntmps16
    go_wp2
    go_ret
    exact ⟨ret_int (checkOf_no (by omega)).symm, rfl⟩
  have a2 : decide (65536 < (len l : Int)) = false := by simp; omega
  go_enter Try.func16, Try.ntmps16
  go_wp2
  go_loop [3, 4] (fun lf i => ∃ m : Nat, ∃ x : Int, m ≤ len l ∧ i = .int .i64 m ∧ lf = .int .u64 x ∧ 0 ≤ x ∧ x < 18446744073709551616 ∧ Hid (x = 18446744073709551615 - wsum l m) ∧ Hid (∀ j, j < m → lacksB (pnth l j) = false)) (fun _ i => len l - (intOf i).toNat)
  case atStart => exact ⟨0, _, Nat.zero_le _, rfl, rfl, by decide, by decide, Lib.hid (by simp [wsum]), fun j hj => by omega⟩
  case round =>
    obtain ⟨m, x, hm, rfl, rfl, x0, x1, hx, hk⟩ := hrel
    by_cases hlt : m < len l
    · obtain ⟨b, off, rfl, ⟨c0, c1, c2, c3, c4⟩⟩ := HC.out m hlt
      have o1 := HO.out m
      have w0 := o1.wt0
      have w1 := o1.wt1
      clear o1
      obtain ⟨wt, hwt⟩ : ∃ wt, wt = (pnth l m).wt := ⟨_, rfl⟩
      rw [← hwt] at c1 w0 w1
      have HW := Lib.hid hwt
      clear hwt
      have b0 : (m : Int) < len l := by omega
      have S1 : Hid (wsum l (m + 1) = wsum l m + wt) := Lib.hid (by rw [HW.out]; rfl)
      by_cases q1 : (pnth l m).root.size = 32
      · have b1 : (((pnth l m).root.size : Int) != 32) = false := by simp; omega
        have Q1 := Lib.hid q1
        clear q1
        by_cases q2 : wt = 0
        · have b2 : decide (wt < 1) = true := by simp; omega
          have L : lacksB (pnth l m) = true := by unfold lacksB; simp [← HW.out, q2]
          have E := Lib.hid (checkOf_no (l := l) (by rw [lackB_true hlt L]; simp))
          clear q2 L
          go_wp2
          go_ret
          exact ⟨ret_int E.out.symm, rfl⟩
        · have b2 : decide (wt < 1) = false := by simp; omega
          have L : Hid (lacksB (pnth l m) = false) := Lib.hid (by unfold lacksB; simp [← HW.out, q2, Q1.out])
          by_cases q3 : x < wt
          · have E : Hid (checkOf l = 2) := Lib.hid (checkOf_no (by
              have := wsum_mono HO.out (show m + 1 ≤ len l by omega)
              have := S1.out
              have := hx.out
              omega))
            go_wp2
            go_ret
            exact ⟨ret_int E.out.symm, rfl⟩
          · have b3 : ¬ (x < wt) := q3
            go_wp2
            go_round
            case rel => exact ⟨m + 1, x - wt, by omega, by go_num, by go_num, by omega, by omega, Lib.hid (by have := S1.out; have := hx.out; omega), fun j hj => by
              by_cases e : j = m
              · subst e; exact L.out
              · exact hk.out j (by omega)⟩
            case measure => simp [intOf]; omega
      · have b1 : (((pnth l m).root.size : Int) != 32) = true := by simp; omega
        have L : lacksB (pnth l m) = true := by unfold lacksB; simp [q1]
        have E := Lib.hid (checkOf_no (l := l) (by rw [lackB_true hlt L]; simp))
        clear L q1
        go_wp2
        go_ret
        exact ⟨ret_int E.out.symm, rfl⟩
    · obtain rfl : m = len l := by omega
      have E := Lib.hid (checkOf_ok (l := l) (by omega) (by omega) (lackB_false hk.out) (by have := hx.out; omega))
      clear hk hx
      go_wp2
      go_ret
      exact ⟨ret_int E.out.symm, rfl⟩

/-- All weights together, of a list that may be. -/
def totalOf (l : List Prt) : Int := if checkOf l = 0 then wsum l (len l) else 0

set_option maxHeartbeats 1000000 in
theorem total_any (a : Option Addr) (cap : Nat) (l : List Prt) (w : World) (hlen : len l ≤ 9223372036854775807) (hc : Prts w a l) (hok : ∀ i, (pnth l i).Ok) :
    Calls Try.prog 17 #[.slice a (len l) cap] w fun e w' => e = .returned (.int .u64 (totalOf l)) ∧ Below w.heap.size w w' := by
  have HC := Lib.hid hc
  have HO := Lib.hid hok
  have HBD := Lib.hid (wsum_bd hok (len l)).1
  clear hc hok
  go_enter Try.func17, Try.ntmps17
  go_wp2_with fail
  refine (check_any _ _ l _ hlen HC.out HO.out).mono ?_
  rintro e w1 ⟨he, hb1⟩
  have HB1 := Lib.hid hb1
  clear hb1
  rcases checkOf_two l with h | h
  · rw [h] at he
    subst he
    have E : Hid (totalOf l = wsum l (len l) % 18446744073709551616) := Lib.hid (by
      unfold totalOf; rw [if_pos h]
      unfold checkOf at h
      split at h
      · have := HBD.out; omega
      · cases h)
    clear h
    go_wp2_with fail
    refine (weigh_any _ _ l _ hlen (HC.out.below HB1.out) HO.out).mono ?_
    rintro e w2 ⟨rfl, hb2⟩
    have HB2 := Lib.hid (bnext HB1.out hb2)
    clear hb2
    go_wp2_with (simp only [sum_at1])
    go_ret
    exact ⟨ret_int E.out.symm, HB2.out⟩
  · rw [h] at he
    subst he
    have E : Hid (totalOf l = 0) := Lib.hid (by unfold totalOf; rw [h]; rfl)
    clear h
    go_wp2
    go_ret
    exact ⟨ret_int E.out.symm, HB1.out⟩

set_option maxHeartbeats 1000000 in
theorem refTotal_any (a : Option Addr) (cap : Nat) (l : List Prt) (w : World) (hlen : len l ≤ 9223372036854775807) (hc : Prts w a l) (hok : ∀ i, (pnth l i).Ok) :
    Calls Try.prog 18 #[.slice a (len l) cap] w fun e w' => e = .returned (.int .u64 (totalOf l)) ∧ w' = w := by
  have HC := Lib.hid hc
  have HO := Lib.hid hok
  clear hc hok
  go_enter Try.func18, Try.ntmps18
  go_wp2_with fail
  refine (refCheck_any _ _ l _ hlen HC.out HO.out).mono ?_
  rintro e w1 ⟨he, rfl⟩
  rcases checkOf_two l with h | h
  · rw [h] at he
    subst he
    have hsum : wsum l (len l) < 18446744073709551616 := by
      unfold checkOf at h
      split at h
      · next hh => exact hh.2.2.2
      · cases h
    have E : Hid (totalOf l = wsum l (len l)) := Lib.hid (by unfold totalOf; rw [if_pos h])
    have HS := Lib.hid hsum
    clear h hsum
    go_wp2
    go_loop [3, 4] (fun n i => ∃ m : Nat, m ≤ len l ∧ i = .int .i64 m ∧ n = .int .u64 (wsum l m)) (fun _ i => len l - (intOf i).toNat)
    case atStart => exact ⟨0, Nat.zero_le _, rfl, rfl⟩
    case round =>
      obtain ⟨m, hm, rfl, rfl⟩ := hrel
      by_cases hlt : m < len l
      · obtain ⟨b, off, rfl, ⟨c0, c1, c2, c3, c4⟩⟩ := HC.out m hlt
        have b0 : (m : Int) < len l := by omega
        have o1 := HO.out m
        have w0 := o1.wt0
        have w1 := o1.wt1
        clear o1
        have s0 := (wsum_bd HO.out m).1
        have s1 : wsum l m + (pnth l m).wt < 18446744073709551616 := by
          have a := wsum_mono HO.out (show m + 1 ≤ len l by omega)
          have b : wsum l (m + 1) = wsum l m + (pnth l m).wt := rfl
          have c := HS.out
          omega
        go_wp2
        go_round
        case rel => exact ⟨m + 1, by omega, by go_num, rfl⟩
        case measure => simp [intOf]; omega
      · obtain rfl : m = len l := by omega
        go_wp2
        go_ret
        exact ⟨ret_int E.out.symm, rfl⟩
  · rw [h] at he
    subst he
    have E : Hid (totalOf l = 0) := Lib.hid (by unfold totalOf; rw [h]; rfl)
    clear h
    go_wp2
    go_ret
    exact ⟨ret_int E.out.symm, rfl⟩
end Go.Proofs.Ytmcmapcijncblaa
