/- Package slots: slices.BinarySearch at uint64; row.search. -/
import Derived.Test.YtbeppkokkbgddaaSortA
import Derived.Test.YtbeppkokkbgddaaOwn
import Derived.Deep.QuietTactic
import Derived.BigQuiet
namespace Go.Proofs.Ytbeppkokkbgddaa
open Go.RowKit
set_option linter.unusedSimpArgs false
set_option linter.unusedVariables false

/-- The numbers rise. -/
def Ups (E : List Int) : Prop := ∀ i j, i < j → j < len E → nth E i < nth E j
/-- So many are not above x. -/
def CutAt (E : List Int) (x : Int) (k : Nat) : Prop := k ≤ len E ∧ (∀ j, j < k → nth E j ≤ x) ∧ (∀ j, k ≤ j → j < len E → x < nth E j)
/-- So many are below x. -/
def LowAt (E : List Int) (x : Int) (k : Nat) : Prop := k ≤ len E ∧ (∀ j, j < k → nth E j < x) ∧ (∀ j, k ≤ j → j < len E → x ≤ nth E j)
theorem Ups.le {E : List Int} (h : Ups E) {i j : Nat} (hij : i ≤ j) (hj : j < len E) : nth E i ≤ nth E j := by
  rcases Nat.eq_or_lt_of_le hij with rfl | h2
  · exact Int.le_refl _
  · exact Int.le_of_lt (h i j h2 hj)

theorem less_one (x y : Int) (w : World) : Calls Try.prog 72 #[.int .u64 x, .int .u64 y] w fun e w' => e = .returned (.bool (decide (x < y))) ∧ w' = w := less_any x y w

theorem nan_any (x : Int) (w : World) : Calls Try.prog 73 #[.int .u64 x] w fun e w' => e = .returned (.bool false) ∧ w' = w := by
  go_enter Try.func73, Try.ntmps73
  go_wp2
  go_ret
  exact ⟨by simp, rfl⟩

def FoundIs (E : List Int) (x : Int) (w : World) (e : Ending) (w' : World) : Prop := ∃ k : Nat, LowAt E x k ∧ e = .returned (.tuple #[.int .i64 k, .bool (decide (k < len E ∧ nth E k = x))]) ∧ w = w'

set_option maxRecDepth 100000 in
set_option maxHeartbeats 4000000 in
theorem bsearch_any (a : Option Addr) (c : Nat) (E : List Int) (x : Int) (w : World) (hc : U64s w a E) (hn : len E ≤ 1000000) (hs : Ups E) :
    Calls Try.prog 67 #[.slice a (len E) c, .int .u64 x] w (FoundIs E x w) := by
  have HC := Lib.hid hc
  have HS := Lib.hid hs
  clear hc hs
  go_enter Try.func67, Try.ntmps67
  go_wp2
  go_loopg [7, 8] (len E) (fun g s7 s8 wr => ∃ lo hi : Nat, s7 = .int .i64 lo ∧ s8 = .int .i64 hi ∧ lo ≤ hi ∧ hi ≤ len E ∧ hi - lo ≤ g ∧ w = wr ∧ Hid ((∀ t, t < lo → nth E t < x) ∧ (∀ t, hi ≤ t → t < len E → x ≤ nth E t)))
  case atStart => exact ⟨0, len E, rfl, rfl, Nat.zero_le _, Nat.le_refl _, by omega, rfl, fun t ht => absurd ht (Nat.not_lt_zero _), fun t h1 h2 => by omega⟩
  case round =>
    obtain ⟨lo, hi, rfl, rfl, hlh, hin, hg, rfl, I⟩ := hrel
    by_cases hlt : lo < hi
    · obtain ⟨b, off, rfl, cm⟩ := HC.out ((lo + hi) / 2) (by omega)
      generalize hy : nth E ((lo + hi) / 2) = y at cm
      have Y := Lib.hid hy
      clear hy
      by_cases hyx : y < x
      · go_wp2_with (first | (go_at_call 72; refine (less_one _ _ _).mono ?_; rintro e w' ⟨rfl, rfl⟩) | (go_at_call 73; refine (nan_any _ _).mono ?_; rintro e w' ⟨rfl, rfl⟩))
        go_roundg (hi - ((lo + hi) / 2 + 1))
        case measure => omega
        case rel =>
          refine ⟨(lo + hi) / 2 + 1, hi, by rw [show ((lo : Int) + (hi : Int)) / 2 + 1 = (((lo + hi) / 2 + 1 : Nat) : Int) by omega], rfl, by omega, hin, Nat.le_refl _, rfl, fun t ht => ?_, I.out.2⟩
          have := HS.out.le (i := t) (j := (lo + hi) / 2) (by omega) (by omega)
          rw [Y.out] at this
          omega
      · go_wp2_with (first | (go_at_call 72; refine (less_one _ _ _).mono ?_; rintro e w' ⟨rfl, rfl⟩) | (go_at_call 73; refine (nan_any _ _).mono ?_; rintro e w' ⟨rfl, rfl⟩))
        go_roundg ((lo + hi) / 2 - lo)
        case measure => omega
        case rel =>
          refine ⟨lo, (lo + hi) / 2, rfl, by rw [show ((lo : Int) + (hi : Int)) / 2 = (((lo + hi) / 2 : Nat) : Int) by omega], by omega, by omega, Nat.le_refl _, rfl, I.out.1, fun t ht htn => ?_⟩
          have := HS.out.le (i := (lo + hi) / 2) (j := t) ht htn
          rw [Y.out] at this
          omega
    · have : hi = lo := by omega
      subst this
      have L : Hid (LowAt E x hi) := Lib.hid ⟨hin, I.out.1, I.out.2⟩
      clear I
      by_cases hn : hi < len E
      · obtain ⟨b, off, rfl, cl⟩ := HC.out hi hn
        generalize hy : nth E hi = y at cl
        have Y := Lib.hid hy
        clear hy
        by_cases hyx : y = x
        · go_wp2_with (first | (go_at_call 73; refine (nan_any _ _).mono ?_; rintro e w' ⟨rfl, rfl⟩))
          go_ret2
          refine ⟨hi, L.out, ?_, rfl⟩
          rw [Y.out, decide_eq_true (show hi < len E ∧ y = x from ⟨hn, hyx⟩)]
          first | rfl | simp [*]
        · go_wp2_with (first | (go_at_call 73; refine (nan_any _ _).mono ?_; rintro e w' ⟨rfl, rfl⟩))
          go_ret2
          refine ⟨hi, L.out, ?_, rfl⟩
          rw [Y.out, decide_eq_false (show ¬ (hi < len E ∧ y = x) from fun h => hyx h.2)]
          first | rfl | simp [*]
      · go_wp2_with (first | (go_at_call 73; refine (nan_any _ _).mono ?_; rintro e w' ⟨rfl, rfl⟩))
        go_ret2
        refine ⟨hi, L.out, ?_, rfl⟩
        rw [decide_eq_false (show ¬ (hi < len E ∧ nth E hi = x) from fun h => hn h.1)]
        first | rfl | simp [*]

theorem low_cut {E : List Int} (hs : Ups E) {x : Int} {k : Nat} (h : LowAt E x k) : CutAt E x (if k < len E ∧ nth E k = x then k + 1 else k) := by
  obtain ⟨h1, h2, h3⟩ := h
  split
  · rename_i hc
    refine ⟨by omega, fun j hj => ?_, fun j hj hjn => ?_⟩
    · by_cases e : j = k
      · subst e; omega
      · have := h2 j (by omega); omega
    · have := hs k j (by omega) hjn; omega
  · rename_i hc
    refine ⟨h1, fun j hj => by have := h2 j hj; omega, fun j hj hjn => ?_⟩
    have h4 := h3 j hj hjn
    rcases Nat.eq_or_lt_of_le hj with rfl | hlt
    · have : ¬ nth E k = x := fun e => hc ⟨hjn, e⟩
      omega
    · have := hs k j hlt hjn
      have := h3 k (Nat.le_refl _) (by omega)
      omega

def SearchIs (E : List Int) (x : Int) (w : World) (e : Ending) (w' : World) : Prop := ∃ k : Nat, CutAt E x k ∧ e = .returned (.tuple #[.int .i64 k, .bool (decide (k < len E))]) ∧ Below w.heap.size w w'

set_option maxRecDepth 100000 in
set_option maxHeartbeats 4000000 in
theorem search_any (a b : Option Addr) (c n2 c2 : Nat) (E : List Int) (x : Int) (w : World) (hc : U64s w a E) (hn : len E ≤ 1000000) (hs : Ups E) :
    Calls Try.prog 51 #[.agg #[.slice a (len E) c, .slice b n2 c2], .int .u64 x] w (SearchIs E x w) := by
  have HC := Lib.hid hc
  have HS := Lib.hid hs
  clear hc hs
  go_enter Try.func51, Try.ntmps51
  go_wp2_with fail
  obtain ⟨V, hV⟩ : ∃ V, w.alloc (.cells #[.slice a (len E) c, .slice b n2 c2] 81) = V := ⟨_, rfl⟩
  have VB : Hid (Below w.heap.size w V) := Lib.hid (by rw [← hV]; (repeat (first | exact Below.refl _ _ | assumption | (refine bdrew ?_) | (refine bdrewN ?_ _) | (refine balloc ?_ _) | (refine bset ?_ (by first | omega | (simp; done) | (simp; omega)) _) | (refine bnext ?_ (by assumption)))))
  have V0 : Hid (V.heap[w.heap.size]? = some (.cells #[.slice a (len E) c, .slice b n2 c2] 81 (0, 0))) := Lib.hid (by rw [← hV]; (repeat (first | exact alloc_new_at _ (by repeat (first | rfl | refine alloc_size _ ?_)) | refine block_alloc ?_ _)))
  try rw [hV]
  clear hV
  refine (bsearch_any a c E x V (HC.out.below VB.out) hn HS.out).mono ?_
  rintro e w' ⟨k, hk, rfl, rfl⟩
  have c0 := block_cell V0.out 0
  have hk1 := hk.1
  have K := Lib.hid (low_cut HS.out hk)
  clear hk
  by_cases hf : k < len E ∧ nth E k = x
  · rw [decide_eq_true hf]
    have hk2 := hf.1
    have K1 : Hid (CutAt E x (k + 1)) := Lib.hid (by have := K.out; rw [if_pos hf] at this; exact this)
    clear K hf
    go_wp2_with fail
    go_quiet (fail)
    go_wp2
    go_ret2
    exact ⟨k + 1, K1.out, by first | rfl | (simp; omega), by (repeat (first | exact Below.refl _ _ | assumption | (refine bdrew ?_) | (refine bdrewN ?_ _) | (refine balloc ?_ _) | (refine bset ?_ (by first | omega | (simp; done) | (simp; omega)) _) | (refine bnext ?_ (by assumption))))⟩
  · rw [decide_eq_false hf]
    have K1 : Hid (CutAt E x k) := Lib.hid (by have := K.out; rw [if_neg hf] at this; exact this)
    clear K hf
    go_wp2_with fail
    go_quiet (fail)
    go_wp2
    go_ret2
    exact ⟨k, K1.out, by first | rfl | (simp; omega), by (repeat (first | exact Below.refl _ _ | assumption | (refine bdrew ?_) | (refine bdrewN ?_ _) | (refine balloc ?_ _) | (refine bset ?_ (by first | omega | (simp; done) | (simp; omega)) _) | (refine bnext ?_ (by assumption))))⟩
end Go.Proofs.Ytbeppkokkbgddaa
