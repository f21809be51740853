/- Contracts of the small functions of package cert. -/
import Derived.Test.YtihiaopilnjonaaGreatDoorRevS
namespace Go.Proofs.YtihiaopilnjonaaGreatDoor
open Go.RowKit

theorem add64_0 (x y : Int) (hx : 0 ≤ x) (hy : 0 ≤ y) (w : World) : (callFunc 242 #[.int .u64 x, .int .u64 y, .int .u64 0]).run Tryz.prog w =
    .ok (.value (.tuple #[.int .u64 ((x + y) % 18446744073709551616), .int .u64 ((x + y) / 18446744073709551616)])) w := by
  rw [run_callFunc_extern (P := Tryz.prog) Tryz.func242 (by kernel_rfl) (by kernel_rfl) (by kernel_rfl) (e := add64Entry) (by kernel_rfl), run_add64 x y 0 hx hy (by omega) (by omega)]
  simp only [Result.andThen, Int.add_zero]

theorem end_any (r : Rev) (w : World) (h1 : 0 ≤ r.L) (h2 : 0 ≤ r.wt) :
    Calls Tryz.prog 196 #[r.val] w
      fun e w' => e = .returned (.agg #[.int .u64 ((r.L + r.wt) / 18446744073709551616), .int .u64 ((r.L + r.wt) % 18446744073709551616)]) ∧ Below w.heap.size w w' := by
  go_enter Tryz.func196, Tryz.ntmps196
  go_wp2_with (simp only [add64_0 _ _ h1 h2])
  refine bodyPost_ret (v := .agg #[.int .u64 ((r.L + r.wt) / 18446744073709551616), .int .u64 ((r.L + r.wt) % 18446744073709551616)]) (by simp [results, Tryz.results196, go_sem]) rfl ⟨rfl, ?_⟩
  exact ((Below.refl _ _).alloc (Nat.le_refl _) _).alloc (by simp) _

/-- A reveal's weight lies between its L and n. -/
def withinB (L wt n : Int) : Bool := decide (0 < wt ∧ L + wt ≤ n)

theorem within_any (r : Rev) (n : Int) (w : World) (h1 : 0 ≤ r.L) (h2 : 0 ≤ r.wt) (h3 : n < 18446744073709551616) :
    Calls Tryz.prog 118 #[r.val, .int .u64 n] w
      fun e w' => e = .returned (.bool (withinB r.L r.wt n)) ∧ Below w.heap.size w w' := by
  go_enter Tryz.func118, Tryz.ntmps118
  go_wp2_with (first | (go_at_call 196; refine (end_any r _ h1 h2).mono ?_; rintro e w1 ⟨rfl, hb⟩; obtain ⟨hc, hf⟩ := bcell hb; have hz : w.heap.size < w1.heap.size := (by have := hb.size; simp at this; omega)))
  all_goals
    go_ret
    refine ⟨ret_bool ?_, ?_⟩
    · unfold withinB; rw [Bool.eq_iff_iff]; simp; omega
    · (repeat (first | exact Below.refl _ _ | assumption | (refine bdrew ?_) | (refine bdrewN ?_ _) | (refine balloc ?_ _) | (refine bset ?_ (by first | omega | (simp; done) | (simp; omega)) _) | (refine bnext ?_ (by assumption))))

theorem shape1_any (a b : Int) (w : World) :
    Calls Tryz.prog 115 #[.int .u64 a, .int .u64 b] w fun e w' => e = .returned (.bool (decide (a < b))) ∧ w' = w := by
  go_enter Tryz.func115, Tryz.ntmps115
  go_wp2
  go_ret
  exact ⟨rfl, rfl⟩

theorem positions1_any (r : Rev) (w : World) :
    Calls Tryz.prog 59 #[r.val] w fun e w' => e = .returned (.tuple #[.int .u64 r.pos, .int .i64 0]) ∧ Below w.heap.size w w' := by
  go_enter Tryz.func59, Tryz.ntmps59
  go_wp2
  go_ret2
  refine ⟨rfl, ?_⟩
  (repeat (first | exact Below.refl _ _ | assumption | (refine bdrew ?_) | (refine bdrewN ?_ _) | (refine balloc ?_ _) | (refine bset ?_ (by first | omega | (simp; done) | (simp; omega)) _) | (refine bnext ?_ (by assumption))))

theorem shape2_any (r q : Rev) (w : World) (h1 : 0 ≤ r.L) (h2 : 0 ≤ r.wt) (h3 : q.L < 18446744073709551616) :
    Calls Tryz.prog 117 #[r.val, q.val] w fun e w' => e = .returned (.bool (withinB r.L r.wt q.L)) ∧ Below w.heap.size w w' := by
  go_enter Tryz.func117, Tryz.ntmps117
  go_wp2_with (first | (go_at_call 118; refine (within_any r _ _ h1 h2 h3).mono ?_; rintro e w1 ⟨rfl, hb⟩))
  go_ret
  refine ⟨rfl, ?_⟩
  (repeat (first | exact Below.refl _ _ | assumption | (refine bdrew ?_) | (refine bdrewN ?_ _) | (refine balloc ?_ _) | (refine bset ?_ (by first | omega | (simp; done) | (simp; omega)) _) | (refine bnext ?_ (by assumption))))
end Go.Proofs.YtihiaopilnjonaaGreatDoor
