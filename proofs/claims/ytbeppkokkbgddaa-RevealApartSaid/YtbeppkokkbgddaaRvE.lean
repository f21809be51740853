/- Package reveal: Choose of too many coins; Falls; the statements' numbers. -/
import Derived.Test.YtbeppkokkbgddaaRvD
namespace Go.Proofs.Ytbeppkokkbgddaa
open Go.RowKit Go.ChangeMaps
set_option linter.unusedSimpArgs false
set_option linter.unusedVariables false

set_option maxRecDepth 100000 in
theorem choose_long (B : Nat) (a : Option Addr) (cap n : Nat) (w : World) (hn : 640 < n) : Calls Try.prog 31 #[.pointer (some ⟨B, 0, none⟩), .slice a n cap] w (NoneIs 3 w) := by
  have hn2 : (640 : Int) < (n : Int) := by omega
  go_enter Try.func31, Try.ntmps31
  go_wp2
  have c1 : (((w.alloc (.cells #[.pointer (some ⟨B, 0, none⟩)] 44)).alloc (.cells #[.slice none 0 0] 28)).alloc (.cells #[.slice none 0 0] 28)).cell? ⟨w.heap.size + 1, 0, none⟩ = some (.slice none 0 0) := block_cell (block_alloc (alloc_new_at _ (by simp)) _) 0
  have c2 : (((w.alloc (.cells #[.pointer (some ⟨B, 0, none⟩)] 44)).alloc (.cells #[.slice none 0 0] 28)).alloc (.cells #[.slice none 0 0] 28)).cell? ⟨w.heap.size + 1 + 1, 0, none⟩ = some (.slice none 0 0) := block_cell (alloc_new_at _ (by simp)) 0
  refine bodyPost_ret (v := .tuple #[.slice none 0 0, .slice none 0 0, .int .i64 3]) ?_ rfl ⟨rfl, by (repeat (first | exact Below.refl _ _ | assumption | (refine bdrew ?_) | (refine bdrewN ?_ _) | (refine balloc ?_ _) | (refine bset ?_ (by first | omega | (simp; done) | (simp; omega)) _) | (refine bnext ?_ (by assumption))))⟩
  simp [results, Try.results31, go_sem, c1, c2]

/-- Does a coin fall into a weight behind a sum? -/
def fallsB (coin sum wt : Int) : Bool := decide (sum ≤ coin ∧ coin - sum < wt)
theorem falls_any (coin sum wt : Int) (w : World) (h0 : 0 ≤ coin) (h1 : coin ≤ 18446744073709551615) (h2 : 0 ≤ sum) (h3 : sum ≤ 18446744073709551615) :
    Calls Try.prog 34 #[.int .u64 coin, .int .u64 sum, .int .u64 wt] w fun e w' => e = .returned (.bool (fallsB coin sum wt)) ∧ w = w' := by
  by_cases hs : sum ≤ coin
  · have F : Hid (fallsB coin sum wt = decide (coin - sum < wt)) := Lib.hid (by unfold fallsB; simp [hs])
    have e0 : 0 ≤ coin - sum := by omega
    have e1 : coin - sum ≤ 18446744073709551615 := by omega
    go_enter Try.func34, Try.ntmps34
    go_wp2
    go_ret
    exact ⟨ret_bool F.out.symm, rfl⟩
  · have F : Hid (fallsB coin sum wt = false) := Lib.hid (by unfold fallsB; simp [hs])
    go_enter Try.func34, Try.ntmps34
    go_wp2
    go_ret
    exact ⟨ret_bool F.out.symm, rfl⟩
theorem refFalls_any (coin sum wt : Int) (w : World) (h0 : 0 ≤ coin) (h1 : coin ≤ 18446744073709551615) (h2 : 0 ≤ sum) (h3 : sum ≤ 18446744073709551615) :
    Calls Try.prog 35 #[.int .u64 coin, .int .u64 sum, .int .u64 wt] w fun e w' => e = .returned (.bool (fallsB coin sum wt)) ∧ w = w' := by
  by_cases hs : sum ≤ coin
  · have F : Hid (fallsB coin sum wt = decide (coin - sum < wt)) := Lib.hid (by unfold fallsB; simp [hs])
    have e0 : 0 ≤ coin - sum := by omega
    have e1 : coin - sum ≤ 18446744073709551615 := by omega
    have hs2 : ¬ coin < sum := by omega
    go_enter Try.func35, Try.ntmps35
    go_wp2
    go_ret
    exact ⟨ret_bool F.out.symm, rfl⟩
  · have F : Hid (fallsB coin sum wt = false) := Lib.hid (by unfold fallsB; simp [hs])
    have hs2 : coin < sum := by omega
    go_enter Try.func35, Try.ntmps35
    go_wp2
    go_ret
    exact ⟨ret_bool F.out.symm, rfl⟩

def numbersB (la lb : List Int) : Bool := decide (la = lb)
set_option maxRecDepth 100000 in
set_option maxHeartbeats 2000000 in
theorem numbers_any (a b : Option Addr) (ca cb : Nat) (la lb : List Int) (w : World) (ha : U64s w a la) (hb : U64s w b lb) (hla : len la ≤ 9223372036854775807) (hlb : len lb ≤ 9223372036854775807) :
    Calls Try.prog 33 #[.slice a (len la) ca, .slice b (len lb) cb] w fun e w' => e = .returned (.bool (numbersB la lb)) ∧ Drew w w' := by
  have HA := Lib.hid ha
  have HB := Lib.hid hb
  clear ha hb
  by_cases hl : len la = len lb
  · have e0 : ((len la : Int) != (len lb : Int)) = false := by simp; omega
    have HL := Lib.hid hl
    clear hl
    go_enter Try.func33, Try.ntmps33
    go_wp2
    go_loopg [5] (len la) (fun g i wr => ∃ m : Nat, g + m = len la ∧ i = .int .i64 m ∧ Hid (∀ j, j < m → nth la j = nth lb j) ∧ Drew w wr)
    case atStart => exact ⟨0, rfl, rfl, fun j hj => by omega, Drew.refl w⟩
    case round =>
      obtain ⟨m, hm, rfl, heq, hd⟩ := hrel
      by_cases hlt : m < len la
      · obtain ⟨ba, oa, rfl, a1⟩ := (HA.out.drew hd) m hlt
        obtain ⟨bb, ob, rfl, b1⟩ := (HB.out.drew hd) m (by have := HL.out; omega)
        have i1 : (m : Int) < len la := by omega
        have i2 : (m : Int) < len lb := by have := HL.out; omega
        have i3 : m < len lb := by have := HL.out; omega
        by_cases he : nth la m = nth lb m
        · have he' : (nth la m != nth lb m) = false := by simpa using he
          have HE := Lib.hid he
          clear he
          go_wp2_with fail
          go_quiet (fail)
          go_wp2
          go_roundg (len la - (m + 1))
          case rel => exact ⟨m + 1, by omega, by go_num, fun j hj => by
            by_cases e : j = m
            · subst e; exact HE.out
            · exact heq.out j (by omega), by first | exact hd | exact hd.drewN _⟩
          case measure => omega
        · have he' : (nth la m != nth lb m) = true := by simpa using he
          have HN : Hid (numbersB la lb = false) := Lib.hid (decide_eq_false (fun e => he (by rw [e])))
          clear he
          go_wp2_with fail
          go_quiet (fail)
          go_wp2
          go_ret
          exact ⟨ret_bool HN.out.symm, by first | exact hd | exact hd.drewN _⟩
      · have HY : Hid (numbersB la lb = true) := Lib.hid (decide_eq_true (nths_eq HL.out (fun i hi => heq.out i (by omega))))
        have i1 : ¬ (m : Int) < len la := by omega
        clear heq
        go_wp2
        go_ret
        exact ⟨ret_bool HY.out.symm, hd⟩
  · have e0 : ((len la : Int) != (len lb : Int)) = true := by simp; omega
    have HN : Hid (numbersB la lb = false) := Lib.hid (decide_eq_false (fun e => hl (by rw [e])))
    clear hl
    go_enter Try.func33, Try.ntmps33
    go_wp2
    go_ret
    exact ⟨ret_bool HN.out.symm, Drew.refl w⟩
end Go.Proofs.Ytbeppkokkbgddaa
