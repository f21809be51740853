/- The reference of layer 6: rows. -/
import Derived.Test.YtmcmapcijncblaaDoorUnpF
namespace Go.Proofs.YtmcmapcijncblaaDoor
open Go.RowKit

/-- What the reference's row answers: how many bytes follow (-1: none), the number, the least one. -/
def refRowOf (sort : Nat) (c : Int) : Int × Int × Int := match (rowsOf sort).find? (fun r => decide (r.lo ≤ c) && decide (c ≤ r.hi)) with
  | none => (-1, 0, 0)
  | some r => (r.size, if r.size = 0 then c - r.lo else 0, r.least)

set_option maxRecDepth 100000 in
set_option maxHeartbeats 2000000 in
theorem refRow_0 (c : Int) (w : World) (c0 : 0 ≤ c) (c1 : c ≤ 255) :
    Calls Tryd.prog 20 #[.int .i64 0, .int .i64 c] w fun e w' => e = .returned (.tuple #[.int .i64 (refRowOf 0 c).1, .int .u64 (refRowOf 0 c).2.1, .int .u64 (refRowOf 0 c).2.2]) ∧ w' = w := by
  by_cases h0 : 0 ≤ c ∧ c ≤ 127
  · obtain ⟨l0, u0⟩ := h0
    have E : Hid (refRowOf 0 c = (0, c, 0)) := Lib.hid (by unfold refRowOf; rw [show rowsOf 0 = numsL from rfl]; unfold numsL; rw [List.find?_cons_of_pos (by simp; omega)]; simp)
    have i1 : IntKind.u64.wrap c = c := IntWalk.u64_in _ (by omega)
    go_enter Tryd.func20, Tryd.ntmps20
    go_wp2
    all_goals
      go_ret3
      rw [E.out]
      exact ⟨rfl, rfl⟩
  by_cases h1 : c = 204
  · subst h1
    have E : Hid (refRowOf 0 204 = (1, 0, 128)) := Lib.hid (by decide)
    go_enter Tryd.func20, Tryd.ntmps20
    go_wp2
    all_goals
      go_ret3
      rw [E.out]
      exact ⟨rfl, rfl⟩
  have q1 : (c == 204) = false := by simpa using h1
  by_cases h2 : c = 205
  · subst h2
    have E : Hid (refRowOf 0 205 = (2, 0, 256)) := Lib.hid (by decide)
    go_enter Tryd.func20, Tryd.ntmps20
    go_wp2
    all_goals
      go_ret3
      rw [E.out]
      exact ⟨rfl, rfl⟩
  have q2 : (c == 205) = false := by simpa using h2
  by_cases h3 : c = 206
  · subst h3
    have E : Hid (refRowOf 0 206 = (4, 0, 65536)) := Lib.hid (by decide)
    go_enter Tryd.func20, Tryd.ntmps20
    go_wp2
    all_goals
      go_ret3
      rw [E.out]
      exact ⟨rfl, rfl⟩
  have q3 : (c == 206) = false := by simpa using h3
  by_cases h4 : c = 207
  · subst h4
    have E : Hid (refRowOf 0 207 = (8, 0, 4294967296)) := Lib.hid (by decide)
    go_enter Tryd.func20, Tryd.ntmps20
    go_wp2
    all_goals
      go_ret3
      rw [E.out]
      exact ⟨rfl, rfl⟩
  have q4 : (c == 207) = false := by simpa using h4
  have E : Hid (refRowOf 0 c = (-1, 0, 0)) := Lib.hid (by unfold refRowOf; rw [show rowsOf 0 = numsL from rfl]; unfold numsL; rw [List.find?_cons_of_neg (by simp; omega), List.find?_cons_of_neg (by simp; omega), List.find?_cons_of_neg (by simp; omega), List.find?_cons_of_neg (by simp; omega), List.find?_cons_of_neg (by simp; omega), List.find?_nil])
  go_enter Tryd.func20, Tryd.ntmps20
  go_wp2
  all_goals
    go_ret3
    rw [E.out]
    exact ⟨rfl, rfl⟩

set_option maxRecDepth 100000 in
set_option maxHeartbeats 2000000 in
theorem refRow_1 (c : Int) (w : World) (c0 : 0 ≤ c) (c1 : c ≤ 255) :
    Calls Tryd.prog 20 #[.int .i64 1, .int .i64 c] w fun e w' => e = .returned (.tuple #[.int .i64 (refRowOf 1 c).1, .int .u64 (refRowOf 1 c).2.1, .int .u64 (refRowOf 1 c).2.2]) ∧ w' = w := by
  by_cases h0 : c = 196
  · subst h0
    have E : Hid (refRowOf 1 196 = (1, 0, 0)) := Lib.hid (by decide)
    go_enter Tryd.func20, Tryd.ntmps20
    go_wp2
    all_goals
      go_ret3
      rw [E.out]
      exact ⟨rfl, rfl⟩
  have q0 : (c == 196) = false := by simpa using h0
  by_cases h1 : c = 197
  · subst h1
    have E : Hid (refRowOf 1 197 = (2, 0, 256)) := Lib.hid (by decide)
    go_enter Tryd.func20, Tryd.ntmps20
    go_wp2
    all_goals
      go_ret3
      rw [E.out]
      exact ⟨rfl, rfl⟩
  have q1 : (c == 197) = false := by simpa using h1
  have E : Hid (refRowOf 1 c = (-1, 0, 0)) := Lib.hid (by unfold refRowOf; rw [show rowsOf 1 = binsL from rfl]; unfold binsL; rw [List.find?_cons_of_neg (by simp; omega), List.find?_cons_of_neg (by simp; omega), List.find?_nil])
  go_enter Tryd.func20, Tryd.ntmps20
  go_wp2
  all_goals
    go_ret3
    rw [E.out]
    exact ⟨rfl, rfl⟩

set_option maxRecDepth 100000 in
set_option maxHeartbeats 2000000 in
theorem refRow_2 (c : Int) (w : World) (c0 : 0 ≤ c) (c1 : c ≤ 255) :
    Calls Tryd.prog 20 #[.int .i64 2, .int .i64 c] w fun e w' => e = .returned (.tuple #[.int .i64 (refRowOf 2 c).1, .int .u64 (refRowOf 2 c).2.1, .int .u64 (refRowOf 2 c).2.2]) ∧ w' = w := by
  by_cases h0 : 160 ≤ c ∧ c ≤ 191
  · obtain ⟨l0, u0⟩ := h0
    have E : Hid (refRowOf 2 c = (0, c - 160, 0)) := Lib.hid (by unfold refRowOf; rw [show rowsOf 2 = strsL from rfl]; unfold strsL; rw [List.find?_cons_of_pos (by simp; omega)]; simp)
    have i1 : IntKind.u64.wrap (c - 160) = c - 160 := IntWalk.u64_in _ (by omega)
    have i2 : IntKind.i64.wrap (c - 160) = c - 160 := IntWalk.i64_in _ (by omega)
    go_enter Tryd.func20, Tryd.ntmps20
    go_wp2
    all_goals
      go_ret3
      rw [E.out]
      exact ⟨rfl, rfl⟩
  by_cases h1 : c = 217
  · subst h1
    have E : Hid (refRowOf 2 217 = (1, 0, 32)) := Lib.hid (by decide)
    go_enter Tryd.func20, Tryd.ntmps20
    go_wp2
    all_goals
      go_ret3
      rw [E.out]
      exact ⟨rfl, rfl⟩
  have q1 : (c == 217) = false := by simpa using h1
  by_cases h2 : c = 218
  · subst h2
    have E : Hid (refRowOf 2 218 = (2, 0, 256)) := Lib.hid (by decide)
    go_enter Tryd.func20, Tryd.ntmps20
    go_wp2
    all_goals
      go_ret3
      rw [E.out]
      exact ⟨rfl, rfl⟩
  have q2 : (c == 218) = false := by simpa using h2
  have E : Hid (refRowOf 2 c = (-1, 0, 0)) := Lib.hid (by unfold refRowOf; rw [show rowsOf 2 = strsL from rfl]; unfold strsL; rw [List.find?_cons_of_neg (by simp; omega), List.find?_cons_of_neg (by simp; omega), List.find?_cons_of_neg (by simp; omega), List.find?_nil])
  go_enter Tryd.func20, Tryd.ntmps20
  go_wp2
  all_goals
    go_ret3
    rw [E.out]
    exact ⟨rfl, rfl⟩

set_option maxRecDepth 100000 in
set_option maxHeartbeats 2000000 in
theorem refRow_3 (c : Int) (w : World) (c0 : 0 ≤ c) (c1 : c ≤ 255) :
    Calls Tryd.prog 20 #[.int .i64 3, .int .i64 c] w fun e w' => e = .returned (.tuple #[.int .i64 (refRowOf 3 c).1, .int .u64 (refRowOf 3 c).2.1, .int .u64 (refRowOf 3 c).2.2]) ∧ w' = w := by
  by_cases h0 : 144 ≤ c ∧ c ≤ 159
  · obtain ⟨l0, u0⟩ := h0
    have E : Hid (refRowOf 3 c = (0, c - 144, 0)) := Lib.hid (by unfold refRowOf; rw [show rowsOf 3 = listsL from rfl]; unfold listsL; rw [List.find?_cons_of_pos (by simp; omega)]; simp)
    have i1 : IntKind.u64.wrap (c - 144) = c - 144 := IntWalk.u64_in _ (by omega)
    have i2 : IntKind.i64.wrap (c - 144) = c - 144 := IntWalk.i64_in _ (by omega)
    go_enter Tryd.func20, Tryd.ntmps20
    go_wp2
    all_goals
      go_ret3
      rw [E.out]
      exact ⟨rfl, rfl⟩
  by_cases h1 : c = 220
  · subst h1
    have E : Hid (refRowOf 3 220 = (2, 0, 16)) := Lib.hid (by decide)
    go_enter Tryd.func20, Tryd.ntmps20
    go_wp2
    all_goals
      go_ret3
      rw [E.out]
      exact ⟨rfl, rfl⟩
  have q1 : (c == 220) = false := by simpa using h1
  have E : Hid (refRowOf 3 c = (-1, 0, 0)) := Lib.hid (by unfold refRowOf; rw [show rowsOf 3 = listsL from rfl]; unfold listsL; rw [List.find?_cons_of_neg (by simp; omega), List.find?_cons_of_neg (by simp; omega), List.find?_nil])
  go_enter Tryd.func20, Tryd.ntmps20
  go_wp2
  all_goals
    go_ret3
    rw [E.out]
    exact ⟨rfl, rfl⟩

set_option maxRecDepth 100000 in
set_option maxHeartbeats 2000000 in
theorem refRow_4 (c : Int) (w : World) (c0 : 0 ≤ c) (c1 : c ≤ 255) :
    Calls Tryd.prog 20 #[.int .i64 4, .int .i64 c] w fun e w' => e = .returned (.tuple #[.int .i64 (refRowOf 4 c).1, .int .u64 (refRowOf 4 c).2.1, .int .u64 (refRowOf 4 c).2.2]) ∧ w' = w := by
  by_cases h0 : 128 ≤ c ∧ c ≤ 143
  · obtain ⟨l0, u0⟩ := h0
    have E : Hid (refRowOf 4 c = (0, c - 128, 0)) := Lib.hid (by unfold refRowOf; rw [show rowsOf 4 = pairsL from rfl]; unfold pairsL; rw [List.find?_cons_of_pos (by simp; omega)]; simp)
    have i1 : IntKind.u64.wrap (c - 128) = c - 128 := IntWalk.u64_in _ (by omega)
    have i2 : IntKind.i64.wrap (c - 128) = c - 128 := IntWalk.i64_in _ (by omega)
    go_enter Tryd.func20, Tryd.ntmps20
    go_wp2
    all_goals
      go_ret3
      rw [E.out]
      exact ⟨rfl, rfl⟩
  by_cases h1 : c = 222
  · subst h1
    have E : Hid (refRowOf 4 222 = (2, 0, 16)) := Lib.hid (by decide)
    go_enter Tryd.func20, Tryd.ntmps20
    go_wp2
    all_goals
      go_ret3
      rw [E.out]
      exact ⟨rfl, rfl⟩
  have q1 : (c == 222) = false := by simpa using h1
  have E : Hid (refRowOf 4 c = (-1, 0, 0)) := Lib.hid (by unfold refRowOf; rw [show rowsOf 4 = pairsL from rfl]; unfold pairsL; rw [List.find?_cons_of_neg (by simp; omega), List.find?_cons_of_neg (by simp; omega), List.find?_nil])
  go_enter Tryd.func20, Tryd.ntmps20
  go_wp2
  all_goals
    go_ret3
    rw [E.out]
    exact ⟨rfl, rfl⟩

theorem refRow_any (sort : Nat) (h5 : sort < 5) (c : Int) (w : World) (c0 : 0 ≤ c) (c1 : c ≤ 255) :
    Calls Tryd.prog 20 #[.int .i64 sort, .int .i64 c] w fun e w' => e = .returned (.tuple #[.int .i64 (refRowOf sort c).1, .int .u64 (refRowOf sort c).2.1, .int .u64 (refRowOf sort c).2.2]) ∧ w' = w := by
  rcases (by omega : sort = 0 ∨ sort = 1 ∨ sort = 2 ∨ sort = 3 ∨ sort = 4) with rfl | rfl | rfl | rfl | rfl
  · exact refRow_0 c w c0 c1
  · exact refRow_1 c w c0 c1
  · exact refRow_2 c w c0 c1
  · exact refRow_3 c w c0 c1
  · exact refRow_4 c w c0 c1
end Go.Proofs.YtmcmapcijncblaaDoor
