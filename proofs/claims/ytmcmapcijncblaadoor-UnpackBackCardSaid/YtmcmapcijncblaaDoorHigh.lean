/- The statement's own layer of package sextantlaw06: a number's bytes, the highest first; a thing laid by hand. -/
import Derived.Test.YtmcmapcijncblaaDoorUnpF
import Derived.Laws.BytesArg
namespace Go.Proofs.YtmcmapcijncblaaDoor
open Go.RowKit
set_option linter.unusedSimpArgs false
set_option linter.unusedVariables false

/-- The bytes of a number, the highest first. -/
def hiL (n : Int) : Nat → List Int
  | 0 => []
  | k + 1 => (n / 256 ^ k % 256) :: hiL n k

theorem hiL_len (n : Int) : ∀ k, (hiL n k).length = k
  | 0 => rfl
  | k + 1 => by rw [hiL, List.length_cons, hiL_len n k]

set_option maxRecDepth 100000 in
theorem high_any (w : World) (n : Int) (k : Nat) (hk : k ≤ 8) (h0 : 0 ≤ n) (h1 : n ≤ 18446744073709551615) :
    Calls Tryd.prog 24 #[.int .u64 n, .int .i64 k] w fun e w' => e = .returned (.string (strOfNums (hiL n k))) ∧ Below w.heap.size w w' := by
  go_enter Tryd.func24, Tryd.ntmps24
  have hw : IntKind.i64.wrap ((k : Int) - 1) = k - 1 := IntWalk.i64_in _ (by omega)
  go_wp2_with fail
  go_loopg [5, 6] k (fun g s i wr => ∃ j : Nat, g = j ∧ j ≤ k ∧ i = .int .i64 ((j : Int) - 1) ∧ (∃ b : ByteArray, s = .string b ∧ b ++ strOfNums (hiL n j) = strOfNums (hiL n k)) ∧ Hid (Below w.heap.size w wr))
  case atStart =>
    exact ⟨k, rfl, Nat.le_refl _, rfl, ⟨_, rfl, ByteArray.ext (Array.ext' (by simp))⟩, (Below.refl _ _)⟩
  case round =>
    obtain ⟨j, hj0, hj, rfl, ⟨b, rfl, hb⟩, HX⟩ := hrel
    by_cases h : j = 0
    · subst h
      go_wp2_with fail
      go_ret
      refine ⟨congrArg (fun s => Ending.returned (.string s)) ?_, HX.out⟩
      rw [← hb]
      exact ByteArray.ext (Array.ext' (by simp [hiL, strOfNums]))
    · obtain ⟨i, rfl⟩ : ∃ i, j = i + 1 := ⟨j - 1, by omega⟩
      have e1 : ((i + 1 : Nat) : Int) - 1 = i := by omega
      rw [e1]
      go_wp2
      obtain ⟨x, hx⟩ : ∃ x, n / 2 ^ (8 * i) % 256 = x := ⟨_, rfl⟩
      rw [hx]
      obtain ⟨V, hV⟩ : ∃ V, wr.alloc (Obj.cells #[Value.int IntKind.u8 x] 5) = V := ⟨_, rfl⟩
      have hc := run_convert_bytes_arg (P := Tryd.prog) V 22 5 Tryd.underlying22 Tryd.underlying5 wr.heap.size 0 1 1 [x] rfl (fun i hi => by
        obtain rfl : i = 0 := by omega
        rw [← hV]; exact block_cell (heap_alloc_new _ _) 0) 9 Tryd.underlying9
      have HB : Hid (Below w.heap.size w V) := Lib.hid (by rw [← hV]; exact balloc HX.out _)
      have HHX : Hid (hiL n (i + 1) = x :: hiL n i) := Lib.hid (by rw [hiL, ← hx, show (256 : Int) ^ i = 2 ^ (8 * i) by rw [Int.pow_mul]; rfl])
      rw [hV, hc]
      obtain ⟨z, hz⟩ : ∃ z, strOfNums [x] = z := ⟨_, rfl⟩
      have zs : z.size = 1 := by rw [← hz, strOfNums_size]; rfl
      have bs : b.size ≤ 8 := by
        have := congrArg ByteArray.size hb
        rw [ByteArray.size_append, strOfNums_size, strOfNums_size, hiL_len, hiL_len] at this
        omega
      have HZ := Lib.hid hz
      rw [hz]
      clear hc hV hx hz
      have hw2 : IntKind.i64.wrap ((i : Int) - 1) = i - 1 := IntWalk.i64_in _ (by omega)
      go_wp2_with fail
      go_roundg i
      case measure => omega
      case rel =>
        refine ⟨i, rfl, by omega, rfl, ⟨_, rfl, ?_⟩, HB.out⟩
        rw [← hb, ← HZ.out, HHX.out]
        exact ByteArray.ext (Array.ext' (by simp [hiL, strOfNums]))
end Go.Proofs.YtmcmapcijncblaaDoor
