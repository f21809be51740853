/- Plain: what is laid the shortest way is taken as it was laid. -/
import Derived.Test.YtmcmapcijncblaaDoorUnpQ
namespace Go.Proofs.YtmcmapcijncblaaDoor
open Go.RowKit
set_option linter.unusedSimpArgs false
set_option linter.unusedVariables false

theorem byte_of {s : ByteArray} {x : Int} {R : List UInt8} (x0 : 0 ≤ x) (x1 : x ≤ 255) (h : s.data.toList = toB x :: R) : byte s 0 = x := by
  unfold byte toB at *
  rw [h]
  simp
  omega

theorem find_row {sort : Nat} (h5 : sort < 5) {n : Int} {s : ByteArray} {R : List UInt8} (n0 : 0 ≤ n) (h : s.data.toList = headB (rowFor sort n) n ++ R) :
    (rowsOf sort).find? (fun r => decide (r.lo ≤ byte s 0) && decide (byte s 0 ≤ r.hi)) = some (rowFor sort n) := by
  obtain ⟨r, hr⟩ : ∃ r, rowFor sort n = r := ⟨_, rfl⟩
  rw [hr] at h ⊢
  have hb : ∀ {x : Int}, (if r.size = 0 then r.lo + n else r.lo) = x → 0 ≤ x → x ≤ 255 → byte s 0 = x := fun {x} hx x0 x1 => by
    unfold headB at h
    by_cases hz : r.size = 0
    · rw [if_pos hz] at h hx; subst hx; exact byte_of x0 x1 h
    · rw [if_neg hz] at h hx; subst hx; exact byte_of x0 x1 (by rw [h, List.cons_append])
  unfold rowFor at hr
  match sort, h5 with
  | 0, _ | 1, _ | 2, _ | 3, _ | 4, _ =>
    simp only [] at hr
    (repeat' split at hr) <;> subst hr <;> simp only [Int.reduceEq, ↓reduceIte] at hb <;> have hb := hb rfl (by omega) (by omega) <;> simp only [rowsOf, numsL, binsL, strsL, listsL, pairsL, hb] <;>
      first | rfl | exact List.find?_cons_of_pos (by simp; omega)

/-- The greatest number of a row's bytes. -/
theorem row_fits {sort : Nat} (h5 : sort < 5) {n : Int} (n0 : 0 ≤ n) (n1 : n ≤ 18446744073709551615) (n2 : sort ≠ 0 → n ≤ 65535) :
    (rowFor sort n).least ≤ n ∧ 0 ≤ (rowFor sort n).size ∧ ((rowFor sort n).size ≠ 0 → n < 256 ^ (rowFor sort n).size.toNat) := by
  unfold rowFor
  match sort, h5 with
  | 0, _ | 1, _ | 2, _ | 3, _ | 4, _ =>
    simp only []
    have n2 := n2
    (repeat' split) <;> simp <;> omega

theorem rowFor_lo {sort : Nat} (h5 : sort < 5) {n : Int} (n0 : 0 ≤ n) (h : (rowFor sort n).size = 0) : 0 ≤ (rowFor sort n).lo + n ∧ (rowFor sort n).lo + n ≤ 255 := by
  revert h
  unfold rowFor
  match sort, h5 with
  | 0, _ | 1, _ | 2, _ | 3, _ | 4, _ =>
    simp only []
    (repeat' split) <;> simp <;> omega

theorem headB_len (r : URow) (n : Int) : (headB r n).length = 1 + r.size.toNat := by
  unfold headB
  split
  · next h => rw [h]; rfl
  · rw [List.length_cons, List.length_map, hiL_len]; omega

theorem head_of_laid {sort : Nat} (h5 : sort < 5) {n : Int} {s : ByteArray} {R : List UInt8} (n0 : 0 ≤ n) (n1 : n ≤ 18446744073709551615) (n2 : sort ≠ 0 → n ≤ 65535) (h : s.data.toList = headB (rowFor sort n) n ++ R) :
    headOf s (rowsOf sort) = .ok (n, ⟨R.toArray⟩) := by
  have hl := congrArg List.length h
  rw [ba_len, List.length_append, headB_len] at hl
  have hf := find_row h5 n0 h
  obtain ⟨f1, f2, f3⟩ := row_fits h5 n0 n1 n2
  rw [head_row (by omega) hf, if_neg (by omega)]
  have hp := List.find?_some hf
  simp only [Bool.and_eq_true, decide_eq_true_eq] at hp
  have hv : (if (rowFor sort n).size = 0 then byte s 0 - (rowFor sort n).lo else be s (rowFor sort n).size.toNat) = n := by
    by_cases hz : (rowFor sort n).size = 0
    · rw [if_pos hz]
      have hd := rowFor_lo h5 n0 hz
      have := byte_of (s := s) (x := (rowFor sort n).lo + n) hd.1 hd.2 (by rw [h]; unfold headB; rw [if_pos hz]; rfl)
      omega
    · rw [if_neg hz]
      refine be_of_hi n0 (f3 hz) ?_ (R := R) (c := toB (rowFor sort n).lo)
      rw [h]; unfold headB; rw [if_neg hz, List.cons_append]
  rw [hv, if_neg (by omega)]
  congr 2
  refine ba_ext ?_
  rw [Lib.extract_data, List.take_of_length_le (by rw [List.length_drop, ba_len]; omega), h, ← headB_len (rowFor sort n) n, List.drop_left]

/-- What is laid the shortest way is taken as it was laid. -/
theorem laid_take {sort : Nat} (h5 : sort < 5) {n : Int} {s t : ByteArray} {a : Nat} {R : List UInt8} (ha : a ≤ s.size) (n0 : 0 ≤ n) (n1 : n ≤ 18446744073709551615) (n2 : sort ≠ 0 → n ≤ 65535)
    (ht : if sort = 1 ∨ sort = 2 then (t.size : Int) = n else t = ⟨#[]⟩) (h : s.data.toList.drop a = (laidOf sort n t).data.toList ++ R) :
    takeOf sort s a 65535 = .ok (n, t, a + (laidOf sort n t).size) := by
  have hd : (s.extract a s.size).data.toList = headB (rowFor sort n) n ++ ((if sort = 1 ∨ sort = 2 then t.data.toList else []) ++ R) := by
    rw [Lib.extract_data, List.take_of_length_le (by rw [List.length_drop, ba_len]; omega), h]
    unfold laidOf
    simp
  have hh := head_of_laid h5 n0 n1 n2 hd
  have hl := congrArg List.length h
  rw [List.length_drop, List.length_append, ba_len, ba_len] at hl
  have hz : (laidOf sort n t).size = (headB (rowFor sort n) n).length + (if sort = 1 ∨ sort = 2 then t.data.toList else []).length := by
    rw [← ba_len]; unfold laidOf; simp
  unfold takeOf
  rw [hh]
  simp only
  rw [if_neg (by intro e; have := n2 e.1; omega)]
  by_cases h12 : sort = 1 ∨ sort = 2
  · rw [if_pos h12] at ht hz ⊢
    have e1 : (⟨(t.data.toList ++ R).toArray⟩ : ByteArray).size = t.size + R.length := by rw [← ba_len, List.toList_toArray, List.length_append, ba_len]
    have e2 : (⟨(t.data.toList ++ R).toArray⟩ : ByteArray).extract 0 n.toNat = t := ba_ext (by
      rw [Lib.extract_data, List.drop_zero, Nat.sub_zero, List.take_left' (by rw [ba_len]; omega)])
    simp only [if_pos h12] at *
    rw [if_neg (by rw [e1]; omega), e1, e2]
    rw [ba_len] at hz
    congr 3
    omega
  · rw [if_neg h12] at ht hz ⊢
    subst ht
    have e1 : (⟨R.toArray⟩ : ByteArray).size = R.length := by rw [← ba_len]
    simp only [if_neg h12, List.nil_append, List.length_nil] at *
    rw [e1]
    congr 3
    omega
end Go.Proofs.YtmcmapcijncblaaDoor
