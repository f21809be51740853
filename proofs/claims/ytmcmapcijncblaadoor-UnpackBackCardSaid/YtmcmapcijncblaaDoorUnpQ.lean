/- Plain: what is taken of bytes is what lies there, laid the shortest way. -/
import Derived.Test.YtmcmapcijncblaaDoorLaidH
namespace Go.Proofs.YtmcmapcijncblaaDoor
open Go.RowKit
set_option linter.unusedSimpArgs false
set_option linter.unusedVariables false

theorem rowFor_eq {sort : Nat} (h5 : sort < 5) {r : URow} {n : Int} {s : ByteArray} (hr : r ∈ rowsOf sort) (h1 : r.least ≤ n) (h2 : r.lo ≤ byte s 0) (h3 : byte s 0 ≤ r.hi) (hn : n = (if r.size = 0 then byte s 0 - r.lo else be s r.size.toNat)) :
    r = rowFor sort n ∧ (r.size = 0 ∨ r.lo = r.hi) := by
  have b1 := be_bd s 1
  have b2 := be_bd s 2
  have b4 := be_bd s 4
  have b8 := be_bd s 8
  simp only [Int.reducePow] at b1 b2 b4 b8
  match sort, h5 with
  | 0, _ =>
    simp only [rowsOf, numsL, List.mem_cons, List.not_mem_nil, or_false] at hr
    rcases hr with rfl | rfl | rfl | rfl | rfl <;> simp at h1 h2 h3 hn ⊢ <;> unfold rowFor <;> simp only [] <;> (repeat (first | rw [if_pos (by omega)] | rw [if_neg (by omega)]))
  | 1, _ =>
    simp only [rowsOf, binsL, List.mem_cons, List.not_mem_nil, or_false] at hr
    rcases hr with rfl | rfl <;> simp at h1 h2 h3 hn ⊢ <;> unfold rowFor <;> simp only [] <;> (repeat (first | rw [if_pos (by omega)] | rw [if_neg (by omega)]))
  | 2, _ =>
    simp only [rowsOf, strsL, List.mem_cons, List.not_mem_nil, or_false] at hr
    rcases hr with rfl | rfl | rfl <;> simp at h1 h2 h3 hn ⊢ <;> unfold rowFor <;> simp only [] <;> (repeat (first | rw [if_pos (by omega)] | rw [if_neg (by omega)]))
  | 3, _ =>
    simp only [rowsOf, listsL, List.mem_cons, List.not_mem_nil, or_false] at hr
    rcases hr with rfl | rfl <;> simp at h1 h2 h3 hn ⊢ <;> unfold rowFor <;> simp only [] <;> (repeat (first | rw [if_pos (by omega)] | rw [if_neg (by omega)]))
  | 4, _ =>
    simp only [rowsOf, pairsL, List.mem_cons, List.not_mem_nil, or_false] at hr
    rcases hr with rfl | rfl <;> simp at h1 h2 h3 hn ⊢ <;> unfold rowFor <;> simp only [] <;> (repeat (first | rw [if_pos (by omega)] | rw [if_neg (by omega)]))

theorem rows_size {sort : Nat} : ∀ r ∈ rowsOf sort, 0 ≤ r.size := by
  unfold rowsOf
  split <;> decide
theorem drop_tail {α : Type} {l p q : List α} (h : l = p ++ q) {k : Nat} (hk : k = l.length - q.length) : l.drop k = q := by
  subst hk h
  rw [List.length_append, Nat.add_sub_cancel, List.drop_left]

theorem head_laid {sort : Nat} {s rest : ByteArray} {n : Int} (h5 : sort < 5) (h : headOf s (rowsOf sort) = .ok (n, rest)) : s.data.toList = headB (rowFor sort n) n ++ rest.data.toList ∧ 0 ≤ n ∧ n ≤ 18446744073709551615 := by
  have hok : ∀ i, (unth (rowsOf sort) i).Ok := by
    match sort, h5 with
    | 0, _ => exact numsL_ok
    | 1, _ => exact binsL_ok
    | 2, _ => exact strsL_ok
    | 3, _ => exact listsL_ok
    | 4, _ => exact pairsL_ok
  have hb := head_bd hok h
  obtain ⟨r, hm, hl, h2, h3, h4, hn, hr⟩ := head_split rows_size h
  obtain ⟨e, hx⟩ := rowFor_eq h5 hm hl h2 h3 hn
  rw [← e]
  exact ⟨head_bytes h2 h3 h4 hn hr hx, hb.1, hb.2.1⟩

/-- What is taken, laid by hand, is what was read. -/
theorem take_laid {sort : Nat} {s t : ByteArray} {a a' : Nat} {most n : Int} (h5 : sort < 5) (ha : a ≤ s.size) (h : takeOf sort s a most = .ok (n, t, a')) :
    s.data.toList.drop a = (laidOf sort n t).data.toList ++ s.data.toList.drop a' ∧ a' = a + (laidOf sort n t).size ∧ a' ≤ s.size ∧ 0 ≤ n ∧ n ≤ 18446744073709551615 ∧ t.size ≤ s.size := by
  unfold takeOf at h
  cases hh : headOf (s.extract a s.size) (rowsOf sort) with
  | error k => rw [hh] at h; cases h
  | ok x =>
    obtain ⟨m, rest⟩ := x
    rw [hh] at h
    simp only at h
    obtain ⟨hb, n0, n1⟩ := head_laid h5 hh
    rw [Lib.extract_data, List.take_of_length_le (by rw [List.length_drop, ba_len]; omega)] at hb
    have hs : s.data.toList = s.data.toList.take a ++ headB (rowFor sort m) m ++ rest.data.toList := by
      rw [List.append_assoc, ← hb, List.take_append_drop]
    split at h
    · cases h
    · split at h
      · next h12 =>
        split at h
        · cases h
        · cases h
          have hrs : rest.data.toList = (rest.extract 0 n.toNat).data.toList ++ rest.data.toList.drop n.toNat := by
            rw [Lib.extract_data, List.drop_zero, Nat.sub_zero, List.take_append_drop]
          have hs2 : s.data.toList = (s.data.toList.take a ++ headB (rowFor sort n) n ++ (rest.extract 0 n.toNat).data.toList) ++ rest.data.toList.drop n.toNat := by
            rw [List.append_assoc, ← hrs]; exact hs
          have hd := drop_tail hs2 (k := s.size - (rest.size - n.toNat)) (by rw [ba_len, List.length_drop, ba_len])
          have hl := congrArg List.length hs2
          rw [List.length_append, List.length_append, List.length_append, List.length_take, List.length_drop, ba_len, ba_len, ba_len] at hl
          have hz : (laidOf sort n (rest.extract 0 n.toNat)).size = (headB (rowFor sort n) n).length + (rest.extract 0 n.toNat).size := by
            rw [← ba_len]; unfold laidOf; rw [if_pos h12]; simp only [List.toList_toArray, List.length_append, ba_len]
          have he : (rest.extract 0 n.toNat).size = n.toNat := by rw [ByteArray.size_extract]; omega
          refine ⟨?_, by omega, by omega, n0, n1, by omega⟩
          rw [hb, hd, hrs]
          unfold laidOf; rw [if_pos h12]
          simp
      · next h12 =>
        cases h
        have hd := drop_tail hs (k := s.size - rest.size) (by rw [ba_len, ba_len])
        have hl := congrArg List.length hs
        rw [List.length_append, List.length_append, List.length_take, ba_len, ba_len] at hl
        have hz : (laidOf sort n ⟨#[]⟩).size = (headB (rowFor sort n) n).length := by
          rw [← ba_len]; unfold laidOf; rw [if_neg h12]; simp
        refine ⟨?_, by omega, by omega, n0, n1, Nat.zero_le _⟩
        rw [hb, hd]
        unfold laidOf; rw [if_neg h12]
        simp
end Go.Proofs.YtmcmapcijncblaaDoor
