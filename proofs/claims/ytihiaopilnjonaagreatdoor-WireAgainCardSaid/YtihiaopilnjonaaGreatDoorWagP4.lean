/- Parts of the proof, one behind the other. -/
import Derived.Test.YtihiaopilnjonaaGreatDoorWagP3
namespace Go.Proofs.YtihiaopilnjonaaGreatDoor
open Go.RowKit
set_option linter.unusedSimpArgs false
set_option linter.unusedVariables false
def laidOf (sort : Nat) (n : Int) (t : ByteArray) : ByteArray := ⟨(headB (rowFor sort n) n ++ (if sort = 1 ∨ sort = 2 then t.data.toList else [])).toArray⟩
theorem rowFor_eq {sort : Nat} (h5 : sort < 5) {r : URow} {n : Int} {s : ByteArray} (hr : r ∈ rowsOf sort) (h1 : r.least ≤ n) (h2 : r.lo ≤ byte s 0) (h3 : byte s 0 ≤ r.hi) (hn : n = (if r.size = 0 then byte s 0 - r.lo else be s r.size.toNat)) :
    r = rowFor sort n ∧ (r.size = 0 ∨ r.lo = r.hi) := by
  have b1 := be_bd s 1
  have b2 := be_bd s 2
  have b4 := be_bd s 4
  have b8 := be_bd s 8
  simp only [Int.reducePow] at b1 b2 b4 b8
  match sort, h5 with
  | 0, _ =>
    simp only [rowsOf, numsL, List.mem_cons, List.not_mem_nil, or_false] at hr
    rcases hr with rfl | rfl | rfl | rfl | rfl <;> simp at h1 h2 h3 hn ⊢ <;> unfold rowFor <;> simp only [] <;> (repeat (first | rw [if_pos (by omega)] | rw [if_neg (by omega)]))
  | 1, _ =>
    simp only [rowsOf, binsL, List.mem_cons, List.not_mem_nil, or_false] at hr
    rcases hr with rfl | rfl <;> simp at h1 h2 h3 hn ⊢ <;> unfold rowFor <;> simp only [] <;> (repeat (first | rw [if_pos (by omega)] | rw [if_neg (by omega)]))
  | 2, _ =>
    simp only [rowsOf, strsL, List.mem_cons, List.not_mem_nil, or_false] at hr
    rcases hr with rfl | rfl | rfl <;> simp at h1 h2 h3 hn ⊢ <;> unfold rowFor <;> simp only [] <;> (repeat (first | rw [if_pos (by omega)] | rw [if_neg (by omega)]))
  | 3, _ =>
    simp only [rowsOf, listsL, List.mem_cons, List.not_mem_nil, or_false] at hr
    rcases hr with rfl | rfl <;> simp at h1 h2 h3 hn ⊢ <;> unfold rowFor <;> simp only [] <;> (repeat (first | rw [if_pos (by omega)] | rw [if_neg (by omega)]))
  | 4, _ =>
    simp only [rowsOf, pairsL, List.mem_cons, List.not_mem_nil, or_false] at hr
    rcases hr with rfl | rfl <;> simp at h1 h2 h3 hn ⊢ <;> unfold rowFor <;> simp only [] <;> (repeat (first | rw [if_pos (by omega)] | rw [if_neg (by omega)]))
theorem rows_size {sort : Nat} : ∀ r ∈ rowsOf sort, 0 ≤ r.size := by
  unfold rowsOf
  split <;> decide
theorem drop_tail {α : Type} {l p q : List α} (h : l = p ++ q) {k : Nat} (hk : k = l.length - q.length) : l.drop k = q := by
  subst hk h
  rw [List.length_append, Nat.add_sub_cancel, List.drop_left]
theorem head_laid {sort : Nat} {s rest : ByteArray} {n : Int} (h5 : sort < 5) (h : headOf s (rowsOf sort) = .ok (n, rest)) : s.data.toList = headB (rowFor sort n) n ++ rest.data.toList ∧ 0 ≤ n ∧ n ≤ 18446744073709551615 := by
  have hok : ∀ i, (unth (rowsOf sort) i).Ok := by
    match sort, h5 with
    | 0, _ => exact numsL_ok
    | 1, _ => exact binsL_ok
    | 2, _ => exact strsL_ok
    | 3, _ => exact listsL_ok
    | 4, _ => exact pairsL_ok
  have hb := head_bd hok h
  obtain ⟨r, hm, hl, h2, h3, h4, hn, hr⟩ := head_split rows_size h
  obtain ⟨e, hx⟩ := rowFor_eq h5 hm hl h2 h3 hn
  rw [← e]
  exact ⟨head_bytes h2 h3 h4 hn hr hx, hb.1, hb.2.1⟩
theorem take_laid {sort : Nat} {s t : ByteArray} {a a' : Nat} {most n : Int} (h5 : sort < 5) (ha : a ≤ s.size) (h : takeOf sort s a most = .ok (n, t, a')) :
    s.data.toList.drop a = (laidOf sort n t).data.toList ++ s.data.toList.drop a' ∧ a' = a + (laidOf sort n t).size ∧ a' ≤ s.size ∧ 0 ≤ n ∧ n ≤ 18446744073709551615 ∧ t.size ≤ s.size := by
  unfold takeOf at h
  cases hh : headOf (s.extract a s.size) (rowsOf sort) with
  | error k => rw [hh] at h; cases h
  | ok x =>
    obtain ⟨m, rest⟩ := x
    rw [hh] at h
    simp only at h
    obtain ⟨hb, n0, n1⟩ := head_laid h5 hh
    rw [Lib.extract_data, List.take_of_length_le (by rw [List.length_drop, ba_len]; omega)] at hb
    have hs : s.data.toList = s.data.toList.take a ++ headB (rowFor sort m) m ++ rest.data.toList := by
      rw [List.append_assoc, ← hb, List.take_append_drop]
    split at h
    · cases h
    · split at h
      · next h12 =>
        split at h
        · cases h
        · cases h
          have hrs : rest.data.toList = (rest.extract 0 n.toNat).data.toList ++ rest.data.toList.drop n.toNat := by
            rw [Lib.extract_data, List.drop_zero, Nat.sub_zero, List.take_append_drop]
          have hs2 : s.data.toList = (s.data.toList.take a ++ headB (rowFor sort n) n ++ (rest.extract 0 n.toNat).data.toList) ++ rest.data.toList.drop n.toNat := by
            rw [List.append_assoc, ← hrs]; exact hs
          have hd := drop_tail hs2 (k := s.size - (rest.size - n.toNat)) (by rw [ba_len, List.length_drop, ba_len])
          have hl := congrArg List.length hs2
          rw [List.length_append, List.length_append, List.length_append, List.length_take, List.length_drop, ba_len, ba_len, ba_len] at hl
          have hz : (laidOf sort n (rest.extract 0 n.toNat)).size = (headB (rowFor sort n) n).length + (rest.extract 0 n.toNat).size := by
            rw [← ba_len]; unfold laidOf; rw [if_pos h12]; simp only [List.toList_toArray, List.length_append, ba_len]
          have he : (rest.extract 0 n.toNat).size = n.toNat := by rw [ByteArray.size_extract]; omega
          refine ⟨?_, by omega, by omega, n0, n1, by omega⟩
          rw [hb, hd, hrs]
          unfold laidOf; rw [if_pos h12]
          simp
      · next h12 =>
        cases h
        have hd := drop_tail hs (k := s.size - rest.size) (by rw [ba_len, ba_len])
        have hl := congrArg List.length hs
        rw [List.length_append, List.length_append, List.length_take, ba_len, ba_len] at hl
        have hz : (laidOf sort n ⟨#[]⟩).size = (headB (rowFor sort n) n).length := by
          rw [← ba_len]; unfold laidOf; rw [if_neg h12]; simp
        refine ⟨?_, by omega, by omega, n0, n1, Nat.zero_le _⟩
        rw [hb, hd]
        unfold laidOf; rw [if_neg h12]
        simp
end Go.Proofs.YtihiaopilnjonaaGreatDoor
namespace Go.Proofs.YtihiaopilnjonaaGreatDoor
open Go.RowKit
set_option linter.unusedSimpArgs false
set_option linter.unusedVariables false
theorem byte_of {s : ByteArray} {x : Int} {R : List UInt8} (x0 : 0 ≤ x) (x1 : x ≤ 255) (h : s.data.toList = toB x :: R) : byte s 0 = x := by
  unfold byte toB at *
  rw [h]
  simp
  omega
theorem find_row {sort : Nat} (h5 : sort < 5) {n : Int} {s : ByteArray} {R : List UInt8} (n0 : 0 ≤ n) (h : s.data.toList = headB (rowFor sort n) n ++ R) :
    (rowsOf sort).find? (fun r => decide (r.lo ≤ byte s 0) && decide (byte s 0 ≤ r.hi)) = some (rowFor sort n) := by
  obtain ⟨r, hr⟩ : ∃ r, rowFor sort n = r := ⟨_, rfl⟩
  rw [hr] at h ⊢
  have hb : ∀ {x : Int}, (if r.size = 0 then r.lo + n else r.lo) = x → 0 ≤ x → x ≤ 255 → byte s 0 = x := fun {x} hx x0 x1 => by
    unfold headB at h
    by_cases hz : r.size = 0
    · rw [if_pos hz] at h hx; subst hx; exact byte_of x0 x1 h
    · rw [if_neg hz] at h hx; subst hx; exact byte_of x0 x1 (by rw [h, List.cons_append])
  unfold rowFor at hr
  match sort, h5 with
  | 0, _ | 1, _ | 2, _ | 3, _ | 4, _ =>
    simp only [] at hr
    (repeat' split at hr) <;> subst hr <;> simp only [Int.reduceEq, ↓reduceIte] at hb <;> have hb := hb rfl (by omega) (by omega) <;> simp only [rowsOf, numsL, binsL, strsL, listsL, pairsL, hb] <;>
      first | rfl | exact List.find?_cons_of_pos (by simp; omega)
theorem row_fits {sort : Nat} (h5 : sort < 5) {n : Int} (n0 : 0 ≤ n) (n1 : n ≤ 18446744073709551615) (n2 : sort ≠ 0 → n ≤ 65535) :
    (rowFor sort n).least ≤ n ∧ 0 ≤ (rowFor sort n).size ∧ ((rowFor sort n).size ≠ 0 → n < 256 ^ (rowFor sort n).size.toNat) := by
  unfold rowFor
  match sort, h5 with
  | 0, _ | 1, _ | 2, _ | 3, _ | 4, _ =>
    simp only []
    have n2 := n2
    (repeat' split) <;> simp <;> omega
theorem rowFor_lo {sort : Nat} (h5 : sort < 5) {n : Int} (n0 : 0 ≤ n) (h : (rowFor sort n).size = 0) : 0 ≤ (rowFor sort n).lo + n ∧ (rowFor sort n).lo + n ≤ 255 := by
  revert h
  unfold rowFor
  match sort, h5 with
  | 0, _ | 1, _ | 2, _ | 3, _ | 4, _ =>
    simp only []
    (repeat' split) <;> simp <;> omega
theorem headB_len (r : URow) (n : Int) : (headB r n).length = 1 + r.size.toNat := by
  unfold headB
  split
  · next h => rw [h]; rfl
  · rw [List.length_cons, List.length_map, hiL_len]; omega
theorem head_of_laid {sort : Nat} (h5 : sort < 5) {n : Int} {s : ByteArray} {R : List UInt8} (n0 : 0 ≤ n) (n1 : n ≤ 18446744073709551615) (n2 : sort ≠ 0 → n ≤ 65535) (h : s.data.toList = headB (rowFor sort n) n ++ R) :
    headOf s (rowsOf sort) = .ok (n, ⟨R.toArray⟩) := by
  have hl := congrArg List.length h
  rw [ba_len, List.length_append, headB_len] at hl
  have hf := find_row h5 n0 h
  obtain ⟨f1, f2, f3⟩ := row_fits h5 n0 n1 n2
  rw [head_row (by omega) hf, if_neg (by omega)]
  have hp := List.find?_some hf
  simp only [Bool.and_eq_true, decide_eq_true_eq] at hp
  have hv : (if (rowFor sort n).size = 0 then byte s 0 - (rowFor sort n).lo else be s (rowFor sort n).size.toNat) = n := by
    by_cases hz : (rowFor sort n).size = 0
    · rw [if_pos hz]
      have hd := rowFor_lo h5 n0 hz
      have := byte_of (s := s) (x := (rowFor sort n).lo + n) hd.1 hd.2 (by rw [h]; unfold headB; rw [if_pos hz]; rfl)
      omega
    · rw [if_neg hz]
      refine be_of_hi n0 (f3 hz) ?_ (R := R) (c := toB (rowFor sort n).lo)
      rw [h]; unfold headB; rw [if_neg hz, List.cons_append]
  rw [hv, if_neg (by omega)]
  congr 2
  refine ba_ext ?_
  rw [Lib.extract_data, List.take_of_length_le (by rw [List.length_drop, ba_len]; omega), h, ← headB_len (rowFor sort n) n, List.drop_left]
theorem laid_take {sort : Nat} {most : Int} (h5 : sort < 5) {n : Int} {s t : ByteArray} {a : Nat} {R : List UInt8} (ha : a ≤ s.size) (n0 : 0 ≤ n) (n1 : n ≤ 18446744073709551615) (n2 : sort ≠ 0 → n ≤ 65535) (nm : sort ≠ 0 → n ≤ most)
    (ht : if sort = 1 ∨ sort = 2 then (t.size : Int) = n else t = ⟨#[]⟩) (h : s.data.toList.drop a = (laidOf sort n t).data.toList ++ R) :
    takeOf sort s a most = .ok (n, t, a + (laidOf sort n t).size) := by
  have hd : (s.extract a s.size).data.toList = headB (rowFor sort n) n ++ ((if sort = 1 ∨ sort = 2 then t.data.toList else []) ++ R) := by
    rw [Lib.extract_data, List.take_of_length_le (by rw [List.length_drop, ba_len]; omega), h]
    unfold laidOf
    simp
  have hh := head_of_laid h5 n0 n1 n2 hd
  have hl := congrArg List.length h
  rw [List.length_drop, List.length_append, ba_len, ba_len] at hl
  have hz : (laidOf sort n t).size = (headB (rowFor sort n) n).length + (if sort = 1 ∨ sort = 2 then t.data.toList else []).length := by
    rw [← ba_len]; unfold laidOf; simp
  unfold takeOf
  rw [hh]
  simp only
  rw [if_neg (by intro e; have := nm e.1; omega)]
  by_cases h12 : sort = 1 ∨ sort = 2
  · rw [if_pos h12] at ht hz ⊢
    have e1 : (⟨(t.data.toList ++ R).toArray⟩ : ByteArray).size = t.size + R.length := by rw [← ba_len, List.toList_toArray, List.length_append, ba_len]
    have e2 : (⟨(t.data.toList ++ R).toArray⟩ : ByteArray).extract 0 n.toNat = t := ba_ext (by
      rw [Lib.extract_data, List.drop_zero, Nat.sub_zero, List.take_left' (by rw [ba_len]; omega)])
    simp only [if_pos h12] at *
    rw [if_neg (by rw [e1]; omega), e1, e2]
    rw [ba_len] at hz
    congr 3
    omega
  · rw [if_neg h12] at ht hz ⊢
    subst ht
    have e1 : (⟨R.toArray⟩ : ByteArray).size = R.length := by rw [← ba_len]
    simp only [if_neg h12, List.nil_append, List.length_nil] at *
    rw [e1]
    congr 3
    omega
theorem laidOf_eq {sort : Nat} (h5 : sort < 5) {n : Int} (n0 : 0 ≤ n) (n2 : sort ≠ 0 → n ≤ 65535) (t : ByteArray) : laidOf sort n t = laidP sort n t := by
  have hh : headB (rowFor sort n) n = headP sort n := by
    match sort, h5 with
    | 0, _ =>
      rw [headP0]; unfold rowFor; simp only []
      by_cases c1 : n < 128
      · rw [if_pos c1, if_pos c1]; unfold headB; rw [if_pos rfl, Int.zero_add]
      · rw [if_neg c1, if_neg c1]
        by_cases c2 : n < 256
        · rw [if_pos c2, if_pos c2]; rfl
        · rw [if_neg c2, if_neg c2]
          by_cases c3 : n < 65536
          · rw [if_pos c3, if_pos c3]; rfl
          · rw [if_neg c3, if_neg c3]
            by_cases c4 : n < 4294967296
            · rw [if_pos c4, if_pos c4]; rfl
            · rw [if_neg c4, if_neg c4]; rfl
    | 1, _ =>
      have n2 := n2 (by decide)
      rw [headP1 (by omega)]; unfold rowFor; simp only []
      by_cases c1 : n < 256
      · rw [if_pos c1, if_pos c1]; rfl
      · rw [if_neg c1, if_neg c1]; rfl
    | 2, _ =>
      have n2 := n2 (by decide)
      rw [headP2 (by omega)]; unfold rowFor; simp only []
      by_cases c1 : n < 32
      · rw [if_pos c1, if_pos c1]; rfl
      · rw [if_neg c1, if_neg c1]
        by_cases c2 : n < 256
        · rw [if_pos c2, if_pos c2]; rfl
        · rw [if_neg c2, if_neg c2]; rfl
    | 3, _ =>
      have n2 := n2 (by decide)
      rw [headP3 (by omega)]; unfold rowFor; simp only []
      by_cases c1 : n < 16
      · rw [if_pos c1, if_pos c1]; rfl
      · rw [if_neg c1, if_neg c1]; rfl
    | 4, _ =>
      have n2 := n2 (by decide)
      rw [headP4 (by omega)]; unfold rowFor; simp only []
      by_cases c1 : n < 16
      · rw [if_pos c1, if_pos c1]; rfl
      · rw [if_neg c1, if_neg c1]; rfl
  refine ba_ext ?_
  unfold laidOf laidP
  rw [hh, ByteArray.data_append, Array.toList_append, baL_list]
  by_cases h12 : sort = 1 ∨ sort = 2
  · rw [if_pos h12, if_pos h12]
  · rw [if_neg h12, if_neg h12]; rfl
end Go.Proofs.YtihiaopilnjonaaGreatDoor
namespace Go.Proofs.YtihiaopilnjonaaGreatDoor
open Go.RowKit
set_option linter.unusedSimpArgs false
set_option linter.unusedVariables false
section
variable {B qb rb tb n : Nat} {T : TypeId} {w : World} {x0 : Rcd} {s : ByteArray}
theorem made_num (E : TEnv B qb rb tb n T w) (key : ByteArray) {o : Nat} (ho : o < n) (h0 : kindD (x0 o) = 0) : Calls Tryz.prog 109 #[.string key, .pointer (some ⟨tb, o, none⟩)] w (MadeG (fun w v => GSem B qb rb tb x0 T n s w v (gnum s key o)) w) :=
  (snum_any key tb o w).mono fun e w2 ⟨v, he, hs, hb⟩ => ⟨v.val, he, v, rfl, gsem_num (E.below hb) hs E.rlt E.tlt ho h0, hb⟩
theorem made_flag (E : TEnv B qb rb tb n T w) (key : ByteArray) {o : Nat} (ho : o < n) (h0 : kindD (x0 o) = 1) : Calls Tryz.prog 110 #[.string key, .pointer (some ⟨tb, o, none⟩)] w (MadeG (fun w v => GSem B qb rb tb x0 T n s w v (gflag s key o)) w) :=
  (sflag_any key tb o w).mono fun e w2 ⟨v, he, hs, hb⟩ => ⟨v.val, he, v, rfl, gsem_flag (E.below hb) hs E.rlt E.tlt ho h0, hb⟩
theorem made_dig (E : TEnv B qb rb tb n T w) (key : ByteArray) {o : Nat} (ho : o < n) : Calls Tryz.prog 111 #[.string key, .pointer (some ⟨tb, o, none⟩)] w (MadeG (fun w v => GSem B qb rb tb x0 T n s w v (gdig s key o)) w) :=
  (sdigest_any key tb o w).mono fun e w2 ⟨v, he, hs, hb⟩ => ⟨v.val, he, v, rfl, gsem_dig (E.below hb) hs E.rlt E.tlt ho, hb⟩
set_option maxRecDepth 100000 in
theorem dgs3_any (xb a : Nat) (he : RdEnv B w qb rb s a) (hx : w.heap[xb]? = some (.cells #[.string ⟨#[]⟩] 9 (0, 0))) (hne : xb ≠ rb) : Calls Tryz.prog 213 #[.pointer (some ⟨qb, 0, none⟩), .pointer (some ⟨xb, 0, none⟩)] w (ElIs (rdig s a) (fun y _ c => c = #[.string y]) rb xb 9 s w) := by
  have H := Lib.hid (dgRead_any B qb rb s a w he)
  have HX := Lib.hid hx
  clear he hx
  go_enter Tryz.func213, Tryz.ntmps213
  go_wp2_with fail
  refine H.out.mono ?_
  intro e w1 hh
  cases hr : rdig s a with
  | error f =>
    rw [hr] at hh
    obtain ⟨fb, rfl, hf, hE⟩ := vIs_err hh
    have HF := Lib.hid hf
    have HE := Lib.hid hE
    have HR := Lib.hid hr
    clear hh hf hE hr
    go_wp2
    refine ⟨rfl, ?_⟩
    rw [HR.out]
    exact ⟨Chg.of_ext HE.out, fb, rfl, HF.out⟩
  | ok y =>
    rw [hr] at hh
    obtain ⟨rfl, hrd, hle, hE⟩ := vIs_ok hh
    have hb1 : w1.heap[xb]? = some (.cells #[.string ⟨#[]⟩] 9 (0, 0)) := (hE.block _ (lt_of_block HX.out) (by simpa using hne)).trans HX.out
    have q0 : w1.cell? ⟨xb, 0, none⟩ = some (.string ⟨#[]⟩) := block_cell hb1 0
    have f0 : w1.frozen? ⟨xb, 0, none⟩ = false := block_free hb1 0
    have HB1 := Lib.hid hb1
    have HRD := Lib.hid hrd
    have HE := Lib.hid hE
    have HR := Lib.hid hr
    clear hh hrd hE hr hb1
    go_wp2
    go_end0
    rw [HR.out]
    exact ⟨(Chg.of_ext HE.out).set 0 _, rfl, block_setCell_ne HRD.out (by exact fun e => hne e.symm) _, hle, _, block_setCell HB1.out _, rfl⟩
theorem made_digs (E : TEnv B qb rb tb n T w) (key : ByteArray) {o most : Nat} (ho : o < n) (hm : most ≤ 10240) (h0 : x0 o = .strs []) : Calls Tryz.prog 145 #[.string key, .pointer (some ⟨tb, o, none⟩), .int .i64 most] w (MadeG (fun w v => GSem B qb rb tb x0 T n s w v (gdigs s key o most)) w) :=
  (sdigests_any key tb o most w).mono fun e w2 ⟨v, he, hs, hb⟩ => ⟨v.val, he, v, rfl, gsem_manys (E.below hb) hs E.rlt E.tlt ho hm h0 (fun w' xb a' hc hxb hx he2 => dgs3_any xb a' he2 hx (by have := (E.below hb).rlt; omega)), hb⟩
theorem made_obj (E : TEnv B qb rb tb n T w) (key : ByteArray) {g c : Nat} {l : List FVal} {gs : List GSpec} (hF : FRow w g l) (hc : len l ≤ c) (hS : GSems B qb rb tb x0 T n s w l gs) (hG : GOk x0 gs) (hn : gs.length ≤ 1000) : Calls Tryz.prog 107 #[.string key, .slice (some ⟨g, 0, none⟩) (len l) c] w (MadeG (fun w v => GSem B qb rb tb x0 T n s w v (gobj s key gs)) w) := by
  have hl : gs.length = l.length := hS.1
  have hn2 : len l ≤ 1000 := by show l.length ≤ 1000; omega
  exact (sobject_any key g c l w hF hn2).mono fun e w2 ⟨v, he, hs, hb⟩ => ⟨v.val, he, v, rfl, gsem_obj (E.below hb) hs E.rlt E.tlt (hF.below hb) hc hn2 (hS.later (Chg.of_below hb)) hG, hb⟩
theorem gsem_lasts (g : GSpec) : Lasts (fun w v => GSem B qb rb tb x0 T n s w v g) := fun w w' v hb h => h.later (Chg.of_below hb)
theorem gsems_lasts (gs : List GSpec) : LastsR (fun w l => GSems B qb rb tb x0 T n s w l gs) := fun w w' l hb h => h.later (Chg.of_below hb)
end
theorem RowG.imp {P Q : World → List FVal → Prop} {u : Value} {w : World} (h : RowG P u w) (hi : ∀ l, P w l → Q w l) : RowG Q u w := by
  obtain ⟨g, c, l, hu, hc, hF, hp⟩ := h
  exact ⟨g, c, l, hu, hc, hF, hi l hp⟩
theorem keysOk_of {gs : List GSpec} {ks : List ByteArray} (h : gs.map (fun g => g.key) = ks) (hn : ks.Nodup) : KeysOk gs := fun i j hi hj e => by
  subst h
  rw [gth_eq gs i hi, gth_eq gs j hj] at e
  exact (List.getElem_inj (i := i) (j := j) (h₀ := by simpa using hi) (h₁ := by simpa using hj) hn).1 (by simpa using e)
theorem disj_of {gs : List GSpec} {L : List (List Nat)} (h : gs.map (fun g => g.offs) = L) (hp : L.Pairwise (fun a b => ∀ o, o ∈ a → o ∉ b)) : Disj gs := fun i j hi hj hne o ho hin => by
  subst h
  rw [gth_eq gs i hi] at ho
  rw [gth_eq gs j hj] at hin
  rcases Nat.lt_or_gt_of_ne hne with hlt | hlt
  · exact List.pairwise_iff_getElem.1 hp i j (by simpa using hi) (by simpa using hj) hlt o (by simpa using ho) (by simpa using hin)
  · exact List.pairwise_iff_getElem.1 hp j i (by simpa using hj) (by simpa using hi) hlt o (by simpa using hin) (by simpa using ho)
structure KPart (x0 : Rcd) (o : Nat) : Prop where
  c0 : kindD (x0 o) = 2
  c1 : kindD (x0 (o + 1)) = 0
  c2 : kindD (x0 (o + 2)) = 0
  c3 : kindD (x0 (o + 3)) = 0
  c4 : kindD (x0 (o + 4)) = 0
structure KSig (x0 : Rcd) (o : Nat) : Prop where
  c0 : kindD (x0 o) = 0
  c1 : x0 (o + 1) = .strs []
  c2 : x0 (o + 2) = .strs []
structure KSlot (x0 : Rcd) (o : Nat) : Prop where
  c0 : kindD (x0 o) = 0
  c1 : kindD (x0 (o + 1)) = 1
  c2 : KSig x0 (o + 2)
theorem PartOk {x0 : Rcd} (s : ByteArray) (o : Nat) (hK : KPart x0 o) : GOk x0 (partGs s o) := by
  refine ⟨keysOk_of (ks := [⟨#[102]⟩, ⟨#[107]⟩, ⟨#[108]⟩, ⟨#[114]⟩, ⟨#[119]⟩]) rfl (by decide), disj_of rfl ?_, fun g hg => ?_, fun g hg => ?_⟩
  · simp only [partGs, sigGs, slotGs, partGs, gnum, gflag, gdig, gdigs, gmany, gobj, List.map_cons, List.map_nil, List.flatMap_cons, List.flatMap_nil, List.pairwise_cons, List.mem_cons, List.mem_append, List.not_mem_nil, or_false, List.Pairwise.nil, and_true, List.append_nil, List.singleton_append, List.cons_append, List.nil_append, forall_eq_or_imp, forall_eq]; (repeat' apply And.intro) <;> first | omega | (intro a h; exact h.elim)
  · simp only [partGs, List.mem_cons, List.not_mem_nil, or_false] at hg; rcases hg with rfl | rfl | rfl | rfl | rfl
    · exact gnum_frames _ _ _
    · exact gnum_frames _ _ _
    · exact gnum_frames _ _ _
    · exact gdig_frames _ _ _
    · exact gnum_frames _ _ _
  · simp only [partGs, List.mem_cons, List.not_mem_nil, or_false] at hg; rcases hg with rfl | rfl | rfl | rfl | rfl
    · exact gnum_kinds _ _ (hK.c2)
    · exact gnum_kinds _ _ (hK.c4)
    · exact gnum_kinds _ _ (hK.c3)
    · exact gdig_kinds _ _ (hK.c0)
    · exact gnum_kinds _ _ (hK.c1)
theorem rofPart_any {B qb rb tb n : Nat} {T : TypeId} {w : World} {x0 : Rcd} {s : ByteArray} (E : TEnv B qb rb tb n T w) (o : Nat) (hn : o + 5 ≤ n) (hK : KPart x0 o) : Calls Tryz.prog 62 #[.pointer (some ⟨tb, o, none⟩)] w (RowIs (fun w l => GSems B qb rb tb x0 T n s w l (partGs s o)) w) := by
  refine (gofPart_any tb o w
    (fun w v => GSem B qb rb tb x0 T n s w v (gnum s ⟨#[102]⟩ (o + 2))) (fun w v => GSem B qb rb tb x0 T n s w v (gnum s ⟨#[107]⟩ (o + 4))) (fun w v => GSem B qb rb tb x0 T n s w v (gnum s ⟨#[108]⟩ (o + 3))) (fun w v => GSem B qb rb tb x0 T n s w v (gdig s ⟨#[114]⟩ (o))) (fun w v => GSem B qb rb tb x0 T n s w v (gnum s ⟨#[119]⟩ (o + 1)))
    (fun w' hb => made_num (E.below hb) ⟨#[102]⟩ (by omega) hK.c2)
    (gsem_lasts _)
    (fun w' hb => made_num (E.below hb) ⟨#[107]⟩ (by omega) hK.c4)
    (gsem_lasts _)
    (fun w' hb => made_num (E.below hb) ⟨#[108]⟩ (by omega) hK.c3)
    (gsem_lasts _)
    (fun w' hb => made_dig (E.below hb) ⟨#[114]⟩ (by omega))
    (gsem_lasts _)
    (fun w' hb => made_num (E.below hb) ⟨#[119]⟩ (by omega) hK.c1)
    (gsem_lasts _)).mono ?_
  rintro e w' ⟨u, he, hu, hb⟩
  refine ⟨u, he, hu.imp fun l h => ?_, hb⟩
  obtain ⟨x0, x1, x2, x3, x4, rfl, p0, p1, p2, p3, p4⟩ := h
  refine ⟨rfl, fun i hi => ?_⟩
  match i, hi with
  | 0, _ => exact p0
  | 1, _ => exact p1
  | 2, _ => exact p2
  | 3, _ => exact p3
  | 4, _ => exact p4
theorem SigOk {x0 : Rcd} (s : ByteArray) (o : Nat) (hK : KSig x0 o) : GOk x0 (sigGs s o) := by
  refine ⟨keysOk_of (ks := [⟨#[105]⟩, ⟨#[112]⟩, ⟨#[118]⟩]) rfl (by decide), disj_of rfl ?_, fun g hg => ?_, fun g hg => ?_⟩
  · simp only [sigGs, sigGs, slotGs, partGs, gnum, gflag, gdig, gdigs, gmany, gobj, List.map_cons, List.map_nil, List.flatMap_cons, List.flatMap_nil, List.pairwise_cons, List.mem_cons, List.mem_append, List.not_mem_nil, or_false, List.Pairwise.nil, and_true, List.append_nil, List.singleton_append, List.cons_append, List.nil_append, forall_eq_or_imp, forall_eq]; (repeat' apply And.intro) <;> first | omega | (intro a h; exact h.elim)
  · simp only [sigGs, List.mem_cons, List.not_mem_nil, or_false] at hg; rcases hg with rfl | rfl | rfl
    · exact gnum_frames _ _ _
    · exact gmany_frames _ _ _ _ _ _
    · exact gmany_frames _ _ _ _ _ _
  · simp only [sigGs, List.mem_cons, List.not_mem_nil, or_false] at hg; rcases hg with rfl | rfl | rfl
    · exact gnum_kinds _ _ (hK.c0)
    · exact gmany_kinds _ _ (fun l => by rw [hK.c2]; rfl)
    · exact gmany_kinds _ _ (fun l => by rw [hK.c1]; rfl)
theorem rofSig_any {B qb rb tb n : Nat} {T : TypeId} {w : World} {x0 : Rcd} {s : ByteArray} (E : TEnv B qb rb tb n T w) (o : Nat) (hn : o + 3 ≤ n) (hK : KSig x0 o) : Calls Tryz.prog 108 #[.pointer (some ⟨tb, o, none⟩)] w (RowIs (fun w l => GSems B qb rb tb x0 T n s w l (sigGs s o)) w) := by
  refine (gofSig_any tb o w
    (fun w v => GSem B qb rb tb x0 T n s w v (gnum s ⟨#[105]⟩ (o))) (fun w v => GSem B qb rb tb x0 T n s w v (gdigs s ⟨#[112]⟩ (o + 2) 16)) (fun w v => GSem B qb rb tb x0 T n s w v (gdigs s ⟨#[118]⟩ (o + 1) 67))
    (fun w' hb => made_num (E.below hb) ⟨#[105]⟩ (by omega) hK.c0)
    (gsem_lasts _)
    (fun w' hb => made_digs (E.below hb) ⟨#[112]⟩ (by omega) (by decide) hK.c2)
    (gsem_lasts _)
    (fun w' hb => made_digs (E.below hb) ⟨#[118]⟩ (by omega) (by decide) hK.c1)
    (gsem_lasts _)).mono ?_
  rintro e w' ⟨u, he, hu, hb⟩
  refine ⟨u, he, hu.imp fun l h => ?_, hb⟩
  obtain ⟨x0, x1, x2, rfl, p0, p1, p2⟩ := h
  refine ⟨rfl, fun i hi => ?_⟩
  match i, hi with
  | 0, _ => exact p0
  | 1, _ => exact p1
  | 2, _ => exact p2
theorem SlotOk {x0 : Rcd} (s : ByteArray) (o : Nat) (hK : KSlot x0 o) : GOk x0 (slotGs s o) := by
  have hS0 := SigOk (x0 := x0) s (o + 2) hK.c2
  refine ⟨keysOk_of (ks := [⟨#[103]⟩, ⟨#[108]⟩, ⟨#[115]⟩]) rfl (by decide), disj_of rfl ?_, fun g hg => ?_, fun g hg => ?_⟩
  · simp only [slotGs, sigGs, slotGs, partGs, gnum, gflag, gdig, gdigs, gmany, gobj, List.map_cons, List.map_nil, List.flatMap_cons, List.flatMap_nil, List.pairwise_cons, List.mem_cons, List.mem_append, List.not_mem_nil, or_false, List.Pairwise.nil, and_true, List.append_nil, List.singleton_append, List.cons_append, List.nil_append, forall_eq_or_imp, forall_eq]; (repeat' apply And.intro) <;> first | omega | (intro a h; exact h.elim)
  · simp only [slotGs, List.mem_cons, List.not_mem_nil, or_false] at hg; rcases hg with rfl | rfl | rfl
    · exact gobj_frames (hS0).frames
    · exact gnum_frames _ _ _
    · exact gflag_frames _ _ _
  · simp only [slotGs, List.mem_cons, List.not_mem_nil, or_false] at hg; rcases hg with rfl | rfl | rfl
    · exact gobj_kinds (hS0).kinds
    · exact gnum_kinds _ _ (hK.c0)
    · exact gflag_kinds _ _ (hK.c1)
theorem rofSlot_any {B qb rb tb n : Nat} {T : TypeId} {w : World} {x0 : Rcd} {s : ByteArray} (E : TEnv B qb rb tb n T w) (o : Nat) (hn : o + 5 ≤ n) (hK : KSlot x0 o) : Calls Tryz.prog 61 #[.pointer (some ⟨tb, o, none⟩)] w (RowIs (fun w l => GSems B qb rb tb x0 T n s w l (slotGs s o)) w) := by
  refine (gofSlot_any tb o w
    (fun w v => GSem B qb rb tb x0 T n s w v (gobj s ⟨#[103]⟩ (sigGs s (o + 2)))) (fun w v => GSem B qb rb tb x0 T n s w v (gnum s ⟨#[108]⟩ (o))) (fun w v => GSem B qb rb tb x0 T n s w v (gflag s ⟨#[115]⟩ (o + 1))) (fun w l => GSems B qb rb tb x0 T n s w l (sigGs s (o + 2)))
    (gsems_lasts _) (fun w' hb => rofSig_any (E.below hb) (o + 2) (by omega) hK.c2)
    (fun w' g c l hb hF hc hS => made_obj (E.below hb) ⟨#[103]⟩ hF hc hS (SigOk s (o + 2) hK.c2) (show (3 : Nat) ≤ 1000 by decide))
    (gsem_lasts _)
    (fun w' hb => made_num (E.below hb) ⟨#[108]⟩ (by omega) hK.c0)
    (gsem_lasts _)
    (fun w' hb => made_flag (E.below hb) ⟨#[115]⟩ (by omega) hK.c1)
    (gsem_lasts _)).mono ?_
  rintro e w' ⟨u, he, hu, hb⟩
  refine ⟨u, he, hu.imp fun l h => ?_, hb⟩
  obtain ⟨x0, x1, x2, rfl, p0, p1, p2⟩ := h
  refine ⟨rfl, fun i hi => ?_⟩
  match i, hi with
  | 0, _ => exact p0
  | 1, _ => exact p1
  | 2, _ => exact p2
theorem MsgOk (s : ByteArray) : GOk msg0 (msgGs s) := by
  refine ⟨keysOk_of (ks := [⟨#[102]⟩, ⟨#[104]⟩, ⟨#[108]⟩, ⟨#[110]⟩, ⟨#[118]⟩, ⟨#[119]⟩]) rfl (by decide), disj_of rfl ?_, fun g hg => ?_, fun g hg => ?_⟩
  · simp only [msgGs, sigGs, slotGs, partGs, gnum, gflag, gdig, gdigs, gmany, gobj, List.map_cons, List.map_nil, List.flatMap_cons, List.flatMap_nil, List.pairwise_cons, List.mem_cons, List.mem_append, List.not_mem_nil, or_false, List.Pairwise.nil, and_true, List.append_nil, List.singleton_append, List.cons_append, List.nil_append, forall_eq_or_imp, forall_eq]; (repeat' apply And.intro) <;> first | omega | (intro a h; exact h.elim)
  · simp only [msgGs, List.mem_cons, List.not_mem_nil, or_false] at hg; rcases hg with rfl | rfl | rfl | rfl | rfl | rfl
    · exact gnum_frames _ _ _
    · exact gdig_frames _ _ _
    · exact gnum_frames _ _ _
    · exact gnum_frames _ _ _
    · exact gdig_frames _ _ _
    · exact gnum_frames _ _ _
  · simp only [msgGs, List.mem_cons, List.not_mem_nil, or_false] at hg; rcases hg with rfl | rfl | rfl | rfl | rfl | rfl
    · exact gnum_kinds _ _ (rfl)
    · exact gdig_kinds _ _ (rfl)
    · exact gnum_kinds _ _ (rfl)
    · exact gnum_kinds _ _ (rfl)
    · exact gdig_kinds _ _ (rfl)
    · exact gnum_kinds _ _ (rfl)
theorem rofMsg_any {B qb rb tb : Nat} {T : TypeId} {w : World} {s : ByteArray} (E : TEnv B qb rb tb 6 T w) : Calls Tryz.prog 80 #[.pointer (some ⟨tb, 0, none⟩)] w (RowIs (fun w l => GSems B qb rb tb msg0 T 6 s w l (msgGs s)) w) := by
  refine (gofMsg_any tb 0 w
    (fun w v => GSem B qb rb tb msg0 T 6 s w v (gnum s ⟨#[102]⟩ (4))) (fun w v => GSem B qb rb tb msg0 T 6 s w v (gdig s ⟨#[104]⟩ (0))) (fun w v => GSem B qb rb tb msg0 T 6 s w v (gnum s ⟨#[108]⟩ (5))) (fun w v => GSem B qb rb tb msg0 T 6 s w v (gnum s ⟨#[110]⟩ (2))) (fun w v => GSem B qb rb tb msg0 T 6 s w v (gdig s ⟨#[118]⟩ (1))) (fun w v => GSem B qb rb tb msg0 T 6 s w v (gnum s ⟨#[119]⟩ (3)))
    (fun w' hb => made_num (E.below hb) ⟨#[102]⟩ (by omega) rfl)
    (gsem_lasts _)
    (fun w' hb => made_dig (E.below hb) ⟨#[104]⟩ (by omega))
    (gsem_lasts _)
    (fun w' hb => made_num (E.below hb) ⟨#[108]⟩ (by omega) rfl)
    (gsem_lasts _)
    (fun w' hb => made_num (E.below hb) ⟨#[110]⟩ (by omega) rfl)
    (gsem_lasts _)
    (fun w' hb => made_dig (E.below hb) ⟨#[118]⟩ (by omega))
    (gsem_lasts _)
    (fun w' hb => made_num (E.below hb) ⟨#[119]⟩ (by omega) rfl)
    (gsem_lasts _)).mono ?_
  rintro e w' ⟨u, he, hu, hb⟩
  refine ⟨u, he, hu.imp fun l h => ?_, hb⟩
  obtain ⟨x0, x1, x2, x3, x4, x5, rfl, p0, p1, p2, p3, p4, p5⟩ := h
  refine ⟨rfl, fun i hi => ?_⟩
  match i, hi with
  | 0, _ => exact p0
  | 1, _ => exact p1
  | 2, _ => exact p2
  | 3, _ => exact p3
  | 4, _ => exact p4
  | 5, _ => exact p5
theorem HeaderOk (s : ByteArray) : GOk header0 (headerGs s) := by
  refine ⟨keysOk_of (ks := [⟨#[112]⟩, ⟨#[114]⟩, ⟨#[115]⟩, ⟨#[116]⟩]) rfl (by decide), disj_of rfl ?_, fun g hg => ?_, fun g hg => ?_⟩
  · simp only [headerGs, sigGs, slotGs, partGs, gnum, gflag, gdig, gdigs, gmany, gobj, List.map_cons, List.map_nil, List.flatMap_cons, List.flatMap_nil, List.pairwise_cons, List.mem_cons, List.mem_append, List.not_mem_nil, or_false, List.Pairwise.nil, and_true, List.append_nil, List.singleton_append, List.cons_append, List.nil_append, forall_eq_or_imp, forall_eq]; (repeat' apply And.intro) <;> first | omega | (intro a h; exact h.elim)
  · simp only [headerGs, List.mem_cons, List.not_mem_nil, or_false] at hg; rcases hg with rfl | rfl | rfl | rfl
    · exact gdig_frames _ _ _
    · exact gnum_frames _ _ _
    · exact gdig_frames _ _ _
    · exact gdig_frames _ _ _
  · simp only [headerGs, List.mem_cons, List.not_mem_nil, or_false] at hg; rcases hg with rfl | rfl | rfl | rfl
    · exact gdig_kinds _ _ (rfl)
    · exact gnum_kinds _ _ (rfl)
    · exact gdig_kinds _ _ (rfl)
    · exact gdig_kinds _ _ (rfl)
theorem rofHeader_any {B qb rb tb : Nat} {T : TypeId} {w : World} {s : ByteArray} (E : TEnv B qb rb tb 4 T w) : Calls Tryz.prog 85 #[.pointer (some ⟨tb, 0, none⟩)] w (RowIs (fun w l => GSems B qb rb tb header0 T 4 s w l (headerGs s)) w) := by
  refine (gofHeader_any tb 0 w
    (fun w v => GSem B qb rb tb header0 T 4 s w v (gdig s ⟨#[112]⟩ (1))) (fun w v => GSem B qb rb tb header0 T 4 s w v (gnum s ⟨#[114]⟩ (0))) (fun w v => GSem B qb rb tb header0 T 4 s w v (gdig s ⟨#[115]⟩ (3))) (fun w v => GSem B qb rb tb header0 T 4 s w v (gdig s ⟨#[116]⟩ (2)))
    (fun w' hb => made_dig (E.below hb) ⟨#[112]⟩ (by omega))
    (gsem_lasts _)
    (fun w' hb => made_num (E.below hb) ⟨#[114]⟩ (by omega) rfl)
    (gsem_lasts _)
    (fun w' hb => made_dig (E.below hb) ⟨#[115]⟩ (by omega))
    (gsem_lasts _)
    (fun w' hb => made_dig (E.below hb) ⟨#[116]⟩ (by omega))
    (gsem_lasts _)).mono ?_
  rintro e w' ⟨u, he, hu, hb⟩
  refine ⟨u, he, hu.imp fun l h => ?_, hb⟩
  obtain ⟨x0, x1, x2, x3, rfl, p0, p1, p2, p3⟩ := h
  refine ⟨rfl, fun i hi => ?_⟩
  match i, hi with
  | 0, _ => exact p0
  | 1, _ => exact p1
  | 2, _ => exact p2
  | 3, _ => exact p3
end Go.Proofs.YtihiaopilnjonaaGreatDoor
namespace Go.Proofs.YtihiaopilnjonaaGreatDoor
open Go.RowKit
set_option linter.unusedSimpArgs false
set_option linter.unusedVariables false
theorem rec_zero {rb tb : Nat} {T : TypeId} {w : World} {x : Rcd} {cs : Array Value} (h : w.heap[tb]? = some (.cells cs T (0, 0))) {n : Nat} (hn : cs.size = n) (hz : ∀ i, i < n → ∃ v, cs[i]? = some v ∧ (match x i with | .num k => v = .int .u64 k | .flag q => v = .bool q | .str t => v = .string t | .strs l => l = [] ∧ v = .slice none 0 0 | .nums l => l = [] ∧ v = .slice none 0 0 | .revs l => l = [] ∧ v = .slice none 0 0)) : RecAt rb tb T n w x := by
  refine ⟨cs, h, hn, fun i hi => ?_⟩
  obtain ⟨v, h1, h2⟩ := hz i hi
  refine ⟨v, h1, ?_⟩
  cases hx : x i with
  | num k => rw [hx] at h2; exact h2
  | flag q => rw [hx] at h2; exact h2
  | str t => rw [hx] at h2; exact h2
  | strs l =>
    rw [hx] at h2; obtain ⟨rfl, rfl⟩ := h2
    exact ⟨none, 0, rfl, fun _ => ⟨rfl, rfl⟩, fun b off e => (by cases e), fun i hi => (by simp [len] at hi), fun b off e => (by cases e)⟩
  | nums l =>
    rw [hx] at h2; obtain ⟨rfl, rfl⟩ := h2
    exact ⟨none, 0, rfl, fun _ => ⟨rfl, rfl⟩, fun b off e => (by cases e), fun i hi => (by simp [len] at hi), fun b off e => (by cases e)⟩
  | revs l =>
    rw [hx] at h2; obtain ⟨rfl, rfl⟩ := h2
    exact ⟨none, 0, rfl, fun _ => ⟨rfl, rfl⟩, fun b off e => (by cases e), [], rfl, fun i hi => (by simp [len] at hi), fun i hi => (by simp [len] at hi)⟩
theorem Kd.str {x0 x : Rcd} (h : Kd x0 x) {o : Nat} (h0 : kindD (x0 o) = 2) : ∃ n, x o = .str n := by
  have := (h o).trans h0
  cases hx : x o <;> rw [hx] at this <;> first | exact ⟨_, rfl⟩ | cases this
theorem objR_kinds {x0 : Rcd} {s : ByteArray} {fs : List GSpec} (hf : ∀ g ∈ fs, g.Kinds x0) {x : Rcd} {a : Nat} {y : Rcd × Nat} (h : objR s fs x a = .ok y) (hk : Kd x0 x) : Kd x0 y.1 := gobj_kinds (s := s) (key := ByteArray.empty) hf x a y h hk
section
variable {B qb rb tb n : Nat} {T : TypeId} {w : World} {x0 : Rcd} {s : ByteArray}
end
end Go.Proofs.YtihiaopilnjonaaGreatDoor
namespace Go.Proofs.YtihiaopilnjonaaGreatDoor
open Go.RowKit
set_option linter.unusedSimpArgs false
set_option linter.unusedVariables false
def At (s : ByteArray) (a : Nat) (t : ByteArray) : Prop := a ≤ s.size ∧ ∃ R, s.data.toList.drop a = t.data.toList ++ R
theorem At.le {s t : ByteArray} {a : Nat} (h : At s a t) : a + t.size ≤ s.size := by
  obtain ⟨h1, R, h2⟩ := h
  have := congrArg List.length h2
  rw [List.length_drop, List.length_append, ba_len, ba_len] at this
  omega
theorem At.nil {s : ByteArray} {a : Nat} (h : a ≤ s.size) : At s a ByteArray.empty := ⟨h, s.data.toList.drop a, by rfl⟩
theorem At.app {s t u : ByteArray} {a : Nat} (h : At s a (t ++ u)) : At s a t ∧ At s (a + t.size) u := by
  have hl := h.le
  obtain ⟨h1, R, h2⟩ := h
  rw [ByteArray.data_append, Array.toList_append, List.append_assoc] at h2
  rw [ByteArray.size_append] at hl
  refine ⟨⟨h1, _, h2⟩, by omega, R, ?_⟩
  rw [← List.drop_drop, h2, ← ba_len t, List.drop_left]
theorem At.join {s t u : ByteArray} {a : Nat} (h : At s a t) (k : At s (a + t.size) u) : At s a (t ++ u) := by
  obtain ⟨h1, R, h2⟩ := h
  obtain ⟨k1, S, k2⟩ := k
  refine ⟨h1, S, ?_⟩
  rw [← List.drop_drop, h2, ← ba_len t, List.drop_left] at k2
  rw [h2, k2, ByteArray.data_append, Array.toList_append, List.append_assoc]
theorem At.self (t : ByteArray) : At t 0 t := ⟨Nat.zero_le _, [], by simp⟩
theorem tk_forth {sort : Nat} {s t : ByteArray} {a : Nat} {n : Int} (h5 : sort < 5) (h : At s a (laidP sort n t)) (n0 : 0 ≤ n) (n1 : n ≤ 18446744073709551615) (nm : sort ≠ 0 → n ≤ 10240)
    (ht : if sort = 1 ∨ sort = 2 then (t.size : Int) = n else t = ⟨#[]⟩) : tkR sort s a = .ok (n, t, a + (laidP sort n t).size) := by
  have n2 : sort ≠ 0 → n ≤ 65535 := fun e => by have := nm e; omega
  obtain ⟨h1, R, h2⟩ := h
  rw [← laidOf_eq h5 n0 n2] at h2 ⊢
  unfold tkR
  rw [laid_take h5 h1 n0 n1 n2 nm ht h2]
theorem tk_back {sort : Nat} {s : ByteArray} {a : Nat} {x : Int × ByteArray × Nat} (h5 : sort < 5) (ha : a ≤ s.size) (h : tkR sort s a = .ok x) :
    At s a (laidP sort x.1 x.2.1) ∧ x.2.2 = a + (laidP sort x.1 x.2.1).size ∧ 0 ≤ x.1 ∧ x.1 ≤ 18446744073709551615 ∧ (sort ≠ 0 → x.1 ≤ 10240) ∧ x.2.2 ≤ s.size ∧ (sort = 1 ∨ sort = 2 → (x.2.1.size : Int) = x.1) := by
  have hb := tkR_bd h5 h
  obtain ⟨n, t, a'⟩ := x
  simp only at hb ⊢
  unfold tkR at h
  split at h
  · cases h
  · next y hy =>
    cases h
    obtain ⟨h1, h2, h3, h4, h6, h7⟩ := take_laid h5 ha hy
    have n2 : sort ≠ 0 → n ≤ 65535 := fun e => by have := hb.2.2.1 e; omega
    rw [laidOf_eq h5 h4 n2] at h1 h2
    refine ⟨⟨ha, _, h1⟩, h2, h4, h6, hb.2.2.1, h3, fun h12 => ?_⟩
    rcases textOf_is (s := s) (a := a) (most := 10240) h12 with ⟨k, _, e⟩ | ⟨m, t2, a2, _, e, hz, _⟩
    · rw [hy] at e; cases e
    · rw [hy] at e; cases e; omega
theorem rnum_forth {s : ByteArray} {a : Nat} {n : Int} (h : At s a (numP n)) (hn : U64i n) : rnum s a = .ok (n, a + (numP n).size) := by
  have := tk_forth (sort := 0) (t := ByteArray.empty) (by decide) h hn.1 hn.2 (fun e => absurd rfl e) (by rfl)
  unfold rnum; rw [this]; rfl
theorem rnum_back {s : ByteArray} {a : Nat} {y : Int × Nat} (ha : a ≤ s.size) (h : rnum s a = .ok y) : At s a (numP y.1) ∧ y.2 = a + (numP y.1).size ∧ U64i y.1 := by
  unfold rnum at h
  split at h
  · cases h
  · next x hx =>
    cases h
    obtain ⟨h1, h2, h3, h4, _, _, _⟩ := tk_back (by decide) ha hx
    have e : laidP 0 x.1 x.2.1 = numP x.1 := rfl
    rw [e] at h1 h2
    exact ⟨h1, h2, h3, h4⟩
theorem rdig_forth {s x : ByteArray} {a : Nat} (h : At s a (binP x)) (hx : x.size = 32) : rdig s a = .ok (x, a + (binP x).size) := by
  have := tk_forth (sort := 1) (t := x) (by decide) h (by omega) (by omega) (fun _ => by omega) (by rfl)
  unfold rdig; rw [this]
  show (if x.size = 32 then _ else _) = _
  rw [if_pos hx]; rfl
theorem rdig_back {s : ByteArray} {a : Nat} {y : ByteArray × Nat} (ha : a ≤ s.size) (h : rdig s a = .ok y) : At s a (binP y.1) ∧ y.2 = a + (binP y.1).size ∧ y.1.size = 32 := by
  unfold rdig at h
  split at h
  · cases h
  · next x hx =>
    split at h
    · next h32 =>
      cases h
      obtain ⟨h1, h2, h3, h4, _, _, h7⟩ := tk_back (by decide) ha hx
      have h7 := h7 (.inl rfl)
      have e : laidP 1 x.1 x.2.1 = binP x.2.1 := by unfold binP; rw [h7]
      rw [e] at h1 h2
      exact ⟨h1, h2, h32⟩
    · cases h
theorem rlist_forth {s : ByteArray} {a n most : Nat} (h : At s a (listP n)) (hn : n ≤ most) (hm : n ≤ 10240) : rlist s most a = .ok (n, a + (listP n).size) := by
  have := tk_forth (sort := 3) (t := ByteArray.empty) (by decide) h (by omega) (by omega) (fun _ => by omega) (by rfl)
  unfold rlist; rw [this]
  show (if ((n : Nat) : Int) ≤ most then _ else _) = _
  rw [if_pos (by omega)]; rfl
theorem rlist_back {s : ByteArray} {a most : Nat} {y : Nat × Nat} (ha : a ≤ s.size) (h : rlist s most a = .ok y) : At s a (listP y.1) ∧ y.2 = a + (listP y.1).size ∧ y.1 ≤ most := by
  unfold rlist at h
  split at h
  · cases h
  · next x hx =>
    split at h
    · next hm =>
      cases h
      obtain ⟨h1, h2, h3, h4, _, _, _⟩ := tk_back (by decide) ha hx
      have e : laidP 3 x.1 x.2.1 = listP x.1.toNat := by
        unfold listP; rw [show ((x.1.toNat : Nat) : Int) = x.1 by omega]; rfl
      rw [e] at h1 h2
      exact ⟨h1, h2, by show x.1.toNat ≤ most; omega⟩
    · cases h
theorem rmany_forth {α : Type} {s : ByteArray} {rd : Nat → Except Flt (α × Nat)} {b : α → ByteArray} : ∀ (l pre : List α) (a : Nat), At s a (catB (l.map b)) → (∀ x ∈ l, ∀ a, At s a (b x) → rd a = .ok (x, a + (b x).size)) →
    rmany rd l.length a pre = .ok (pre ++ l, a + (catB (l.map b)).size)
  | [], pre, a, h, hr => by rw [List.append_nil]; rfl
  | x :: r, pre, a, h, hr => by
    rw [List.map_cons, catB] at h ⊢
    obtain ⟨h1, h2⟩ := h.app
    rw [List.length_cons, rmany, hr x (List.mem_cons_self ..) a h1]
    show rmany rd r.length (a + (b x).size) (pre ++ [x]) = _
    rw [rmany_forth r (pre ++ [x]) _ h2 (fun y hy => hr y (List.mem_cons_of_mem _ hy)), ByteArray.size_append, List.append_assoc, Nat.add_assoc]
    rfl
theorem rmany_back {α : Type} {s : ByteArray} {rd : Nat → Except Flt (α × Nat)} {b : α → ByteArray} {Q : α → Prop} (hr : ∀ a x, a ≤ s.size → rd a = .ok x → At s a (b x.1) ∧ x.2 = a + (b x.1).size ∧ Q x.1) :
    ∀ (n a : Nat) (pre : List α) (y : List α × Nat), a ≤ s.size → rmany rd n a pre = .ok y → ∃ l, y.1 = pre ++ l ∧ l.length = n ∧ At s a (catB (l.map b)) ∧ y.2 = a + (catB (l.map b)).size ∧ ∀ x ∈ l, Q x
  | 0, a, pre, y, ha, h => by
    simp only [rmany] at h; cases h
    exact ⟨[], by simp, rfl, At.nil ha, rfl, fun x hx => by cases hx⟩
  | n + 1, a, pre, y, ha, h => by
    simp only [rmany] at h
    split at h
    · cases h
    · next x hx =>
      obtain ⟨h1, h2, h3⟩ := hr a x ha hx
      have hle := h1.le
      obtain ⟨l, e1, e2, e3, e4, e5⟩ := rmany_back hr n x.2 _ y (by omega) h
      refine ⟨x.1 :: l, by rw [e1, List.append_assoc]; rfl, by rw [List.length_cons, e2], ?_, ?_, fun z hz => ?_⟩
      · rw [List.map_cons, catB]; rw [h2] at e3; exact h1.join e3
      · rw [List.map_cons, catB, ByteArray.size_append, e4, h2]; omega
      · rcases List.mem_cons.1 hz with rfl | hz
        · exact h3
        · exact e5 z hz
def POk : DV → Prop
  | .num n => U64i n
  | .nums l => ∀ n ∈ l, U64i n
  | _ => True
def DOk : DV → Prop
  | .revs l => ∀ r ∈ l, ∀ o, POk (revC r o)
  | d => POk d
structure FG (s : ByteArray) (x0 : Rcd) (g : GSpec) (f : Rcd → FSpec) : Prop where
  key : ∀ y, (f y).key = g.key
  ksz : g.key.size ≤ 10240
  must : ∀ y, (f y).must = g.must
  loc : ∀ y z, (∀ o, o ∈ g.offs → y o = z o) → f y = f z
  emp : ∀ y, Kd x0 y → (f y).empty = g.empty y
  full : g.must = true → ∀ y, (f y).empty = false
  un : g.must = false → (f x0).empty = true ∧ (f x0).may = true
  zero : ∀ v, Kd x0 v → (f v).empty = true → ∀ o, o ∈ g.offs → v o = x0 o
  back : ∀ x a y, a ≤ s.size → fresh x0 g x → Kd x0 x → g.read x a = .ok y → g.empty y.1 = false → (f y.1).may = true ∧ At s a (f y.1).bytes ∧ y.2 = a + (f y.1).bytes.size ∧ ∀ o, o ∈ g.offs → DOk (y.1 o)
  forth : ∀ v x a, Kd x0 v → (∀ o, DOk (v o)) → fresh x0 g x → Kd x0 x → (f v).may = true → (f v).empty = false → At s a (f v).bytes → ∃ y, g.read x a = .ok (y, a + (f v).bytes.size) ∧ ∀ o, o ∈ g.offs → y o = v o
def numF (key : ByteArray) (o : Nat) : Rcd → FSpec := fun y => ⟨key, false, (y o).n == 0, true, numP (y o).n⟩
def flagF (key : ByteArray) (o : Nat) : Rcd → FSpec := fun y => ⟨key, false, !(y o).q, true, numP 1⟩
def digF (key : ByteArray) (o : Nat) : Rcd → FSpec := fun y => ⟨key, true, false, decide ((y o).s.size = 32), binP (y o).s⟩
def manyF {α : Type} (key : ByteArray) (o : Nat) (get : DV → List α) (mayL : List α → Bool) (b : α → ByteArray) : Rcd → FSpec := fun y => ⟨key, false, decide (len (get (y o)) = 0), mayL (get (y o)), listP (len (get (y o))) ++ catB ((get (y o)).map b)⟩
variable {s : ByteArray} {x0 : Rcd}
theorem fg_num (key : ByteArray) (o : Nat) (hk : key.size ≤ 10240) (h0 : x0 o = .num 0) : FG s x0 (gnum s key o) (numF key o) := by
  have hkd : kindD (x0 o) = 0 := by rw [h0]; rfl
  constructor
  · exact fun y => rfl
  · exact hk
  · exact fun y => rfl
  · intro y z h
    have e : y o = z o := h o (List.mem_singleton.2 rfl)
    unfold numF; rw [e]
  · intro y hy
    obtain ⟨n, hn⟩ := hy.num hkd
    unfold numF gnum; simp only [hn]; rfl
  · intro h; cases h
  · intro _
    unfold numF; rw [h0]; exact ⟨rfl, rfl⟩
  · intro v hv h i hi
    obtain ⟨n, hn⟩ := hv.num hkd
    obtain rfl : i = o := List.mem_singleton.1 hi
    unfold numF at h; rw [hn] at h
    have : n = 0 := by simpa [DV.n] using h
    rw [hn, h0, this]
  · intro x a y ha hf hx h he
    simp only [gnum] at h
    split at h
    · cases h
    · next z hz =>
      cases h
      obtain ⟨h1, h2, h3⟩ := rnum_back ha hz
      dsimp only [numF]; rw [upd_at]
      exact ⟨rfl, h1, h2, fun i hi => by (obtain rfl : i = o := List.mem_singleton.1 hi); (try dsimp only); rw [upd_at]; exact h3⟩
  · intro v x a hv hd hf hx hm he hA
    obtain ⟨n, hn⟩ := hv.num hkd
    have hdo := hd o
    rw [hn] at hdo
    unfold numF at hA ⊢
    simp only [hn] at hA ⊢
    refine ⟨upd x o (.num n), ?_, fun i hi => ?_⟩
    · simp only [gnum]; rw [rnum_forth hA hdo]
      rfl
    · obtain rfl : i = o := List.mem_singleton.1 hi
      rw [upd_at, hn]
theorem fg_flag (key : ByteArray) (o : Nat) (hk : key.size ≤ 10240) (h0 : x0 o = .flag false) : FG s x0 (gflag s key o) (flagF key o) := by
  have hkd : kindD (x0 o) = 1 := by rw [h0]; rfl
  constructor
  · exact fun y => rfl
  · exact hk
  · exact fun y => rfl
  · intro y z h
    have e : y o = z o := h o (List.mem_singleton.2 rfl)
    unfold flagF; rw [e]
  · intro y hy
    obtain ⟨n, hn⟩ := hy.flag hkd
    unfold flagF gflag; simp only [hn]; rfl
  · intro h; cases h
  · intro _
    unfold flagF; rw [h0]; exact ⟨rfl, rfl⟩
  · intro v hv h i hi
    obtain ⟨n, hn⟩ := hv.flag hkd
    obtain rfl : i = o := List.mem_singleton.1 hi
    unfold flagF at h; rw [hn] at h
    have : n = false := by simpa [DV.q] using h
    rw [hn, h0, this]
  · intro x a y ha hf hx h he
    simp only [gflag] at h
    split at h
    · cases h
    · next z hz =>
      cases h
      obtain ⟨h1, h2, h3⟩ := rnum_back ha hz
      have hz1 : z.1 = 1 := by
        simp only [gflag, upd_at, zeroD] at he
        simpa using he
      rw [hz1] at h1 h2
      exact ⟨rfl, h1, h2, fun i hi => by (obtain rfl : i = o := List.mem_singleton.1 hi); (try dsimp only); rw [upd_at]; trivial⟩
  · intro v x a hv hd hf hx hm he hA
    obtain ⟨n, hn⟩ := hv.flag hkd
    unfold flagF at hA he ⊢
    simp only [hn] at hA he ⊢
    have hn1 : n = true := by simpa [DV.q] using he
    refine ⟨upd x o (.flag true), ?_, fun i hi => ?_⟩
    · simp only [gflag]; rw [rnum_forth hA ⟨by decide, by decide⟩]
      rfl
    · obtain rfl : i = o := List.mem_singleton.1 hi
      rw [upd_at, hn, hn1]
theorem fg_dig (key : ByteArray) (o : Nat) (hk : key.size ≤ 10240) (h0 : kindD (x0 o) = 2) : FG s x0 (gdig s key o) (digF key o) := by
  constructor
  · exact fun y => rfl
  · exact hk
  · exact fun y => rfl
  · intro y z h
    have e : y o = z o := h o (List.mem_singleton.2 rfl)
    unfold digF; rw [e]
  · exact fun y hy => rfl
  · exact fun _ y => rfl
  · intro h; cases h
  · intro v hv h; cases h
  · intro x a y ha hf hx h he
    simp only [gdig] at h
    split at h
    · cases h
    · next z hz =>
      cases h
      obtain ⟨h1, h2, h3⟩ := rdig_back ha hz
      dsimp only [digF]; rw [upd_at]
      exact ⟨decide_eq_true h3, h1, h2, fun i hi => by (obtain rfl : i = o := List.mem_singleton.1 hi); (try dsimp only); rw [upd_at]; trivial⟩
  · intro v x a hv hd hf hx hm he hA
    obtain ⟨n, hn⟩ := hv.str h0
    unfold digF at hA hm ⊢
    simp only [hn] at hA hm ⊢
    refine ⟨upd x o (.str n), ?_, fun i hi => ?_⟩
    · simp only [gdig]; rw [rdig_forth hA (of_decide_eq_true hm)]
      rfl
    · obtain rfl : i = o := List.mem_singleton.1 hi
      rw [upd_at, hn]
theorem fg_many {α : Type} (key : ByteArray) (o most : Nat) (toD : List α → DV) (get : DV → List α) (mayL : List α → Bool) (m : α → Prop) (b : α → ByteArray) (rd : Nat → Except Flt (α × Nat)) (ok : α → Prop) (hk : key.size ≤ 10240) (hmost : most ≤ 10240) (h0 : x0 o = toD [])
    (hg : ∀ l, get (toD l) = l) (hkind : ∀ d, kindD d = kindD (toD []) → d = toD (get d)) (hz : ∀ l, zeroD (toD l) = (l.length == 0))
    (hmay : ∀ l, mayL l = true ↔ len l ≤ most ∧ ∀ x ∈ l, m x) (hdok : ∀ l, DOk (toD l) ↔ ∀ x ∈ l, ok x)
    (hback : ∀ a x, a ≤ s.size → rd a = .ok x → At s a (b x.1) ∧ x.2 = a + (b x.1).size ∧ m x.1 ∧ ok x.1)
    (hforth : ∀ x, ok x → m x → ∀ a, At s a (b x) → rd a = .ok (x, a + (b x).size)) : FG s x0 (gmany s key o most toD rd) (manyF key o get mayL b) := by
  have hkd : ∀ {y : Rcd}, Kd x0 y → y o = toD (get (y o)) := fun {y} hy => hkind _ (by have := hy o; rw [h0] at this; exact this)
  constructor
  · exact fun y => rfl
  · exact hk
  · exact fun y => rfl
  · intro y z h
    have e : y o = z o := h o (List.mem_singleton.2 rfl)
    unfold manyF; rw [e]
  · intro y hy
    have := hkd hy
    show decide (len (get (y o)) = 0) = zeroD (y o)
    rw [this, hz, hg, len_eq]
    cases (get (y o)) <;> rfl
  · intro h; cases h
  · intro _
    unfold manyF; rw [h0, hg]
    exact ⟨rfl, (hmay []).2 ⟨Nat.zero_le _, fun x hx => by cases hx⟩⟩
  · intro v hv h i hi
    obtain rfl : i = o := List.mem_singleton.1 hi
    have e := hkd hv
    have h' : len (get (v i)) = 0 := of_decide_eq_true h
    rw [len_eq] at h'
    rw [e, List.eq_nil_of_length_eq_zero h', h0]
  · intro x a y ha hf hx h he
    simp only [gmany] at h
    split at h
    · cases h
    · next k hk =>
      split at h
      · cases h
      · next z hz2 =>
        cases h
        obtain ⟨k1, k2, k3⟩ := rlist_back ha hk
        have := k1.le
        obtain ⟨l, e1, e2, e3, e4, e5⟩ := rmany_back (Q := fun x => m x ∧ ok x) hback k.1 k.2 [] z (by omega) hz2
        rw [List.nil_append] at e1
        dsimp only [manyF]; rw [upd_at, hg, e1, len_eq, e2]
        refine ⟨(hmay l).2 ⟨by rw [len_eq]; omega, fun x hx => (e5 x hx).1⟩, k1.join (by rw [← k2]; exact e3), ?_, fun i hi => ?_⟩
        · rw [ByteArray.size_append]; (try simp only); omega
        · obtain rfl : i = o := List.mem_singleton.1 hi
          (try dsimp only); rw [upd_at]; exact (hdok l).2 fun x hx => (e5 x hx).2
  · intro v x a hv hd hf hx hm he hA
    have e := hkd hv
    have hdo := hd o
    unfold manyF at hA hm ⊢
    simp only at hA hm ⊢
    generalize get (v o) = l at e hA hm
    rw [e] at hdo
    obtain ⟨h1, h2⟩ := (hmay l).1 hm
    obtain ⟨a1, a2⟩ := hA.app
    refine ⟨upd x o (toD l), ?_, fun i hi => ?_⟩
    · simp only [gmany]; rw [rlist_forth a1 h1 (by omega)]
      simp only []
      have := rmany_forth (rd := rd) l [] _ a2 (fun x hx a hA => hforth x ((hdok l).1 hdo x hx) (h2 x hx) a hA)
      rw [← len_eq] at this
      rw [this, ByteArray.size_append, ← Nat.add_assoc]
      rfl
    · obtain rfl : i = o := List.mem_singleton.1 hi
      rw [upd_at, e]
end Go.Proofs.YtihiaopilnjonaaGreatDoor
namespace Go.Proofs.YtihiaopilnjonaaGreatDoor
open Go.RowKit
set_option linter.unusedSimpArgs false
set_option linter.unusedVariables false
abbrev FPair := GSpec × (Rcd → FSpec)
def gsOf (P : List FPair) : List GSpec := P.map fun p => p.1
def fsOf (P : List FPair) (y : Rcd) : List FSpec := P.map fun p => p.2 y
def pth (P : List FPair) (i : Nat) : FPair := P.getD i (GSpec.zero, fun _ => ⟨ByteArray.empty, false, false, false, ByteArray.empty⟩)
theorem pth_eq (P : List FPair) (i : Nat) (h : i < P.length) : pth P i = P[i] := by unfold pth; rw [List.getD_eq_getElem?_getD, List.getElem?_eq_getElem h]; rfl
theorem gsOf_len (P : List FPair) : (gsOf P).length = P.length := List.length_map _
theorem gth_of {P : List FPair} {i : Nat} (h : i < P.length) : gth (gsOf P) i = (pth P i).1 := by
  rw [gth_eq _ _ (by rw [gsOf_len]; exact h), pth_eq P i h]; unfold gsOf; rw [List.getElem_map]
structure FGs (s : ByteArray) (x0 : Rcd) (P : List FPair) : Prop where
  fg : ∀ p ∈ P, FG s x0 p.1 p.2
  ok : GOk x0 (gsOf P)
  len : P.length ≤ 1000
variable {s : ByteArray} {x0 : Rcd} {P : List FPair}
theorem FGs.at (h : FGs s x0 P) {i : Nat} (hi : i < P.length) : FG s x0 (gth (gsOf P) i) (pth P i).2 := by
  rw [gth_of hi]; exact h.fg _ (by rw [pth_eq P i hi]; exact List.getElem_mem _)
def fsFrom (P : List FPair) (y : Rcd) (m : Nat) : List FSpec := (fsOf P y).drop m
theorem fsFrom_end (y : Rcd) {m : Nat} (h : P.length ≤ m) : fsFrom P y m = [] := List.drop_eq_nil_of_le (by unfold fsOf; rw [List.length_map]; exact h)
theorem fsFrom_cons (y : Rcd) {m : Nat} (h : m < P.length) : fsFrom P y m = (pth P m).2 y :: fsFrom P y (m + 1) := by
  have h' : m < (P.map fun p => p.2 y).length := by rw [List.length_map]; exact h
  show (P.map fun p => p.2 y).drop m = (pth P m).2 y :: (P.map fun p => p.2 y).drop (m + 1)
  rw [List.drop_eq_getElem_cons h', pth_eq P m h, List.getElem_map]
theorem kept_cons (f : FSpec) (l : List FSpec) : keptF (f :: l) = if f.empty then keptF l else f :: keptF l := by
  unfold keptF; rw [List.filter_cons]; cases f.empty <;> rfl
theorem kept_skip (y : Rcd) : ∀ (k fr : Nat), fr + k ≤ P.length → (∀ i, fr ≤ i → i < fr + k → ((pth P i).2 y).empty = true) → keptF (fsFrom P y fr) = keptF (fsFrom P y (fr + k))
  | 0, fr, _, _ => rfl
  | k + 1, fr, h, he => by
    rw [fsFrom_cons y (m := fr) (by omega), kept_cons, he fr (Nat.le_refl _) (by omega), if_pos rfl, kept_skip y k (fr + 1) (by omega) (fun i h1 h2 => he i (by omega) (by omega))]
    rw [show fr + 1 + k = fr + (k + 1) by omega]
def catF (l : List FSpec) : ByteArray := catB ((keptF l).map fieldP)
theorem key_one (h : FGs s x0 P) {i j : Nat} (hi : i < P.length) (hj : j < P.length) (hij : i ≠ j) : ((gth (gsOf P) i).key.toList == (gth (gsOf P) j).key.toList) = false := by
  cases hb : ((gth (gsOf P) i).key.toList == (gth (gsOf P) j).key.toList) with
  | false => rfl
  | true => exact absurd (h.ok.keys i j (by rw [gsOf_len]; exact hi) (by rw [gsOf_len]; exact hj) (toList_same hb)) hij
theorem loop_forth (h : FGs s x0 P) {v : Rcd} (hv : Kd x0 v) (hd : ∀ o, DOk (v o)) (hm : allMay (fsOf P v) = true) : ∀ (k m fr : Nat), m + k = P.length → fr ≤ m → (∀ i, fr ≤ i → i < m → ((pth P i).2 v).empty = true) → ∀ (x : Rcd) (seen : List Nat) (a : Nat), Kd x0 x → (∀ i, m ≤ i → i < P.length → fresh x0 (gth (gsOf P) i) x) → At s a (catF (fsFrom P v m)) →
    ∃ y seen', objLoop s (gsOf P) (keptF (fsFrom P v m)).length fr x seen a = .ok (y, seen', a + (catF (fsFrom P v m)).size) ∧ (∀ i, m ≤ i → i < P.length → ∀ o, o ∈ (gth (gsOf P) i).offs → y o = v o) ∧ (∀ o, (∀ i, m ≤ i → i < P.length → o ∉ (gth (gsOf P) i).offs) → y o = x o) ∧ (∀ i, i ∈ seen → i ∈ seen') ∧ ∀ i, m ≤ i → i < P.length → ((pth P i).2 v).empty = false → i ∈ seen'
  | 0, m, fr, hk, hfr, he, x, seen, a, hx, hf, hA => by
    have e : fsFrom P v m = [] := fsFrom_end v (by omega)
    rw [e]
    exact ⟨x, seen, rfl, fun i h1 h2 => by omega, fun o _ => rfl, fun i h => h, fun i h1 h2 => by omega⟩
  | k + 1, m, fr, hk, hfr, he, x, seen, a, hx, hf, hA => by
    have hml : m < P.length := by omega
    have hmg : m < (gsOf P).length := by rw [gsOf_len]; exact hml
    have F := h.at hml
    rw [fsFrom_cons v hml] at hA ⊢
    unfold catF at hA ⊢
    rw [kept_cons] at hA ⊢
    cases hem : ((pth P m).2 v).empty with
    | true =>
      rw [hem, if_pos rfl] at hA
      rw [if_pos rfl]
      obtain ⟨y, seen', h1, h2, h3, h4, h5⟩ := loop_forth h hv hd hm k (m + 1) fr (by omega) (by omega) (fun i a b => by
        by_cases e : i = m
        · subst e; exact hem
        · exact he i a (by omega)) x seen a hx (fun i a b => hf i (by omega) b) hA
      refine ⟨y, seen', h1, fun i a b o ho => ?_, fun o ho => h3 o fun i a b => ho i (by omega) b, h4, fun i a b c => ?_⟩
      · by_cases e : i = m
        · subst e
          rw [h3 o (fun j j1 j2 hin => h.ok.disj i j (by rw [gsOf_len]; exact b) (by rw [gsOf_len]; exact j2) (by omega) o ho hin)]
          rw [hf i (Nat.le_refl _) b o ho]
          exact (F.zero v hv hem o ho).symm
        · exact h2 i (by omega) b o ho
      · by_cases e : i = m
        · subst e; rw [hem] at c; cases c
        · exact h5 i (by omega) b c
    | false =>
      rw [hem, if_neg (by decide)] at hA
      rw [if_neg (by decide)]
      rw [List.map_cons, catB] at hA ⊢
      obtain ⟨A1, A2⟩ := hA.app
      have hfp : fieldP ((pth P m).2 v) = strP (gth (gsOf P) m).key ++ ((pth P m).2 v).bytes := by unfold fieldP; rw [F.key]
      rw [hfp] at A1 A2 ⊢
      obtain ⟨K1, K2⟩ := A1.app
      have hks := F.ksz
      have hk2 : tkR 2 s a = .ok (((gth (gsOf P) m).key.size : Int), (gth (gsOf P) m).key, a + (strP (gth (gsOf P) m).key).size) :=
        tk_forth (sort := 2) (t := (gth (gsOf P) m).key) (by decide) K1 (by omega) (by omega) (fun _ => by omega) (by rfl)
      have hki : keyIdx (gsOf P) fr (gth (gsOf P) m).key = some (m - fr) := by
        refine keyIdx_some (by omega) (by rw [show fr + (m - fr) = m by omega]; simp) fun i hi => ?_
        exact key_one h (by omega) hml (by omega)
      have hmy : ((pth P m).2 v).may = true := by
        refine List.all_eq_true.1 hm _ ?_
        unfold fsOf; rw [pth_eq P m hml]
        exact List.mem_map.2 ⟨_, List.getElem_mem _, rfl⟩
      obtain ⟨y1, r1, r2⟩ := F.forth v x _ hv hd (hf m (Nat.le_refl _) hml) hx hmy hem K2
      have hfm : fr + (m - fr) = m := by omega
      have hky : Kd x0 y1 := h.ok.kinds _ (by rw [gth_eq _ _ hmg]; exact List.getElem_mem _) x _ _ r1 hx
      have hey : (gth (gsOf P) m).empty y1 = false := by rw [← F.emp y1 hky, F.loc y1 v r2]; exact hem
      have hfy : ∀ i, m + 1 ≤ i → i < P.length → fresh x0 (gth (gsOf P) i) y1 := fun i a b o ho => by
        have e1 : y1 o = x o := h.ok.frames _ (by rw [gth_eq _ _ hmg]; exact List.getElem_mem _) x _ _ r1 o (fun hin => h.ok.disj i m (by rw [gsOf_len]; exact b) hmg (by omega) o ho hin)
        rw [e1]
        exact hf i (by omega) b o ho
      rw [ByteArray.size_append, ← Nat.add_assoc] at A2
      obtain ⟨y, seen', h1, h2, h3, h4, h5⟩ := loop_forth h hv hd hm k (m + 1) (m + 1) (by omega) (Nat.le_refl _) (fun i a b => by omega) y1 (m :: seen) _ hky hfy A2
      have hn := objLoop_next (s := s) (gs := gsOf P) (g := (keptF (fsFrom P v (m + 1))).length) (fn := fr) (seen := seen) hk2 hki (by rw [hfm]; exact r1) (by rw [hfm]; exact hey)
      rw [hfm] at hn
      refine ⟨y, seen', ?_, fun i a b o ho => ?_, fun o ho => ?_, fun i hi => h4 i (List.mem_cons_of_mem _ hi), fun i a b c => ?_⟩
      · rw [List.length_cons, hn, h1]
        rw [ByteArray.size_append, ByteArray.size_append]
        unfold catF
        congr 3
        omega
      · by_cases e : i = m
        · subst e
          rw [h3 o (fun j j1 j2 hin => h.ok.disj i j hmg (by rw [gsOf_len]; exact j2) (by omega) o ho hin)]
          exact r2 o ho
        · exact h2 i (by omega) b o ho
      · rw [h3 o fun i a b => ho i (by omega) b]
        exact h.ok.frames _ (by rw [gth_eq _ _ hmg]; exact List.getElem_mem _) x _ _ r1 o (ho m (Nat.le_refl _) hml)
      · by_cases e : i = m
        · subst e; exact h4 i (List.mem_cons_self ..)
        · exact h5 i (by omega) b c
theorem kept_le (l : List FSpec) : (keptF l).length ≤ l.length := List.length_filter_le _ _
theorem fsOf_len (y : Rcd) : (fsOf P y).length = P.length := List.length_map _
theorem objR_forth (h : FGs s x0 P) {v x : Rcd} {a : Nat} (hv : Kd x0 v) (hd : ∀ o, DOk (v o)) (hm : allMay (fsOf P v) = true) (hx : Kd x0 x) (hf : ∀ i, i < P.length → fresh x0 (gth (gsOf P) i) x) (hA : At s a (layP (fsOf P v))) :
    ∃ y, objR s (gsOf P) x a = .ok (y, a + (layP (fsOf P v)).size) ∧ ∀ i, i < P.length → ∀ o, o ∈ (gth (gsOf P) i).offs → y o = v o := by
  unfold layP at hA ⊢
  obtain ⟨A1, A2⟩ := hA.app
  have hl := kept_le (fsOf P v)
  rw [fsOf_len] at hl
  have hp := h.len
  have h4 : tkR 4 s a = .ok (((keptF (fsOf P v)).length : Int), ByteArray.empty, a + (mapP (keptF (fsOf P v)).length).size) :=
    tk_forth (sort := 4) (t := ByteArray.empty) (by decide) A1 (by omega) (by omega) (fun _ => by omega) (by rfl)
  obtain ⟨y, seen', h1, h2, h3, _, h5⟩ := loop_forth h hv hd hm P.length 0 0 (by omega) (Nat.le_refl _) (fun i a b => by omega) x [] _ hx (fun i _ b => hf i b) A2
  refine ⟨y, ?_, fun i hi => h2 i (Nat.zero_le _) hi⟩
  have h1' : objLoop s (gsOf P) (((keptF (fsOf P v)).length : Int), ByteArray.empty, a + (mapP (keptF (fsOf P v)).length).size).1.toNat 0 x [] (a + (mapP (keptF (fsOf P v)).length).size) = .ok (y, seen', a + (mapP (keptF (fsOf P v)).length).size + (catB ((keptF (fsOf P v)).map fieldP)).size) := h1
  have hmi : missing (gsOf P) seen' = false := by
    cases hb : missing (gsOf P) seen' with
    | false => rfl
    | true =>
      obtain ⟨i, hi, hq⟩ := (missing_iff _ _).1 hb
      rw [gsOf_len] at hi
      simp only [Bool.and_eq_true, Bool.not_eq_true'] at hq
      have := h5 i (Nat.zero_le _) hi ((h.at hi).full hq.1 v)
      rw [List.contains_eq_mem] at hq
      simp [this] at hq
  have hk := objR_ok h4 h1' hmi
  rw [hk, ByteArray.size_append, Nat.add_assoc]
theorem loop_fine (h : FGs s x0 P) : ∀ (n fr : Nat) (x : Rcd) (seen : List Nat) (a : Nat) (y : Rcd × List Nat × Nat), objLoop s (gsOf P) n fr x seen a = .ok y → (∀ o, (∀ i, fr ≤ i → i < P.length → o ∉ (gth (gsOf P) i).offs) → y.1 o = x o) ∧ ∀ i, i ∈ y.2.1 → i ∈ seen ∨ fr ≤ i
  | 0, fr, x, seen, a, y, hy => by simp only [objLoop] at hy; cases hy; exact ⟨fun o _ => rfl, fun i hi => .inl hi⟩
  | n + 1, fr, x, seen, a, y, hy => by
    simp only [objLoop] at hy
    split at hy
    · cases hy
    · split at hy
      · cases hy
      · next j hj =>
        have hl := keyIdx_lt hj
        have hl' := hl
        rw [gsOf_len] at hl'
        split at hy
        · cases hy
        · next z hz =>
          split at hy
          · cases hy
          · obtain ⟨h1, h2⟩ := loop_fine h n _ _ _ _ y hy
            refine ⟨fun o ho => ?_, fun i hi => ?_⟩
            · rw [h1 o fun i a b => ho i (by omega) b]
              exact h.ok.frames _ (by rw [gth_eq _ _ hl]; exact List.getElem_mem _) x _ _ hz o (ho _ (by omega) hl')
            · rcases h2 i hi with h3 | h3
              · rcases List.mem_cons.1 h3 with rfl | h3
                · exact .inr (by omega)
                · exact .inl h3
              · exact .inr (by omega)
theorem loop_back (h : FGs s x0 P) (h00 : ∀ o, DOk (x0 o)) : ∀ (n fr : Nat) (x : Rcd) (seen : List Nat) (a : Nat) (y : Rcd × List Nat × Nat), objLoop s (gsOf P) n fr x seen a = .ok y → a ≤ s.size → fr ≤ P.length → Kd x0 x → (∀ i, fr ≤ i → i < P.length → fresh x0 (gth (gsOf P) i) x) → (∀ i, i ∈ seen → i < fr) → missing (gsOf P) y.2.1 = false →
    n = (keptF (fsFrom P y.1 fr)).length ∧ At s a (catF (fsFrom P y.1 fr)) ∧ y.2.2 = a + (catF (fsFrom P y.1 fr)).size ∧ ∀ i, fr ≤ i → i < P.length → ((pth P i).2 y.1).may = true ∧ ∀ o, o ∈ (gth (gsOf P) i).offs → DOk (y.1 o)
  | 0, fr, x, seen, a, y, hy, ha, hfr, hx, hf, hs, hmi => by
    simp only [objLoop] at hy; cases hy
    dsimp only at hmi ⊢
    have hun : ∀ i, fr ≤ i → i < P.length → ((pth P i).2 x).empty = true ∧ ((pth P i).2 x).may = true := fun i h1 h2 => by
      have F := h.at h2
      rw [F.loc x x0 (hf i h1 h2)]
      refine F.un ?_
      cases hb : (gth (gsOf P) i).must with
      | false => rfl
      | true =>
        have : missing (gsOf P) seen = true := (missing_iff _ _).2 ⟨i, by rw [gsOf_len]; exact h2, by
          rw [hb, List.contains_eq_mem]
          have : i ∉ seen := fun hin => by have := hs i hin; omega
          simp [this]⟩
        rw [this] at hmi; cases hmi
    have e := kept_skip x (P.length - fr) fr (by omega) (fun i h1 h2 => (hun i h1 (by omega)).1)
    rw [fsFrom_end (m := fr + (P.length - fr)) x (by omega)] at e
    refine ⟨by rw [e]; rfl, ?_, ?_, fun i h1 h2 => ⟨(hun i h1 h2).2, fun o ho => by rw [hf i h1 h2 o ho]; exact h00 o⟩⟩
    · unfold catF; rw [e]; exact At.nil ha
    · unfold catF; rw [e]; rfl
  | n + 1, fr, x, seen, a, y, hy, ha, hfr, hx, hf, hs, hmi => by
    simp only [objLoop] at hy
    split at hy
    · cases hy
    · next t ht =>
      split at hy
      · cases hy
      · next j hj =>
        have hl := keyIdx_lt hj
        have hml := hl
        rw [gsOf_len] at hml
        obtain ⟨m, hm⟩ : ∃ m, fr + j = m := ⟨_, rfl⟩
        have hkk := keyIdx_key hj
        rw [hm] at hy hl hml hkk
        have hmem : gth (gsOf P) m ∈ gsOf P := by rw [gth_eq _ _ hl]; exact List.getElem_mem _
        have F := h.at hml
        split at hy
        · cases hy
        · next z hz =>
          split at hy
          · cases hy
          · next hne =>
            have hne : (gth (gsOf P) m).empty z.1 = false := by simpa using hne
            obtain ⟨t1, t2, t3, t4, t5, t6, t7⟩ := tk_back (by decide) ha ht
            have t7 := t7 (.inr rfl)
            have hkz : Kd x0 z.1 := h.ok.kinds _ hmem x _ _ hz hx
            obtain ⟨b1, b2, b3, b4⟩ := F.back x _ z t6 (hf m (by omega) hml) hx hz hne
            have hb2 := b2.le
            obtain ⟨f1, f2⟩ := loop_fine h n (m + 1) z.1 (m :: seen) z.2 y hy
            have hfz : ∀ i, fr ≤ i → i < P.length → i ≠ m → fresh x0 (gth (gsOf P) i) z.1 := fun i h1 h2 hne o ho => by
              rw [h.ok.frames _ hmem x _ _ hz o (fun hin => h.ok.disj i m (by rw [gsOf_len]; exact h2) hl hne o ho hin)]
              exact hf i h1 h2 o ho
            obtain ⟨i1, i2, i3, i4⟩ := loop_back h h00 n (m + 1) z.1 (m :: seen) z.2 y hy (by omega) (by omega) hkz (fun i h1 h2 => hfz i (by omega) h2 (by omega)) (fun i hi => by
              rcases List.mem_cons.1 hi with rfl | hi
              · omega
              · have := hs i hi; omega) hmi
            have hlow : ∀ i, fr ≤ i → i < m → ((pth P i).2 y.1).empty = true ∧ ((pth P i).2 y.1).may = true ∧ ∀ o, o ∈ (gth (gsOf P) i).offs → DOk (y.1 o) := fun i h1 h2 => by
              have h3 : i < P.length := by omega
              have F := h.at h3
              have hfy : fresh x0 (gth (gsOf P) i) y.1 := fun o ho => by
                rw [f1 o fun j j1 j2 hin => h.ok.disj i j (by rw [gsOf_len]; exact h3) (by rw [gsOf_len]; exact j2) (by omega) o ho hin]
                exact hfz i h1 h3 (by omega) o ho
              rw [F.loc y.1 x0 hfy]
              refine (fun hu => ⟨hu.1, hu.2, fun o ho => by rw [hfy o ho]; exact h00 o⟩) (F.un ?_)
              cases hb : (gth (gsOf P) i).must with
              | false => rfl
              | true =>
                have : missing (gsOf P) y.2.1 = true := (missing_iff _ _).2 ⟨i, by rw [gsOf_len]; exact h3, by
                  rw [hb, List.contains_eq_mem]
                  have : i ∉ y.2.1 := fun hin => by
                    rcases f2 i hin with h4 | h4
                    · rcases List.mem_cons.1 h4 with rfl | h4
                      · omega
                      · have := hs i h4; omega
                    · omega
                  simp [this]⟩
                rw [this] at hmi; cases hmi
            have hyz : (pth P m).2 y.1 = (pth P m).2 z.1 := F.loc _ _ fun o ho => f1 o fun j j1 j2 hin => h.ok.disj m j hl (by rw [gsOf_len]; exact j2) (by omega) o ho hin
            have hem : ((pth P m).2 y.1).empty = false := by rw [hyz, F.emp _ hkz]; exact hne
            have e := kept_skip y.1 (m - fr) fr (by omega) (fun i h1 h2 => (hlow i h1 (by omega)).1)
            rw [show fr + (m - fr) = m by omega, fsFrom_cons y.1 hml, kept_cons, hem, if_neg (by decide)] at e
            have hfp : fieldP ((pth P m).2 y.1) = laidP 2 t.1 t.2.1 ++ ((pth P m).2 z.1).bytes := by
              unfold fieldP strP; rw [F.key, hkk, hyz, t7]
            have hcat : catF (fsFrom P y.1 fr) = (laidP 2 t.1 t.2.1 ++ ((pth P m).2 z.1).bytes) ++ catF (fsFrom P y.1 (m + 1)) := by
              unfold catF; rw [e, List.map_cons, catB, hfp]
            rw [t2] at b2
            refine ⟨by rw [e, List.length_cons, ← i1], ?_, ?_, fun i h1 h2 => ?_⟩
            · rw [hcat]
              refine (t1.join b2).join ?_
              rw [ByteArray.size_append, ← Nat.add_assoc, ← t2, ← b3]; exact i2
            · rw [hcat, ByteArray.size_append, ByteArray.size_append]; omega
            · rcases Nat.lt_trichotomy i m with h3 | h3 | h3
              · exact (hlow i h1 h3).2
              · subst h3; rw [hyz]
                refine ⟨b1, fun o ho => ?_⟩
                rw [f1 o fun j j1 j2 hin => h.ok.disj i j hl (by rw [gsOf_len]; exact j2) (by omega) o ho hin]
                exact b4 o ho
              · exact i4 i h3 h2
theorem objR_back (h : FGs s x0 P) (h00 : ∀ o, DOk (x0 o)) {x : Rcd} {a : Nat} {y : Rcd × Nat} (ha : a ≤ s.size) (hx : Kd x0 x) (hf : ∀ i, i < P.length → fresh x0 (gth (gsOf P) i) x) (hy : objR s (gsOf P) x a = .ok y) :
    allMay (fsOf P y.1) = true ∧ At s a (layP (fsOf P y.1)) ∧ y.2 = a + (layP (fsOf P y.1)).size ∧ (∀ i, i < P.length → ∀ o, o ∈ (gth (gsOf P) i).offs → DOk (y.1 o)) ∧ ∀ o, (∀ i, i < P.length → o ∉ (gth (gsOf P) i).offs) → y.1 o = x o := by
  unfold objR at hy
  split at hy
  · cases hy
  · next n hn =>
    split at hy
    · cases hy
    · next z hz =>
      split at hy
      · cases hy
      · next hmi =>
        have hmi : missing (gsOf P) z.2.1 = false := by simpa using hmi
        cases hy
        obtain ⟨t1, t2, t3, t4, t5, t6, t7⟩ := tk_back (by decide) ha hn
        obtain ⟨i1, i2, i3, i4⟩ := loop_back h h00 _ 0 x [] _ z hz t6 (Nat.zero_le _) hx (fun i _ h2 => hf i h2) (fun i hi => by cases hi) hmi
        have e0 : fsFrom P z.1 0 = fsOf P z.1 := rfl
        rw [e0] at i1 i2 i3
        have hmp : laidP 4 n.1 n.2.1 = mapP (keptF (fsOf P z.1)).length := by
          rw [← i1]; unfold mapP; rw [show ((n.1.toNat : Nat) : Int) = n.1 by omega]; rfl
        rw [hmp] at t1 t2
        refine ⟨List.all_eq_true.2 fun f hf => ?_, ?_, ?_, fun i hi => (i4 i (Nat.zero_le _) hi).2, fun o ho => (loop_fine h _ 0 x [] _ z hz).1 o fun i _ hi => ho i hi⟩
        · obtain ⟨p, hp, rfl⟩ := List.mem_map.1 hf
          obtain ⟨i, hi, rfl⟩ := List.getElem_of_mem hp
          rw [← pth_eq P i hi]
          exact (i4 i (Nat.zero_le _) hi).1
        · unfold layP; rw [t2] at i2; exact t1.join i2
        · unfold layP; rw [ByteArray.size_append]
          show z.2.2 = a + ((mapP (keptF (fsOf P z.1)).length).size + (catF (fsOf P z.1)).size)
          rw [i3, t2]; omega
theorem fg_obj (key : ByteArray) (hk : key.size ≤ 10240) (h : FGs s x0 P) (h00 : ∀ o, DOk (x0 o)) (hpos : 0 < P.length) : FG s x0 (gobj s key (gsOf P)) (fun y => objSpec key (fsOf P y)) := by
  have hoffs : ∀ {i o : Nat}, i < P.length → o ∈ (gth (gsOf P) i).offs → o ∈ (gobj s key (gsOf P)).offs := fun {i o} hi ho => List.mem_flatMap.2 ⟨gth (gsOf P) i, by rw [gth_eq (gsOf P) i (by rw [gsOf_len]; exact hi)]; exact List.getElem_mem _, ho⟩
  have hloc : ∀ y z : Rcd, (∀ o, o ∈ (gobj s key (gsOf P)).offs → y o = z o) → fsOf P y = fsOf P z := fun y z hh => by
    unfold fsOf
    refine List.map_congr_left fun p hp => ?_
    obtain ⟨i, hi, rfl⟩ := List.getElem_of_mem hp
    rw [← pth_eq P i hi]
    exact (h.at hi).loc y z fun o ho => hh o (hoffs hi ho)
  have hemp : ∀ y, Kd x0 y → ((fsOf P y).all fun f => f.empty) = ((gsOf P).all fun g => g.empty y) := fun y hy => by
    unfold fsOf gsOf
    rw [List.all_map, List.all_map, Bool.eq_iff_iff, List.all_eq_true, List.all_eq_true]
    refine forall_congr' fun p => forall_congr' fun hp => ?_
    show (p.2 y).empty = true ↔ p.1.empty y = true
    rw [(h.fg p hp).emp y hy]
  have hfr : ∀ {x : Rcd}, fresh x0 (gobj s key (gsOf P)) x → ∀ i, i < P.length → fresh x0 (gth (gsOf P) i) x := fun {x} hx i hi o ho => hx o (hoffs hi ho)
  constructor
  · exact fun y => rfl
  · exact hk
  · intro y
    show ((fsOf P y).any fun f => f.must) = ((gsOf P).any fun g => g.must)
    unfold fsOf gsOf
    rw [List.any_map, List.any_map, Bool.eq_iff_iff, List.any_eq_true, List.any_eq_true]
    refine exists_congr fun p => and_congr_right fun hp => ?_
    show (p.2 y).must = true ↔ p.1.must = true
    rw [(h.fg p hp).must y]
  · intro y z hh
    show objSpec key (fsOf P y) = objSpec key (fsOf P z)
    rw [hloc y z hh]
  · exact fun y hy => hemp y hy
  · intro hm y
    have hm' : ((gsOf P).any fun g => g.must) = true := hm
    obtain ⟨g, hg, hgm⟩ := List.any_eq_true.1 hm'
    obtain ⟨p, hp, rfl⟩ := List.mem_map.1 hg
    show ((fsOf P y).all fun f => f.empty) = false
    rw [List.all_eq_false]
    exact ⟨p.2 y, List.mem_map.2 ⟨p, hp, rfl⟩, by rw [(h.fg p hp).full hgm y]; decide⟩
  · intro hm
    have hm' : ((gsOf P).any fun g => g.must) = false := hm
    rw [List.any_eq_false] at hm'
    have hu : ∀ p ∈ P, (p.2 x0).empty = true ∧ (p.2 x0).may = true := fun p hp => (h.fg p hp).un (by simpa using hm' p.1 (List.mem_map.2 ⟨p, hp, rfl⟩))
    refine ⟨List.all_eq_true.2 fun f hf => ?_, List.all_eq_true.2 fun f hf => ?_⟩
    · obtain ⟨p, hp, rfl⟩ := List.mem_map.1 hf; exact (hu p hp).1
    · obtain ⟨p, hp, rfl⟩ := List.mem_map.1 hf; exact (hu p hp).2
  · intro v hv he o ho
    obtain ⟨g, hg, hgo⟩ := List.mem_flatMap.1 ho
    obtain ⟨p, hp, rfl⟩ := List.mem_map.1 hg
    exact (h.fg p hp).zero v hv (List.all_eq_true.1 he _ (List.mem_map.2 ⟨p, hp, rfl⟩)) o hgo
  · intro x a y ha hf hx hy _
    obtain ⟨h1, h2, h3, h4, _⟩ := objR_back h h00 ha hx (hfr hf) hy
    refine ⟨h1, h2, h3, fun o ho => ?_⟩
    obtain ⟨g, hg, hgo⟩ := List.mem_flatMap.1 ho
    obtain ⟨p, hp, rfl⟩ := List.mem_map.1 hg
    obtain ⟨i, hi, rfl⟩ := List.getElem_of_mem hp
    exact h4 i hi o (by rw [gth_of hi, pth_eq P i hi]; exact hgo)
  · intro v x a hv hd hf hx hm he hA
    obtain ⟨y, h1, h2⟩ := objR_forth h hv hd hm hx (hfr hf) hA
    refine ⟨y, h1, fun o ho => ?_⟩
    obtain ⟨g, hg, hgo⟩ := List.mem_flatMap.1 ho
    obtain ⟨p, hp, rfl⟩ := List.mem_map.1 hg
    obtain ⟨i, hi, rfl⟩ := List.getElem_of_mem hp
    exact h2 i hi o (by rw [gth_of hi, pth_eq P i hi]; exact hgo)
theorem readR_forth (h : FGs s x0 P) {v : Rcd} (hv : Kd x0 v) (hd : ∀ o, DOk (v o)) (hm : allMay (fsOf P v) = true) (hs : s = layP (fsOf P v)) : ∃ y, readR s (gsOf P) x0 = .ok y ∧ ∀ i, i < P.length → ∀ o, o ∈ (gth (gsOf P) i).offs → y o = v o := by
  obtain ⟨y, h1, h2⟩ := objR_forth h hv hd hm (fun i => rfl) (fun i _ o _ => rfl) (by rw [hs]; exact At.self _ : At s 0 (layP (fsOf P v)))
  refine ⟨y, ?_, h2⟩
  unfold readR
  rw [h1]
  simp only
  rw [← hs, if_neg (by omega)]
theorem readR_back (h : FGs s x0 P) (h00 : ∀ o, DOk (x0 o)) {y : Rcd} (hy : readR s (gsOf P) x0 = .ok y) : allMay (fsOf P y) = true ∧ layP (fsOf P y) = s ∧ ∀ o, DOk (y o) := by
  unfold readR at hy
  split at hy
  · cases hy
  · next z hz =>
    split at hy
    · cases hy
    · next hlt =>
      cases hy
      obtain ⟨h1, h2, h3, h4, h5⟩ := objR_back h h00 (Nat.zero_le _) (fun i => rfl) (fun i _ o _ => rfl) hz
      refine ⟨h1, ?_, fun o => ?_⟩
      rotate_left
      · by_cases hex : ∃ i, i < P.length ∧ o ∈ (gth (gsOf P) i).offs
        · obtain ⟨i, hi, ho⟩ := hex
          exact h4 i hi o ho
        · rw [h5 o fun i hi ho => hex ⟨i, hi, ho⟩]; exact h00 o
      obtain ⟨_, R, e⟩ := h2
      rw [List.drop_zero] at e
      have := congrArg List.length e
      rw [List.length_append, ba_len, ba_len] at this
      have hR : R = [] := List.eq_nil_of_length_eq_zero (by omega)
      rw [hR, List.append_nil] at e
      exact ba_ext e.symm
end Go.Proofs.YtihiaopilnjonaaGreatDoor
namespace Go.Proofs.YtihiaopilnjonaaGreatDoor
open Go.RowKit
set_option linter.unusedSimpArgs false
set_option linter.unusedVariables false
def dgsF (key : ByteArray) (o most : Nat) : Rcd → FSpec := manyF key o DV.l (fun l => mayB l most) binP
theorem mayB_iff (l : List ByteArray) (most : Nat) : mayB l most = true ↔ len l ≤ most ∧ ∀ x ∈ l, x.size = 32 := by
  unfold mayB
  rw [Bool.and_eq_true, decide_eq_true_iff, List.all_eq_true]
  exact and_congr_right fun _ => forall_congr' fun x => forall_congr' fun _ => decide_eq_true_iff
theorem fg_digs {s : ByteArray} {x0 : Rcd} (key : ByteArray) (o most : Nat) (hk : key.size ≤ 10240) (hm : most ≤ 10240) (h0 : x0 o = .strs []) : FG s x0 (gdigs s key o most) (dgsF key o most) :=
  fg_many key o most .strs DV.l (fun l => mayB l most) (fun x => x.size = 32) binP (rdig s) (fun _ => True) hk hm h0 (fun _ => rfl)
    (fun d h => by cases d <;> first | rfl | (cases h)) (fun _ => rfl) (fun l => mayB_iff l most) (fun l => ⟨fun _ _ _ => trivial, fun _ => trivial⟩)
    (fun a x ha h => by obtain ⟨h1, h2, h3⟩ := rdig_back ha h; exact ⟨h1, h2, h3, trivial⟩) (fun x _ h a hA => rdig_forth hA h)
def partFP (s : ByteArray) (o : Nat) : List FPair := [(gnum s ⟨#[102]⟩ (o + 2), numF ⟨#[102]⟩ (o + 2)), (gnum s ⟨#[107]⟩ (o + 4), numF ⟨#[107]⟩ (o + 4)), (gnum s ⟨#[108]⟩ (o + 3), numF ⟨#[108]⟩ (o + 3)), (gdig s ⟨#[114]⟩ o, digF ⟨#[114]⟩ o), (gnum s ⟨#[119]⟩ (o + 1), numF ⟨#[119]⟩ (o + 1))]
def sigFP (s : ByteArray) (o : Nat) : List FPair := [(gnum s ⟨#[105]⟩ o, numF ⟨#[105]⟩ o), (gdigs s ⟨#[112]⟩ (o + 2) 16, dgsF ⟨#[112]⟩ (o + 2) 16), (gdigs s ⟨#[118]⟩ (o + 1) 67, dgsF ⟨#[118]⟩ (o + 1) 67)]
def slotFP (s : ByteArray) (o : Nat) : List FPair := [(gobj s ⟨#[103]⟩ (gsOf (sigFP s (o + 2))), fun y => objSpec ⟨#[103]⟩ (fsOf (sigFP s (o + 2)) y)), (gnum s ⟨#[108]⟩ o, numF ⟨#[108]⟩ o), (gflag s ⟨#[115]⟩ (o + 1), flagF ⟨#[115]⟩ (o + 1))]
def msgFP (s : ByteArray) : List FPair := [(gnum s ⟨#[102]⟩ 4, numF ⟨#[102]⟩ 4), (gdig s ⟨#[104]⟩ 0, digF ⟨#[104]⟩ 0), (gnum s ⟨#[108]⟩ 5, numF ⟨#[108]⟩ 5), (gnum s ⟨#[110]⟩ 2, numF ⟨#[110]⟩ 2), (gdig s ⟨#[118]⟩ 1, digF ⟨#[118]⟩ 1), (gnum s ⟨#[119]⟩ 3, numF ⟨#[119]⟩ 3)]
def headerFP (s : ByteArray) : List FPair := [(gdig s ⟨#[112]⟩ 1, digF ⟨#[112]⟩ 1), (gnum s ⟨#[114]⟩ 0, numF ⟨#[114]⟩ 0), (gdig s ⟨#[115]⟩ 3, digF ⟨#[115]⟩ 3), (gdig s ⟨#[116]⟩ 2, digF ⟨#[116]⟩ 2)]
theorem fgs_part {s : ByteArray} {x0 : Rcd} (o : Nat) (hK : KPart x0 o) (h1 : x0 (o + 1) = .num 0) (h2 : x0 (o + 2) = .num 0) (h3 : x0 (o + 3) = .num 0) (h4 : x0 (o + 4) = .num 0) : FGs s x0 (partFP s o) :=
  ⟨by
    unfold partFP
    simp only [List.mem_cons, List.not_mem_nil, or_false]
    rintro p (rfl | rfl | rfl | rfl | rfl)
    · exact fg_num _ _ (by decide) h2
    · exact fg_num _ _ (by decide) h4
    · exact fg_num _ _ (by decide) h3
    · exact fg_dig _ _ (by decide) hK.c0
    · exact fg_num _ _ (by decide) h1, PartOk s o hK, by show 5 ≤ 1000; decide⟩
theorem fgs_sig {s : ByteArray} {x0 : Rcd} (o : Nat) (hK : KSig x0 o) (h0 : x0 o = .num 0) : FGs s x0 (sigFP s o) :=
  ⟨by
    unfold sigFP
    simp only [List.mem_cons, List.not_mem_nil, or_false]
    rintro p (rfl | rfl | rfl)
    · exact fg_num _ _ (by decide) h0
    · exact fg_digs _ _ _ (by decide) (by decide) hK.c2
    · exact fg_digs _ _ _ (by decide) (by decide) hK.c1, SigOk s o hK, by show 3 ≤ 1000; decide⟩
theorem fgs_slot {s : ByteArray} {x0 : Rcd} (o : Nat) (hK : KSlot x0 o) (h0 : x0 o = .num 0) (h1 : x0 (o + 1) = .flag false) (h2 : x0 (o + 2) = .num 0) (h00 : ∀ o, DOk (x0 o)) : FGs s x0 (slotFP s o) :=
  ⟨by
    unfold slotFP
    simp only [List.mem_cons, List.not_mem_nil, or_false]
    rintro p (rfl | rfl | rfl)
    · exact fg_obj _ (by decide) (fgs_sig (o + 2) hK.c2 h2) h00 (by show 0 < 3; decide)
    · exact fg_num _ _ (by decide) h0
    · exact fg_flag _ _ (by decide) h1, SlotOk s o hK, by show 3 ≤ 1000; decide⟩
theorem part0_ok (o : Nat) : DOk (part0 o) := by
  unfold part0; split <;> first | trivial | exact ⟨by decide, by decide⟩
theorem slot0_ok (o : Nat) : DOk (slot0 o) := by
  unfold slot0; split <;> first | trivial | exact ⟨by decide, by decide⟩
theorem msg0_ok (o : Nat) : DOk (msg0 o) := by
  unfold msg0; split <;> first | trivial | exact ⟨by decide, by decide⟩
theorem header0_ok (o : Nat) : DOk (header0 o) := by
  unfold header0; split <;> first | trivial | exact ⟨by decide, by decide⟩
theorem fgs_msg (s : ByteArray) : FGs s msg0 (msgFP s) :=
  ⟨by
    unfold msgFP
    simp only [List.mem_cons, List.not_mem_nil, or_false]
    rintro p (rfl | rfl | rfl | rfl | rfl | rfl)
    · exact fg_num _ _ (by decide) rfl
    · exact fg_dig _ _ (by decide) rfl
    · exact fg_num _ _ (by decide) rfl
    · exact fg_num _ _ (by decide) rfl
    · exact fg_dig _ _ (by decide) rfl
    · exact fg_num _ _ (by decide) rfl, MsgOk s, by show 6 ≤ 1000; decide⟩
theorem fgs_header (s : ByteArray) : FGs s header0 (headerFP s) :=
  ⟨by
    unfold headerFP
    simp only [List.mem_cons, List.not_mem_nil, or_false]
    rintro p (rfl | rfl | rfl | rfl)
    · exact fg_dig _ _ (by decide) rfl
    · exact fg_num _ _ (by decide) rfl
    · exact fg_dig _ _ (by decide) rfl
    · exact fg_dig _ _ (by decide) rfl, HeaderOk s, by show 4 ≤ 1000; decide⟩
def partC (root : ByteArray) (weight first life keys : Int) : Rcd := fun i => match i with | 0 => .str root | 1 => .num weight | 2 => .num first | 3 => .num life | _ => .num keys
def slotC (L : Int) (q : Bool) (idx : Int) (ws ps : List ByteArray) : Rcd := fun i => match i with | 0 => .num L | 1 => .flag q | 3 => .strs ws | 4 => .strs ps | _ => .num idx
def msgC (hd pt : ByteArray) (cnt prv fst lst : Int) : Rcd := fun i => match i with | 0 => .str hd | 1 => .str pt | 2 => .num cnt | 3 => .num prv | 4 => .num fst | _ => .num lst
def headerC (rnd : Int) (prev txns seed : ByteArray) : Rcd := fun i => match i with | 1 => .str prev | 2 => .str txns | 3 => .str seed | _ => .num rnd
theorem part_forth {root : ByteArray} {weight first life keys : Int} (hw : U64i weight) (hf : U64i first) (hl : U64i life) (hk : U64i keys) (hm : allMay (partSpecs root weight first life keys) = true) {s : ByteArray} (hs : s = layP (partSpecs root weight first life keys)) :
    ∃ y, readR s (partGs s 0) part0 = .ok y ∧ (y 0).s = root ∧ (y 1).n = weight ∧ (y 2).n = first ∧ (y 3).n = life ∧ (y 4).n = keys := by
  have hkd : Kd part0 (partC root weight first life keys) := fun i => by
    match i with
    | 0 | 1 | 2 | 3 => rfl
    | i + 4 => rfl
  have hdk : ∀ o, DOk (partC root weight first life keys o) := fun o => by unfold partC; split <;> first | trivial | assumption
  obtain ⟨y, h1, h2⟩ := readR_forth (fgs_part (s := s) (x0 := part0) 0 ⟨rfl, rfl, rfl, rfl, rfl⟩ rfl rfl rfl rfl) hkd hdk hm hs
  refine ⟨y, h1, ?_, ?_, ?_, ?_, ?_⟩
  · rw [h2 3 (by show 3 < 5; decide) 0 (List.mem_singleton.2 rfl)]; rfl
  · rw [h2 4 (by show 4 < 5; decide) 1 (List.mem_singleton.2 rfl)]; rfl
  · rw [h2 0 (by show 0 < 5; decide) 2 (List.mem_singleton.2 rfl)]; rfl
  · rw [h2 2 (by show 2 < 5; decide) 3 (List.mem_singleton.2 rfl)]; rfl
  · rw [h2 1 (by show 1 < 5; decide) 4 (List.mem_singleton.2 rfl)]; rfl
theorem slot_forth {L : Int} {q : Bool} {idx : Int} {ws ps : List ByteArray} (hL : U64i L) (hi : U64i idx) (hm : allMay (slotSpecs L q idx ws ps) = true) {s : ByteArray} (hs : s = layP (slotSpecs L q idx ws ps)) :
    ∃ y, readR s (slotGs s 0) slot0 = .ok y ∧ (y 0).n = L ∧ (y 1).q = q ∧ (y 2).n = idx ∧ (y 3).l = ws ∧ (y 4).l = ps := by
  have hkd : Kd slot0 (slotC L q idx ws ps) := fun i => by
    match i with
    | 0 | 1 | 2 | 3 | 4 => rfl
    | i + 5 => rfl
  have hdk : ∀ o, DOk (slotC L q idx ws ps o) := fun o => by unfold slotC; split <;> first | trivial | assumption
  obtain ⟨y, h1, h2⟩ := readR_forth (fgs_slot (s := s) (x0 := slot0) 0 ⟨rfl, rfl, ⟨rfl, rfl, rfl⟩⟩ rfl rfl rfl slot0_ok) hkd hdk hm hs
  refine ⟨y, h1, ?_, ?_, ?_, ?_, ?_⟩
  · rw [h2 1 (by show 1 < 3; decide) 0 (List.mem_singleton.2 rfl)]; rfl
  · rw [h2 2 (by show 2 < 3; decide) 1 (List.mem_singleton.2 rfl)]; rfl
  · rw [h2 0 (by show 0 < 3; decide) 2 (by show 2 ∈ [2, 4, 3]; decide)]; rfl
  · rw [h2 0 (by show 0 < 3; decide) 3 (by show 3 ∈ [2, 4, 3]; decide)]; rfl
  · rw [h2 0 (by show 0 < 3; decide) 4 (by show 4 ∈ [2, 4, 3]; decide)]; rfl
theorem msg_forth {hd pt : ByteArray} {cnt prv fst lst : Int} (h2 : U64i cnt) (h3 : U64i prv) (h4 : U64i fst) (h5 : U64i lst) (hm : allMay (msgSpecs hd pt cnt prv fst lst) = true) {s : ByteArray} (hs : s = layP (msgSpecs hd pt cnt prv fst lst)) :
    ∃ y, readR s (msgGs s) msg0 = .ok y ∧ (y 0).s = hd ∧ (y 1).s = pt ∧ (y 2).n = cnt ∧ (y 3).n = prv ∧ (y 4).n = fst ∧ (y 5).n = lst := by
  have hkd : Kd msg0 (msgC hd pt cnt prv fst lst) := fun i => by
    match i with
    | 0 | 1 | 2 | 3 | 4 => rfl
    | i + 5 => rfl
  have hdk : ∀ o, DOk (msgC hd pt cnt prv fst lst o) := fun o => by unfold msgC; split <;> first | trivial | assumption
  obtain ⟨y, h1, h2⟩ := readR_forth (fgs_msg s) hkd hdk hm hs
  refine ⟨y, h1, ?_, ?_, ?_, ?_, ?_, ?_⟩
  · rw [h2 1 (by show 1 < 6; decide) 0 (List.mem_singleton.2 rfl)]; rfl
  · rw [h2 4 (by show 4 < 6; decide) 1 (List.mem_singleton.2 rfl)]; rfl
  · rw [h2 3 (by show 3 < 6; decide) 2 (List.mem_singleton.2 rfl)]; rfl
  · rw [h2 5 (by show 5 < 6; decide) 3 (List.mem_singleton.2 rfl)]; rfl
  · rw [h2 0 (by show 0 < 6; decide) 4 (List.mem_singleton.2 rfl)]; rfl
  · rw [h2 2 (by show 2 < 6; decide) 5 (List.mem_singleton.2 rfl)]; rfl
theorem header_forth {rnd : Int} {prev txns seed : ByteArray} (h0 : U64i rnd) (hm : allMay (headerSpecs rnd prev txns seed) = true) {s : ByteArray} (hs : s = layP (headerSpecs rnd prev txns seed)) :
    ∃ y, readR s (headerGs s) header0 = .ok y ∧ (y 0).n = rnd ∧ (y 1).s = prev ∧ (y 2).s = txns ∧ (y 3).s = seed := by
  have hkd : Kd header0 (headerC rnd prev txns seed) := fun i => by
    match i with
    | 0 | 1 | 2 | 3 => rfl
    | i + 4 => rfl
  have hdk : ∀ o, DOk (headerC rnd prev txns seed o) := fun o => by unfold headerC; split <;> first | trivial | assumption
  obtain ⟨y, h1, h2⟩ := readR_forth (fgs_header s) hkd hdk hm hs
  refine ⟨y, h1, ?_, ?_, ?_, ?_⟩
  · rw [h2 1 (by show 1 < 4; decide) 0 (List.mem_singleton.2 rfl)]; rfl
  · rw [h2 0 (by show 0 < 4; decide) 1 (List.mem_singleton.2 rfl)]; rfl
  · rw [h2 3 (by show 3 < 4; decide) 2 (List.mem_singleton.2 rfl)]; rfl
  · rw [h2 2 (by show 2 < 4; decide) 3 (List.mem_singleton.2 rfl)]; rfl
theorem part_back {s : ByteArray} {y : Rcd} (h : readR s (partGs s 0) part0 = .ok y) : allMay (partSpecs (y 0).s (y 1).n (y 2).n (y 3).n (y 4).n) = true ∧ layP (partSpecs (y 0).s (y 1).n (y 2).n (y 3).n (y 4).n) = s ∧ ∀ o, DOk (y o) :=
  readR_back (fgs_part (s := s) (x0 := part0) 0 ⟨rfl, rfl, rfl, rfl, rfl⟩ rfl rfl rfl rfl) part0_ok h
theorem slot_back {s : ByteArray} {y : Rcd} (h : readR s (slotGs s 0) slot0 = .ok y) : allMay (slotSpecs (y 0).n (y 1).q (y 2).n (y 3).l (y 4).l) = true ∧ layP (slotSpecs (y 0).n (y 1).q (y 2).n (y 3).l (y 4).l) = s ∧ ∀ o, DOk (y o) :=
  readR_back (fgs_slot (s := s) (x0 := slot0) 0 ⟨rfl, rfl, ⟨rfl, rfl, rfl⟩⟩ rfl rfl rfl slot0_ok) slot0_ok h
theorem msg_back {s : ByteArray} {y : Rcd} (h : readR s (msgGs s) msg0 = .ok y) : allMay (msgSpecs (y 0).s (y 1).s (y 2).n (y 3).n (y 4).n (y 5).n) = true ∧ layP (msgSpecs (y 0).s (y 1).s (y 2).n (y 3).n (y 4).n (y 5).n) = s ∧ ∀ o, DOk (y o) :=
  readR_back (fgs_msg s) msg0_ok h
theorem header_back {s : ByteArray} {y : Rcd} (h : readR s (headerGs s) header0 = .ok y) : allMay (headerSpecs (y 0).n (y 1).s (y 2).s (y 3).s) = true ∧ layP (headerSpecs (y 0).n (y 1).s (y 2).s (y 3).s) = s ∧ ∀ o, DOk (y o) :=
  readR_back (fgs_header s) header0_ok h
end Go.Proofs.YtihiaopilnjonaaGreatDoor
namespace Go.Proofs.YtihiaopilnjonaaGreatDoor
open Go.RowKit
set_option linter.unusedSimpArgs false
set_option linter.unusedVariables false
def putB (w : World) (t : Nat) (y : Obj) : World := { w with heap := w.heap.setIfInBounds t y }
theorem putB_ne {w : World} {t k : Nat} {y : Obj} (h : k ≠ t) : (putB w t y).heap[k]? = w.heap[k]? := by
  show (w.heap.setIfInBounds t y)[k]? = _
  rw [Array.getElem?_setIfInBounds_ne (fun e => h e.symm)]
theorem putB_size (w : World) (t : Nat) (y : Obj) : (putB w t y).heap.size = w.heap.size := Array.size_setIfInBounds
theorem putB_at {w : World} {t : Nat} {y x : Obj} (h : (putB w t y).heap[t]? = some x) : x = y := by
  have h' : (w.heap.setIfInBounds t y)[t]? = some x := h
  by_cases hl : t < w.heap.size
  · rw [Array.getElem?_setIfInBounds_self_of_lt hl] at h'; cases h'; rfl
  · rw [Array.getElem?_eq_none (by rw [Array.size_setIfInBounds]; omega)] at h'; cases h'
theorem keep_putB {B t : Nat} {w w' : World} (hb : Below w.heap.size w w') (hB : B ≤ w.heap.size) (ht : B ≤ t) (y : Obj) : Keep8 B (putB w t y) (putB w' t y) := by
  refine ⟨by rw [putB_size]; exact hB, by rw [putB_size, putB_size]; exact hb.size, fun k hk => ?_, fun k x hx hn => ?_⟩
  · rw [putB_ne (by omega), putB_ne (by omega)]; exact hb.block k (by omega)
  · by_cases e : k = t
    · subst e
      have hl : k < w.heap.size := by have := lt_of_block hx; rw [putB_size] at this; exact this
      have := putB_at hx
      subst this
      show (w'.heap.setIfInBounds k x)[k]? = some x
      rw [Array.getElem?_setIfInBounds_self_of_lt (Nat.lt_of_lt_of_le hl hb.size)]
    · rw [putB_ne e] at hx ⊢
      rw [hb.block k (lt_of_block hx)]; exact hx
def FIT (B t : Nat) (w : World) (v : FVal) (f : FSpec) : Prop := B ≤ w.heap.size ∧ B ≤ t ∧ ∀ y, FSem B (putB w t y) v f
theorem FIT.below {B t : Nat} {w w' : World} {v : FVal} {f : FSpec} (h : FIT B t w v f) (hb : Below w.heap.size w w') : FIT B t w' v f :=
  ⟨Nat.le_trans h.1 hb.size, h.2.1, fun y => (h.2.2 y).later (keep_putB hb h.1 h.2.1 y)⟩
def CellOff (B t : Nat) (w : World) (b o : Nat) (x : Value) : Prop := CellAt B w b o x ∧ b ≠ t
theorem CellOff.below {B t : Nat} {w w' : World} {b o : Nat} {x : Value} (h : CellOff B t w b o x) (hb : Below w.heap.size w w') : CellOff B t w' b o x := ⟨h.1.below hb, h.2⟩
def StrsOff (B t : Nat) (w : World) (a : Option Addr) (l : List ByteArray) : Prop := ∀ i, i < len l → ∃ b off, a = some ⟨b, off, none⟩ ∧ CellOff B t w b (off + i) (.string (sth l i))
theorem StrsOff.below {B t : Nat} {w w' : World} {a : Option Addr} {l : List ByteArray} (h : StrsOff B t w a l) (hb : Below w.heap.size w w') : StrsOff B t w' a l := fun i hi => by
  obtain ⟨b, off, e, hc⟩ := h i hi; exact ⟨b, off, e, hc.below hb⟩
section
variable {B t : Nat} {w : World}
end
end Go.Proofs.YtihiaopilnjonaaGreatDoor
namespace Go.Proofs.YtihiaopilnjonaaGreatDoor
set_option linter.unusedSimpArgs false
open Go.RowKit
set_option linter.unusedVariables false
def EsV (VO : Nat → Option Nat) (X : Nat → World → World → Prop) (j : Nat) (w w' : World) : Prop := w.grownBy w' (VO j) ∧ X j w w'
theorem esV_refl {VO : Nat → Option Nat} {X : Nat → World → World → Prop} {j : Nat} (hX : ∀ j w, X j w w) (w : World) : EsV VO X j w w := ⟨⟨rfl, rfl, rfl, Nat.le_refl _, fun _ _ _ => rfl⟩, hX j w⟩
theorem esV_of_ext {VO : Nat → Option Nat} {X : Nat → World → World → Prop} {j : Nat} {w w' : World} (h : Ext w w') (hx : X j w w') : EsV VO X j w w' := ⟨⟨h.os, h.tape, h.output, h.size, fun i hi _ => h.block i hi⟩, hx⟩
structure ExtS (VO : Nat → Option Nat) (w w' : World) : Prop where
  os : w'.os = w.os
  tape : w'.tape = w.tape
  output : w'.output = w.output
  size : w.heap.size ≤ w'.heap.size
  block : ∀ k, k < w.heap.size → (∀ j, VO j ≠ some k) → w'.heap[k]? = w.heap[k]?
theorem ExtS.refl (VO : Nat → Option Nat) (w : World) : ExtS VO w w := ⟨rfl, rfl, rfl, Nat.le_refl _, fun _ _ _ => rfl⟩
theorem ExtS.step {VO : Nat → Option Nat} {X : Nat → World → World → Prop} {j : Nat} {a b c : World} (h : ExtS VO a b) (k' : EsV VO X j b c) : ExtS VO a c :=
  have k := k'.1
  ⟨k.os.trans h.os, k.tape.trans h.tape, k.output.trans h.output, Nat.le_trans h.size k.size, fun i hi hn => (k.block i (Nat.lt_of_lt_of_le hi h.size) (fun e => hn j e.symm)).trans (h.block i hi hn)⟩
structure Here (VO : Nat → Option Nat) (I : World → Prop) (ops : List Oper) (w0 w : World) (D : Nat → Prop) (i : Nat) : Prop where
  ext : ExtS VO w0 w
  inv : I w
  late : ∀ j, ¬ D j → ∀ b, VO j = some b → b < w0.heap.size → w.heap[b]? = w0.heap[b]?
  notyet : ∀ (j : Nat) oj, ops[j]? = some oj → ∀ e ∈ oj.after, Region.binds .any e = true → ¬ D e.on → ¬ D j
  me : ¬ D i
theorem Here.own {VO : Nat → Option Nat} {I : World → Prop} {ops : List Oper} {w0 w : World} {D : Nat → Prop} {i : Nat} (h : Here VO I ops w0 w D i) : ∀ b, VO i = some b → b < w0.heap.size → w.heap[b]? = w0.heap[b]? := h.late i h.me
section
variable (P : Program) (ops : List Oper) (a0 : Act) (w0 : World) (VO : Nat → Option Nat) (X : Nat → World → World → Prop) (I : World → Prop) (PR : Nat → Nat → Value → Value → World → Prop) (Φ : Nat → Value → World → Prop) (Q : Exit → Act → World → Prop)
def PairAt (D : Nat → Prop) (a : Act) (i : Nat) (v : Value) (w' : World) : Prop := ∀ j oj, ops[j]? = some oj → D j → j ≠ i → PR i j v (slotOf oj a) w' ∧ PR j i (slotOf oj a) v w'
def StepAtV (hd : Nat) (i : Nat) (o : Oper) : Prop := ∀ (D : Nat → Prop) a w, (∀ j oj, ops[j]? = some oj → D j → Φ j (slotOf oj a) w) → Here VO I ops w0 w D i → Outer ops a0 hd a → Deps ops Φ a w o.after.toList →
  if Region.wanted o (yielded ops.toArray a.tmps) then o.wp P a w (fun a' w' => ∃ v, a' = a.put o.dst v ∧ EsV VO X i w w' ∧ Φ i (valOf o v) w' ∧ PairAt ops PR D a i (valOf o v) w') Q else Φ i undef w ∧ ∀ j vi vj w, PR i j vi vj w ∧ PR j i vi vj w
structure RInvV (n : Nat) (listed : Array Bool) (a : Act) (w : World) : Prop where
  head : HeadInv .any ops.toArray n listed
  ext : ExtS VO w0 w
  inv : I w
  ext0 : ∀ i, listed.getD i true = false → ∀ b, VO i = some b → b < w0.heap.size → w.heap[b]? = w0.heap[b]?
  outer : Outer ops a0 n a
  done : ∀ (i : Nat) o, ops[i]? = some o → listed.getD i true = true → Φ i (slotOf o a) w
  pair : ∀ i j oi oj, ops[i]? = some oi → ops[j]? = some oj → listed.getD i true = true → listed.getD j true = true → i ≠ j → PR i j (slotOf oi a) (slotOf oj a) w
variable {P ops a0 w0 VO X I PR Φ Q}
theorem slotv_same {o : Oper} {i : Nat} {a : Act} {v : Value} (hB : regOk ops a0.tmps.size = true) (hs : a.tmps.size = a0.tmps.size) (ho : ops[i]? = some o) : slotOf o (a.put o.dst v) = valOf o v := by
  unfold slotOf valOf
  cases hd : o.dst with
  | none => rfl
  | some d =>
    have hdl : ∀ d ∈ dstsOf ops, d < a0.tmps.size := by
      unfold regOk at hB; simp only [Bool.and_eq_true] at hB
      intro d hd; simpa using List.all_eq_true.1 hB.2 d hd
    have hmem : d ∈ dstsOf ops := List.mem_filterMap.2 ⟨o, List.mem_of_getElem? ho, hd⟩
    exact eval_put_same (by rw [hs]; exact hdl d hmem)
theorem slot_other {o oj : Oper} {i j : Nat} {a : Act} {v : Value} (hB : regOk ops a0.tmps.size = true) (hij : i ≠ j) (ho : ops[i]? = some o) (hoj : ops[j]? = some oj) : slotOf oj (a.put o.dst v) = slotOf oj a := by
  have hnd : (dstsOf ops).Nodup := by unfold regOk at hB; simp only [Bool.and_eq_true, decide_eq_true_eq] at hB; exact hB.1.2
  unfold slotOf
  cases hdj : oj.dst with
  | none => rfl
  | some d =>
    cases hdo : o.dst with
    | none => rfl
    | some d' =>
      have hne : d ≠ d' := by
        rintro rfl
        exact dst_two hnd hij ho hoj hdo hdj
      exact eval_put_ne hne
theorem RInvV.next {n : Nat} (hB : regOk ops a0.tmps.size = true) (hVO : ∀ i j b, VO i = some b → VO j = some b → i = j)
    (hmono : ∀ i j v w w', i ≠ j → EsV VO X j w w' → Φ i v w → Φ i v w') (hI : ∀ j w w', EsV VO X j w w' → I w → I w') (hmonoP : ∀ i j k vi vj w w', k ≠ i → k ≠ j → EsV VO X k w w' → PR i j vi vj w → PR i j vi vj w') {listed : Array Bool} {a : Act} {w : World} (inv : RInvV ops a0 w0 VO I PR Φ n listed a w)
    {i : Nat} {o : Oper} (hi : i ∈ Region.ready .any ops.toArray listed) (hin : i < n) (ho' : ops[i]? = some o) {v : Value} {w' : World} (he : EsV VO X i w w') (hv : Φ i (valOf o v) w') (hpr : PairAt ops PR (fun j => listed.getD j true = true) a i (valOf o v) w') :
    RInvV ops a0 w0 VO I PR Φ n (listed.setIfInBounds i true) (a.put o.dst v) w' := by
  have hnd : (dstsOf ops).Nodup := by unfold regOk at hB; simp only [Bool.and_eq_true, decide_eq_true_eq] at hB; exact hB.1.2
  have hdl : ∀ d ∈ dstsOf ops, d < a0.tmps.size := by
    unfold regOk at hB; simp only [Bool.and_eq_true] at hB
    intro d hd; simpa using List.all_eq_true.1 hB.2 d hd
  refine ⟨inv.head.set hi hin, inv.ext.step he, hI _ _ _ he inv.inv, fun k hl b hb hlt => ?_, ?_, ?_, fun i1 j1 oi oj hoi hoj l1 l2 hne => ?_⟩
  · by_cases his : k = i
    · exfalso
      subst his
      obtain ⟨hun, o', ho, _⟩ := mem_ready.1 hi
      have hil : k < listed.size := by rw [inv.head.size]; exact (Array.getElem?_eq_some_iff.1 ho).1
      simp [hil] at hl
    · rw [getD_set_ne true (Ne.symm his)] at hl
      have h1 := inv.ext0 k hl b hb hlt
      rw [← h1]
      exact he.1.block b (Nat.lt_of_lt_of_le hlt inv.ext.size) (fun e => his (hVO k i b hb e.symm))
  · obtain ⟨h1, h2, h3⟩ := inv.outer
    cases hd : o.dst with
    | none => exact ⟨h1, h2, h3⟩
    | some d =>
      refine ⟨h1, by simp [Act.put, h2], fun t ht => ?_⟩
      have hmem : d ∈ dstsOf (ops.take n) := List.mem_filterMap.2 ⟨o, List.mem_of_getElem? (i := i) (by rw [List.getElem?_take, if_pos hin]; exact ho'), hd⟩
      rw [eval_put_ne (by rintro rfl; simp at ht; exact ht hmem)]; exact h3 t ht
  · intro j oj hoj hl
    by_cases hij : j = i
    · subst hij
      have : oj = o := Option.some.inj (hoj.symm.trans ho')
      subst this
      unfold slotOf
      unfold valOf at hv
      cases hd : oj.dst with
      | none => simpa [hd] using hv
      | some d =>
        simp only [hd] at hv
        have hmem : d ∈ dstsOf ops := List.mem_filterMap.2 ⟨oj, List.mem_of_getElem? ho', hd⟩
        simp only
        rw [eval_put_same (by rw [inv.outer.2.1]; exact hdl d hmem)]; exact hv
    · rw [getD_set_ne true (Ne.symm hij)] at hl
      have h1 := hmono j i _ w w' hij he (inv.done j oj hoj hl)
      unfold slotOf at h1 ⊢
      cases hdj : oj.dst with
      | none => first | exact h1 | simpa [hdj] using h1
      | some d =>
        try simp only [hdj] at h1 ⊢
        cases hdo : o.dst with
        | none => exact h1
        | some d' =>
          have hne : d ≠ d' := by
            rintro rfl
            exact dst_two hnd (Ne.symm hij) ho' hoj hdo hdj
          rw [eval_put_ne hne]; exact h1
  · by_cases h1 : i1 = i
    · subst h1
      have e : oi = o := Option.some.inj (hoi.symm.trans ho')
      subst e
      rw [slotv_same hB inv.outer.2.1 ho', slot_other hB hne ho' hoj]
      exact (hpr j1 oj hoj (by rwa [getD_set_ne true hne] at l2) (Ne.symm hne)).1
    · by_cases h2 : j1 = i
      · subst h2
        have e : oj = o := Option.some.inj (hoj.symm.trans ho')
        subst e
        rw [slotv_same hB inv.outer.2.1 ho', slot_other hB (Ne.symm hne) ho' hoi]
        exact (hpr i1 oi hoi (by rwa [getD_set_ne true (Ne.symm hne)] at l1) hne).2
      · rw [slot_other hB (Ne.symm h1) ho' hoi, slot_other hB (Ne.symm h2) ho' hoj]
        exact hmonoP i1 j1 i _ _ w w' (Ne.symm h1) (Ne.symm h2) he (inv.pair i1 j1 oi oj hoi hoj (by rwa [getD_set_ne true (Ne.symm h1)] at l1) (by rwa [getD_set_ne true (Ne.symm h2)] at l2) hne)
theorem wpAnyV_head {n g : Nat} (hB : regOk ops a0.tmps.size = true) (hVO : ∀ i j b, VO i = some b → VO j = some b → i = j)
    (hmono : ∀ i j v w w', i ≠ j → EsV VO X j w w' → Φ i v w → Φ i v w') (hI : ∀ j w w', EsV VO X j w w' → I w → I w') (hmonoP : ∀ i j k vi vj w w', k ≠ i → k ≠ j → EsV VO X k w w' → PR i j vi vj w → PR i j vi vj w') (hX : ∀ j w, X j w w) (hnN : n ≤ ops.length)
    (hstep : ∀ (i : Nat) o, i < n → ops[i]? = some o → StepAtV P ops a0 w0 VO X I PR Φ Q n i o)
    (hlate : ∀ listed, HeadInv .any ops.toArray n listed → (∃ i, i < n ∧ listed.getD i true = false) → Region.ready .any ops.toArray listed ≠ [] ∧ ∀ t ∈ Region.ready .any ops.toArray listed, t < n)
    (hend : ∀ listed a w, RInvV ops a0 w0 VO I PR Φ n listed a w → (∀ i, i < n → listed.getD i true = true) → wpAny P .any ops.toArray Q g listed a w) :
    ∀ (fuel : Nat) (listed : Array Bool) (a : Act) (w : World), ((List.range n).filter (fun i => !listed.getD i true)).length = fuel → RInvV ops a0 w0 VO I PR Φ n listed a w →
      wpAny P .any ops.toArray Q (fuel + g) listed a w := by
  intro fuel
  induction fuel with
  | zero =>
    intro listed a w hf inv
    rw [Nat.zero_add]
    refine hend listed a w inv fun i hi => ?_
    cases h : listed.getD i true with
    | true => rfl
    | false =>
      have : i ∈ (List.range n).filter (fun i => !listed.getD i true) := List.mem_filter.2 ⟨List.mem_range.2 hi, by rw [h]; rfl⟩
      rw [List.eq_nil_of_length_eq_zero hf] at this; cases this
  | succ fuel ih =>
    intro listed a w hf inv
    rw [show fuel + 1 + g = (fuel + g) + 1 by omega]
    have hex : ∃ i, i < n ∧ listed.getD i true = false := by
      cases hl : (List.range n).filter (fun i => !listed.getD i true) with
      | nil => rw [hl] at hf; cases hf
      | cons x L =>
        have : x ∈ (List.range n).filter (fun i => !listed.getD i true) := by rw [hl]; exact List.mem_cons_self ..
        obtain ⟨h1, h2⟩ := List.mem_filter.1 this
        exact ⟨x, List.mem_range.1 h1, by simpa using h2⟩
    obtain ⟨hne, hlt⟩ := hlate listed inv.head hex
    refine ⟨fun hr => absurd hr hne, fun i hi => ?_⟩
    have hin := hlt i hi
    obtain ⟨hun, o, ho, hall⟩ := mem_ready.1 hi
    have ho' : ops[i]? = some o := by simpa using ho
    have hls : listed.size = ops.length := by rw [inv.head.size]; simp
    have hdep : Deps ops Φ a w o.after.toList := deps_of fun e he hb oj hoj => by
      have h1 := hall e (by simpa using he) hb
      refine inv.done e.on oj hoj ?_
      have h2 : e.on < listed.size := by
        rcases Nat.lt_or_ge e.on listed.size with h | h
        · exact h
        · simp [Array.getElem?_eq_none h] at h1
      simp [h2] at h1 ⊢; exact h1
    have hst := hstep i o hin ho' (fun j => listed.getD j true = true) a w (fun j oj hoj hl => inv.done j oj hoj hl)
      ⟨inv.ext, inv.inv, fun j hj => inv.ext0 j (by simpa using hj), fun j oj hoj e he hb hne hD => (by
        have hjl : j < listed.size := by rw [hls]; exact (List.getElem?_eq_some_iff.1 hoj).1
        have h1 := inv.head.closed j oj (by simpa using hoj) (by simp [hjl] at hD ⊢; exact hD) e he hb
        rcases Nat.lt_or_ge e.on listed.size with h | h
        · simp [h] at h1 hne; rw [h1] at hne; cases hne
        · simp [Array.getElem?_eq_none h] at h1), (by rw [hun]; exact Bool.false_ne_true)⟩ inv.outer hdep
    have next : ∀ v w', EsV VO X i w w' → Φ i (valOf o v) w' → PairAt ops PR (fun j => listed.getD j true = true) a i (valOf o v) w' → wpAny P .any ops.toArray Q (fuel + g) (listed.setIfInBounds i true) (a.put o.dst v) w' := by
      intro v w' he hv hpr
      refine ih _ _ _ ?_ (inv.next hB hVO hmono hI hmonoP hi hin ho' he hv hpr)
      have := head_count (listed := listed) (i := i) (by omega) hun _ List.nodup_range (List.mem_range.2 hin)
      omega
    unfold wpOp
    rw [ho]
    dsimp only
    by_cases hw : Region.wanted o (yielded ops.toArray a.tmps) = true
    · rw [if_pos hw] at hst ⊢
      left
      refine Oper.wp_mono (fun a' w' h => ?_) hst
      obtain ⟨v, rfl, he, hv, hpr⟩ := h
      exact next v w' he hv hpr
    · rw [if_neg hw] at hst ⊢
      have e : valOf o undef = undef := by unfold valOf; cases o.dst <;> rfl
      exact next undef w (esV_refl hX w) (by rw [e]; exact hst.1) (fun j oj _ _ _ => ⟨(hst.2 j _ _ w).1, (hst.2 j _ _ w).2⟩)
end
section
variable {P : Program} {Q : Exit → Act → World → Prop} {a : Act} {w : World} {l : List Oper} {VO : Nat → Option Nat} {X : Nat → World → World → Prop} {I : World → Prop} {PR : Nat → Nat → Value → Value → World → Prop} {Φ : Nat → Value → World → Prop}
theorem rinvV_start {n : Nat} (hI0 : I w.drew) (hn : n ≤ l.length) : RInvV l a w.drew VO I PR Φ n (Array.replicate l.length false) a w.drew :=
  ⟨⟨by simp, fun j oj _ hl => (by rw [getD_replicate_false] at hl; cases hl), fun t _ ht => getD_in (by simpa using ht) (getD_replicate_false _ _)⟩, ExtS.refl _ _, hI0, fun _ _ _ _ _ => rfl, ⟨rfl, rfl, fun _ _ => rfl⟩,
    fun i o ho hl => (by
      have hi := (List.getElem?_eq_some_iff.1 ho).1
      rw [getD_in (by simpa using hi) (getD_replicate_false _ _)] at hl; cases hl), fun i1 _ oi _ hoi _ l1 _ _ => (by
      have hi := (List.getElem?_eq_some_iff.1 hoi).1
      rw [getD_in (by simpa using hi) (getD_replicate_false _ _)] at l1; cases l1)⟩
theorem wp_region_tailV {id : Nat} (n : Nat) (VO : Nat → Option Nat) (hVO : ∀ i j b, VO i = some b → VO j = some b → i = j) (X : Nat → World → World → Prop) (I : World → Prop) (PR : Nat → Nat → Value → Value → World → Prop) (hX : ∀ j w, X j w w) (hI0 : I w.drew) (Φ : Nat → Value → World → Prop) (hm : P.follows .mixedOrders = true) (hB : regOk l a.tmps.size = true) (hT : regTail l n = true)
    (hmono : ∀ i j v w1 w', i ≠ j → EsV VO X j w1 w' → Φ i v w1 → Φ i v w') (hI : ∀ j w w', EsV VO X j w w' → I w → I w') (hmonoP : ∀ i j k vi vj w w', k ≠ i → k ≠ j → EsV VO X k w w' → PR i j vi vj w → PR i j vi vj w')
    (hstep : ∀ (i : Nat) o, i < n → l[i]? = some o → StepAtV P l a w.drew VO X I PR Φ Q n i o)
    (hend : ∀ a' w', ExtS VO w.drew w' → I w' → Outer l a n a' → AllDone l Φ a' w' 0 n → (∀ i j oi oj, l[i]? = some oi → l[j]? = some oj → i < n → j < n → i ≠ j → PR i j (slotOf oi a') (slotOf oj a') w') → wpList P l.toArray Q (l.drop n) a' w') : (Code.region id l.toArray true).wp P Q a w := by
  unfold regTail at hT
  simp only [Bool.and_eq_true, decide_eq_true_eq] at hT
  obtain ⟨⟨⟨hn, hs⟩, hc⟩, hseq⟩ := hT
  refine wp_region_any hm ?_
  have H := wpAnyV_head (P := P) (ops := l) (a0 := a) (w0 := w.drew) (VO := VO) (X := X) (I := I) (PR := PR) (Φ := Φ) (Q := Q) (n := n) (g := l.length - n) hB hVO hmono hI hmonoP hX (by omega) hstep
    (fun listed inv ⟨i, hi, hun⟩ => ⟨fun hr => (by
        have := all_of_ready_nil (a0 := a) hB (by rw [inv.size]; simp) hr i (by omega)
        rw [hun] at this; cases this), fun t ht => (by
        rcases Nat.lt_or_ge t n with h | h
        · exact h
        · exact absurd ht (tail_waits hs hc (by simpa using hn) inv (n - i) i rfl hi hun t h))⟩)
    (fun listed a' w' inv hall => (by
        have e := headDone_of (n := n) (N := l.length) (by rw [inv.head.size]; simp) hall (fun i h1 h2 => inv.head.tail i h1 (by simpa using h2)) (by omega)
        have h := wpAny_of_seq (P := P) (md := .any) (Q' := Q) (ops := l.toArray) (l.drop n) n listed a' w' (fun j => by simp [List.getElem?_drop]) (by rw [List.length_drop, e]; exact hseq)
          (hend a' w' inv.ext inv.inv inv.outer (allDone_of _ _ fun j _ h2 o ho => inv.done j o ho (hall j (by omega))) (fun i j oi oj hoi hoj h1 h2 hne => inv.pair i j oi oj hoi hoj (hall i h1) (hall j h2) hne))
        rwa [List.length_drop] at h))
    n (Array.replicate l.length false) a w.drew (start_count _ _ (by omega)) (rinvV_start hI0 (by omega))
  rw [show n + (l.length - n) = l.length by omega] at H
  simpa using H
end
def MonoAllV (VO : Nat → Option Nat) (X : Nat → World → World → Prop) : Nat → List (Value → World → Prop) → Prop
  | _, [] => True
  | i, φ :: r => (∀ j, j ≠ i → ∀ v w1 w', EsV VO X j w1 w' → φ v w1 → φ v w') ∧ MonoAllV VO X (i + 1) r
theorem monoV_at {VO : Nat → Option Nat} {X : Nat → World → World → Prop} : ∀ {L : List (Value → World → Prop)} {k : Nat}, MonoAllV VO X k L → ∀ i j v w1 w', j ≠ k + i → EsV VO X j w1 w' → L.getD i (fun _ _ => True) v w1 → L.getD i (fun _ _ => True) v w'
  | [], _, _, _, _, _, _, _, _, _, _ => by simp
  | φ :: r, k, h, 0, j, v, w1, w', hj, he, hp => h.1 j hj v w1 w' he hp
  | φ :: r, k, h, i + 1, j, v, w1, w', hj, he, hp => monoV_at (L := r) h.2 i j v w1 w' (by omega) he hp
theorem monoV_of {VO : Nat → Option Nat} {X : Nat → World → World → Prop} {L : List (Value → World → Prop)} (h : MonoAllV VO X 0 L) : ∀ i j v w1 w', i ≠ j → EsV VO X j w1 w' → phis L i v w1 → phis L i v w' := fun i j v w1 w' hij he hp =>
  monoV_at h i j v w1 w' (by omega) he hp
theorem monoV_eq {VO : Nat → Option Nat} {X : Nat → World → World → Prop} {i : Nat} {f : Value → Prop} : ∀ j, j ≠ i → ∀ v w1 w', EsV VO X j w1 w' → (fun v (_ : World) => f v) v w1 → (fun v (_ : World) => f v) v w' := fun _ _ _ _ _ _ h => h
def StepsFromV (P : Program) (ops : List Oper) (a0 : Act) (w0 : World) (VO : Nat → Option Nat) (X : Nat → World → World → Prop) (I : World → Prop) (PR : Nat → Nat → Value → Value → World → Prop) (Φ : Nat → Value → World → Prop) (Q : Exit → Act → World → Prop) (hd : Nat) : Nat → Nat → List Oper → Prop
  | _, 0, _ => True
  | _, _ + 1, [] => True
  | i, n + 1, o :: r => StepAtV P ops a0 w0 VO X I PR Φ Q hd i o ∧ StepsFromV P ops a0 w0 VO X I PR Φ Q hd (i + 1) n r
theorem stepsV_from {P : Program} {ops : List Oper} {a0 : Act} {w0 : World} {VO : Nat → Option Nat} {X : Nat → World → World → Prop} {I : World → Prop} {PR : Nat → Nat → Value → Value → World → Prop} {Φ : Nat → Value → World → Prop} {Q : Exit → Act → World → Prop} {hd : Nat} :
    ∀ (n k : Nat) (r : List Oper), StepsFromV P ops a0 w0 VO X I PR Φ Q hd k n r → ∀ (i : Nat) o, i < n → r[i]? = some o → StepAtV P ops a0 w0 VO X I PR Φ Q hd (k + i) o
  | 0, _, _, _, _, _, h, _ => by omega
  | _ + 1, _, [], _, _, _, _, h => by simp at h
  | n + 1, k, x :: r, h, 0, o, _, ho => by simp at ho; subst ho; exact h.1
  | n + 1, k, x :: r, h, i + 1, o, hi, ho => by
    have := stepsV_from n (k + 1) r h.2 i o (by omega) (by simpa using ho)
    rwa [Nat.add_assoc, Nat.add_comm 1 i] at this
theorem stepsV_of {P : Program} {ops : List Oper} {a0 : Act} {w0 : World} {VO : Nat → Option Nat} {X : Nat → World → World → Prop} {I : World → Prop} {PR : Nat → Nat → Value → Value → World → Prop} {Φ : Nat → Value → World → Prop} {Q : Exit → Act → World → Prop} {hd : Nat} (n : Nat)
    (h : StepsFromV P ops a0 w0 VO X I PR Φ Q hd 0 n ops) : ∀ (i : Nat) o, i < n → ops[i]? = some o → StepAtV P ops a0 w0 VO X I PR Φ Q hd i o := fun i o hi ho => by
  have := stepsV_from n 0 ops h i o hi ho
  rwa [Nat.zero_add] at this
section
variable {P : Program} {ops : List Oper} {a0 : Act} {w0 : World} {VO : Nat → Option Nat} {X : Nat → World → World → Prop} {I : World → Prop} {PR : Nat → Nat → Value → Value → World → Prop} {Φ : Nat → Value → World → Prop} {Q : Exit → Act → World → Prop} {hd : Nat} {i : Nat} {o : Oper}
theorem stepV_wp (h : ∀ (D : Nat → Prop) a w1, (∀ j oj, ops[j]? = some oj → D j → Φ j (slotOf oj a) w1) → Here VO I ops w0 w1 D i → Outer ops a0 hd a → Deps ops Φ a w1 o.after.toList →
    Region.wanted o (yielded ops.toArray a.tmps) = true ∧ o.wp P a w1 (fun a' w' => ∃ v, a' = a.put o.dst v ∧ EsV VO X i w1 w' ∧ Φ i (valOf o v) w' ∧ PairAt ops PR D a i (valOf o v) w') Q) : StepAtV P ops a0 w0 VO X I PR Φ Q hd i o := fun D a w1 hP hE hO hD => by
  obtain ⟨h1, h2⟩ := h D a w1 hP hE hO hD
  rw [if_pos h1]; exact h2
theorem stepV_val {v : Value} (hX : ∀ j w, X j w w) (hp : ∀ j vi vj w, PR i j vi vj w ∧ PR j i vi vj w) (h : ∀ (D : Nat → Prop) a w1, Here VO I ops w0 w1 D i → Outer ops a0 hd a → Deps ops Φ a w1 o.after.toList →
    Region.wanted o (yielded ops.toArray a.tmps) = true ∧ (execOp a.eval o).run P w1 = .ok (.value v) w1) (hφ : ∀ w1, Φ i (valOf o v) w1) : StepAtV P ops a0 w0 VO X I PR Φ Q hd i o := fun D a w1 hP hE hO hD => by
  obtain ⟨h1, h2⟩ := h D a w1 hE hO hD
  rw [if_pos h1]
  unfold Oper.wp
  rw [h2]
  exact ⟨v, rfl, esV_refl hX w1, hφ w1, fun j oj _ _ _ => ⟨(hp j _ _ w1).1, (hp j _ _ w1).2⟩⟩
end
end Go.Proofs.YtihiaopilnjonaaGreatDoor
namespace Go.Proofs.YtihiaopilnjonaaGreatDoor
open Go.RowKit
set_option linter.unusedSimpArgs false
set_option linter.unusedVariables false
theorem extB_setIn {w w1 : World} {b : Nat} (h : ExtB (some b) w w1) (o : Nat) (v : Value) : ExtB (some b) w (w1.setCell ⟨b, o, none⟩ v) :=
  ⟨h.os, h.tape, h.output, by simpa using h.size, fun i hi hn => by rw [Below.heap_setCell _ _ _ _ (fun e => hn (by rw [e]))]; exact h.block i hi hn⟩
def Up (rb : Nat) (w w' : World) : Prop := ∀ b, rb < b → b < w.heap.size → w'.heap[b]? = w.heap[b]?
theorem Tx.up {rb tb : Nat} {w w' : World} {a : Option Addr} {l : List ByteArray} (h : Tx w a l) (ho : Off rb tb a) (hu : Up rb w w') : Tx w' a l := h.keep fun b off cs e h2 => hu b (ho b off e).1 (lt_of_block h2)
theorem Ux.up {rb tb : Nat} {w w' : World} {a : Option Addr} {l : List Int} (h : Ux w a l) (ho : Off rb tb a) (hu : Up rb w w') : Ux w' a l := h.keep fun b off cs e h2 => hu b (ho b off e).1 (lt_of_block h2)
theorem RevIs.up {rb tb : Nat} {w w' : World} {r : Rev} {d : RevD} (h : RevIs rb tb w r d) (hu : Up rb w w') : RevIs rb tb w' r d :=
  ⟨h.pos, h.L, h.signed, h.idx, h.wn, h.ws.up h.wo hu, h.wo, h.pn, h.ps.up h.po hu, h.po, h.root, h.wt, h.first, h.life, h.keys⟩
theorem HoldsD.up {rb tb : Nat} {w w' : World} {v : Value} {d : DV} (h : HoldsD rb tb w v d) (hu : Up rb w w') : HoldsD rb tb w' v d := by
  cases d with
  | num n => exact h
  | flag q => exact h
  | str s => exact h
  | strs l => obtain ⟨a, c, h1, h2, h3, h4⟩ := h; exact ⟨a, c, h1, h2, h3, h4.up h3 hu⟩
  | nums l => obtain ⟨a, c, h1, h2, h3, h4⟩ := h; exact ⟨a, c, h1, h2, h3, h4.up h3 hu⟩
  | revs l =>
    obtain ⟨a, c, h1, h2, h3, rs, h4, h5, h6⟩ := h
    refine ⟨a, c, h1, h2, h3, rs, h4, fun i hi => ?_, fun i hi => (h6 i hi).up hu⟩
    obtain ⟨b, off, rfl, hc⟩ := h5 i hi
    have e : ∀ q, w'.cell? ⟨b, q, none⟩ = w.cell? ⟨b, q, none⟩ := fun q => World.cell?_of_block (w := w) (hu b (h3 b off rfl).1 (lt_of_cell hc.c0))
    obtain ⟨c0, c1, c2, c3, c4, c5, c6, c7, c8, c9, c10⟩ := hc
    exact ⟨b, off, rfl, by constructor <;> (rw [e]; assumption)⟩
theorem arr5 {cs : Array Value} (h : cs.size = 5) : ∃ u0 u1 u2 u3 u4 : Value, cs = #[u0, u1, u2, u3, u4] := by
  obtain ⟨l⟩ := cs
  match l, h with
  | [a, b, c, d, e], _ => exact ⟨a, b, c, d, e, rfl⟩
theorem arr4 {cs : Array Value} (h : cs.size = 4) : ∃ u0 u1 u2 u3 : Value, cs = #[u0, u1, u2, u3] := by
  obtain ⟨l⟩ := cs
  match l, h with
  | [a, b, c, d], _ => exact ⟨a, b, c, d, rfl⟩
theorem arr6 {cs : Array Value} (h : cs.size = 6) : ∃ u0 u1 u2 u3 u4 u5 : Value, cs = #[u0, u1, u2, u3, u4, u5] := by
  obtain ⟨l⟩ := cs
  match l, h with
  | [a, b, c, d, e, f], _ => exact ⟨a, b, c, d, e, f, rfl⟩
theorem assert_stop (f : Nat) (w : World) : (Instr.typeAssert (.iface 193 (.agg #[.iface 127 (.pointer (some ⟨f, 0, none⟩))])) 20 193 true).run Tryz.prog w = .ok (.tuple #[.agg #[.iface 127 (.pointer (some ⟨f, 0, none⟩))], .bool true]) w := by kernel_rfl
set_option maxRecDepth 100000 in
theorem read1_frame (p q x : Value) : #[p, q] ++ ((Array.replicate 18 undef).setIfInBounds 4 x).setIfInBounds 0 x = #[p, q, x, undef, undef, undef, x, undef, undef, undef, undef, undef, undef, undef, undef, undef, undef, undef, undef, undef] := by
  simp [Array.replicate, List.replicate]
abbrev cellsPart (x : Rcd) : Array Value := #[.string (x 0).s, .int .u64 (x 1).n, .int .u64 (x 2).n, .int .u64 (x 3).n, .int .u64 (x 4).n]
abbrev zeroPart : Value := .agg #[.string ⟨#[]⟩, .int .u64 0, .int .u64 0, .int .u64 0, .int .u64 0]
def LiesPart (rb tb : Nat) (w : World) (x : Rcd) : Prop := True
theorem LiesPart.below {rb tb : Nat} {w w' : World} {x : Rcd} (h : LiesPart rb tb w x) (hb : Below w.heap.size w w') : LiesPart rb tb w' x := trivial
theorem LiesPart.chg {rb tb : Nat} {w w' : World} {x : Rcd} (h : LiesPart rb tb w x) (hb : Chg rb tb w w') : LiesPart rb tb w' x := trivial
theorem LiesPart.up {rb tb : Nat} {w w' : World} {x : Rcd} (h : LiesPart rb tb w x) (hb : Up rb w w') : LiesPart rb tb w' x := trivial
theorem part_of_rec {rb tb : Nat} {w : World} {x : Rcd} (h : RecAt rb tb 46 5 w x) (hk : Kd part0 x) : ∃ (_ : Unit), w.heap[tb]? = some (.cells (cellsPart x) 46 (0, 0)) ∧ LiesPart rb tb w x := by
  obtain ⟨cs, h1, h2, h3⟩ := h
  obtain ⟨m0, e0⟩ := hk.str (show kindD (part0 0) = _ from rfl)
  obtain ⟨u0, g0, d0⟩ := h3 0 (by decide)
  rw [e0] at d0
  simp only [HoldsD] at d0
  subst d0
  obtain ⟨m1, e1⟩ := hk.num (show kindD (part0 1) = _ from rfl)
  obtain ⟨u1, g1, d1⟩ := h3 1 (by decide)
  rw [e1] at d1
  simp only [HoldsD] at d1
  subst d1
  obtain ⟨m2, e2⟩ := hk.num (show kindD (part0 2) = _ from rfl)
  obtain ⟨u2, g2, d2⟩ := h3 2 (by decide)
  rw [e2] at d2
  simp only [HoldsD] at d2
  subst d2
  obtain ⟨m3, e3⟩ := hk.num (show kindD (part0 3) = _ from rfl)
  obtain ⟨u3, g3, d3⟩ := h3 3 (by decide)
  rw [e3] at d3
  simp only [HoldsD] at d3
  subst d3
  obtain ⟨m4, e4⟩ := hk.num (show kindD (part0 4) = _ from rfl)
  obtain ⟨u4, g4, d4⟩ := h3 4 (by decide)
  rw [e4] at d4
  simp only [HoldsD] at d4
  subst d4
  refine ⟨(), ?_, ?_⟩
  · rw [h1]; congr 2; apply Array.ext_getElem?; intro i
    match i with
    | 0 => rw [g0]; simp [e0, DV.n, DV.q, DV.s, DV.l, DV.ns, DV.rs]
    | 1 => rw [g1]; simp [e1, DV.n, DV.q, DV.s, DV.l, DV.ns, DV.rs]
    | 2 => rw [g2]; simp [e2, DV.n, DV.q, DV.s, DV.l, DV.ns, DV.rs]
    | 3 => rw [g3]; simp [e3, DV.n, DV.q, DV.s, DV.l, DV.ns, DV.rs]
    | 4 => rw [g4]; simp [e4, DV.n, DV.q, DV.s, DV.l, DV.ns, DV.rs]
    | i + 5 => rw [Array.getElem?_eq_none (by omega), Array.getElem?_eq_none (by simp)]
  · trivial
set_option maxRecDepth 100000 in
theorem read1Part_idle (p q : Value) (w : World) : CallsD Tryz.prog 121 #[p, q] .returning w fun e u' w' => e = .returned (.tuple #[]) ∧ u' = .returning ∧ w' = w := by
  refine callsD_of_wpS Tryz.func121 rfl fun c₀ cs hu => ?_
  apply wpS_seq
  apply wpS_region
  simp [wpOpsS, go_sem, recoverD, hu, Tryz.ntmps121, Exit.thenS]
  refine wpS_of_wp ?_
  obtain ⟨Q, hQ⟩ : ∃ Q : Exit → Act → World → Prop, (fun e a' w' => bodyPostS Tryz.prog Tryz.f121 c₀ cs (fun e u' w' => e = Ending.returned (.tuple #[]) ∧ u' = .returning ∧ w' = w) e a' (c₀ :: cs) w') = Q := ⟨_, rfl⟩
  rw [hQ, read1_frame]
  have HQ := Lib.hid hQ
  clear hQ
  go_wp2
  rw [← HQ.out]
  simp [bodyPostS, results, Tryz.results121]
  cases c₀; simp_all
structure AfterPart (tb eb fb : Nat) (w w' : World) : Prop where
  os : w'.os = w.os
  tape : w'.tape = w.tape
  output : w'.output = w.output
  size : w.heap.size ≤ w'.heap.size
  block : ∀ i, i < w.heap.size → i ≠ tb → i ≠ eb → w'.heap[i]? = w.heap[i]?
  th : w'.heap[tb]? = some (.cells #[.string ⟨#[]⟩, .int .u64 0, .int .u64 0, .int .u64 0, .int .u64 0] 46 (0, 0))
  er : w'.heap[eb]? = some (.cells #[.iface 127 (.pointer (some ⟨fb, 0, none⟩))] 59 (0, 0))
set_option maxRecDepth 100000 in
set_option maxHeartbeats 4000000 in
theorem read1Part_some (tb eb fb : Nat) (cs : Array Value) (w : World) (ht : w.heap[tb]? = some (.cells cs 46 (0, 0))) (hcs : ∃ u0 u1 u2 u3 u4 : Value, cs = #[u0, u1, u2, u3, u4] ) (he : w.heap[eb]? = some (.cells #[.nilIface] 59 (0, 0))) (hne : tb ≠ eb) :
    CallsD Tryz.prog 121 #[.pointer (some ⟨tb, 0, none⟩), .pointer (some ⟨eb, 0, none⟩)] (.panicking (stopC fb)) w fun e u' w' =>
      e = .returned (.tuple #[]) ∧ u' = .panicking [{ v := .iface 193 (.agg #[.iface 127 (.pointer (some ⟨fb, 0, none⟩))]), recovered := true }] ∧ AfterPart tb eb fb w w' := by
  obtain ⟨u0, u1, u2, u3, u4, rfl⟩ := hcs
  refine callsD_of_wpS Tryz.func121 rfl fun c₀ cs hu => ?_
  apply wpS_seq
  apply wpS_region
  simp [wpOpsS, go_sem, recoverD, hu, stopC, Tryz.ntmps121, Exit.thenS]
  refine wpS_of_wp ?_
  obtain ⟨Q, hQ⟩ : ∃ Q : Exit → Act → World → Prop, (fun e a' w' => bodyPostS Tryz.prog Tryz.f121 c₀ cs (fun e u' w' => e = Ending.returned (.tuple #[]) ∧ u' = .panicking [{ v := .iface 193 (.agg #[.iface 127 (.pointer (some ⟨fb, 0, none⟩))]), recovered := true }] ∧ AfterPart tb eb fb w w') e a' ({ c₀ with mode := .panicking [{ v := .iface 193 (.agg #[.iface 127 (.pointer (some ⟨fb, 0, none⟩))]), recovered := true }] } :: cs) w') = Q := ⟨_, rfl⟩
  rw [hQ, read1_frame]
  have HQ := Lib.hid hQ
  have HT := Lib.hid ht
  have HE := Lib.hid he
  clear hQ hu ht he
  have ha := assert_stop fb
  go_wp2_with fail
  obtain ⟨V, hV⟩ : ∃ V, (w.alloc (.cells #[.iface 127 (.pointer (some ⟨fb, 0, none⟩))] 193)).alloc (.cells #[.string ⟨#[]⟩, .int .u64 0, .int .u64 0, .int .u64 0, .int .u64 0] 46) = V := ⟨_, rfl⟩
  obtain ⟨sb, hsb⟩ : ∃ sb, w.heap.size = sb := ⟨_, rfl⟩
  have HV : Hid (Below w.heap.size w V) := Lib.hid (by rw [← hV]; exact balloc (balloc (Below.refl _ _) _) _)
  have hbs : V.heap[sb]? = some (.cells #[.iface 127 (.pointer (some ⟨fb, 0, none⟩))] 193 (0, 0)) := by rw [← hV, ← hsb]; exact block_alloc (heap_alloc_new _ _) _
  have hbn : V.heap[sb + 1]? = some (.cells #[.string ⟨#[]⟩, .int .u64 0, .int .u64 0, .int .u64 0, .int .u64 0] 46 (0, 0)) := by rw [← hV]; exact alloc_new_at _ (by simp [hsb])
  have hbt : V.heap[tb]? = some (.cells #[u0, u1, u2, u3, u4] 46 (0, 0)) := (HV.out.block _ (lt_of_block HT.out)).trans HT.out
  have hbe : V.heap[eb]? = some (.cells #[.nilIface] 59 (0, 0)) := (HV.out.block _ (lt_of_block HE.out)).trans HE.out
  have k0 : V.cell? ⟨sb, 0, none⟩ = some (.iface 127 (.pointer (some ⟨fb, 0, none⟩))) := block_cell hbs 0
  have m0 : V.cell? ⟨sb + 1, 0, none⟩ = some (.string ⟨#[]⟩) := block_cell hbn 0
  have m1 : V.cell? ⟨sb + 1, 1, none⟩ = some (.int .u64 0) := block_cell hbn 1
  have m2 : V.cell? ⟨sb + 1, 2, none⟩ = some (.int .u64 0) := block_cell hbn 2
  have m3 : V.cell? ⟨sb + 1, 3, none⟩ = some (.int .u64 0) := block_cell hbn 3
  have m4 : V.cell? ⟨sb + 1, 4, none⟩ = some (.int .u64 0) := block_cell hbn 4
  have hts : tb < sb := by have := lt_of_block HT.out; omega
  have hnt : some (sb + 1) ≠ some tb := by simp; omega
  have hst : some sb ≠ some tb := by simp; omega
  have HBT := Lib.hid hbt
  have HBE := Lib.hid hbe
  try rw [hV]
  try simp only [hsb]
  clear hV hbs hbn hbt hbe ha
  refine wp_region_tail 4 3 ((some tb)) (phis [fun u _ => u = (.agg #[.string ⟨#[]⟩, .int .u64 0, .int .u64 0, .int .u64 0, .int .u64 0]), fun u _ => u = (.pointer (some ⟨sb, 0, none⟩)), fun u _ => u = (.iface 127 (.pointer (some ⟨fb, 0, none⟩))), fun _ w' => w'.heap[tb]? = some (.cells #[.string ⟨#[]⟩, .int .u64 0, .int .u64 0, .int .u64 0, .int .u64 0] 46 (0, 0))]) rfl (by kernel_rfl) (by kernel_rfl) (mono_of ⟨mono_eq, mono_eq, mono_eq, ?m3, trivial⟩) (steps_of 4 ⟨?s0, ?s1, ?s2, ?s3, trivial⟩) ?_
  case m3 =>
    exact ⟨fun u w1 w2 h hb => ext_block h hb, fun hn => absurd rfl hn⟩
  case s0 =>
    refine step_val (v := (.agg #[.string ⟨#[]⟩, .int .u64 0, .int .u64 0, .int .u64 0, .int .u64 0])) (fun av wv hE hS hO hD => ?_) (fun _ => rfl)
    have h5 : av.eval (.tmp 5) = (.pointer (some ⟨sb + 1, 0, none⟩)) := hO.2.2 5 rfl
    have f5 := (ev_form av 5).symm.trans h5
    have k0 := extB_cell hE hst k0
    have m0 := extB_cell hE hnt m0
    have m1 := extB_cell hE hnt m1
    have m2 := extB_cell hE hnt m2
    have m3 := extB_cell hE hnt m3
    have m4 := extB_cell hE hnt m4
    refine ⟨rfl, ?_⟩
    simp [go_sem, f5, k0, m0, m1, m2, m3, m4]
  case s1 =>
    refine step_val (v := (.pointer (some ⟨sb, 0, none⟩))) (fun av wv hE hS hO hD => ?_) (fun _ => rfl)
    have h3 : av.eval (.tmp 3) = (.pointer (some ⟨sb, 0, none⟩)) := hO.2.2 3 rfl
    have f3 := (ev_form av 3).symm.trans h3
    refine ⟨rfl, ?_⟩
    simp [go_sem, f3]
  case s2 =>
    refine step_val (v := (.iface 127 (.pointer (some ⟨fb, 0, none⟩)))) (fun av wv hE hS hO hD => ?_) (fun _ => rfl)
    have d18 : av.eval (.tmp 18) = (.pointer (some ⟨sb, 0, none⟩)) := hD.1 rfl _ rfl
    have f18 := (ev_form av 18).symm.trans d18
    have k0 := extB_cell hE hst k0
    have m0 := extB_cell hE hnt m0
    have m1 := extB_cell hE hnt m1
    have m2 := extB_cell hE hnt m2
    have m3 := extB_cell hE hnt m3
    have m4 := extB_cell hE hnt m4
    refine ⟨rfl, ?_⟩
    simp [go_sem, f18, k0, m0, m1, m2, m3, m4]
  case s3 =>
    refine step_wp (fun av wv hE hS hO hD => ?_)
    have h0 : av.eval (.tmp 0) = (.pointer (some ⟨tb, 0, none⟩)) := hO.2.2 0 rfl
    have f0 := (ev_form av 0).symm.trans h0
    have d17 : av.eval (.tmp 17) = (.agg #[.string ⟨#[]⟩, .int .u64 0, .int .u64 0, .int .u64 0, .int .u64 0]) := hD.1 rfl _ rfl
    have f17 := (ev_form av 17).symm.trans d17
    refine ⟨rfl, ?_⟩
    have hq : wv.heap[tb]? = some (.cells #[u0, u1, u2, u3, u4] 46 (0, 0)) := ext_block (w := V.drew) (hS rfl) HBT.out
    have q0 : wv.cell? ⟨tb, 0, none⟩ = some u0 := block_cell hq 0
    have q1 : wv.cell? ⟨tb, 1, none⟩ = some u1 := block_cell hq 1
    have q2 : wv.cell? ⟨tb, 2, none⟩ = some u2 := block_cell hq 2
    have q3 : wv.cell? ⟨tb, 3, none⟩ = some u3 := block_cell hq 3
    have q4 : wv.cell? ⟨tb, 4, none⟩ = some u4 := block_cell hq 4
    have hz : ∀ o, wv.frozen? ⟨tb, o, none⟩ = false := block_free hq
    unfold Oper.wp
    have l0 : tb < wv.heap.size := lt_of_block hq
    have h0 : av.eval (.tmp 0) = (.pointer (some ⟨tb, 0, none⟩)) := hO.2.2 0 rfl
    have f0 := (ev_form av 0).symm.trans h0
    simp [go_sem, f0, f17, hz, l0, q0, q1, q2, q3, q4]
    exact ⟨es_sp (extB_setIn (extB_setIn (extB_setIn (extB_setIn (extB_setIn (ExtB_refl _ _) 0 _) 1 _) 2 _) 3 _) 4 _), undef, (block_setCell (block_setCell (block_setCell (block_setCell (block_setCell hq (o := 0) _) (o := 1) _) (o := 2) _) (o := 3) _) (o := 4) _)⟩
  intro a' w' hE hO hall
  have hA := act_of_outer (ds := [17, 18, 19]) rfl hO (by kernel_rfl)
  have e17 : (fun u _ => u = (.agg #[.string ⟨#[]⟩, .int .u64 0, .int .u64 0, .int .u64 0, .int .u64 0])) (a'.eval (.tmp 17)) w' := hall.1 _ rfl
  have e18 : (fun u _ => u = (.pointer (some ⟨sb, 0, none⟩))) (a'.eval (.tmp 18)) w' := hall.2.1 _ rfl
  have e19 : (fun u _ => u = (.iface 127 (.pointer (some ⟨fb, 0, none⟩)))) (a'.eval (.tmp 19)) w' := hall.2.2.1 _ rfl
  have z3 : (fun _ w' => w'.heap[tb]? = some (.cells #[.string ⟨#[]⟩, .int .u64 0, .int .u64 0, .int .u64 0, .int .u64 0] 46 (0, 0))) undef w' := hall.2.2.2.1 _ rfl
  simp only [List.foldl_cons, List.foldl_nil, Act.put, List.setIfInBounds_toArray, List.set_cons_succ, List.set_cons_zero, e17, e18, e19] at hA
  clear hO hall e17 e18 e19
  subst hA
  have HE := Lib.hid (of_drewE hE)
  have HZ := Lib.hid z3
  have hbe : w'.heap[eb]? = some (.cells #[.nilIface] 59 (0, 0)) := extB_block HE.out (by simp; exact fun e => hne e.symm) HBE.out
  have HBE := Lib.hid hbe
  have q0 : w'.cell? ⟨eb, 0, none⟩ = some .nilIface := block_cell hbe 0
  have q1 : w'.frozen? ⟨eb, 0, none⟩ = false := block_free hbe 0
  clear hE z3 hbe
  go_wp2
  rw [← HQ.out]
  have hs1 : (w'.setCell ⟨eb, 0, none⟩ (.iface 127 (.pointer (some ⟨fb, 0, none⟩)))).heap.size = w'.heap.size := by simp
  refine ⟨rfl, _, rfl, .tuple #[], by simp [results, Tryz.results121], rfl, rfl, ?_⟩
  exact ⟨HE.out.os.trans HV.out.os, HE.out.tape.trans HV.out.tape, HE.out.output.trans HV.out.output, by rw [hs1]; exact Nat.le_trans HV.out.size HE.out.size, fun i hi h1 h2 => by
    rw [Below.heap_setCell _ _ _ _ h2]
    exact (HE.out.block i (Nat.lt_of_lt_of_le hi HV.out.size) (by simpa using h1)).trans (HV.out.block i hi), block_setCell_ne HZ.out hne _, block_setCell HBE.out _⟩
def RdPart (s : ByteArray) (w : World) (e : Ending) (w' : World) : Prop :=
  Below w.heap.size w w' ∧ match objR s (partGs s 0) part0 0 with
    | .error f => ∃ fb, e = .returned (.tuple #[zeroPart, .iface 127 (.pointer (some ⟨fb, 0, none⟩))]) ∧ FltB w' fb f.1 f.2
    | .ok y => Kd part0 y.1 ∧ y.2 ≤ s.size ∧ (∃ rb tb, w.heap.size ≤ rb ∧ LiesPart rb tb w' y.1) ∧ (if y.2 < s.size then ∃ fb, e = .returned (.tuple #[.agg (cellsPart y.1), .iface 127 (.pointer (some ⟨fb, 0, none⟩))]) ∧ FltB w' fb 5 y.2 else e = .returned (.tuple #[.agg (cellsPart y.1), .nilIface]))
set_option maxRecDepth 100000 in
set_option maxHeartbeats 8000000 in
theorem readPart_any (B : Nat) (s : ByteArray) (w : World) (hT : Tabs B w) (hET : ErrType w) (hB : B ≤ w.heap.size) (hg : 0 < B) (hs : s.size ≤ 9223372036854775807) :
    Calls Tryz.prog 67 #[.string s, .func (.func 62) #[] #[]] w (RdPart s w) := by
  have HT := Lib.hid hT
  have HET := Lib.hid hET
  have ef := enters_of Tryz.func62 (by kernel_rfl) rfl
  clear hT hET
  go_enter_defers Tryz.func67, Tryz.ntmps67
  go_wp2_with fail
  obtain ⟨tb, htb⟩ : ∃ tb, w.heap.size = tb := ⟨_, rfl⟩
  obtain ⟨W, hW⟩ : ∃ W, (w.alloc (.cells #[.string ⟨#[]⟩, .int .u64 0, .int .u64 0, .int .u64 0, .int .u64 0] 46)).alloc (.cells #[.nilIface] 59) = W := ⟨_, rfl⟩
  have WB : Hid (Below w.heap.size w W) := Lib.hid (by rw [← hW]; exact balloc (balloc (Below.refl _ _) _) _)
  have W0 : Hid (W.heap[tb]? = some (.cells #[.string ⟨#[]⟩, .int .u64 0, .int .u64 0, .int .u64 0, .int .u64 0] 46 (0, 0))) := Lib.hid (by rw [← hW, ← htb]; exact block_alloc (heap_alloc_new _ _) _)
  have W1 : Hid (W.heap[tb + 1]? = some (.cells #[.nilIface] 59 (0, 0))) := Lib.hid (by rw [← hW]; exact alloc_new_at _ (by simp [htb]))
  have hWs : W.heap.size = tb + 1 + 1 := by rw [← hW]; simp [htb]
  have HTW : Hid (w.heap.size = tb) := Lib.hid htb
  try rw [hW]
  try simp only [htb]
  clear hW htb
  refine (New_any W s 10240).mono ?_
  rintro e w1 ⟨rfl, hw1⟩
  have hm : max (10240 : Int) 0 = 10240 := by decide
  rw [hm] at hw1
  obtain ⟨rb, hrb⟩ : ∃ rb, W.heap.size = rb := ⟨_, rfl⟩
  have R1 : Hid (RdB w1 rb s 0 10240) := Lib.hid (by rw [hw1, ← hrb]; exact heap_alloc_new _ _)
  have WB1 : Hid (Below W.heap.size W w1) := Lib.hid (by rw [hw1]; exact balloc (Below.refl _ _) _)
  have hs1 : w1.heap.size = rb + 1 := by rw [hw1, ← hrb]; simp
  try rw [hrb]
  clear hw1
  go_upto_region 3 with fail
  obtain ⟨V, hV⟩ : ∃ V, w1.alloc (.cells #[.pointer (some ⟨rb, 0, none⟩)] 199) = V := ⟨_, rfl⟩
  have VB : Hid (Below w1.heap.size w1 V) := Lib.hid (by rw [← hV]; exact balloc (Below.refl _ _) _)
  have VQ : Hid (V.heap[rb + 1]? = some (.cells #[.pointer (some ⟨rb, 0, none⟩)] 199 (0, 0))) := Lib.hid (by rw [← hV]; exact alloc_new_at _ hs1)
  try rw [hV]
  try simp only [hs1]
  have hrbt : rb = tb + 1 + 1 := hrb.symm.trans hWs
  have hTW := HTW.out
  have BV : Hid (Below w.heap.size w V) := Lib.hid (bnext (bnext WB.out WB1.out) VB.out)
  have WV : Hid (Below W.heap.size W V) := Lib.hid (bnext WB1.out VB.out)
  have VT : Hid (V.heap[tb]? = some (.cells #[.string ⟨#[]⟩, .int .u64 0, .int .u64 0, .int .u64 0, .int .u64 0] 46 (0, 0))) := Lib.hid ((WV.out.block _ (lt_of_block W0.out)).trans W0.out)
  have VE : Hid (V.heap[tb + 1]? = some (.cells #[.nilIface] 59 (0, 0))) := Lib.hid ((WV.out.block _ (lt_of_block W1.out)).trans W1.out)
  have VR : Hid (RdB V rb s 0 10240) := Lib.hid (R1.out.below VB.out)
  have ENV : Hid (RdEnv B V (rb + 1) rb s 0) := Lib.hid ⟨VQ.out, VR.out, HT.out.below BV.out, by omega, by omega, by omega, Nat.zero_le _, hs⟩
  have E : TEnv B (rb + 1) rb tb 5 46 V := ⟨⟨_, VR.out⟩, ⟨_, VT.out⟩, by omega, by omega, by omega, by decide, by decide⟩
  have REC : Hid (RecAt rb tb 46 5 V part0) := Lib.hid (rec_zero VT.out rfl (fun i hi => by
    match i, hi with
    | 0, _ => exact ⟨_, rfl, rfl⟩
    | 1, _ => exact ⟨_, rfl, rfl⟩
    | 2, _ => exact ⟨_, rfl, rfl⟩
    | 3, _ => exact ⟨_, rfl, rfl⟩
    | 4, _ => exact ⟨_, rfl, rfl⟩))
  have HOF := Lib.hid (rofPart_any (x0 := part0) (s := s) E 0 (by omega) ⟨rfl, rfl, rfl, rfl, rfl⟩)
  have HE := Lib.hid E
  have G : Hid (GOk part0 (partGs s 0)) := Lib.hid (PartOk s 0 ⟨rfl, rfl, rfl, rfl, rfl⟩)
  have HRBT := Lib.hid hrbt
  clear hV E hrb hs1 hWs hrbt hTW
  go_wp2_with fail
  refine HOF.out.mono ?_
  rintro e w2 ⟨u, rfl, ⟨g, c, l, rfl, hc, hF, hS⟩, hb⟩
  have hl : (partGs s 0).length = l.length := hS.1
  have hg := (HE.out.below hb).apart hF.ex
  have H2 := Lib.hid (robject_any B (rb + 1) rb tb g 0 c part0 46 5 s w2 w2 l (partGs s 0) 0 part0 hF.flds hc (show l.length ≤ 1000 by rw [← hl]; exact Nat.le_of_ble_eq_true rfl) hS (Chg.refl _ _ _) hg HE.out.nq HE.out.le HE.out.ne G.out.keys G.out.disj G.out.frames G.out.kinds (fun i => rfl) (REC.out.below hb) (ENV.out.below hb) (fun i hi o ho => rfl))
  have HB := Lib.hid hb
  clear hF hS hb hl hc hg HOF ef
  go_wp2_with fail
  refine H2.out.mono ?_
  intro e w3 hh
  cases hr : objR s (partGs s 0) part0 0 with
  | error f =>
    rw [hr] at hh
    have HTH := Lib.hid (getIs_th hh)
    obtain ⟨fb, rfl, hf, hc3⟩ := getIs_err hh
    have HF := Lib.hid hf
    have HC := Lib.hid hc3
    have HR := Lib.hid hr
    clear hh hf hc3 hr H2
    go_wp2
    obtain ⟨cs, hcs, hcn⟩ := HTH.out
    have hce : w3.heap[tb + 1]? = some (.cells #[.nilIface] 59 (0, 0)) := (HC.out.block _ (Nat.lt_of_lt_of_le (lt_of_block VE.out) HB.out.size) (by have := HRBT.out; omega) (by omega)).trans ((HB.out.block _ (lt_of_block VE.out)).trans VE.out)
    refine leaves_cons (f := 121) (args := #[.pointer (some ⟨tb, 0, none⟩), .pointer (some ⟨tb + 1, 0, none⟩)]) (by simp) (by simp [go_sem]) ?_
    refine (read1Part_some tb (tb + 1) fb cs w3 hcs (arr5 hcn) hce (by omega)).mono ?_
    rintro e u' w4 ⟨rfl, rfl, HA⟩
    have y0 : ∀ o, w4.cell? ⟨tb, o, none⟩ = _ := block_cell HA.th
    have y1 : w4.cell? ⟨tb + 1, 0, none⟩ = some (.iface 127 (.pointer (some ⟨fb, 0, none⟩))) := block_cell HA.er 0
    refine ⟨_, by simp [results, Tryz.results67, go_sem, y0, y1]; rfl, ?_⟩
    refine ⟨?_, by
      rw [HR.out]
      refine ⟨fb, rfl, (HA.block fb (lt_of_block HF.out) (fun e => ?_) (fun e => ?_)).trans HF.out⟩
      · subst e; have h9 := hcs.symm.trans HF.out; cases h9
      · subst e; have h9 := hce.symm.trans HF.out; cases h9⟩
    have hsz := HTW.out
    have hb9 := HRBT.out
    refine ⟨HA.os.trans (HC.out.os.trans (HB.out.os.trans BV.out.os)), HA.tape.trans (HC.out.tape.trans (HB.out.tape.trans BV.out.tape)), HA.output.trans (HC.out.output.trans (HB.out.output.trans BV.out.output)), Nat.le_trans BV.out.size (Nat.le_trans HB.out.size (Nat.le_trans HC.out.size HA.size)), fun i hi => ?_⟩
    have l1 := Nat.lt_of_lt_of_le hi BV.out.size
    have l2 := Nat.lt_of_lt_of_le l1 HB.out.size
    exact (HA.block i (Nat.lt_of_lt_of_le l2 HC.out.size) (by omega) (by omega)).trans ((HC.out.block i l2 (by omega) (by omega)).trans ((HB.out.block i l1).trans (BV.out.block i hi)))
  | ok q =>
    rw [hr] at hh
    obtain ⟨rfl, hrd, hle, hx3, hc3⟩ := getIs_ok hh
    have HRD := Lib.hid hrd
    have HC := Lib.hid hc3
    have HR := Lib.hid hr
    have HKD : Hid (Kd part0 q.1) := Lib.hid (objR_kinds G.out.kinds hr (fun i => rfl))
    obtain ⟨_, hth, hlies⟩ := part_of_rec hx3 HKD.out
    have HTH := Lib.hid hth
    have HLI := Lib.hid hlies
    clear hh hrd hx3 hc3 hr H2 hth hlies
    obtain ⟨x, a⟩ := q
    have hts : tb < w3.heap.size := lt_of_block HTH.out
    have HQ3 : Hid (w3.heap[rb + 1]? = some (.cells #[.pointer (some ⟨rb, 0, none⟩)] 199 (0, 0))) := Lib.hid ((HC.out.block _ (Nat.lt_of_lt_of_le (lt_of_block VQ.out) HB.out.size) (by omega) (by have := HRBT.out; omega)).trans ((HB.out.block _ (lt_of_block VQ.out)).trans VQ.out))
    have HE3 : Hid (w3.heap[tb + 1]? = some (.cells #[.nilIface] 59 (0, 0))) := Lib.hid ((HC.out.block _ (Nat.lt_of_lt_of_le (lt_of_block VE.out) HB.out.size) (by have := HRBT.out; omega) (by omega)).trans ((HB.out.block _ (lt_of_block VE.out)).trans VE.out))
    have HET3 : Hid (ErrType w3) := Lib.hid (by
      have h1 := HET.out.below BV.out
      have h2 := h1.below HB.out
      unfold ErrType at h2 ⊢
      rw [World.cell?_of_block (w := w2) (HC.out.block _ (lt_of_cell h2) (show 0 ≠ rb by have := HRBT.out; have := HTW.out; omega) (show 0 ≠ tb by have := HTW.out; omega))]
      exact h2)
    go_upto_region 4 with fail
    obtain ⟨VO, hVO⟩ : ∃ VO : Nat → Option Nat, VO = fun j => if j = 6 then some tb else none := ⟨_, rfl⟩
    have vo6 : VO 6 = some tb := by rw [hVO]; rfl
    have von : ∀ j, j ≠ 6 → VO j = none := fun j h1 => by rw [hVO]; simp [h1]
    have vob : ∀ j b, b ≠ tb → VO j ≠ some b := fun j b hb => by
      by_cases h : j = 6
      · subst h; rw [vo6]; simp; exact fun e => hb e.symm
      · rw [von j h]; simp
    clear hVO
    refine wp_region_tailV 7 VO (fun i j b h1 h2 => by
        by_cases e1 : i = 6
        · by_cases e2 : j = 6
          · rw [e1, e2]
          · rw [von j e2] at h2; cases h2
        · rw [von i e1] at h1; cases h1) (fun _ _ _ => True) (fun _ => True) (fun _ _ _ _ _ => True) (fun _ _ => trivial) trivial
      (phis [fun u _ => u = .agg (cellsPart x), fun u _ => u = .pointer (some ⟨rb + 1, 0, none⟩), fun u _ => u = .pointer (some ⟨rb + 1, 0, none⟩), fun u _ => u = .pointer (some ⟨rb + 1, 0, none⟩), fun u _ => u = .pointer (some ⟨rb, 0, none⟩), fun u w' => if a < s.size then ∃ fb, u = .iface 127 (.pointer (some ⟨fb, 0, none⟩)) ∧ FltB w' fb 5 a ∧ fb ≠ tb else u = .nilIface, fun _ w' => w'.heap[tb]? = some (.cells (cellsPart x) 46 (0, 0))]) rfl (by kernel_rfl) (by kernel_rfl)
      (monoV_of ⟨monoV_eq, monoV_eq, monoV_eq, monoV_eq, monoV_eq, ?m5, ?m6, trivial⟩) (fun _ _ _ _ _ => trivial) (fun _ _ _ _ _ _ _ _ _ _ _ => trivial) (stepsV_of 7 ⟨?s0, ?s1, ?s2, ?s3, ?s4, ?s5, ?s6, trivial⟩) ?_
    case m5 =>
      intro j hj u w1 w2 he hp
      by_cases hlt : a < s.size
      · simp only [hlt, if_true] at hp ⊢
        obtain ⟨fb, h1, h2, h3⟩ := hp
        refine ⟨fb, h1, (he.1.block fb (lt_of_block h2) ?_).trans h2, h3⟩
        exact fun e => vob j fb h3 e.symm
      · simp only [hlt, if_false] at hp ⊢; exact hp
    case m6 =>
      intro j hj u w1 w2 he hp
      refine (he.1.block tb (lt_of_block hp) ?_).trans hp
      rw [von j hj]; simp
    case s0 =>
      refine stepV_val (v := .agg (cellsPart x)) (fun _ _ => trivial) (fun _ _ _ _ => ⟨trivial, trivial⟩) (fun D av wv hE hO hD => ?_) (fun _ => rfl)
      have h6 : ¬ D 6 := hE.notyet 6 _ rfl { on := 0, ground := .data } (by simp) rfl hE.me
      have hb0 : wv.heap[tb]? = some (.cells (cellsPart x) 46 (0, 0)) := (hE.late 6 h6 tb vo6 hts).trans HTH.out
      have k0 : wv.cell? ⟨tb, 0, none⟩ = some (.string (x 0).s) := block_cell hb0 0
      have k1 : wv.cell? ⟨tb, 1, none⟩ = some (.int .u64 (x 1).n) := block_cell hb0 1
      have k2 : wv.cell? ⟨tb, 2, none⟩ = some (.int .u64 (x 2).n) := block_cell hb0 2
      have k3 : wv.cell? ⟨tb, 3, none⟩ = some (.int .u64 (x 3).n) := block_cell hb0 3
      have k4 : wv.cell? ⟨tb, 4, none⟩ = some (.int .u64 (x 4).n) := block_cell hb0 4
      have h4 : av.eval (.tmp 4) = .pointer (some ⟨tb, 0, none⟩) := hO.2.2 4 rfl
      have f4 := (ev_form av 4).symm.trans h4
      refine ⟨rfl, ?_⟩
      simp [go_sem, f4, k0, k1, k2, k3, k4]
    case s1 =>
      refine stepV_val (v := .pointer (some ⟨rb + 1, 0, none⟩)) (fun _ _ => trivial) (fun _ _ _ _ => ⟨trivial, trivial⟩) (fun D av wv hE hO hD => ?_) (fun _ => rfl)
      have h6 : av.eval (.tmp 6) = .pointer (some ⟨rb + 1, 0, none⟩) := hO.2.2 6 rfl
      have f6 := (ev_form av 6).symm.trans h6
      refine ⟨rfl, ?_⟩
      simp [go_sem, f6]
    case s2 =>
      refine stepV_val (v := .pointer (some ⟨rb + 1, 0, none⟩)) (fun _ _ => trivial) (fun _ _ _ _ => ⟨trivial, trivial⟩) (fun D av wv hE hO hD => ?_) (fun _ => rfl)
      have d17 : av.eval (.tmp 17) = .pointer (some ⟨rb + 1, 0, none⟩) := hD.1 rfl _ rfl
      have f17 := (ev_form av 17).symm.trans d17
      refine ⟨rfl, ?_⟩
      simp [go_sem, f17]
    case s3 =>
      refine stepV_val (v := .pointer (some ⟨rb + 1, 0, none⟩)) (fun _ _ => trivial) (fun _ _ _ _ => ⟨trivial, trivial⟩) (fun D av wv hE hO hD => ?_) (fun _ => rfl)
      have d18 : av.eval (.tmp 18) = .pointer (some ⟨rb + 1, 0, none⟩) := hD.1 rfl _ rfl
      have f18 := (ev_form av 18).symm.trans d18
      refine ⟨rfl, ?_⟩
      simp [go_sem, f18]
    case s4 =>
      refine stepV_val (v := .pointer (some ⟨rb, 0, none⟩)) (fun _ _ => trivial) (fun _ _ _ _ => ⟨trivial, trivial⟩) (fun D av wv hE hO hD => ?_) (fun _ => rfl)
      have d19 : av.eval (.tmp 19) = .pointer (some ⟨rb + 1, 0, none⟩) := hD.1 rfl _ rfl
      have f19 := (ev_form av 19).symm.trans d19
      have k0 : wv.cell? ⟨rb + 1, 0, none⟩ = some (.pointer (some ⟨rb, 0, none⟩)) := block_cell ((hE.ext.block (rb + 1) (lt_of_block HQ3.out) (fun j => vob j _ (by have := HRBT.out; omega))).trans HQ3.out) 0
      refine ⟨rfl, ?_⟩
      simp [go_sem, f19, k0]
    case s5 =>
      refine stepV_wp (fun D av wv hPP hE hO hD => ?_)
      have d20 : av.eval (.tmp 20) = .pointer (some ⟨rb, 0, none⟩) := hD.1 rfl _ rfl
      have f20 := (ev_form av 20).symm.trans d20
      have hrd : RdB wv rb s a 10240 := (hE.ext.block rb (lt_of_block HRD.out) (fun j => vob j _ (by have := HRBT.out; omega))).trans HRD.out
      have het : ErrType wv := by
        have h2 : ErrType w3.drew := HET3.out
        unfold ErrType at h2 ⊢
        rw [World.cell?_of_block (w := w3.drew) (hE.ext.block _ (lt_of_cell h2) (fun j => vob j _ (show 0 ≠ tb by have := HTW.out; omega)))]
        exact h2
      have hvs : w3.heap.size ≤ wv.heap.size := hE.ext.size
      refine ⟨rfl, wp_of_callR (f := 124) (args := #[.pointer (some ⟨rb, 0, none⟩)]) (R := fun u w2 => Below wv.heap.size wv w2 ∧ (if a < s.size then ∃ fb, u = .iface 127 (.pointer (some ⟨fb, 0, none⟩)) ∧ FltB w2 fb 5 a ∧ fb ≠ tb else u = .nilIface)) (by simp [go_sem, f20]) ((End_any wv rb s a 10240 het hrd hle hs).mono fun e w2 hh => ?_) (fun u w2 ⟨h1, h2⟩ => ⟨u, rfl, esV_of_ext h1 trivial, h2, fun _ _ _ _ _ => ⟨trivial, trivial⟩⟩)⟩
      obtain ⟨h1, h2⟩ := hh
      unfold leftOf at h2
      by_cases hlt : a < s.size
      · simp only [hlt, if_true] at h2 ⊢
        obtain ⟨fb, h3, h4, h5⟩ := h2
        exact ⟨_, h3, h1, fb, rfl, h5, by omega⟩
      · simp only [hlt, if_false] at h2 ⊢
        exact ⟨_, h2, h1, rfl⟩
    case s6 =>
      refine stepV_wp (fun D av wv hPP hE hO hD => ?_)
      have d16 : av.eval (.tmp 16) = .agg (cellsPart x) := hD.1 rfl _ rfl
      have f16 := (ev_form av 16).symm.trans d16
      have h4 : av.eval (.tmp 4) = .pointer (some ⟨tb, 0, none⟩) := hO.2.2 4 rfl
      have f4 := (ev_form av 4).symm.trans h4
      have hq : wv.heap[tb]? = some (.cells (cellsPart x) 46 (0, 0)) := (hE.own tb vo6 hts).trans HTH.out
      have k0 : wv.cell? ⟨tb, 0, none⟩ = some (.string (x 0).s) := block_cell hq 0
      have k1 : wv.cell? ⟨tb, 1, none⟩ = some (.int .u64 (x 1).n) := block_cell hq 1
      have k2 : wv.cell? ⟨tb, 2, none⟩ = some (.int .u64 (x 2).n) := block_cell hq 2
      have k3 : wv.cell? ⟨tb, 3, none⟩ = some (.int .u64 (x 3).n) := block_cell hq 3
      have k4 : wv.cell? ⟨tb, 4, none⟩ = some (.int .u64 (x 4).n) := block_cell hq 4
      have hz : ∀ o, wv.frozen? ⟨tb, o, none⟩ = false := block_free hq
      have l0 : tb < wv.heap.size := lt_of_block hq
      refine ⟨rfl, ?_⟩
      unfold Oper.wp
      simp [go_sem, f4, f16, hz, l0, k0, k1, k2, k3, k4]
      exact ⟨⟨by rw [vo6]; exact (extB_setIn (extB_setIn (extB_setIn (extB_setIn (extB_setIn (ExtB_refl _ _) 0 _) 1 _) 2 _) 3 _) 4 _), trivial⟩, undef, (block_setCell (block_setCell (block_setCell (block_setCell (block_setCell hq (o := 0) _) (o := 1) _) (o := 2) _) (o := 3) _) (o := 4) _), fun _ _ _ _ _ => ⟨trivial, trivial⟩⟩
    intro a' w' hE _ hO hall _
    have hA := act_of_outer (ds := [16, 17, 18, 19, 20, 21]) rfl hO (by kernel_rfl)
    have e16 : (fun u (_ : World) => u = .agg (cellsPart x)) (a'.eval (.tmp 16)) w' := hall.1 _ rfl
    have e17 : (fun u (_ : World) => u = .pointer (some ⟨rb + 1, 0, none⟩)) (a'.eval (.tmp 17)) w' := hall.2.1 _ rfl
    have e18 : (fun u (_ : World) => u = .pointer (some ⟨rb + 1, 0, none⟩)) (a'.eval (.tmp 18)) w' := hall.2.2.1 _ rfl
    have e19 : (fun u (_ : World) => u = .pointer (some ⟨rb + 1, 0, none⟩)) (a'.eval (.tmp 19)) w' := hall.2.2.2.1 _ rfl
    have e20 : (fun u (_ : World) => u = .pointer (some ⟨rb, 0, none⟩)) (a'.eval (.tmp 20)) w' := hall.2.2.2.2.1 _ rfl
    have e21 : (fun u w' => if a < s.size then ∃ fb, u = .iface 127 (.pointer (some ⟨fb, 0, none⟩)) ∧ FltB w' fb 5 a ∧ fb ≠ tb else u = .nilIface) (a'.eval (.tmp 21)) w' := hall.2.2.2.2.2.1 _ rfl
    have z6 : w'.heap[tb]? = some (.cells (cellsPart x) 46 (0, 0)) := hall.2.2.2.2.2.2.1 _ rfl
    obtain ⟨v21, hv21⟩ : ∃ v, a'.eval (.tmp 21) = v := ⟨_, rfl⟩
    rw [hv21] at e21
    simp only [List.foldl_cons, List.foldl_nil, Act.put, List.setIfInBounds_toArray, List.set_cons_succ, List.set_cons_zero, e16, e17, e18, e19, e20, hv21] at hA
    clear hO hall e16 e17 e18 e19 e20 hv21
    subst hA
    have HX4 : Hid (ExtS VO w3 w') := Lib.hid ⟨hE.os, hE.tape, hE.output, hE.size, hE.block⟩
    have HZ6 := Lib.hid z6
    have hbe : w'.heap[tb + 1]? = some (.cells #[.nilIface] 59 (0, 0)) := (HX4.out.block _ (lt_of_block HE3.out) (fun j => vob j _ (by omega))).trans HE3.out
    have HBE := Lib.hid hbe
    have g0 : w'.cell? ⟨tb + 1, 0, none⟩ = some .nilIface := block_cell hbe 0
    have g1 : w'.frozen? ⟨tb + 1, 0, none⟩ = false := block_free hbe 0
    have HVO : Hid (∀ j b, b ≠ tb → VO j ≠ some b) := Lib.hid vob
    have HFIN : ∀ v, Hid (Below w.heap.size w (w'.setCell ⟨tb + 1, 0, none⟩ v)) := fun v => Lib.hid (by
      have hsz := HTW.out
      have hb9 := HRBT.out
      refine ⟨HX4.out.os.trans (HC.out.os.trans (HB.out.os.trans BV.out.os)), HX4.out.tape.trans (HC.out.tape.trans (HB.out.tape.trans BV.out.tape)), HX4.out.output.trans (HC.out.output.trans (HB.out.output.trans BV.out.output)), by simpa using Nat.le_trans BV.out.size (Nat.le_trans HB.out.size (Nat.le_trans HC.out.size HX4.out.size)), fun i hi => ?_⟩
      have l1 := Nat.lt_of_lt_of_le hi BV.out.size
      have l2 := Nat.lt_of_lt_of_le l1 HB.out.size
      rw [Below.heap_setCell _ _ _ _ (show i ≠ tb + 1 by omega)]
      exact (HX4.out.block i (Nat.lt_of_lt_of_le l2 HC.out.size) (fun j => HVO.out j i (by omega))).trans ((HC.out.block i l2 (by omega) (by omega)).trans ((HB.out.block i l1).trans (BV.out.block i hi))))
    have HLF : ∀ v, Hid (LiesPart rb tb (w'.setCell ⟨tb + 1, 0, none⟩ v) x) := fun v => Lib.hid (HLI.out.up (fun b h1 h2 => by
      have hb9 := HRBT.out
      rw [Below.heap_setCell _ _ _ _ (show b ≠ tb + 1 by omega)]
      exact HX4.out.block b h2 (fun j => HVO.out j b (by omega))))
    have HTF : ∀ v o, (w'.setCell ⟨tb + 1, 0, none⟩ v).cell? ⟨tb, o, none⟩ = (cellsPart x)[o]? := fun v o => block_cell (block_setCell_ne HZ6.out (by show tb ≠ tb + 1; omega) v) o
    have HEF : ∀ v, (w'.setCell ⟨tb + 1, 0, none⟩ v).cell? ⟨tb + 1, 0, none⟩ = some v := fun v => block_cell (block_setCell HBE.out v) 0
    have HTFH := Lib.hid HTF
    have HEFH := Lib.hid HEF
    clear hE z6 hbe vo6 von vob HTF HEF
    by_cases hlt : a < s.size
    · simp only [hlt, if_true] at e21
      obtain ⟨fb, rfl, hf, hft⟩ := e21
      have HF := Lib.hid hf
      have HLT := Lib.hid hlt
      clear hf hlt
      go_wp2
      refine leaves_cons (f := 121) (args := #[.pointer (some ⟨tb, 0, none⟩), .pointer (some ⟨tb + 1, 0, none⟩)]) (by simp) (by simp [go_sem]) ?_
      refine (read1Part_idle _ _ _).mono ?_
      rintro e u' w'' ⟨rfl, rfl, rfl⟩
      have y0 := HTFH.out (.iface 127 (.pointer (some ⟨fb, 0, none⟩)))
      have y1 := HEFH.out (.iface 127 (.pointer (some ⟨fb, 0, none⟩)))
      refine ⟨_, by simp [results, Tryz.results67, go_sem, y0, y1]; rfl, ?_⟩
      refine ⟨(HFIN _).out, ?_⟩
      rw [HR.out]
      refine ⟨HKD.out, hle, ⟨rb, tb, by have := HRBT.out; have := HTW.out; omega, (HLF _).out⟩, ?_⟩
      rw [if_pos HLT.out]
      exact ⟨fb, rfl, block_setCell_ne HF.out (by intro e; subst e; have h9 := HBE.out.symm.trans HF.out; cases h9) _⟩
    · simp only [hlt, if_false] at e21
      subst e21
      have HLT := Lib.hid hlt
      clear hlt
      go_wp2
      refine leaves_cons (f := 121) (args := #[.pointer (some ⟨tb, 0, none⟩), .pointer (some ⟨tb + 1, 0, none⟩)]) (by simp) (by simp [go_sem]) ?_
      refine (read1Part_idle _ _ _).mono ?_
      rintro e u' w'' ⟨rfl, rfl, rfl⟩
      have y0 := HTFH.out .nilIface
      have y1 := HEFH.out .nilIface
      refine ⟨_, by simp [results, Tryz.results67, go_sem, y0, y1]; rfl, ?_⟩
      refine ⟨(HFIN _).out, ?_⟩
      rw [HR.out]
      refine ⟨HKD.out, hle, ⟨rb, tb, by have := HRBT.out; have := HTW.out; omega, (HLF _).out⟩, ?_⟩
      rw [if_neg HLT.out]
abbrev cellsSlot (x : Rcd) (a3 : Option Addr) (c3 : Nat) (a4 : Option Addr) (c4 : Nat) : Array Value := #[.int .u64 (x 0).n, .bool (x 1).q, .int .u64 (x 2).n, .slice a3 (len (x 3).l) c3, .slice a4 (len (x 4).l) c4]
abbrev zeroSlot : Value := .agg #[.int .u64 0, .bool false, .int .u64 0, .slice none 0 0, .slice none 0 0]
def LiesSlot (rb tb : Nat) (w : World) (x : Rcd) (a3 : Option Addr) (c3 : Nat) (a4 : Option Addr) (c4 : Nat) : Prop := HoldsD rb tb w (.slice a3 (len (x 3).l) c3) (x 3) ∧ HoldsD rb tb w (.slice a4 (len (x 4).l) c4) (x 4)
theorem LiesSlot.below {rb tb : Nat} {w w' : World} {x : Rcd} {a3 : Option Addr} {c3 : Nat} {a4 : Option Addr} {c4 : Nat} (h : LiesSlot rb tb w x a3 c3 a4 c4) (hb : Below w.heap.size w w') : LiesSlot rb tb w' x a3 c3 a4 c4 := ⟨h.1.chg (Chg.of_below hb), h.2.chg (Chg.of_below hb)⟩
theorem LiesSlot.chg {rb tb : Nat} {w w' : World} {x : Rcd} {a3 : Option Addr} {c3 : Nat} {a4 : Option Addr} {c4 : Nat} (h : LiesSlot rb tb w x a3 c3 a4 c4) (hb : Chg rb tb w w') : LiesSlot rb tb w' x a3 c3 a4 c4 := ⟨h.1.chg hb, h.2.chg hb⟩
theorem LiesSlot.up {rb tb : Nat} {w w' : World} {x : Rcd} {a3 : Option Addr} {c3 : Nat} {a4 : Option Addr} {c4 : Nat} (h : LiesSlot rb tb w x a3 c3 a4 c4) (hb : Up rb w w') : LiesSlot rb tb w' x a3 c3 a4 c4 := ⟨h.1.up hb, h.2.up hb⟩
theorem slot_of_rec {rb tb : Nat} {w : World} {x : Rcd} (h : RecAt rb tb 44 5 w x) (hk : Kd slot0 x) : ∃ (a3 : Option Addr) (c3 : Nat) (a4 : Option Addr) (c4 : Nat), w.heap[tb]? = some (.cells (cellsSlot x a3 c3 a4 c4) 44 (0, 0)) ∧ LiesSlot rb tb w x a3 c3 a4 c4 := by
  obtain ⟨cs, h1, h2, h3⟩ := h
  obtain ⟨m0, e0⟩ := hk.num (show kindD (slot0 0) = _ from rfl)
  obtain ⟨u0, g0, d0⟩ := h3 0 (by decide)
  rw [e0] at d0
  simp only [HoldsD] at d0
  subst d0
  obtain ⟨m1, e1⟩ := hk.flag (show kindD (slot0 1) = _ from rfl)
  obtain ⟨u1, g1, d1⟩ := h3 1 (by decide)
  rw [e1] at d1
  simp only [HoldsD] at d1
  subst d1
  obtain ⟨m2, e2⟩ := hk.num (show kindD (slot0 2) = _ from rfl)
  obtain ⟨u2, g2, d2⟩ := h3 2 (by decide)
  rw [e2] at d2
  simp only [HoldsD] at d2
  subst d2
  obtain ⟨m3, e3⟩ := hk.strs (show kindD (slot0 3) = _ from rfl)
  obtain ⟨u3, g3, d3⟩ := h3 3 (by decide)
  have D3 := d3
  rw [e3] at d3
  obtain ⟨a3, c3, q3, -⟩ := d3
  subst q3
  obtain ⟨m4, e4⟩ := hk.strs (show kindD (slot0 4) = _ from rfl)
  obtain ⟨u4, g4, d4⟩ := h3 4 (by decide)
  have D4 := d4
  rw [e4] at d4
  obtain ⟨a4, c4, q4, -⟩ := d4
  subst q4
  refine ⟨a3, c3, a4, c4, ?_, ?_⟩
  · rw [h1]; congr 2; apply Array.ext_getElem?; intro i
    match i with
    | 0 => rw [g0]; simp [e0, DV.n, DV.q, DV.s, DV.l, DV.ns, DV.rs]
    | 1 => rw [g1]; simp [e1, DV.n, DV.q, DV.s, DV.l, DV.ns, DV.rs]
    | 2 => rw [g2]; simp [e2, DV.n, DV.q, DV.s, DV.l, DV.ns, DV.rs]
    | 3 => rw [g3]; simp [e3, DV.n, DV.q, DV.s, DV.l, DV.ns, DV.rs]
    | 4 => rw [g4]; simp [e4, DV.n, DV.q, DV.s, DV.l, DV.ns, DV.rs]
    | i + 5 => rw [Array.getElem?_eq_none (by omega), Array.getElem?_eq_none (by simp)]
  · exact ⟨(by rw [e3] at D3 ⊢; exact D3), (by rw [e4] at D4 ⊢; exact D4)⟩
set_option maxRecDepth 100000 in
theorem read1Slot_idle (p q : Value) (w : World) : CallsD Tryz.prog 140 #[p, q] .returning w fun e u' w' => e = .returned (.tuple #[]) ∧ u' = .returning ∧ w' = w := by
  refine callsD_of_wpS Tryz.func140 rfl fun c₀ cs hu => ?_
  apply wpS_seq
  apply wpS_region
  simp [wpOpsS, go_sem, recoverD, hu, Tryz.ntmps140, Exit.thenS]
  refine wpS_of_wp ?_
  obtain ⟨Q, hQ⟩ : ∃ Q : Exit → Act → World → Prop, (fun e a' w' => bodyPostS Tryz.prog Tryz.f140 c₀ cs (fun e u' w' => e = Ending.returned (.tuple #[]) ∧ u' = .returning ∧ w' = w) e a' (c₀ :: cs) w') = Q := ⟨_, rfl⟩
  rw [hQ, read1_frame]
  have HQ := Lib.hid hQ
  clear hQ
  go_wp2
  rw [← HQ.out]
  simp [bodyPostS, results, Tryz.results140]
  cases c₀; simp_all
structure AfterSlot (tb eb fb : Nat) (w w' : World) : Prop where
  os : w'.os = w.os
  tape : w'.tape = w.tape
  output : w'.output = w.output
  size : w.heap.size ≤ w'.heap.size
  block : ∀ i, i < w.heap.size → i ≠ tb → i ≠ eb → w'.heap[i]? = w.heap[i]?
  th : w'.heap[tb]? = some (.cells #[.int .u64 0, .bool false, .int .u64 0, .slice none 0 0, .slice none 0 0] 44 (0, 0))
  er : w'.heap[eb]? = some (.cells #[.iface 127 (.pointer (some ⟨fb, 0, none⟩))] 59 (0, 0))
set_option maxRecDepth 100000 in
set_option maxHeartbeats 4000000 in
theorem read1Slot_some (tb eb fb : Nat) (cs : Array Value) (w : World) (ht : w.heap[tb]? = some (.cells cs 44 (0, 0))) (hcs : ∃ u0 u1 u2 u3 u4 : Value, cs = #[u0, u1, u2, u3, u4] ) (he : w.heap[eb]? = some (.cells #[.nilIface] 59 (0, 0))) (hne : tb ≠ eb) :
    CallsD Tryz.prog 140 #[.pointer (some ⟨tb, 0, none⟩), .pointer (some ⟨eb, 0, none⟩)] (.panicking (stopC fb)) w fun e u' w' =>
      e = .returned (.tuple #[]) ∧ u' = .panicking [{ v := .iface 193 (.agg #[.iface 127 (.pointer (some ⟨fb, 0, none⟩))]), recovered := true }] ∧ AfterSlot tb eb fb w w' := by
  obtain ⟨u0, u1, u2, u3, u4, rfl⟩ := hcs
  refine callsD_of_wpS Tryz.func140 rfl fun c₀ cs hu => ?_
  apply wpS_seq
  apply wpS_region
  simp [wpOpsS, go_sem, recoverD, hu, stopC, Tryz.ntmps140, Exit.thenS]
  refine wpS_of_wp ?_
  obtain ⟨Q, hQ⟩ : ∃ Q : Exit → Act → World → Prop, (fun e a' w' => bodyPostS Tryz.prog Tryz.f140 c₀ cs (fun e u' w' => e = Ending.returned (.tuple #[]) ∧ u' = .panicking [{ v := .iface 193 (.agg #[.iface 127 (.pointer (some ⟨fb, 0, none⟩))]), recovered := true }] ∧ AfterSlot tb eb fb w w') e a' ({ c₀ with mode := .panicking [{ v := .iface 193 (.agg #[.iface 127 (.pointer (some ⟨fb, 0, none⟩))]), recovered := true }] } :: cs) w') = Q := ⟨_, rfl⟩
  rw [hQ, read1_frame]
  have HQ := Lib.hid hQ
  have HT := Lib.hid ht
  have HE := Lib.hid he
  clear hQ hu ht he
  have ha := assert_stop fb
  go_wp2_with fail
  obtain ⟨V, hV⟩ : ∃ V, (w.alloc (.cells #[.iface 127 (.pointer (some ⟨fb, 0, none⟩))] 193)).alloc (.cells #[.int .u64 0, .bool false, .int .u64 0, .slice none 0 0, .slice none 0 0] 44) = V := ⟨_, rfl⟩
  obtain ⟨sb, hsb⟩ : ∃ sb, w.heap.size = sb := ⟨_, rfl⟩
  have HV : Hid (Below w.heap.size w V) := Lib.hid (by rw [← hV]; exact balloc (balloc (Below.refl _ _) _) _)
  have hbs : V.heap[sb]? = some (.cells #[.iface 127 (.pointer (some ⟨fb, 0, none⟩))] 193 (0, 0)) := by rw [← hV, ← hsb]; exact block_alloc (heap_alloc_new _ _) _
  have hbn : V.heap[sb + 1]? = some (.cells #[.int .u64 0, .bool false, .int .u64 0, .slice none 0 0, .slice none 0 0] 44 (0, 0)) := by rw [← hV]; exact alloc_new_at _ (by simp [hsb])
  have hbt : V.heap[tb]? = some (.cells #[u0, u1, u2, u3, u4] 44 (0, 0)) := (HV.out.block _ (lt_of_block HT.out)).trans HT.out
  have hbe : V.heap[eb]? = some (.cells #[.nilIface] 59 (0, 0)) := (HV.out.block _ (lt_of_block HE.out)).trans HE.out
  have k0 : V.cell? ⟨sb, 0, none⟩ = some (.iface 127 (.pointer (some ⟨fb, 0, none⟩))) := block_cell hbs 0
  have m0 : V.cell? ⟨sb + 1, 0, none⟩ = some (.int .u64 0) := block_cell hbn 0
  have m1 : V.cell? ⟨sb + 1, 1, none⟩ = some (.bool false) := block_cell hbn 1
  have m2 : V.cell? ⟨sb + 1, 2, none⟩ = some (.int .u64 0) := block_cell hbn 2
  have m3 : V.cell? ⟨sb + 1, 3, none⟩ = some (.slice none 0 0) := block_cell hbn 3
  have m4 : V.cell? ⟨sb + 1, 4, none⟩ = some (.slice none 0 0) := block_cell hbn 4
  have hts : tb < sb := by have := lt_of_block HT.out; omega
  have hnt : some (sb + 1) ≠ some tb := by simp; omega
  have hst : some sb ≠ some tb := by simp; omega
  have HBT := Lib.hid hbt
  have HBE := Lib.hid hbe
  try rw [hV]
  try simp only [hsb]
  clear hV hbs hbn hbt hbe ha
  refine wp_region_tail 4 3 ((some tb)) (phis [fun u _ => u = (.agg #[.int .u64 0, .bool false, .int .u64 0, .slice none 0 0, .slice none 0 0]), fun u _ => u = (.pointer (some ⟨sb, 0, none⟩)), fun u _ => u = (.iface 127 (.pointer (some ⟨fb, 0, none⟩))), fun _ w' => w'.heap[tb]? = some (.cells #[.int .u64 0, .bool false, .int .u64 0, .slice none 0 0, .slice none 0 0] 44 (0, 0))]) rfl (by kernel_rfl) (by kernel_rfl) (mono_of ⟨mono_eq, mono_eq, mono_eq, ?m3, trivial⟩) (steps_of 4 ⟨?s0, ?s1, ?s2, ?s3, trivial⟩) ?_
  case m3 =>
    exact ⟨fun u w1 w2 h hb => ext_block h hb, fun hn => absurd rfl hn⟩
  case s0 =>
    refine step_val (v := (.agg #[.int .u64 0, .bool false, .int .u64 0, .slice none 0 0, .slice none 0 0])) (fun av wv hE hS hO hD => ?_) (fun _ => rfl)
    have h5 : av.eval (.tmp 5) = (.pointer (some ⟨sb + 1, 0, none⟩)) := hO.2.2 5 rfl
    have f5 := (ev_form av 5).symm.trans h5
    have k0 := extB_cell hE hst k0
    have m0 := extB_cell hE hnt m0
    have m1 := extB_cell hE hnt m1
    have m2 := extB_cell hE hnt m2
    have m3 := extB_cell hE hnt m3
    have m4 := extB_cell hE hnt m4
    refine ⟨rfl, ?_⟩
    simp [go_sem, f5, k0, m0, m1, m2, m3, m4]
  case s1 =>
    refine step_val (v := (.pointer (some ⟨sb, 0, none⟩))) (fun av wv hE hS hO hD => ?_) (fun _ => rfl)
    have h3 : av.eval (.tmp 3) = (.pointer (some ⟨sb, 0, none⟩)) := hO.2.2 3 rfl
    have f3 := (ev_form av 3).symm.trans h3
    refine ⟨rfl, ?_⟩
    simp [go_sem, f3]
  case s2 =>
    refine step_val (v := (.iface 127 (.pointer (some ⟨fb, 0, none⟩)))) (fun av wv hE hS hO hD => ?_) (fun _ => rfl)
    have d18 : av.eval (.tmp 18) = (.pointer (some ⟨sb, 0, none⟩)) := hD.1 rfl _ rfl
    have f18 := (ev_form av 18).symm.trans d18
    have k0 := extB_cell hE hst k0
    have m0 := extB_cell hE hnt m0
    have m1 := extB_cell hE hnt m1
    have m2 := extB_cell hE hnt m2
    have m3 := extB_cell hE hnt m3
    have m4 := extB_cell hE hnt m4
    refine ⟨rfl, ?_⟩
    simp [go_sem, f18, k0, m0, m1, m2, m3, m4]
  case s3 =>
    refine step_wp (fun av wv hE hS hO hD => ?_)
    have h0 : av.eval (.tmp 0) = (.pointer (some ⟨tb, 0, none⟩)) := hO.2.2 0 rfl
    have f0 := (ev_form av 0).symm.trans h0
    have d17 : av.eval (.tmp 17) = (.agg #[.int .u64 0, .bool false, .int .u64 0, .slice none 0 0, .slice none 0 0]) := hD.1 rfl _ rfl
    have f17 := (ev_form av 17).symm.trans d17
    refine ⟨rfl, ?_⟩
    have hq : wv.heap[tb]? = some (.cells #[u0, u1, u2, u3, u4] 44 (0, 0)) := ext_block (w := V.drew) (hS rfl) HBT.out
    have q0 : wv.cell? ⟨tb, 0, none⟩ = some u0 := block_cell hq 0
    have q1 : wv.cell? ⟨tb, 1, none⟩ = some u1 := block_cell hq 1
    have q2 : wv.cell? ⟨tb, 2, none⟩ = some u2 := block_cell hq 2
    have q3 : wv.cell? ⟨tb, 3, none⟩ = some u3 := block_cell hq 3
    have q4 : wv.cell? ⟨tb, 4, none⟩ = some u4 := block_cell hq 4
    have hz : ∀ o, wv.frozen? ⟨tb, o, none⟩ = false := block_free hq
    unfold Oper.wp
    have l0 : tb < wv.heap.size := lt_of_block hq
    have h0 : av.eval (.tmp 0) = (.pointer (some ⟨tb, 0, none⟩)) := hO.2.2 0 rfl
    have f0 := (ev_form av 0).symm.trans h0
    simp [go_sem, f0, f17, hz, l0, q0, q1, q2, q3, q4]
    exact ⟨es_sp (extB_setIn (extB_setIn (extB_setIn (extB_setIn (extB_setIn (ExtB_refl _ _) 0 _) 1 _) 2 _) 3 _) 4 _), undef, (block_setCell (block_setCell (block_setCell (block_setCell (block_setCell hq (o := 0) _) (o := 1) _) (o := 2) _) (o := 3) _) (o := 4) _)⟩
  intro a' w' hE hO hall
  have hA := act_of_outer (ds := [17, 18, 19]) rfl hO (by kernel_rfl)
  have e17 : (fun u _ => u = (.agg #[.int .u64 0, .bool false, .int .u64 0, .slice none 0 0, .slice none 0 0])) (a'.eval (.tmp 17)) w' := hall.1 _ rfl
  have e18 : (fun u _ => u = (.pointer (some ⟨sb, 0, none⟩))) (a'.eval (.tmp 18)) w' := hall.2.1 _ rfl
  have e19 : (fun u _ => u = (.iface 127 (.pointer (some ⟨fb, 0, none⟩)))) (a'.eval (.tmp 19)) w' := hall.2.2.1 _ rfl
  have z3 : (fun _ w' => w'.heap[tb]? = some (.cells #[.int .u64 0, .bool false, .int .u64 0, .slice none 0 0, .slice none 0 0] 44 (0, 0))) undef w' := hall.2.2.2.1 _ rfl
  simp only [List.foldl_cons, List.foldl_nil, Act.put, List.setIfInBounds_toArray, List.set_cons_succ, List.set_cons_zero, e17, e18, e19] at hA
  clear hO hall e17 e18 e19
  subst hA
  have HE := Lib.hid (of_drewE hE)
  have HZ := Lib.hid z3
  have hbe : w'.heap[eb]? = some (.cells #[.nilIface] 59 (0, 0)) := extB_block HE.out (by simp; exact fun e => hne e.symm) HBE.out
  have HBE := Lib.hid hbe
  have q0 : w'.cell? ⟨eb, 0, none⟩ = some .nilIface := block_cell hbe 0
  have q1 : w'.frozen? ⟨eb, 0, none⟩ = false := block_free hbe 0
  clear hE z3 hbe
  go_wp2
  rw [← HQ.out]
  have hs1 : (w'.setCell ⟨eb, 0, none⟩ (.iface 127 (.pointer (some ⟨fb, 0, none⟩)))).heap.size = w'.heap.size := by simp
  refine ⟨rfl, _, rfl, .tuple #[], by simp [results, Tryz.results140], rfl, rfl, ?_⟩
  exact ⟨HE.out.os.trans HV.out.os, HE.out.tape.trans HV.out.tape, HE.out.output.trans HV.out.output, by rw [hs1]; exact Nat.le_trans HV.out.size HE.out.size, fun i hi h1 h2 => by
    rw [Below.heap_setCell _ _ _ _ h2]
    exact (HE.out.block i (Nat.lt_of_lt_of_le hi HV.out.size) (by simpa using h1)).trans (HV.out.block i hi), block_setCell_ne HZ.out hne _, block_setCell HBE.out _⟩
def RdSlot (s : ByteArray) (w : World) (e : Ending) (w' : World) : Prop :=
  Below w.heap.size w w' ∧ match objR s (slotGs s 0) slot0 0 with
    | .error f => ∃ fb, e = .returned (.tuple #[zeroSlot, .iface 127 (.pointer (some ⟨fb, 0, none⟩))]) ∧ FltB w' fb f.1 f.2
    | .ok y => Kd slot0 y.1 ∧ y.2 ≤ s.size ∧ ∃ (a3 : Option Addr) (c3 : Nat) (a4 : Option Addr) (c4 : Nat), (∃ rb tb, w.heap.size ≤ rb ∧ LiesSlot rb tb w' y.1 a3 c3 a4 c4) ∧ (if y.2 < s.size then ∃ fb, e = .returned (.tuple #[.agg (cellsSlot y.1 a3 c3 a4 c4), .iface 127 (.pointer (some ⟨fb, 0, none⟩))]) ∧ FltB w' fb 5 y.2 else e = .returned (.tuple #[.agg (cellsSlot y.1 a3 c3 a4 c4), .nilIface]))
set_option maxRecDepth 100000 in
set_option maxHeartbeats 8000000 in
theorem readSlot_any (B : Nat) (s : ByteArray) (w : World) (hT : Tabs B w) (hET : ErrType w) (hB : B ≤ w.heap.size) (hg : 0 < B) (hs : s.size ≤ 9223372036854775807) :
    Calls Tryz.prog 77 #[.string s, .func (.func 61) #[] #[]] w (RdSlot s w) := by
  have HT := Lib.hid hT
  have HET := Lib.hid hET
  have ef := enters_of Tryz.func61 (by kernel_rfl) rfl
  clear hT hET
  go_enter_defers Tryz.func77, Tryz.ntmps77
  go_wp2_with fail
  obtain ⟨tb, htb⟩ : ∃ tb, w.heap.size = tb := ⟨_, rfl⟩
  obtain ⟨W, hW⟩ : ∃ W, (w.alloc (.cells #[.int .u64 0, .bool false, .int .u64 0, .slice none 0 0, .slice none 0 0] 44)).alloc (.cells #[.nilIface] 59) = W := ⟨_, rfl⟩
  have WB : Hid (Below w.heap.size w W) := Lib.hid (by rw [← hW]; exact balloc (balloc (Below.refl _ _) _) _)
  have W0 : Hid (W.heap[tb]? = some (.cells #[.int .u64 0, .bool false, .int .u64 0, .slice none 0 0, .slice none 0 0] 44 (0, 0))) := Lib.hid (by rw [← hW, ← htb]; exact block_alloc (heap_alloc_new _ _) _)
  have W1 : Hid (W.heap[tb + 1]? = some (.cells #[.nilIface] 59 (0, 0))) := Lib.hid (by rw [← hW]; exact alloc_new_at _ (by simp [htb]))
  have hWs : W.heap.size = tb + 1 + 1 := by rw [← hW]; simp [htb]
  have HTW : Hid (w.heap.size = tb) := Lib.hid htb
  try rw [hW]
  try simp only [htb]
  clear hW htb
  refine (New_any W s 10240).mono ?_
  rintro e w1 ⟨rfl, hw1⟩
  have hm : max (10240 : Int) 0 = 10240 := by decide
  rw [hm] at hw1
  obtain ⟨rb, hrb⟩ : ∃ rb, W.heap.size = rb := ⟨_, rfl⟩
  have R1 : Hid (RdB w1 rb s 0 10240) := Lib.hid (by rw [hw1, ← hrb]; exact heap_alloc_new _ _)
  have WB1 : Hid (Below W.heap.size W w1) := Lib.hid (by rw [hw1]; exact balloc (Below.refl _ _) _)
  have hs1 : w1.heap.size = rb + 1 := by rw [hw1, ← hrb]; simp
  try rw [hrb]
  clear hw1
  go_upto_region 3 with fail
  obtain ⟨V, hV⟩ : ∃ V, w1.alloc (.cells #[.pointer (some ⟨rb, 0, none⟩)] 199) = V := ⟨_, rfl⟩
  have VB : Hid (Below w1.heap.size w1 V) := Lib.hid (by rw [← hV]; exact balloc (Below.refl _ _) _)
  have VQ : Hid (V.heap[rb + 1]? = some (.cells #[.pointer (some ⟨rb, 0, none⟩)] 199 (0, 0))) := Lib.hid (by rw [← hV]; exact alloc_new_at _ hs1)
  try rw [hV]
  try simp only [hs1]
  have hrbt : rb = tb + 1 + 1 := hrb.symm.trans hWs
  have hTW := HTW.out
  have BV : Hid (Below w.heap.size w V) := Lib.hid (bnext (bnext WB.out WB1.out) VB.out)
  have WV : Hid (Below W.heap.size W V) := Lib.hid (bnext WB1.out VB.out)
  have VT : Hid (V.heap[tb]? = some (.cells #[.int .u64 0, .bool false, .int .u64 0, .slice none 0 0, .slice none 0 0] 44 (0, 0))) := Lib.hid ((WV.out.block _ (lt_of_block W0.out)).trans W0.out)
  have VE : Hid (V.heap[tb + 1]? = some (.cells #[.nilIface] 59 (0, 0))) := Lib.hid ((WV.out.block _ (lt_of_block W1.out)).trans W1.out)
  have VR : Hid (RdB V rb s 0 10240) := Lib.hid (R1.out.below VB.out)
  have ENV : Hid (RdEnv B V (rb + 1) rb s 0) := Lib.hid ⟨VQ.out, VR.out, HT.out.below BV.out, by omega, by omega, by omega, Nat.zero_le _, hs⟩
  have E : TEnv B (rb + 1) rb tb 5 44 V := ⟨⟨_, VR.out⟩, ⟨_, VT.out⟩, by omega, by omega, by omega, by decide, by decide⟩
  have REC : Hid (RecAt rb tb 44 5 V slot0) := Lib.hid (rec_zero VT.out rfl (fun i hi => by
    match i, hi with
    | 0, _ => exact ⟨_, rfl, rfl⟩
    | 1, _ => exact ⟨_, rfl, rfl⟩
    | 2, _ => exact ⟨_, rfl, rfl⟩
    | 3, _ => exact ⟨_, rfl, rfl, rfl⟩
    | 4, _ => exact ⟨_, rfl, rfl, rfl⟩))
  have HOF := Lib.hid (rofSlot_any (x0 := slot0) (s := s) E 0 (by omega) ⟨rfl, rfl, ⟨rfl, rfl, rfl⟩⟩)
  have HE := Lib.hid E
  have G : Hid (GOk slot0 (slotGs s 0)) := Lib.hid (SlotOk s 0 ⟨rfl, rfl, ⟨rfl, rfl, rfl⟩⟩)
  have HRBT := Lib.hid hrbt
  clear hV E hrb hs1 hWs hrbt hTW
  go_wp2_with fail
  refine HOF.out.mono ?_
  rintro e w2 ⟨u, rfl, ⟨g, c, l, rfl, hc, hF, hS⟩, hb⟩
  have hl : (slotGs s 0).length = l.length := hS.1
  have hg := (HE.out.below hb).apart hF.ex
  have H2 := Lib.hid (robject_any B (rb + 1) rb tb g 0 c slot0 44 5 s w2 w2 l (slotGs s 0) 0 slot0 hF.flds hc (show l.length ≤ 1000 by rw [← hl]; exact Nat.le_of_ble_eq_true rfl) hS (Chg.refl _ _ _) hg HE.out.nq HE.out.le HE.out.ne G.out.keys G.out.disj G.out.frames G.out.kinds (fun i => rfl) (REC.out.below hb) (ENV.out.below hb) (fun i hi o ho => rfl))
  have HB := Lib.hid hb
  clear hF hS hb hl hc hg HOF ef
  go_wp2_with fail
  refine H2.out.mono ?_
  intro e w3 hh
  cases hr : objR s (slotGs s 0) slot0 0 with
  | error f =>
    rw [hr] at hh
    have HTH := Lib.hid (getIs_th hh)
    obtain ⟨fb, rfl, hf, hc3⟩ := getIs_err hh
    have HF := Lib.hid hf
    have HC := Lib.hid hc3
    have HR := Lib.hid hr
    clear hh hf hc3 hr H2
    go_wp2
    obtain ⟨cs, hcs, hcn⟩ := HTH.out
    have hce : w3.heap[tb + 1]? = some (.cells #[.nilIface] 59 (0, 0)) := (HC.out.block _ (Nat.lt_of_lt_of_le (lt_of_block VE.out) HB.out.size) (by have := HRBT.out; omega) (by omega)).trans ((HB.out.block _ (lt_of_block VE.out)).trans VE.out)
    refine leaves_cons (f := 140) (args := #[.pointer (some ⟨tb, 0, none⟩), .pointer (some ⟨tb + 1, 0, none⟩)]) (by simp) (by simp [go_sem]) ?_
    refine (read1Slot_some tb (tb + 1) fb cs w3 hcs (arr5 hcn) hce (by omega)).mono ?_
    rintro e u' w4 ⟨rfl, rfl, HA⟩
    have y0 : ∀ o, w4.cell? ⟨tb, o, none⟩ = _ := block_cell HA.th
    have y1 : w4.cell? ⟨tb + 1, 0, none⟩ = some (.iface 127 (.pointer (some ⟨fb, 0, none⟩))) := block_cell HA.er 0
    refine ⟨_, by simp [results, Tryz.results77, go_sem, y0, y1]; rfl, ?_⟩
    refine ⟨?_, by
      rw [HR.out]
      refine ⟨fb, rfl, (HA.block fb (lt_of_block HF.out) (fun e => ?_) (fun e => ?_)).trans HF.out⟩
      · subst e; have h9 := hcs.symm.trans HF.out; cases h9
      · subst e; have h9 := hce.symm.trans HF.out; cases h9⟩
    have hsz := HTW.out
    have hb9 := HRBT.out
    refine ⟨HA.os.trans (HC.out.os.trans (HB.out.os.trans BV.out.os)), HA.tape.trans (HC.out.tape.trans (HB.out.tape.trans BV.out.tape)), HA.output.trans (HC.out.output.trans (HB.out.output.trans BV.out.output)), Nat.le_trans BV.out.size (Nat.le_trans HB.out.size (Nat.le_trans HC.out.size HA.size)), fun i hi => ?_⟩
    have l1 := Nat.lt_of_lt_of_le hi BV.out.size
    have l2 := Nat.lt_of_lt_of_le l1 HB.out.size
    exact (HA.block i (Nat.lt_of_lt_of_le l2 HC.out.size) (by omega) (by omega)).trans ((HC.out.block i l2 (by omega) (by omega)).trans ((HB.out.block i l1).trans (BV.out.block i hi)))
  | ok q =>
    rw [hr] at hh
    obtain ⟨rfl, hrd, hle, hx3, hc3⟩ := getIs_ok hh
    have HRD := Lib.hid hrd
    have HC := Lib.hid hc3
    have HR := Lib.hid hr
    have HKD : Hid (Kd slot0 q.1) := Lib.hid (objR_kinds G.out.kinds hr (fun i => rfl))
    obtain ⟨a3, c3, a4, c4, hth, hlies⟩ := slot_of_rec hx3 HKD.out
    have HTH := Lib.hid hth
    have HLI := Lib.hid hlies
    clear hh hrd hx3 hc3 hr H2 hth hlies
    obtain ⟨x, a⟩ := q
    have hts : tb < w3.heap.size := lt_of_block HTH.out
    have HQ3 : Hid (w3.heap[rb + 1]? = some (.cells #[.pointer (some ⟨rb, 0, none⟩)] 199 (0, 0))) := Lib.hid ((HC.out.block _ (Nat.lt_of_lt_of_le (lt_of_block VQ.out) HB.out.size) (by omega) (by have := HRBT.out; omega)).trans ((HB.out.block _ (lt_of_block VQ.out)).trans VQ.out))
    have HE3 : Hid (w3.heap[tb + 1]? = some (.cells #[.nilIface] 59 (0, 0))) := Lib.hid ((HC.out.block _ (Nat.lt_of_lt_of_le (lt_of_block VE.out) HB.out.size) (by have := HRBT.out; omega) (by omega)).trans ((HB.out.block _ (lt_of_block VE.out)).trans VE.out))
    have HET3 : Hid (ErrType w3) := Lib.hid (by
      have h1 := HET.out.below BV.out
      have h2 := h1.below HB.out
      unfold ErrType at h2 ⊢
      rw [World.cell?_of_block (w := w2) (HC.out.block _ (lt_of_cell h2) (show 0 ≠ rb by have := HRBT.out; have := HTW.out; omega) (show 0 ≠ tb by have := HTW.out; omega))]
      exact h2)
    go_upto_region 4 with fail
    obtain ⟨VO, hVO⟩ : ∃ VO : Nat → Option Nat, VO = fun j => if j = 6 then some tb else none := ⟨_, rfl⟩
    have vo6 : VO 6 = some tb := by rw [hVO]; rfl
    have von : ∀ j, j ≠ 6 → VO j = none := fun j h1 => by rw [hVO]; simp [h1]
    have vob : ∀ j b, b ≠ tb → VO j ≠ some b := fun j b hb => by
      by_cases h : j = 6
      · subst h; rw [vo6]; simp; exact fun e => hb e.symm
      · rw [von j h]; simp
    clear hVO
    refine wp_region_tailV 7 VO (fun i j b h1 h2 => by
        by_cases e1 : i = 6
        · by_cases e2 : j = 6
          · rw [e1, e2]
          · rw [von j e2] at h2; cases h2
        · rw [von i e1] at h1; cases h1) (fun _ _ _ => True) (fun _ => True) (fun _ _ _ _ _ => True) (fun _ _ => trivial) trivial
      (phis [fun u _ => u = .agg (cellsSlot x a3 c3 a4 c4), fun u _ => u = .pointer (some ⟨rb + 1, 0, none⟩), fun u _ => u = .pointer (some ⟨rb + 1, 0, none⟩), fun u _ => u = .pointer (some ⟨rb + 1, 0, none⟩), fun u _ => u = .pointer (some ⟨rb, 0, none⟩), fun u w' => if a < s.size then ∃ fb, u = .iface 127 (.pointer (some ⟨fb, 0, none⟩)) ∧ FltB w' fb 5 a ∧ fb ≠ tb else u = .nilIface, fun _ w' => w'.heap[tb]? = some (.cells (cellsSlot x a3 c3 a4 c4) 44 (0, 0))]) rfl (by kernel_rfl) (by kernel_rfl)
      (monoV_of ⟨monoV_eq, monoV_eq, monoV_eq, monoV_eq, monoV_eq, ?m5, ?m6, trivial⟩) (fun _ _ _ _ _ => trivial) (fun _ _ _ _ _ _ _ _ _ _ _ => trivial) (stepsV_of 7 ⟨?s0, ?s1, ?s2, ?s3, ?s4, ?s5, ?s6, trivial⟩) ?_
    case m5 =>
      intro j hj u w1 w2 he hp
      by_cases hlt : a < s.size
      · simp only [hlt, if_true] at hp ⊢
        obtain ⟨fb, h1, h2, h3⟩ := hp
        refine ⟨fb, h1, (he.1.block fb (lt_of_block h2) ?_).trans h2, h3⟩
        exact fun e => vob j fb h3 e.symm
      · simp only [hlt, if_false] at hp ⊢; exact hp
    case m6 =>
      intro j hj u w1 w2 he hp
      refine (he.1.block tb (lt_of_block hp) ?_).trans hp
      rw [von j hj]; simp
    case s0 =>
      refine stepV_val (v := .agg (cellsSlot x a3 c3 a4 c4)) (fun _ _ => trivial) (fun _ _ _ _ => ⟨trivial, trivial⟩) (fun D av wv hE hO hD => ?_) (fun _ => rfl)
      have h6 : ¬ D 6 := hE.notyet 6 _ rfl { on := 0, ground := .data } (by simp) rfl hE.me
      have hb0 : wv.heap[tb]? = some (.cells (cellsSlot x a3 c3 a4 c4) 44 (0, 0)) := (hE.late 6 h6 tb vo6 hts).trans HTH.out
      have k0 : wv.cell? ⟨tb, 0, none⟩ = some (.int .u64 (x 0).n) := block_cell hb0 0
      have k1 : wv.cell? ⟨tb, 1, none⟩ = some (.bool (x 1).q) := block_cell hb0 1
      have k2 : wv.cell? ⟨tb, 2, none⟩ = some (.int .u64 (x 2).n) := block_cell hb0 2
      have k3 : wv.cell? ⟨tb, 3, none⟩ = some (.slice a3 (len (x 3).l) c3) := block_cell hb0 3
      have k4 : wv.cell? ⟨tb, 4, none⟩ = some (.slice a4 (len (x 4).l) c4) := block_cell hb0 4
      have h4 : av.eval (.tmp 4) = .pointer (some ⟨tb, 0, none⟩) := hO.2.2 4 rfl
      have f4 := (ev_form av 4).symm.trans h4
      refine ⟨rfl, ?_⟩
      simp [go_sem, f4, k0, k1, k2, k3, k4]
    case s1 =>
      refine stepV_val (v := .pointer (some ⟨rb + 1, 0, none⟩)) (fun _ _ => trivial) (fun _ _ _ _ => ⟨trivial, trivial⟩) (fun D av wv hE hO hD => ?_) (fun _ => rfl)
      have h6 : av.eval (.tmp 6) = .pointer (some ⟨rb + 1, 0, none⟩) := hO.2.2 6 rfl
      have f6 := (ev_form av 6).symm.trans h6
      refine ⟨rfl, ?_⟩
      simp [go_sem, f6]
    case s2 =>
      refine stepV_val (v := .pointer (some ⟨rb + 1, 0, none⟩)) (fun _ _ => trivial) (fun _ _ _ _ => ⟨trivial, trivial⟩) (fun D av wv hE hO hD => ?_) (fun _ => rfl)
      have d17 : av.eval (.tmp 17) = .pointer (some ⟨rb + 1, 0, none⟩) := hD.1 rfl _ rfl
      have f17 := (ev_form av 17).symm.trans d17
      refine ⟨rfl, ?_⟩
      simp [go_sem, f17]
    case s3 =>
      refine stepV_val (v := .pointer (some ⟨rb + 1, 0, none⟩)) (fun _ _ => trivial) (fun _ _ _ _ => ⟨trivial, trivial⟩) (fun D av wv hE hO hD => ?_) (fun _ => rfl)
      have d18 : av.eval (.tmp 18) = .pointer (some ⟨rb + 1, 0, none⟩) := hD.1 rfl _ rfl
      have f18 := (ev_form av 18).symm.trans d18
      refine ⟨rfl, ?_⟩
      simp [go_sem, f18]
    case s4 =>
      refine stepV_val (v := .pointer (some ⟨rb, 0, none⟩)) (fun _ _ => trivial) (fun _ _ _ _ => ⟨trivial, trivial⟩) (fun D av wv hE hO hD => ?_) (fun _ => rfl)
      have d19 : av.eval (.tmp 19) = .pointer (some ⟨rb + 1, 0, none⟩) := hD.1 rfl _ rfl
      have f19 := (ev_form av 19).symm.trans d19
      have k0 : wv.cell? ⟨rb + 1, 0, none⟩ = some (.pointer (some ⟨rb, 0, none⟩)) := block_cell ((hE.ext.block (rb + 1) (lt_of_block HQ3.out) (fun j => vob j _ (by have := HRBT.out; omega))).trans HQ3.out) 0
      refine ⟨rfl, ?_⟩
      simp [go_sem, f19, k0]
    case s5 =>
      refine stepV_wp (fun D av wv hPP hE hO hD => ?_)
      have d20 : av.eval (.tmp 20) = .pointer (some ⟨rb, 0, none⟩) := hD.1 rfl _ rfl
      have f20 := (ev_form av 20).symm.trans d20
      have hrd : RdB wv rb s a 10240 := (hE.ext.block rb (lt_of_block HRD.out) (fun j => vob j _ (by have := HRBT.out; omega))).trans HRD.out
      have het : ErrType wv := by
        have h2 : ErrType w3.drew := HET3.out
        unfold ErrType at h2 ⊢
        rw [World.cell?_of_block (w := w3.drew) (hE.ext.block _ (lt_of_cell h2) (fun j => vob j _ (show 0 ≠ tb by have := HTW.out; omega)))]
        exact h2
      have hvs : w3.heap.size ≤ wv.heap.size := hE.ext.size
      refine ⟨rfl, wp_of_callR (f := 124) (args := #[.pointer (some ⟨rb, 0, none⟩)]) (R := fun u w2 => Below wv.heap.size wv w2 ∧ (if a < s.size then ∃ fb, u = .iface 127 (.pointer (some ⟨fb, 0, none⟩)) ∧ FltB w2 fb 5 a ∧ fb ≠ tb else u = .nilIface)) (by simp [go_sem, f20]) ((End_any wv rb s a 10240 het hrd hle hs).mono fun e w2 hh => ?_) (fun u w2 ⟨h1, h2⟩ => ⟨u, rfl, esV_of_ext h1 trivial, h2, fun _ _ _ _ _ => ⟨trivial, trivial⟩⟩)⟩
      obtain ⟨h1, h2⟩ := hh
      unfold leftOf at h2
      by_cases hlt : a < s.size
      · simp only [hlt, if_true] at h2 ⊢
        obtain ⟨fb, h3, h4, h5⟩ := h2
        exact ⟨_, h3, h1, fb, rfl, h5, by omega⟩
      · simp only [hlt, if_false] at h2 ⊢
        exact ⟨_, h2, h1, rfl⟩
    case s6 =>
      refine stepV_wp (fun D av wv hPP hE hO hD => ?_)
      have d16 : av.eval (.tmp 16) = .agg (cellsSlot x a3 c3 a4 c4) := hD.1 rfl _ rfl
      have f16 := (ev_form av 16).symm.trans d16
      have h4 : av.eval (.tmp 4) = .pointer (some ⟨tb, 0, none⟩) := hO.2.2 4 rfl
      have f4 := (ev_form av 4).symm.trans h4
      have hq : wv.heap[tb]? = some (.cells (cellsSlot x a3 c3 a4 c4) 44 (0, 0)) := (hE.own tb vo6 hts).trans HTH.out
      have k0 : wv.cell? ⟨tb, 0, none⟩ = some (.int .u64 (x 0).n) := block_cell hq 0
      have k1 : wv.cell? ⟨tb, 1, none⟩ = some (.bool (x 1).q) := block_cell hq 1
      have k2 : wv.cell? ⟨tb, 2, none⟩ = some (.int .u64 (x 2).n) := block_cell hq 2
      have k3 : wv.cell? ⟨tb, 3, none⟩ = some (.slice a3 (len (x 3).l) c3) := block_cell hq 3
      have k4 : wv.cell? ⟨tb, 4, none⟩ = some (.slice a4 (len (x 4).l) c4) := block_cell hq 4
      have hz : ∀ o, wv.frozen? ⟨tb, o, none⟩ = false := block_free hq
      have l0 : tb < wv.heap.size := lt_of_block hq
      refine ⟨rfl, ?_⟩
      unfold Oper.wp
      simp [go_sem, f4, f16, hz, l0, k0, k1, k2, k3, k4]
      exact ⟨⟨by rw [vo6]; exact (extB_setIn (extB_setIn (extB_setIn (extB_setIn (extB_setIn (ExtB_refl _ _) 0 _) 1 _) 2 _) 3 _) 4 _), trivial⟩, undef, (block_setCell (block_setCell (block_setCell (block_setCell (block_setCell hq (o := 0) _) (o := 1) _) (o := 2) _) (o := 3) _) (o := 4) _), fun _ _ _ _ _ => ⟨trivial, trivial⟩⟩
    intro a' w' hE _ hO hall _
    have hA := act_of_outer (ds := [16, 17, 18, 19, 20, 21]) rfl hO (by kernel_rfl)
    have e16 : (fun u (_ : World) => u = .agg (cellsSlot x a3 c3 a4 c4)) (a'.eval (.tmp 16)) w' := hall.1 _ rfl
    have e17 : (fun u (_ : World) => u = .pointer (some ⟨rb + 1, 0, none⟩)) (a'.eval (.tmp 17)) w' := hall.2.1 _ rfl
    have e18 : (fun u (_ : World) => u = .pointer (some ⟨rb + 1, 0, none⟩)) (a'.eval (.tmp 18)) w' := hall.2.2.1 _ rfl
    have e19 : (fun u (_ : World) => u = .pointer (some ⟨rb + 1, 0, none⟩)) (a'.eval (.tmp 19)) w' := hall.2.2.2.1 _ rfl
    have e20 : (fun u (_ : World) => u = .pointer (some ⟨rb, 0, none⟩)) (a'.eval (.tmp 20)) w' := hall.2.2.2.2.1 _ rfl
    have e21 : (fun u w' => if a < s.size then ∃ fb, u = .iface 127 (.pointer (some ⟨fb, 0, none⟩)) ∧ FltB w' fb 5 a ∧ fb ≠ tb else u = .nilIface) (a'.eval (.tmp 21)) w' := hall.2.2.2.2.2.1 _ rfl
    have z6 : w'.heap[tb]? = some (.cells (cellsSlot x a3 c3 a4 c4) 44 (0, 0)) := hall.2.2.2.2.2.2.1 _ rfl
    obtain ⟨v21, hv21⟩ : ∃ v, a'.eval (.tmp 21) = v := ⟨_, rfl⟩
    rw [hv21] at e21
    simp only [List.foldl_cons, List.foldl_nil, Act.put, List.setIfInBounds_toArray, List.set_cons_succ, List.set_cons_zero, e16, e17, e18, e19, e20, hv21] at hA
    clear hO hall e16 e17 e18 e19 e20 hv21
    subst hA
    have HX4 : Hid (ExtS VO w3 w') := Lib.hid ⟨hE.os, hE.tape, hE.output, hE.size, hE.block⟩
    have HZ6 := Lib.hid z6
    have hbe : w'.heap[tb + 1]? = some (.cells #[.nilIface] 59 (0, 0)) := (HX4.out.block _ (lt_of_block HE3.out) (fun j => vob j _ (by omega))).trans HE3.out
    have HBE := Lib.hid hbe
    have g0 : w'.cell? ⟨tb + 1, 0, none⟩ = some .nilIface := block_cell hbe 0
    have g1 : w'.frozen? ⟨tb + 1, 0, none⟩ = false := block_free hbe 0
    have HVO : Hid (∀ j b, b ≠ tb → VO j ≠ some b) := Lib.hid vob
    have HFIN : ∀ v, Hid (Below w.heap.size w (w'.setCell ⟨tb + 1, 0, none⟩ v)) := fun v => Lib.hid (by
      have hsz := HTW.out
      have hb9 := HRBT.out
      refine ⟨HX4.out.os.trans (HC.out.os.trans (HB.out.os.trans BV.out.os)), HX4.out.tape.trans (HC.out.tape.trans (HB.out.tape.trans BV.out.tape)), HX4.out.output.trans (HC.out.output.trans (HB.out.output.trans BV.out.output)), by simpa using Nat.le_trans BV.out.size (Nat.le_trans HB.out.size (Nat.le_trans HC.out.size HX4.out.size)), fun i hi => ?_⟩
      have l1 := Nat.lt_of_lt_of_le hi BV.out.size
      have l2 := Nat.lt_of_lt_of_le l1 HB.out.size
      rw [Below.heap_setCell _ _ _ _ (show i ≠ tb + 1 by omega)]
      exact (HX4.out.block i (Nat.lt_of_lt_of_le l2 HC.out.size) (fun j => HVO.out j i (by omega))).trans ((HC.out.block i l2 (by omega) (by omega)).trans ((HB.out.block i l1).trans (BV.out.block i hi))))
    have HLF : ∀ v, Hid (LiesSlot rb tb (w'.setCell ⟨tb + 1, 0, none⟩ v) x a3 c3 a4 c4) := fun v => Lib.hid (HLI.out.up (fun b h1 h2 => by
      have hb9 := HRBT.out
      rw [Below.heap_setCell _ _ _ _ (show b ≠ tb + 1 by omega)]
      exact HX4.out.block b h2 (fun j => HVO.out j b (by omega))))
    have HTF : ∀ v o, (w'.setCell ⟨tb + 1, 0, none⟩ v).cell? ⟨tb, o, none⟩ = (cellsSlot x a3 c3 a4 c4)[o]? := fun v o => block_cell (block_setCell_ne HZ6.out (by show tb ≠ tb + 1; omega) v) o
    have HEF : ∀ v, (w'.setCell ⟨tb + 1, 0, none⟩ v).cell? ⟨tb + 1, 0, none⟩ = some v := fun v => block_cell (block_setCell HBE.out v) 0
    have HTFH := Lib.hid HTF
    have HEFH := Lib.hid HEF
    clear hE z6 hbe vo6 von vob HTF HEF
    by_cases hlt : a < s.size
    · simp only [hlt, if_true] at e21
      obtain ⟨fb, rfl, hf, hft⟩ := e21
      have HF := Lib.hid hf
      have HLT := Lib.hid hlt
      clear hf hlt
      go_wp2
      refine leaves_cons (f := 140) (args := #[.pointer (some ⟨tb, 0, none⟩), .pointer (some ⟨tb + 1, 0, none⟩)]) (by simp) (by simp [go_sem]) ?_
      refine (read1Slot_idle _ _ _).mono ?_
      rintro e u' w'' ⟨rfl, rfl, rfl⟩
      have y0 := HTFH.out (.iface 127 (.pointer (some ⟨fb, 0, none⟩)))
      have y1 := HEFH.out (.iface 127 (.pointer (some ⟨fb, 0, none⟩)))
      refine ⟨_, by simp [results, Tryz.results77, go_sem, y0, y1]; rfl, ?_⟩
      refine ⟨(HFIN _).out, ?_⟩
      rw [HR.out]
      refine ⟨HKD.out, hle, a3, c3, a4, c4, ⟨rb, tb, by have := HRBT.out; have := HTW.out; omega, (HLF _).out⟩, ?_⟩
      rw [if_pos HLT.out]
      exact ⟨fb, rfl, block_setCell_ne HF.out (by intro e; subst e; have h9 := HBE.out.symm.trans HF.out; cases h9) _⟩
    · simp only [hlt, if_false] at e21
      subst e21
      have HLT := Lib.hid hlt
      clear hlt
      go_wp2
      refine leaves_cons (f := 140) (args := #[.pointer (some ⟨tb, 0, none⟩), .pointer (some ⟨tb + 1, 0, none⟩)]) (by simp) (by simp [go_sem]) ?_
      refine (read1Slot_idle _ _ _).mono ?_
      rintro e u' w'' ⟨rfl, rfl, rfl⟩
      have y0 := HTFH.out .nilIface
      have y1 := HEFH.out .nilIface
      refine ⟨_, by simp [results, Tryz.results77, go_sem, y0, y1]; rfl, ?_⟩
      refine ⟨(HFIN _).out, ?_⟩
      rw [HR.out]
      refine ⟨HKD.out, hle, a3, c3, a4, c4, ⟨rb, tb, by have := HRBT.out; have := HTW.out; omega, (HLF _).out⟩, ?_⟩
      rw [if_neg HLT.out]
def LiesCert (rb tb : Nat) (w : World) (x : Rcd) (a2 : Option Addr) (c2 : Nat) (a3 : Option Addr) (c3 : Nat) (a4 : Option Addr) (c4 : Nat) (a5 : Option Addr) (c5 : Nat) : Prop := HoldsD rb tb w (.slice a2 (len (x 2).rs) c2) (x 2) ∧ HoldsD rb tb w (.slice a3 (len (x 3).ns) c3) (x 3) ∧ HoldsD rb tb w (.slice a4 (len (x 4).l) c4) (x 4) ∧ HoldsD rb tb w (.slice a5 (len (x 5).l) c5) (x 5)
theorem LiesCert.below {rb tb : Nat} {w w' : World} {x : Rcd} {a2 : Option Addr} {c2 : Nat} {a3 : Option Addr} {c3 : Nat} {a4 : Option Addr} {c4 : Nat} {a5 : Option Addr} {c5 : Nat} (h : LiesCert rb tb w x a2 c2 a3 c3 a4 c4 a5 c5) (hb : Below w.heap.size w w') : LiesCert rb tb w' x a2 c2 a3 c3 a4 c4 a5 c5 := ⟨h.1.chg (Chg.of_below hb), h.2.1.chg (Chg.of_below hb), h.2.2.1.chg (Chg.of_below hb), h.2.2.2.chg (Chg.of_below hb)⟩
theorem LiesCert.chg {rb tb : Nat} {w w' : World} {x : Rcd} {a2 : Option Addr} {c2 : Nat} {a3 : Option Addr} {c3 : Nat} {a4 : Option Addr} {c4 : Nat} {a5 : Option Addr} {c5 : Nat} (h : LiesCert rb tb w x a2 c2 a3 c3 a4 c4 a5 c5) (hb : Chg rb tb w w') : LiesCert rb tb w' x a2 c2 a3 c3 a4 c4 a5 c5 := ⟨h.1.chg hb, h.2.1.chg hb, h.2.2.1.chg hb, h.2.2.2.chg hb⟩
theorem LiesCert.up {rb tb : Nat} {w w' : World} {x : Rcd} {a2 : Option Addr} {c2 : Nat} {a3 : Option Addr} {c3 : Nat} {a4 : Option Addr} {c4 : Nat} {a5 : Option Addr} {c5 : Nat} (h : LiesCert rb tb w x a2 c2 a3 c3 a4 c4 a5 c5) (hb : Up rb w w') : LiesCert rb tb w' x a2 c2 a3 c3 a4 c4 a5 c5 := ⟨h.1.up hb, h.2.1.up hb, h.2.2.1.up hb, h.2.2.2.up hb⟩
abbrev cellsMsg (x : Rcd) : Array Value := #[.string (x 0).s, .string (x 1).s, .int .u64 (x 2).n, .int .u64 (x 3).n, .int .u64 (x 4).n, .int .u64 (x 5).n]
abbrev zeroMsg : Value := .agg #[.string ⟨#[]⟩, .string ⟨#[]⟩, .int .u64 0, .int .u64 0, .int .u64 0, .int .u64 0]
def LiesMsg (rb tb : Nat) (w : World) (x : Rcd) : Prop := True
theorem LiesMsg.below {rb tb : Nat} {w w' : World} {x : Rcd} (h : LiesMsg rb tb w x) (hb : Below w.heap.size w w') : LiesMsg rb tb w' x := trivial
theorem LiesMsg.chg {rb tb : Nat} {w w' : World} {x : Rcd} (h : LiesMsg rb tb w x) (hb : Chg rb tb w w') : LiesMsg rb tb w' x := trivial
theorem LiesMsg.up {rb tb : Nat} {w w' : World} {x : Rcd} (h : LiesMsg rb tb w x) (hb : Up rb w w') : LiesMsg rb tb w' x := trivial
theorem msg_of_rec {rb tb : Nat} {w : World} {x : Rcd} (h : RecAt rb tb 76 6 w x) (hk : Kd msg0 x) : ∃ (_ : Unit), w.heap[tb]? = some (.cells (cellsMsg x) 76 (0, 0)) ∧ LiesMsg rb tb w x := by
  obtain ⟨cs, h1, h2, h3⟩ := h
  obtain ⟨m0, e0⟩ := hk.str (show kindD (msg0 0) = _ from rfl)
  obtain ⟨u0, g0, d0⟩ := h3 0 (by decide)
  rw [e0] at d0
  simp only [HoldsD] at d0
  subst d0
  obtain ⟨m1, e1⟩ := hk.str (show kindD (msg0 1) = _ from rfl)
  obtain ⟨u1, g1, d1⟩ := h3 1 (by decide)
  rw [e1] at d1
  simp only [HoldsD] at d1
  subst d1
  obtain ⟨m2, e2⟩ := hk.num (show kindD (msg0 2) = _ from rfl)
  obtain ⟨u2, g2, d2⟩ := h3 2 (by decide)
  rw [e2] at d2
  simp only [HoldsD] at d2
  subst d2
  obtain ⟨m3, e3⟩ := hk.num (show kindD (msg0 3) = _ from rfl)
  obtain ⟨u3, g3, d3⟩ := h3 3 (by decide)
  rw [e3] at d3
  simp only [HoldsD] at d3
  subst d3
  obtain ⟨m4, e4⟩ := hk.num (show kindD (msg0 4) = _ from rfl)
  obtain ⟨u4, g4, d4⟩ := h3 4 (by decide)
  rw [e4] at d4
  simp only [HoldsD] at d4
  subst d4
  obtain ⟨m5, e5⟩ := hk.num (show kindD (msg0 5) = _ from rfl)
  obtain ⟨u5, g5, d5⟩ := h3 5 (by decide)
  rw [e5] at d5
  simp only [HoldsD] at d5
  subst d5
  refine ⟨(), ?_, ?_⟩
  · rw [h1]; congr 2; apply Array.ext_getElem?; intro i
    match i with
    | 0 => rw [g0]; simp [e0, DV.n, DV.q, DV.s, DV.l, DV.ns, DV.rs]
    | 1 => rw [g1]; simp [e1, DV.n, DV.q, DV.s, DV.l, DV.ns, DV.rs]
    | 2 => rw [g2]; simp [e2, DV.n, DV.q, DV.s, DV.l, DV.ns, DV.rs]
    | 3 => rw [g3]; simp [e3, DV.n, DV.q, DV.s, DV.l, DV.ns, DV.rs]
    | 4 => rw [g4]; simp [e4, DV.n, DV.q, DV.s, DV.l, DV.ns, DV.rs]
    | 5 => rw [g5]; simp [e5, DV.n, DV.q, DV.s, DV.l, DV.ns, DV.rs]
    | i + 6 => rw [Array.getElem?_eq_none (by omega), Array.getElem?_eq_none (by simp)]
  · trivial
set_option maxRecDepth 100000 in
theorem read1Msg_idle (p q : Value) (w : World) : CallsD Tryz.prog 143 #[p, q] .returning w fun e u' w' => e = .returned (.tuple #[]) ∧ u' = .returning ∧ w' = w := by
  refine callsD_of_wpS Tryz.func143 rfl fun c₀ cs hu => ?_
  apply wpS_seq
  apply wpS_region
  simp [wpOpsS, go_sem, recoverD, hu, Tryz.ntmps143, Exit.thenS]
  refine wpS_of_wp ?_
  obtain ⟨Q, hQ⟩ : ∃ Q : Exit → Act → World → Prop, (fun e a' w' => bodyPostS Tryz.prog Tryz.f143 c₀ cs (fun e u' w' => e = Ending.returned (.tuple #[]) ∧ u' = .returning ∧ w' = w) e a' (c₀ :: cs) w') = Q := ⟨_, rfl⟩
  rw [hQ, read1_frame]
  have HQ := Lib.hid hQ
  clear hQ
  go_wp2
  rw [← HQ.out]
  simp [bodyPostS, results, Tryz.results143]
  cases c₀; simp_all
structure AfterMsg (tb eb fb : Nat) (w w' : World) : Prop where
  os : w'.os = w.os
  tape : w'.tape = w.tape
  output : w'.output = w.output
  size : w.heap.size ≤ w'.heap.size
  block : ∀ i, i < w.heap.size → i ≠ tb → i ≠ eb → w'.heap[i]? = w.heap[i]?
  th : w'.heap[tb]? = some (.cells #[.string ⟨#[]⟩, .string ⟨#[]⟩, .int .u64 0, .int .u64 0, .int .u64 0, .int .u64 0] 76 (0, 0))
  er : w'.heap[eb]? = some (.cells #[.iface 127 (.pointer (some ⟨fb, 0, none⟩))] 59 (0, 0))
set_option maxRecDepth 100000 in
set_option maxHeartbeats 4000000 in
theorem read1Msg_some (tb eb fb : Nat) (cs : Array Value) (w : World) (ht : w.heap[tb]? = some (.cells cs 76 (0, 0))) (hcs : ∃ u0 u1 u2 u3 u4 u5 : Value, cs = #[u0, u1, u2, u3, u4, u5] ) (he : w.heap[eb]? = some (.cells #[.nilIface] 59 (0, 0))) (hne : tb ≠ eb) :
    CallsD Tryz.prog 143 #[.pointer (some ⟨tb, 0, none⟩), .pointer (some ⟨eb, 0, none⟩)] (.panicking (stopC fb)) w fun e u' w' =>
      e = .returned (.tuple #[]) ∧ u' = .panicking [{ v := .iface 193 (.agg #[.iface 127 (.pointer (some ⟨fb, 0, none⟩))]), recovered := true }] ∧ AfterMsg tb eb fb w w' := by
  obtain ⟨u0, u1, u2, u3, u4, u5, rfl⟩ := hcs
  refine callsD_of_wpS Tryz.func143 rfl fun c₀ cs hu => ?_
  apply wpS_seq
  apply wpS_region
  simp [wpOpsS, go_sem, recoverD, hu, stopC, Tryz.ntmps143, Exit.thenS]
  refine wpS_of_wp ?_
  obtain ⟨Q, hQ⟩ : ∃ Q : Exit → Act → World → Prop, (fun e a' w' => bodyPostS Tryz.prog Tryz.f143 c₀ cs (fun e u' w' => e = Ending.returned (.tuple #[]) ∧ u' = .panicking [{ v := .iface 193 (.agg #[.iface 127 (.pointer (some ⟨fb, 0, none⟩))]), recovered := true }] ∧ AfterMsg tb eb fb w w') e a' ({ c₀ with mode := .panicking [{ v := .iface 193 (.agg #[.iface 127 (.pointer (some ⟨fb, 0, none⟩))]), recovered := true }] } :: cs) w') = Q := ⟨_, rfl⟩
  rw [hQ, read1_frame]
  have HQ := Lib.hid hQ
  have HT := Lib.hid ht
  have HE := Lib.hid he
  clear hQ hu ht he
  have ha := assert_stop fb
  go_wp2_with fail
  obtain ⟨V, hV⟩ : ∃ V, (w.alloc (.cells #[.iface 127 (.pointer (some ⟨fb, 0, none⟩))] 193)).alloc (.cells #[.string ⟨#[]⟩, .string ⟨#[]⟩, .int .u64 0, .int .u64 0, .int .u64 0, .int .u64 0] 76) = V := ⟨_, rfl⟩
  obtain ⟨sb, hsb⟩ : ∃ sb, w.heap.size = sb := ⟨_, rfl⟩
  have HV : Hid (Below w.heap.size w V) := Lib.hid (by rw [← hV]; exact balloc (balloc (Below.refl _ _) _) _)
  have hbs : V.heap[sb]? = some (.cells #[.iface 127 (.pointer (some ⟨fb, 0, none⟩))] 193 (0, 0)) := by rw [← hV, ← hsb]; exact block_alloc (heap_alloc_new _ _) _
  have hbn : V.heap[sb + 1]? = some (.cells #[.string ⟨#[]⟩, .string ⟨#[]⟩, .int .u64 0, .int .u64 0, .int .u64 0, .int .u64 0] 76 (0, 0)) := by rw [← hV]; exact alloc_new_at _ (by simp [hsb])
  have hbt : V.heap[tb]? = some (.cells #[u0, u1, u2, u3, u4, u5] 76 (0, 0)) := (HV.out.block _ (lt_of_block HT.out)).trans HT.out
  have hbe : V.heap[eb]? = some (.cells #[.nilIface] 59 (0, 0)) := (HV.out.block _ (lt_of_block HE.out)).trans HE.out
  have k0 : V.cell? ⟨sb, 0, none⟩ = some (.iface 127 (.pointer (some ⟨fb, 0, none⟩))) := block_cell hbs 0
  have m0 : V.cell? ⟨sb + 1, 0, none⟩ = some (.string ⟨#[]⟩) := block_cell hbn 0
  have m1 : V.cell? ⟨sb + 1, 1, none⟩ = some (.string ⟨#[]⟩) := block_cell hbn 1
  have m2 : V.cell? ⟨sb + 1, 2, none⟩ = some (.int .u64 0) := block_cell hbn 2
  have m3 : V.cell? ⟨sb + 1, 3, none⟩ = some (.int .u64 0) := block_cell hbn 3
  have m4 : V.cell? ⟨sb + 1, 4, none⟩ = some (.int .u64 0) := block_cell hbn 4
  have m5 : V.cell? ⟨sb + 1, 5, none⟩ = some (.int .u64 0) := block_cell hbn 5
  have hts : tb < sb := by have := lt_of_block HT.out; omega
  have hnt : some (sb + 1) ≠ some tb := by simp; omega
  have hst : some sb ≠ some tb := by simp; omega
  have HBT := Lib.hid hbt
  have HBE := Lib.hid hbe
  try rw [hV]
  try simp only [hsb]
  clear hV hbs hbn hbt hbe ha
  refine wp_region_tail 4 3 ((some tb)) (phis [fun u _ => u = (.agg #[.string ⟨#[]⟩, .string ⟨#[]⟩, .int .u64 0, .int .u64 0, .int .u64 0, .int .u64 0]), fun u _ => u = (.pointer (some ⟨sb, 0, none⟩)), fun u _ => u = (.iface 127 (.pointer (some ⟨fb, 0, none⟩))), fun _ w' => w'.heap[tb]? = some (.cells #[.string ⟨#[]⟩, .string ⟨#[]⟩, .int .u64 0, .int .u64 0, .int .u64 0, .int .u64 0] 76 (0, 0))]) rfl (by kernel_rfl) (by kernel_rfl) (mono_of ⟨mono_eq, mono_eq, mono_eq, ?m3, trivial⟩) (steps_of 4 ⟨?s0, ?s1, ?s2, ?s3, trivial⟩) ?_
  case m3 =>
    exact ⟨fun u w1 w2 h hb => ext_block h hb, fun hn => absurd rfl hn⟩
  case s0 =>
    refine step_val (v := (.agg #[.string ⟨#[]⟩, .string ⟨#[]⟩, .int .u64 0, .int .u64 0, .int .u64 0, .int .u64 0])) (fun av wv hE hS hO hD => ?_) (fun _ => rfl)
    have h5 : av.eval (.tmp 5) = (.pointer (some ⟨sb + 1, 0, none⟩)) := hO.2.2 5 rfl
    have f5 := (ev_form av 5).symm.trans h5
    have k0 := extB_cell hE hst k0
    have m0 := extB_cell hE hnt m0
    have m1 := extB_cell hE hnt m1
    have m2 := extB_cell hE hnt m2
    have m3 := extB_cell hE hnt m3
    have m4 := extB_cell hE hnt m4
    have m5 := extB_cell hE hnt m5
    refine ⟨rfl, ?_⟩
    simp [go_sem, f5, k0, m0, m1, m2, m3, m4, m5]
  case s1 =>
    refine step_val (v := (.pointer (some ⟨sb, 0, none⟩))) (fun av wv hE hS hO hD => ?_) (fun _ => rfl)
    have h3 : av.eval (.tmp 3) = (.pointer (some ⟨sb, 0, none⟩)) := hO.2.2 3 rfl
    have f3 := (ev_form av 3).symm.trans h3
    refine ⟨rfl, ?_⟩
    simp [go_sem, f3]
  case s2 =>
    refine step_val (v := (.iface 127 (.pointer (some ⟨fb, 0, none⟩)))) (fun av wv hE hS hO hD => ?_) (fun _ => rfl)
    have d18 : av.eval (.tmp 18) = (.pointer (some ⟨sb, 0, none⟩)) := hD.1 rfl _ rfl
    have f18 := (ev_form av 18).symm.trans d18
    have k0 := extB_cell hE hst k0
    have m0 := extB_cell hE hnt m0
    have m1 := extB_cell hE hnt m1
    have m2 := extB_cell hE hnt m2
    have m3 := extB_cell hE hnt m3
    have m4 := extB_cell hE hnt m4
    have m5 := extB_cell hE hnt m5
    refine ⟨rfl, ?_⟩
    simp [go_sem, f18, k0, m0, m1, m2, m3, m4, m5]
  case s3 =>
    refine step_wp (fun av wv hE hS hO hD => ?_)
    have h0 : av.eval (.tmp 0) = (.pointer (some ⟨tb, 0, none⟩)) := hO.2.2 0 rfl
    have f0 := (ev_form av 0).symm.trans h0
    have d17 : av.eval (.tmp 17) = (.agg #[.string ⟨#[]⟩, .string ⟨#[]⟩, .int .u64 0, .int .u64 0, .int .u64 0, .int .u64 0]) := hD.1 rfl _ rfl
    have f17 := (ev_form av 17).symm.trans d17
    refine ⟨rfl, ?_⟩
    have hq : wv.heap[tb]? = some (.cells #[u0, u1, u2, u3, u4, u5] 76 (0, 0)) := ext_block (w := V.drew) (hS rfl) HBT.out
    have q0 : wv.cell? ⟨tb, 0, none⟩ = some u0 := block_cell hq 0
    have q1 : wv.cell? ⟨tb, 1, none⟩ = some u1 := block_cell hq 1
    have q2 : wv.cell? ⟨tb, 2, none⟩ = some u2 := block_cell hq 2
    have q3 : wv.cell? ⟨tb, 3, none⟩ = some u3 := block_cell hq 3
    have q4 : wv.cell? ⟨tb, 4, none⟩ = some u4 := block_cell hq 4
    have q5 : wv.cell? ⟨tb, 5, none⟩ = some u5 := block_cell hq 5
    have hz : ∀ o, wv.frozen? ⟨tb, o, none⟩ = false := block_free hq
    unfold Oper.wp
    have l0 : tb < wv.heap.size := lt_of_block hq
    have h0 : av.eval (.tmp 0) = (.pointer (some ⟨tb, 0, none⟩)) := hO.2.2 0 rfl
    have f0 := (ev_form av 0).symm.trans h0
    simp [go_sem, f0, f17, hz, l0, q0, q1, q2, q3, q4, q5]
    exact ⟨es_sp (extB_setIn (extB_setIn (extB_setIn (extB_setIn (extB_setIn (extB_setIn (ExtB_refl _ _) 0 _) 1 _) 2 _) 3 _) 4 _) 5 _), undef, (block_setCell (block_setCell (block_setCell (block_setCell (block_setCell (block_setCell hq (o := 0) _) (o := 1) _) (o := 2) _) (o := 3) _) (o := 4) _) (o := 5) _)⟩
  intro a' w' hE hO hall
  have hA := act_of_outer (ds := [17, 18, 19]) rfl hO (by kernel_rfl)
  have e17 : (fun u _ => u = (.agg #[.string ⟨#[]⟩, .string ⟨#[]⟩, .int .u64 0, .int .u64 0, .int .u64 0, .int .u64 0])) (a'.eval (.tmp 17)) w' := hall.1 _ rfl
  have e18 : (fun u _ => u = (.pointer (some ⟨sb, 0, none⟩))) (a'.eval (.tmp 18)) w' := hall.2.1 _ rfl
  have e19 : (fun u _ => u = (.iface 127 (.pointer (some ⟨fb, 0, none⟩)))) (a'.eval (.tmp 19)) w' := hall.2.2.1 _ rfl
  have z3 : (fun _ w' => w'.heap[tb]? = some (.cells #[.string ⟨#[]⟩, .string ⟨#[]⟩, .int .u64 0, .int .u64 0, .int .u64 0, .int .u64 0] 76 (0, 0))) undef w' := hall.2.2.2.1 _ rfl
  simp only [List.foldl_cons, List.foldl_nil, Act.put, List.setIfInBounds_toArray, List.set_cons_succ, List.set_cons_zero, e17, e18, e19] at hA
  clear hO hall e17 e18 e19
  subst hA
  have HE := Lib.hid (of_drewE hE)
  have HZ := Lib.hid z3
  have hbe : w'.heap[eb]? = some (.cells #[.nilIface] 59 (0, 0)) := extB_block HE.out (by simp; exact fun e => hne e.symm) HBE.out
  have HBE := Lib.hid hbe
  have q0 : w'.cell? ⟨eb, 0, none⟩ = some .nilIface := block_cell hbe 0
  have q1 : w'.frozen? ⟨eb, 0, none⟩ = false := block_free hbe 0
  clear hE z3 hbe
  go_wp2
  rw [← HQ.out]
  have hs1 : (w'.setCell ⟨eb, 0, none⟩ (.iface 127 (.pointer (some ⟨fb, 0, none⟩)))).heap.size = w'.heap.size := by simp
  refine ⟨rfl, _, rfl, .tuple #[], by simp [results, Tryz.results143], rfl, rfl, ?_⟩
  exact ⟨HE.out.os.trans HV.out.os, HE.out.tape.trans HV.out.tape, HE.out.output.trans HV.out.output, by rw [hs1]; exact Nat.le_trans HV.out.size HE.out.size, fun i hi h1 h2 => by
    rw [Below.heap_setCell _ _ _ _ h2]
    exact (HE.out.block i (Nat.lt_of_lt_of_le hi HV.out.size) (by simpa using h1)).trans (HV.out.block i hi), block_setCell_ne HZ.out hne _, block_setCell HBE.out _⟩
def RdMsg (s : ByteArray) (w : World) (e : Ending) (w' : World) : Prop :=
  Below w.heap.size w w' ∧ match objR s (msgGs s) msg0 0 with
    | .error f => ∃ fb, e = .returned (.tuple #[zeroMsg, .iface 127 (.pointer (some ⟨fb, 0, none⟩))]) ∧ FltB w' fb f.1 f.2
    | .ok y => Kd msg0 y.1 ∧ y.2 ≤ s.size ∧ (∃ rb tb, w.heap.size ≤ rb ∧ LiesMsg rb tb w' y.1) ∧ (if y.2 < s.size then ∃ fb, e = .returned (.tuple #[.agg (cellsMsg y.1), .iface 127 (.pointer (some ⟨fb, 0, none⟩))]) ∧ FltB w' fb 5 y.2 else e = .returned (.tuple #[.agg (cellsMsg y.1), .nilIface]))
set_option maxRecDepth 100000 in
set_option maxHeartbeats 8000000 in
theorem readMsg_any (B : Nat) (s : ByteArray) (w : World) (hT : Tabs B w) (hET : ErrType w) (hB : B ≤ w.heap.size) (hg : 0 < B) (hs : s.size ≤ 9223372036854775807) :
    Calls Tryz.prog 87 #[.string s, .func (.func 80) #[] #[]] w (RdMsg s w) := by
  have HT := Lib.hid hT
  have HET := Lib.hid hET
  have ef := enters_of Tryz.func80 (by kernel_rfl) rfl
  clear hT hET
  go_enter_defers Tryz.func87, Tryz.ntmps87
  go_wp2_with fail
  obtain ⟨tb, htb⟩ : ∃ tb, w.heap.size = tb := ⟨_, rfl⟩
  obtain ⟨W, hW⟩ : ∃ W, (w.alloc (.cells #[.string ⟨#[]⟩, .string ⟨#[]⟩, .int .u64 0, .int .u64 0, .int .u64 0, .int .u64 0] 76)).alloc (.cells #[.nilIface] 59) = W := ⟨_, rfl⟩
  have WB : Hid (Below w.heap.size w W) := Lib.hid (by rw [← hW]; exact balloc (balloc (Below.refl _ _) _) _)
  have W0 : Hid (W.heap[tb]? = some (.cells #[.string ⟨#[]⟩, .string ⟨#[]⟩, .int .u64 0, .int .u64 0, .int .u64 0, .int .u64 0] 76 (0, 0))) := Lib.hid (by rw [← hW, ← htb]; exact block_alloc (heap_alloc_new _ _) _)
  have W1 : Hid (W.heap[tb + 1]? = some (.cells #[.nilIface] 59 (0, 0))) := Lib.hid (by rw [← hW]; exact alloc_new_at _ (by simp [htb]))
  have hWs : W.heap.size = tb + 1 + 1 := by rw [← hW]; simp [htb]
  have HTW : Hid (w.heap.size = tb) := Lib.hid htb
  try rw [hW]
  try simp only [htb]
  clear hW htb
  refine (New_any W s 10240).mono ?_
  rintro e w1 ⟨rfl, hw1⟩
  have hm : max (10240 : Int) 0 = 10240 := by decide
  rw [hm] at hw1
  obtain ⟨rb, hrb⟩ : ∃ rb, W.heap.size = rb := ⟨_, rfl⟩
  have R1 : Hid (RdB w1 rb s 0 10240) := Lib.hid (by rw [hw1, ← hrb]; exact heap_alloc_new _ _)
  have WB1 : Hid (Below W.heap.size W w1) := Lib.hid (by rw [hw1]; exact balloc (Below.refl _ _) _)
  have hs1 : w1.heap.size = rb + 1 := by rw [hw1, ← hrb]; simp
  try rw [hrb]
  clear hw1
  go_upto_region 3 with fail
  obtain ⟨V, hV⟩ : ∃ V, w1.alloc (.cells #[.pointer (some ⟨rb, 0, none⟩)] 199) = V := ⟨_, rfl⟩
  have VB : Hid (Below w1.heap.size w1 V) := Lib.hid (by rw [← hV]; exact balloc (Below.refl _ _) _)
  have VQ : Hid (V.heap[rb + 1]? = some (.cells #[.pointer (some ⟨rb, 0, none⟩)] 199 (0, 0))) := Lib.hid (by rw [← hV]; exact alloc_new_at _ hs1)
  try rw [hV]
  try simp only [hs1]
  have hrbt : rb = tb + 1 + 1 := hrb.symm.trans hWs
  have hTW := HTW.out
  have BV : Hid (Below w.heap.size w V) := Lib.hid (bnext (bnext WB.out WB1.out) VB.out)
  have WV : Hid (Below W.heap.size W V) := Lib.hid (bnext WB1.out VB.out)
  have VT : Hid (V.heap[tb]? = some (.cells #[.string ⟨#[]⟩, .string ⟨#[]⟩, .int .u64 0, .int .u64 0, .int .u64 0, .int .u64 0] 76 (0, 0))) := Lib.hid ((WV.out.block _ (lt_of_block W0.out)).trans W0.out)
  have VE : Hid (V.heap[tb + 1]? = some (.cells #[.nilIface] 59 (0, 0))) := Lib.hid ((WV.out.block _ (lt_of_block W1.out)).trans W1.out)
  have VR : Hid (RdB V rb s 0 10240) := Lib.hid (R1.out.below VB.out)
  have ENV : Hid (RdEnv B V (rb + 1) rb s 0) := Lib.hid ⟨VQ.out, VR.out, HT.out.below BV.out, by omega, by omega, by omega, Nat.zero_le _, hs⟩
  have E : TEnv B (rb + 1) rb tb 6 76 V := ⟨⟨_, VR.out⟩, ⟨_, VT.out⟩, by omega, by omega, by omega, by decide, by decide⟩
  have REC : Hid (RecAt rb tb 76 6 V msg0) := Lib.hid (rec_zero VT.out rfl (fun i hi => by
    match i, hi with
    | 0, _ => exact ⟨_, rfl, rfl⟩
    | 1, _ => exact ⟨_, rfl, rfl⟩
    | 2, _ => exact ⟨_, rfl, rfl⟩
    | 3, _ => exact ⟨_, rfl, rfl⟩
    | 4, _ => exact ⟨_, rfl, rfl⟩
    | 5, _ => exact ⟨_, rfl, rfl⟩))
  have HOF := Lib.hid (rofMsg_any (s := s) E)
  have HE := Lib.hid E
  have G : Hid (GOk msg0 (msgGs s)) := Lib.hid (MsgOk s)
  have HRBT := Lib.hid hrbt
  clear hV E hrb hs1 hWs hrbt hTW
  go_wp2_with fail
  refine HOF.out.mono ?_
  rintro e w2 ⟨u, rfl, ⟨g, c, l, rfl, hc, hF, hS⟩, hb⟩
  have hl : (msgGs s).length = l.length := hS.1
  have hg := (HE.out.below hb).apart hF.ex
  have H2 := Lib.hid (robject_any B (rb + 1) rb tb g 0 c msg0 76 6 s w2 w2 l (msgGs s) 0 msg0 hF.flds hc (show l.length ≤ 1000 by rw [← hl]; exact Nat.le_of_ble_eq_true rfl) hS (Chg.refl _ _ _) hg HE.out.nq HE.out.le HE.out.ne G.out.keys G.out.disj G.out.frames G.out.kinds (fun i => rfl) (REC.out.below hb) (ENV.out.below hb) (fun i hi o ho => rfl))
  have HB := Lib.hid hb
  clear hF hS hb hl hc hg HOF ef
  go_wp2_with fail
  refine H2.out.mono ?_
  intro e w3 hh
  cases hr : objR s (msgGs s) msg0 0 with
  | error f =>
    rw [hr] at hh
    have HTH := Lib.hid (getIs_th hh)
    obtain ⟨fb, rfl, hf, hc3⟩ := getIs_err hh
    have HF := Lib.hid hf
    have HC := Lib.hid hc3
    have HR := Lib.hid hr
    clear hh hf hc3 hr H2
    go_wp2
    obtain ⟨cs, hcs, hcn⟩ := HTH.out
    have hce : w3.heap[tb + 1]? = some (.cells #[.nilIface] 59 (0, 0)) := (HC.out.block _ (Nat.lt_of_lt_of_le (lt_of_block VE.out) HB.out.size) (by have := HRBT.out; omega) (by omega)).trans ((HB.out.block _ (lt_of_block VE.out)).trans VE.out)
    refine leaves_cons (f := 143) (args := #[.pointer (some ⟨tb, 0, none⟩), .pointer (some ⟨tb + 1, 0, none⟩)]) (by simp) (by simp [go_sem]) ?_
    refine (read1Msg_some tb (tb + 1) fb cs w3 hcs (arr6 hcn) hce (by omega)).mono ?_
    rintro e u' w4 ⟨rfl, rfl, HA⟩
    have y0 : ∀ o, w4.cell? ⟨tb, o, none⟩ = _ := block_cell HA.th
    have y1 : w4.cell? ⟨tb + 1, 0, none⟩ = some (.iface 127 (.pointer (some ⟨fb, 0, none⟩))) := block_cell HA.er 0
    refine ⟨_, by simp [results, Tryz.results87, go_sem, y0, y1]; rfl, ?_⟩
    refine ⟨?_, by
      rw [HR.out]
      refine ⟨fb, rfl, (HA.block fb (lt_of_block HF.out) (fun e => ?_) (fun e => ?_)).trans HF.out⟩
      · subst e; have h9 := hcs.symm.trans HF.out; cases h9
      · subst e; have h9 := hce.symm.trans HF.out; cases h9⟩
    have hsz := HTW.out
    have hb9 := HRBT.out
    refine ⟨HA.os.trans (HC.out.os.trans (HB.out.os.trans BV.out.os)), HA.tape.trans (HC.out.tape.trans (HB.out.tape.trans BV.out.tape)), HA.output.trans (HC.out.output.trans (HB.out.output.trans BV.out.output)), Nat.le_trans BV.out.size (Nat.le_trans HB.out.size (Nat.le_trans HC.out.size HA.size)), fun i hi => ?_⟩
    have l1 := Nat.lt_of_lt_of_le hi BV.out.size
    have l2 := Nat.lt_of_lt_of_le l1 HB.out.size
    exact (HA.block i (Nat.lt_of_lt_of_le l2 HC.out.size) (by omega) (by omega)).trans ((HC.out.block i l2 (by omega) (by omega)).trans ((HB.out.block i l1).trans (BV.out.block i hi)))
  | ok q =>
    rw [hr] at hh
    obtain ⟨rfl, hrd, hle, hx3, hc3⟩ := getIs_ok hh
    have HRD := Lib.hid hrd
    have HC := Lib.hid hc3
    have HR := Lib.hid hr
    have HKD : Hid (Kd msg0 q.1) := Lib.hid (objR_kinds G.out.kinds hr (fun i => rfl))
    obtain ⟨_, hth, hlies⟩ := msg_of_rec hx3 HKD.out
    have HTH := Lib.hid hth
    have HLI := Lib.hid hlies
    clear hh hrd hx3 hc3 hr H2 hth hlies
    obtain ⟨x, a⟩ := q
    have hts : tb < w3.heap.size := lt_of_block HTH.out
    have HQ3 : Hid (w3.heap[rb + 1]? = some (.cells #[.pointer (some ⟨rb, 0, none⟩)] 199 (0, 0))) := Lib.hid ((HC.out.block _ (Nat.lt_of_lt_of_le (lt_of_block VQ.out) HB.out.size) (by omega) (by have := HRBT.out; omega)).trans ((HB.out.block _ (lt_of_block VQ.out)).trans VQ.out))
    have HE3 : Hid (w3.heap[tb + 1]? = some (.cells #[.nilIface] 59 (0, 0))) := Lib.hid ((HC.out.block _ (Nat.lt_of_lt_of_le (lt_of_block VE.out) HB.out.size) (by have := HRBT.out; omega) (by omega)).trans ((HB.out.block _ (lt_of_block VE.out)).trans VE.out))
    have HET3 : Hid (ErrType w3) := Lib.hid (by
      have h1 := HET.out.below BV.out
      have h2 := h1.below HB.out
      unfold ErrType at h2 ⊢
      rw [World.cell?_of_block (w := w2) (HC.out.block _ (lt_of_cell h2) (show 0 ≠ rb by have := HRBT.out; have := HTW.out; omega) (show 0 ≠ tb by have := HTW.out; omega))]
      exact h2)
    go_upto_region 4 with fail
    obtain ⟨VO, hVO⟩ : ∃ VO : Nat → Option Nat, VO = fun j => if j = 6 then some tb else none := ⟨_, rfl⟩
    have vo6 : VO 6 = some tb := by rw [hVO]; rfl
    have von : ∀ j, j ≠ 6 → VO j = none := fun j h1 => by rw [hVO]; simp [h1]
    have vob : ∀ j b, b ≠ tb → VO j ≠ some b := fun j b hb => by
      by_cases h : j = 6
      · subst h; rw [vo6]; simp; exact fun e => hb e.symm
      · rw [von j h]; simp
    clear hVO
    refine wp_region_tailV 7 VO (fun i j b h1 h2 => by
        by_cases e1 : i = 6
        · by_cases e2 : j = 6
          · rw [e1, e2]
          · rw [von j e2] at h2; cases h2
        · rw [von i e1] at h1; cases h1) (fun _ _ _ => True) (fun _ => True) (fun _ _ _ _ _ => True) (fun _ _ => trivial) trivial
      (phis [fun u _ => u = .agg (cellsMsg x), fun u _ => u = .pointer (some ⟨rb + 1, 0, none⟩), fun u _ => u = .pointer (some ⟨rb + 1, 0, none⟩), fun u _ => u = .pointer (some ⟨rb + 1, 0, none⟩), fun u _ => u = .pointer (some ⟨rb, 0, none⟩), fun u w' => if a < s.size then ∃ fb, u = .iface 127 (.pointer (some ⟨fb, 0, none⟩)) ∧ FltB w' fb 5 a ∧ fb ≠ tb else u = .nilIface, fun _ w' => w'.heap[tb]? = some (.cells (cellsMsg x) 76 (0, 0))]) rfl (by kernel_rfl) (by kernel_rfl)
      (monoV_of ⟨monoV_eq, monoV_eq, monoV_eq, monoV_eq, monoV_eq, ?m5, ?m6, trivial⟩) (fun _ _ _ _ _ => trivial) (fun _ _ _ _ _ _ _ _ _ _ _ => trivial) (stepsV_of 7 ⟨?s0, ?s1, ?s2, ?s3, ?s4, ?s5, ?s6, trivial⟩) ?_
    case m5 =>
      intro j hj u w1 w2 he hp
      by_cases hlt : a < s.size
      · simp only [hlt, if_true] at hp ⊢
        obtain ⟨fb, h1, h2, h3⟩ := hp
        refine ⟨fb, h1, (he.1.block fb (lt_of_block h2) ?_).trans h2, h3⟩
        exact fun e => vob j fb h3 e.symm
      · simp only [hlt, if_false] at hp ⊢; exact hp
    case m6 =>
      intro j hj u w1 w2 he hp
      refine (he.1.block tb (lt_of_block hp) ?_).trans hp
      rw [von j hj]; simp
    case s0 =>
      refine stepV_val (v := .agg (cellsMsg x)) (fun _ _ => trivial) (fun _ _ _ _ => ⟨trivial, trivial⟩) (fun D av wv hE hO hD => ?_) (fun _ => rfl)
      have h6 : ¬ D 6 := hE.notyet 6 _ rfl { on := 0, ground := .data } (by simp) rfl hE.me
      have hb0 : wv.heap[tb]? = some (.cells (cellsMsg x) 76 (0, 0)) := (hE.late 6 h6 tb vo6 hts).trans HTH.out
      have k0 : wv.cell? ⟨tb, 0, none⟩ = some (.string (x 0).s) := block_cell hb0 0
      have k1 : wv.cell? ⟨tb, 1, none⟩ = some (.string (x 1).s) := block_cell hb0 1
      have k2 : wv.cell? ⟨tb, 2, none⟩ = some (.int .u64 (x 2).n) := block_cell hb0 2
      have k3 : wv.cell? ⟨tb, 3, none⟩ = some (.int .u64 (x 3).n) := block_cell hb0 3
      have k4 : wv.cell? ⟨tb, 4, none⟩ = some (.int .u64 (x 4).n) := block_cell hb0 4
      have k5 : wv.cell? ⟨tb, 5, none⟩ = some (.int .u64 (x 5).n) := block_cell hb0 5
      have h4 : av.eval (.tmp 4) = .pointer (some ⟨tb, 0, none⟩) := hO.2.2 4 rfl
      have f4 := (ev_form av 4).symm.trans h4
      refine ⟨rfl, ?_⟩
      simp [go_sem, f4, k0, k1, k2, k3, k4, k5]
    case s1 =>
      refine stepV_val (v := .pointer (some ⟨rb + 1, 0, none⟩)) (fun _ _ => trivial) (fun _ _ _ _ => ⟨trivial, trivial⟩) (fun D av wv hE hO hD => ?_) (fun _ => rfl)
      have h6 : av.eval (.tmp 6) = .pointer (some ⟨rb + 1, 0, none⟩) := hO.2.2 6 rfl
      have f6 := (ev_form av 6).symm.trans h6
      refine ⟨rfl, ?_⟩
      simp [go_sem, f6]
    case s2 =>
      refine stepV_val (v := .pointer (some ⟨rb + 1, 0, none⟩)) (fun _ _ => trivial) (fun _ _ _ _ => ⟨trivial, trivial⟩) (fun D av wv hE hO hD => ?_) (fun _ => rfl)
      have d17 : av.eval (.tmp 17) = .pointer (some ⟨rb + 1, 0, none⟩) := hD.1 rfl _ rfl
      have f17 := (ev_form av 17).symm.trans d17
      refine ⟨rfl, ?_⟩
      simp [go_sem, f17]
    case s3 =>
      refine stepV_val (v := .pointer (some ⟨rb + 1, 0, none⟩)) (fun _ _ => trivial) (fun _ _ _ _ => ⟨trivial, trivial⟩) (fun D av wv hE hO hD => ?_) (fun _ => rfl)
      have d18 : av.eval (.tmp 18) = .pointer (some ⟨rb + 1, 0, none⟩) := hD.1 rfl _ rfl
      have f18 := (ev_form av 18).symm.trans d18
      refine ⟨rfl, ?_⟩
      simp [go_sem, f18]
    case s4 =>
      refine stepV_val (v := .pointer (some ⟨rb, 0, none⟩)) (fun _ _ => trivial) (fun _ _ _ _ => ⟨trivial, trivial⟩) (fun D av wv hE hO hD => ?_) (fun _ => rfl)
      have d19 : av.eval (.tmp 19) = .pointer (some ⟨rb + 1, 0, none⟩) := hD.1 rfl _ rfl
      have f19 := (ev_form av 19).symm.trans d19
      have k0 : wv.cell? ⟨rb + 1, 0, none⟩ = some (.pointer (some ⟨rb, 0, none⟩)) := block_cell ((hE.ext.block (rb + 1) (lt_of_block HQ3.out) (fun j => vob j _ (by have := HRBT.out; omega))).trans HQ3.out) 0
      refine ⟨rfl, ?_⟩
      simp [go_sem, f19, k0]
    case s5 =>
      refine stepV_wp (fun D av wv hPP hE hO hD => ?_)
      have d20 : av.eval (.tmp 20) = .pointer (some ⟨rb, 0, none⟩) := hD.1 rfl _ rfl
      have f20 := (ev_form av 20).symm.trans d20
      have hrd : RdB wv rb s a 10240 := (hE.ext.block rb (lt_of_block HRD.out) (fun j => vob j _ (by have := HRBT.out; omega))).trans HRD.out
      have het : ErrType wv := by
        have h2 : ErrType w3.drew := HET3.out
        unfold ErrType at h2 ⊢
        rw [World.cell?_of_block (w := w3.drew) (hE.ext.block _ (lt_of_cell h2) (fun j => vob j _ (show 0 ≠ tb by have := HTW.out; omega)))]
        exact h2
      have hvs : w3.heap.size ≤ wv.heap.size := hE.ext.size
      refine ⟨rfl, wp_of_callR (f := 124) (args := #[.pointer (some ⟨rb, 0, none⟩)]) (R := fun u w2 => Below wv.heap.size wv w2 ∧ (if a < s.size then ∃ fb, u = .iface 127 (.pointer (some ⟨fb, 0, none⟩)) ∧ FltB w2 fb 5 a ∧ fb ≠ tb else u = .nilIface)) (by simp [go_sem, f20]) ((End_any wv rb s a 10240 het hrd hle hs).mono fun e w2 hh => ?_) (fun u w2 ⟨h1, h2⟩ => ⟨u, rfl, esV_of_ext h1 trivial, h2, fun _ _ _ _ _ => ⟨trivial, trivial⟩⟩)⟩
      obtain ⟨h1, h2⟩ := hh
      unfold leftOf at h2
      by_cases hlt : a < s.size
      · simp only [hlt, if_true] at h2 ⊢
        obtain ⟨fb, h3, h4, h5⟩ := h2
        exact ⟨_, h3, h1, fb, rfl, h5, by omega⟩
      · simp only [hlt, if_false] at h2 ⊢
        exact ⟨_, h2, h1, rfl⟩
    case s6 =>
      refine stepV_wp (fun D av wv hPP hE hO hD => ?_)
      have d16 : av.eval (.tmp 16) = .agg (cellsMsg x) := hD.1 rfl _ rfl
      have f16 := (ev_form av 16).symm.trans d16
      have h4 : av.eval (.tmp 4) = .pointer (some ⟨tb, 0, none⟩) := hO.2.2 4 rfl
      have f4 := (ev_form av 4).symm.trans h4
      have hq : wv.heap[tb]? = some (.cells (cellsMsg x) 76 (0, 0)) := (hE.own tb vo6 hts).trans HTH.out
      have k0 : wv.cell? ⟨tb, 0, none⟩ = some (.string (x 0).s) := block_cell hq 0
      have k1 : wv.cell? ⟨tb, 1, none⟩ = some (.string (x 1).s) := block_cell hq 1
      have k2 : wv.cell? ⟨tb, 2, none⟩ = some (.int .u64 (x 2).n) := block_cell hq 2
      have k3 : wv.cell? ⟨tb, 3, none⟩ = some (.int .u64 (x 3).n) := block_cell hq 3
      have k4 : wv.cell? ⟨tb, 4, none⟩ = some (.int .u64 (x 4).n) := block_cell hq 4
      have k5 : wv.cell? ⟨tb, 5, none⟩ = some (.int .u64 (x 5).n) := block_cell hq 5
      have hz : ∀ o, wv.frozen? ⟨tb, o, none⟩ = false := block_free hq
      have l0 : tb < wv.heap.size := lt_of_block hq
      refine ⟨rfl, ?_⟩
      unfold Oper.wp
      simp [go_sem, f4, f16, hz, l0, k0, k1, k2, k3, k4, k5]
      exact ⟨⟨by rw [vo6]; exact (extB_setIn (extB_setIn (extB_setIn (extB_setIn (extB_setIn (extB_setIn (ExtB_refl _ _) 0 _) 1 _) 2 _) 3 _) 4 _) 5 _), trivial⟩, undef, (block_setCell (block_setCell (block_setCell (block_setCell (block_setCell (block_setCell hq (o := 0) _) (o := 1) _) (o := 2) _) (o := 3) _) (o := 4) _) (o := 5) _), fun _ _ _ _ _ => ⟨trivial, trivial⟩⟩
    intro a' w' hE _ hO hall _
    have hA := act_of_outer (ds := [16, 17, 18, 19, 20, 21]) rfl hO (by kernel_rfl)
    have e16 : (fun u (_ : World) => u = .agg (cellsMsg x)) (a'.eval (.tmp 16)) w' := hall.1 _ rfl
    have e17 : (fun u (_ : World) => u = .pointer (some ⟨rb + 1, 0, none⟩)) (a'.eval (.tmp 17)) w' := hall.2.1 _ rfl
    have e18 : (fun u (_ : World) => u = .pointer (some ⟨rb + 1, 0, none⟩)) (a'.eval (.tmp 18)) w' := hall.2.2.1 _ rfl
    have e19 : (fun u (_ : World) => u = .pointer (some ⟨rb + 1, 0, none⟩)) (a'.eval (.tmp 19)) w' := hall.2.2.2.1 _ rfl
    have e20 : (fun u (_ : World) => u = .pointer (some ⟨rb, 0, none⟩)) (a'.eval (.tmp 20)) w' := hall.2.2.2.2.1 _ rfl
    have e21 : (fun u w' => if a < s.size then ∃ fb, u = .iface 127 (.pointer (some ⟨fb, 0, none⟩)) ∧ FltB w' fb 5 a ∧ fb ≠ tb else u = .nilIface) (a'.eval (.tmp 21)) w' := hall.2.2.2.2.2.1 _ rfl
    have z6 : w'.heap[tb]? = some (.cells (cellsMsg x) 76 (0, 0)) := hall.2.2.2.2.2.2.1 _ rfl
    obtain ⟨v21, hv21⟩ : ∃ v, a'.eval (.tmp 21) = v := ⟨_, rfl⟩
    rw [hv21] at e21
    simp only [List.foldl_cons, List.foldl_nil, Act.put, List.setIfInBounds_toArray, List.set_cons_succ, List.set_cons_zero, e16, e17, e18, e19, e20, hv21] at hA
    clear hO hall e16 e17 e18 e19 e20 hv21
    subst hA
    have HX4 : Hid (ExtS VO w3 w') := Lib.hid ⟨hE.os, hE.tape, hE.output, hE.size, hE.block⟩
    have HZ6 := Lib.hid z6
    have hbe : w'.heap[tb + 1]? = some (.cells #[.nilIface] 59 (0, 0)) := (HX4.out.block _ (lt_of_block HE3.out) (fun j => vob j _ (by omega))).trans HE3.out
    have HBE := Lib.hid hbe
    have g0 : w'.cell? ⟨tb + 1, 0, none⟩ = some .nilIface := block_cell hbe 0
    have g1 : w'.frozen? ⟨tb + 1, 0, none⟩ = false := block_free hbe 0
    have HVO : Hid (∀ j b, b ≠ tb → VO j ≠ some b) := Lib.hid vob
    have HFIN : ∀ v, Hid (Below w.heap.size w (w'.setCell ⟨tb + 1, 0, none⟩ v)) := fun v => Lib.hid (by
      have hsz := HTW.out
      have hb9 := HRBT.out
      refine ⟨HX4.out.os.trans (HC.out.os.trans (HB.out.os.trans BV.out.os)), HX4.out.tape.trans (HC.out.tape.trans (HB.out.tape.trans BV.out.tape)), HX4.out.output.trans (HC.out.output.trans (HB.out.output.trans BV.out.output)), by simpa using Nat.le_trans BV.out.size (Nat.le_trans HB.out.size (Nat.le_trans HC.out.size HX4.out.size)), fun i hi => ?_⟩
      have l1 := Nat.lt_of_lt_of_le hi BV.out.size
      have l2 := Nat.lt_of_lt_of_le l1 HB.out.size
      rw [Below.heap_setCell _ _ _ _ (show i ≠ tb + 1 by omega)]
      exact (HX4.out.block i (Nat.lt_of_lt_of_le l2 HC.out.size) (fun j => HVO.out j i (by omega))).trans ((HC.out.block i l2 (by omega) (by omega)).trans ((HB.out.block i l1).trans (BV.out.block i hi))))
    have HLF : ∀ v, Hid (LiesMsg rb tb (w'.setCell ⟨tb + 1, 0, none⟩ v) x) := fun v => Lib.hid (HLI.out.up (fun b h1 h2 => by
      have hb9 := HRBT.out
      rw [Below.heap_setCell _ _ _ _ (show b ≠ tb + 1 by omega)]
      exact HX4.out.block b h2 (fun j => HVO.out j b (by omega))))
    have HTF : ∀ v o, (w'.setCell ⟨tb + 1, 0, none⟩ v).cell? ⟨tb, o, none⟩ = (cellsMsg x)[o]? := fun v o => block_cell (block_setCell_ne HZ6.out (by show tb ≠ tb + 1; omega) v) o
    have HEF : ∀ v, (w'.setCell ⟨tb + 1, 0, none⟩ v).cell? ⟨tb + 1, 0, none⟩ = some v := fun v => block_cell (block_setCell HBE.out v) 0
    have HTFH := Lib.hid HTF
    have HEFH := Lib.hid HEF
    clear hE z6 hbe vo6 von vob HTF HEF
    by_cases hlt : a < s.size
    · simp only [hlt, if_true] at e21
      obtain ⟨fb, rfl, hf, hft⟩ := e21
      have HF := Lib.hid hf
      have HLT := Lib.hid hlt
      clear hf hlt
      go_wp2
      refine leaves_cons (f := 143) (args := #[.pointer (some ⟨tb, 0, none⟩), .pointer (some ⟨tb + 1, 0, none⟩)]) (by simp) (by simp [go_sem]) ?_
      refine (read1Msg_idle _ _ _).mono ?_
      rintro e u' w'' ⟨rfl, rfl, rfl⟩
      have y0 := HTFH.out (.iface 127 (.pointer (some ⟨fb, 0, none⟩)))
      have y1 := HEFH.out (.iface 127 (.pointer (some ⟨fb, 0, none⟩)))
      refine ⟨_, by simp [results, Tryz.results87, go_sem, y0, y1]; rfl, ?_⟩
      refine ⟨(HFIN _).out, ?_⟩
      rw [HR.out]
      refine ⟨HKD.out, hle, ⟨rb, tb, by have := HRBT.out; have := HTW.out; omega, (HLF _).out⟩, ?_⟩
      rw [if_pos HLT.out]
      exact ⟨fb, rfl, block_setCell_ne HF.out (by intro e; subst e; have h9 := HBE.out.symm.trans HF.out; cases h9) _⟩
    · simp only [hlt, if_false] at e21
      subst e21
      have HLT := Lib.hid hlt
      clear hlt
      go_wp2
      refine leaves_cons (f := 143) (args := #[.pointer (some ⟨tb, 0, none⟩), .pointer (some ⟨tb + 1, 0, none⟩)]) (by simp) (by simp [go_sem]) ?_
      refine (read1Msg_idle _ _ _).mono ?_
      rintro e u' w'' ⟨rfl, rfl, rfl⟩
      have y0 := HTFH.out .nilIface
      have y1 := HEFH.out .nilIface
      refine ⟨_, by simp [results, Tryz.results87, go_sem, y0, y1]; rfl, ?_⟩
      refine ⟨(HFIN _).out, ?_⟩
      rw [HR.out]
      refine ⟨HKD.out, hle, ⟨rb, tb, by have := HRBT.out; have := HTW.out; omega, (HLF _).out⟩, ?_⟩
      rw [if_neg HLT.out]
abbrev cellsHeader (x : Rcd) : Array Value := #[.int .u64 (x 0).n, .string (x 1).s, .string (x 2).s, .string (x 3).s]
abbrev zeroHeader : Value := .agg #[.int .u64 0, .string ⟨#[]⟩, .string ⟨#[]⟩, .string ⟨#[]⟩]
def LiesHeader (rb tb : Nat) (w : World) (x : Rcd) : Prop := True
theorem LiesHeader.below {rb tb : Nat} {w w' : World} {x : Rcd} (h : LiesHeader rb tb w x) (hb : Below w.heap.size w w') : LiesHeader rb tb w' x := trivial
theorem LiesHeader.chg {rb tb : Nat} {w w' : World} {x : Rcd} (h : LiesHeader rb tb w x) (hb : Chg rb tb w w') : LiesHeader rb tb w' x := trivial
theorem LiesHeader.up {rb tb : Nat} {w w' : World} {x : Rcd} (h : LiesHeader rb tb w x) (hb : Up rb w w') : LiesHeader rb tb w' x := trivial
theorem header_of_rec {rb tb : Nat} {w : World} {x : Rcd} (h : RecAt rb tb 78 4 w x) (hk : Kd header0 x) : ∃ (_ : Unit), w.heap[tb]? = some (.cells (cellsHeader x) 78 (0, 0)) ∧ LiesHeader rb tb w x := by
  obtain ⟨cs, h1, h2, h3⟩ := h
  obtain ⟨m0, e0⟩ := hk.num (show kindD (header0 0) = _ from rfl)
  obtain ⟨u0, g0, d0⟩ := h3 0 (by decide)
  rw [e0] at d0
  simp only [HoldsD] at d0
  subst d0
  obtain ⟨m1, e1⟩ := hk.str (show kindD (header0 1) = _ from rfl)
  obtain ⟨u1, g1, d1⟩ := h3 1 (by decide)
  rw [e1] at d1
  simp only [HoldsD] at d1
  subst d1
  obtain ⟨m2, e2⟩ := hk.str (show kindD (header0 2) = _ from rfl)
  obtain ⟨u2, g2, d2⟩ := h3 2 (by decide)
  rw [e2] at d2
  simp only [HoldsD] at d2
  subst d2
  obtain ⟨m3, e3⟩ := hk.str (show kindD (header0 3) = _ from rfl)
  obtain ⟨u3, g3, d3⟩ := h3 3 (by decide)
  rw [e3] at d3
  simp only [HoldsD] at d3
  subst d3
  refine ⟨(), ?_, ?_⟩
  · rw [h1]; congr 2; apply Array.ext_getElem?; intro i
    match i with
    | 0 => rw [g0]; simp [e0, DV.n, DV.q, DV.s, DV.l, DV.ns, DV.rs]
    | 1 => rw [g1]; simp [e1, DV.n, DV.q, DV.s, DV.l, DV.ns, DV.rs]
    | 2 => rw [g2]; simp [e2, DV.n, DV.q, DV.s, DV.l, DV.ns, DV.rs]
    | 3 => rw [g3]; simp [e3, DV.n, DV.q, DV.s, DV.l, DV.ns, DV.rs]
    | i + 4 => rw [Array.getElem?_eq_none (by omega), Array.getElem?_eq_none (by simp)]
  · trivial
set_option maxRecDepth 100000 in
theorem read1Header_idle (p q : Value) (w : World) : CallsD Tryz.prog 144 #[p, q] .returning w fun e u' w' => e = .returned (.tuple #[]) ∧ u' = .returning ∧ w' = w := by
  refine callsD_of_wpS Tryz.func144 rfl fun c₀ cs hu => ?_
  apply wpS_seq
  apply wpS_region
  simp [wpOpsS, go_sem, recoverD, hu, Tryz.ntmps144, Exit.thenS]
  refine wpS_of_wp ?_
  obtain ⟨Q, hQ⟩ : ∃ Q : Exit → Act → World → Prop, (fun e a' w' => bodyPostS Tryz.prog Tryz.f144 c₀ cs (fun e u' w' => e = Ending.returned (.tuple #[]) ∧ u' = .returning ∧ w' = w) e a' (c₀ :: cs) w') = Q := ⟨_, rfl⟩
  rw [hQ, read1_frame]
  have HQ := Lib.hid hQ
  clear hQ
  go_wp2
  rw [← HQ.out]
  simp [bodyPostS, results, Tryz.results144]
  cases c₀; simp_all
structure AfterHeader (tb eb fb : Nat) (w w' : World) : Prop where
  os : w'.os = w.os
  tape : w'.tape = w.tape
  output : w'.output = w.output
  size : w.heap.size ≤ w'.heap.size
  block : ∀ i, i < w.heap.size → i ≠ tb → i ≠ eb → w'.heap[i]? = w.heap[i]?
  th : w'.heap[tb]? = some (.cells #[.int .u64 0, .string ⟨#[]⟩, .string ⟨#[]⟩, .string ⟨#[]⟩] 78 (0, 0))
  er : w'.heap[eb]? = some (.cells #[.iface 127 (.pointer (some ⟨fb, 0, none⟩))] 59 (0, 0))
set_option maxRecDepth 100000 in
set_option maxHeartbeats 4000000 in
theorem read1Header_some (tb eb fb : Nat) (cs : Array Value) (w : World) (ht : w.heap[tb]? = some (.cells cs 78 (0, 0))) (hcs : ∃ u0 u1 u2 u3 : Value, cs = #[u0, u1, u2, u3] ) (he : w.heap[eb]? = some (.cells #[.nilIface] 59 (0, 0))) (hne : tb ≠ eb) :
    CallsD Tryz.prog 144 #[.pointer (some ⟨tb, 0, none⟩), .pointer (some ⟨eb, 0, none⟩)] (.panicking (stopC fb)) w fun e u' w' =>
      e = .returned (.tuple #[]) ∧ u' = .panicking [{ v := .iface 193 (.agg #[.iface 127 (.pointer (some ⟨fb, 0, none⟩))]), recovered := true }] ∧ AfterHeader tb eb fb w w' := by
  obtain ⟨u0, u1, u2, u3, rfl⟩ := hcs
  refine callsD_of_wpS Tryz.func144 rfl fun c₀ cs hu => ?_
  apply wpS_seq
  apply wpS_region
  simp [wpOpsS, go_sem, recoverD, hu, stopC, Tryz.ntmps144, Exit.thenS]
  refine wpS_of_wp ?_
  obtain ⟨Q, hQ⟩ : ∃ Q : Exit → Act → World → Prop, (fun e a' w' => bodyPostS Tryz.prog Tryz.f144 c₀ cs (fun e u' w' => e = Ending.returned (.tuple #[]) ∧ u' = .panicking [{ v := .iface 193 (.agg #[.iface 127 (.pointer (some ⟨fb, 0, none⟩))]), recovered := true }] ∧ AfterHeader tb eb fb w w') e a' ({ c₀ with mode := .panicking [{ v := .iface 193 (.agg #[.iface 127 (.pointer (some ⟨fb, 0, none⟩))]), recovered := true }] } :: cs) w') = Q := ⟨_, rfl⟩
  rw [hQ, read1_frame]
  have HQ := Lib.hid hQ
  have HT := Lib.hid ht
  have HE := Lib.hid he
  clear hQ hu ht he
  have ha := assert_stop fb
  go_wp2_with fail
  obtain ⟨V, hV⟩ : ∃ V, (w.alloc (.cells #[.iface 127 (.pointer (some ⟨fb, 0, none⟩))] 193)).alloc (.cells #[.int .u64 0, .string ⟨#[]⟩, .string ⟨#[]⟩, .string ⟨#[]⟩] 78) = V := ⟨_, rfl⟩
  obtain ⟨sb, hsb⟩ : ∃ sb, w.heap.size = sb := ⟨_, rfl⟩
  have HV : Hid (Below w.heap.size w V) := Lib.hid (by rw [← hV]; exact balloc (balloc (Below.refl _ _) _) _)
  have hbs : V.heap[sb]? = some (.cells #[.iface 127 (.pointer (some ⟨fb, 0, none⟩))] 193 (0, 0)) := by rw [← hV, ← hsb]; exact block_alloc (heap_alloc_new _ _) _
  have hbn : V.heap[sb + 1]? = some (.cells #[.int .u64 0, .string ⟨#[]⟩, .string ⟨#[]⟩, .string ⟨#[]⟩] 78 (0, 0)) := by rw [← hV]; exact alloc_new_at _ (by simp [hsb])
  have hbt : V.heap[tb]? = some (.cells #[u0, u1, u2, u3] 78 (0, 0)) := (HV.out.block _ (lt_of_block HT.out)).trans HT.out
  have hbe : V.heap[eb]? = some (.cells #[.nilIface] 59 (0, 0)) := (HV.out.block _ (lt_of_block HE.out)).trans HE.out
  have k0 : V.cell? ⟨sb, 0, none⟩ = some (.iface 127 (.pointer (some ⟨fb, 0, none⟩))) := block_cell hbs 0
  have m0 : V.cell? ⟨sb + 1, 0, none⟩ = some (.int .u64 0) := block_cell hbn 0
  have m1 : V.cell? ⟨sb + 1, 1, none⟩ = some (.string ⟨#[]⟩) := block_cell hbn 1
  have m2 : V.cell? ⟨sb + 1, 2, none⟩ = some (.string ⟨#[]⟩) := block_cell hbn 2
  have m3 : V.cell? ⟨sb + 1, 3, none⟩ = some (.string ⟨#[]⟩) := block_cell hbn 3
  have hts : tb < sb := by have := lt_of_block HT.out; omega
  have hnt : some (sb + 1) ≠ some tb := by simp; omega
  have hst : some sb ≠ some tb := by simp; omega
  have HBT := Lib.hid hbt
  have HBE := Lib.hid hbe
  try rw [hV]
  try simp only [hsb]
  clear hV hbs hbn hbt hbe ha
  refine wp_region_tail 4 3 ((some tb)) (phis [fun u _ => u = (.agg #[.int .u64 0, .string ⟨#[]⟩, .string ⟨#[]⟩, .string ⟨#[]⟩]), fun u _ => u = (.pointer (some ⟨sb, 0, none⟩)), fun u _ => u = (.iface 127 (.pointer (some ⟨fb, 0, none⟩))), fun _ w' => w'.heap[tb]? = some (.cells #[.int .u64 0, .string ⟨#[]⟩, .string ⟨#[]⟩, .string ⟨#[]⟩] 78 (0, 0))]) rfl (by kernel_rfl) (by kernel_rfl) (mono_of ⟨mono_eq, mono_eq, mono_eq, ?m3, trivial⟩) (steps_of 4 ⟨?s0, ?s1, ?s2, ?s3, trivial⟩) ?_
  case m3 =>
    exact ⟨fun u w1 w2 h hb => ext_block h hb, fun hn => absurd rfl hn⟩
  case s0 =>
    refine step_val (v := (.agg #[.int .u64 0, .string ⟨#[]⟩, .string ⟨#[]⟩, .string ⟨#[]⟩])) (fun av wv hE hS hO hD => ?_) (fun _ => rfl)
    have h5 : av.eval (.tmp 5) = (.pointer (some ⟨sb + 1, 0, none⟩)) := hO.2.2 5 rfl
    have f5 := (ev_form av 5).symm.trans h5
    have k0 := extB_cell hE hst k0
    have m0 := extB_cell hE hnt m0
    have m1 := extB_cell hE hnt m1
    have m2 := extB_cell hE hnt m2
    have m3 := extB_cell hE hnt m3
    refine ⟨rfl, ?_⟩
    simp [go_sem, f5, k0, m0, m1, m2, m3]
  case s1 =>
    refine step_val (v := (.pointer (some ⟨sb, 0, none⟩))) (fun av wv hE hS hO hD => ?_) (fun _ => rfl)
    have h3 : av.eval (.tmp 3) = (.pointer (some ⟨sb, 0, none⟩)) := hO.2.2 3 rfl
    have f3 := (ev_form av 3).symm.trans h3
    refine ⟨rfl, ?_⟩
    simp [go_sem, f3]
  case s2 =>
    refine step_val (v := (.iface 127 (.pointer (some ⟨fb, 0, none⟩)))) (fun av wv hE hS hO hD => ?_) (fun _ => rfl)
    have d18 : av.eval (.tmp 18) = (.pointer (some ⟨sb, 0, none⟩)) := hD.1 rfl _ rfl
    have f18 := (ev_form av 18).symm.trans d18
    have k0 := extB_cell hE hst k0
    have m0 := extB_cell hE hnt m0
    have m1 := extB_cell hE hnt m1
    have m2 := extB_cell hE hnt m2
    have m3 := extB_cell hE hnt m3
    refine ⟨rfl, ?_⟩
    simp [go_sem, f18, k0, m0, m1, m2, m3]
  case s3 =>
    refine step_wp (fun av wv hE hS hO hD => ?_)
    have h0 : av.eval (.tmp 0) = (.pointer (some ⟨tb, 0, none⟩)) := hO.2.2 0 rfl
    have f0 := (ev_form av 0).symm.trans h0
    have d17 : av.eval (.tmp 17) = (.agg #[.int .u64 0, .string ⟨#[]⟩, .string ⟨#[]⟩, .string ⟨#[]⟩]) := hD.1 rfl _ rfl
    have f17 := (ev_form av 17).symm.trans d17
    refine ⟨rfl, ?_⟩
    have hq : wv.heap[tb]? = some (.cells #[u0, u1, u2, u3] 78 (0, 0)) := ext_block (w := V.drew) (hS rfl) HBT.out
    have q0 : wv.cell? ⟨tb, 0, none⟩ = some u0 := block_cell hq 0
    have q1 : wv.cell? ⟨tb, 1, none⟩ = some u1 := block_cell hq 1
    have q2 : wv.cell? ⟨tb, 2, none⟩ = some u2 := block_cell hq 2
    have q3 : wv.cell? ⟨tb, 3, none⟩ = some u3 := block_cell hq 3
    have hz : ∀ o, wv.frozen? ⟨tb, o, none⟩ = false := block_free hq
    unfold Oper.wp
    have l0 : tb < wv.heap.size := lt_of_block hq
    have h0 : av.eval (.tmp 0) = (.pointer (some ⟨tb, 0, none⟩)) := hO.2.2 0 rfl
    have f0 := (ev_form av 0).symm.trans h0
    simp [go_sem, f0, f17, hz, l0, q0, q1, q2, q3]
    exact ⟨es_sp (extB_setIn (extB_setIn (extB_setIn (extB_setIn (ExtB_refl _ _) 0 _) 1 _) 2 _) 3 _), undef, (block_setCell (block_setCell (block_setCell (block_setCell hq (o := 0) _) (o := 1) _) (o := 2) _) (o := 3) _)⟩
  intro a' w' hE hO hall
  have hA := act_of_outer (ds := [17, 18, 19]) rfl hO (by kernel_rfl)
  have e17 : (fun u _ => u = (.agg #[.int .u64 0, .string ⟨#[]⟩, .string ⟨#[]⟩, .string ⟨#[]⟩])) (a'.eval (.tmp 17)) w' := hall.1 _ rfl
  have e18 : (fun u _ => u = (.pointer (some ⟨sb, 0, none⟩))) (a'.eval (.tmp 18)) w' := hall.2.1 _ rfl
  have e19 : (fun u _ => u = (.iface 127 (.pointer (some ⟨fb, 0, none⟩)))) (a'.eval (.tmp 19)) w' := hall.2.2.1 _ rfl
  have z3 : (fun _ w' => w'.heap[tb]? = some (.cells #[.int .u64 0, .string ⟨#[]⟩, .string ⟨#[]⟩, .string ⟨#[]⟩] 78 (0, 0))) undef w' := hall.2.2.2.1 _ rfl
  simp only [List.foldl_cons, List.foldl_nil, Act.put, List.setIfInBounds_toArray, List.set_cons_succ, List.set_cons_zero, e17, e18, e19] at hA
  clear hO hall e17 e18 e19
  subst hA
  have HE := Lib.hid (of_drewE hE)
  have HZ := Lib.hid z3
  have hbe : w'.heap[eb]? = some (.cells #[.nilIface] 59 (0, 0)) := extB_block HE.out (by simp; exact fun e => hne e.symm) HBE.out
  have HBE := Lib.hid hbe
  have q0 : w'.cell? ⟨eb, 0, none⟩ = some .nilIface := block_cell hbe 0
  have q1 : w'.frozen? ⟨eb, 0, none⟩ = false := block_free hbe 0
  clear hE z3 hbe
  go_wp2
  rw [← HQ.out]
  have hs1 : (w'.setCell ⟨eb, 0, none⟩ (.iface 127 (.pointer (some ⟨fb, 0, none⟩)))).heap.size = w'.heap.size := by simp
  refine ⟨rfl, _, rfl, .tuple #[], by simp [results, Tryz.results144], rfl, rfl, ?_⟩
  exact ⟨HE.out.os.trans HV.out.os, HE.out.tape.trans HV.out.tape, HE.out.output.trans HV.out.output, by rw [hs1]; exact Nat.le_trans HV.out.size HE.out.size, fun i hi h1 h2 => by
    rw [Below.heap_setCell _ _ _ _ h2]
    exact (HE.out.block i (Nat.lt_of_lt_of_le hi HV.out.size) (by simpa using h1)).trans (HV.out.block i hi), block_setCell_ne HZ.out hne _, block_setCell HBE.out _⟩
def RdHeader (s : ByteArray) (w : World) (e : Ending) (w' : World) : Prop :=
  Below w.heap.size w w' ∧ match objR s (headerGs s) header0 0 with
    | .error f => ∃ fb, e = .returned (.tuple #[zeroHeader, .iface 127 (.pointer (some ⟨fb, 0, none⟩))]) ∧ FltB w' fb f.1 f.2
    | .ok y => Kd header0 y.1 ∧ y.2 ≤ s.size ∧ (∃ rb tb, w.heap.size ≤ rb ∧ LiesHeader rb tb w' y.1) ∧ (if y.2 < s.size then ∃ fb, e = .returned (.tuple #[.agg (cellsHeader y.1), .iface 127 (.pointer (some ⟨fb, 0, none⟩))]) ∧ FltB w' fb 5 y.2 else e = .returned (.tuple #[.agg (cellsHeader y.1), .nilIface]))
set_option maxRecDepth 100000 in
set_option maxHeartbeats 8000000 in
theorem readHeader_any (B : Nat) (s : ByteArray) (w : World) (hT : Tabs B w) (hET : ErrType w) (hB : B ≤ w.heap.size) (hg : 0 < B) (hs : s.size ≤ 9223372036854775807) :
    Calls Tryz.prog 90 #[.string s, .func (.func 85) #[] #[]] w (RdHeader s w) := by
  have HT := Lib.hid hT
  have HET := Lib.hid hET
  have ef := enters_of Tryz.func85 (by kernel_rfl) rfl
  clear hT hET
  go_enter_defers Tryz.func90, Tryz.ntmps90
  go_wp2_with fail
  obtain ⟨tb, htb⟩ : ∃ tb, w.heap.size = tb := ⟨_, rfl⟩
  obtain ⟨W, hW⟩ : ∃ W, (w.alloc (.cells #[.int .u64 0, .string ⟨#[]⟩, .string ⟨#[]⟩, .string ⟨#[]⟩] 78)).alloc (.cells #[.nilIface] 59) = W := ⟨_, rfl⟩
  have WB : Hid (Below w.heap.size w W) := Lib.hid (by rw [← hW]; exact balloc (balloc (Below.refl _ _) _) _)
  have W0 : Hid (W.heap[tb]? = some (.cells #[.int .u64 0, .string ⟨#[]⟩, .string ⟨#[]⟩, .string ⟨#[]⟩] 78 (0, 0))) := Lib.hid (by rw [← hW, ← htb]; exact block_alloc (heap_alloc_new _ _) _)
  have W1 : Hid (W.heap[tb + 1]? = some (.cells #[.nilIface] 59 (0, 0))) := Lib.hid (by rw [← hW]; exact alloc_new_at _ (by simp [htb]))
  have hWs : W.heap.size = tb + 1 + 1 := by rw [← hW]; simp [htb]
  have HTW : Hid (w.heap.size = tb) := Lib.hid htb
  try rw [hW]
  try simp only [htb]
  clear hW htb
  refine (New_any W s 10240).mono ?_
  rintro e w1 ⟨rfl, hw1⟩
  have hm : max (10240 : Int) 0 = 10240 := by decide
  rw [hm] at hw1
  obtain ⟨rb, hrb⟩ : ∃ rb, W.heap.size = rb := ⟨_, rfl⟩
  have R1 : Hid (RdB w1 rb s 0 10240) := Lib.hid (by rw [hw1, ← hrb]; exact heap_alloc_new _ _)
  have WB1 : Hid (Below W.heap.size W w1) := Lib.hid (by rw [hw1]; exact balloc (Below.refl _ _) _)
  have hs1 : w1.heap.size = rb + 1 := by rw [hw1, ← hrb]; simp
  try rw [hrb]
  clear hw1
  go_upto_region 3 with fail
  obtain ⟨V, hV⟩ : ∃ V, w1.alloc (.cells #[.pointer (some ⟨rb, 0, none⟩)] 199) = V := ⟨_, rfl⟩
  have VB : Hid (Below w1.heap.size w1 V) := Lib.hid (by rw [← hV]; exact balloc (Below.refl _ _) _)
  have VQ : Hid (V.heap[rb + 1]? = some (.cells #[.pointer (some ⟨rb, 0, none⟩)] 199 (0, 0))) := Lib.hid (by rw [← hV]; exact alloc_new_at _ hs1)
  try rw [hV]
  try simp only [hs1]
  have hrbt : rb = tb + 1 + 1 := hrb.symm.trans hWs
  have hTW := HTW.out
  have BV : Hid (Below w.heap.size w V) := Lib.hid (bnext (bnext WB.out WB1.out) VB.out)
  have WV : Hid (Below W.heap.size W V) := Lib.hid (bnext WB1.out VB.out)
  have VT : Hid (V.heap[tb]? = some (.cells #[.int .u64 0, .string ⟨#[]⟩, .string ⟨#[]⟩, .string ⟨#[]⟩] 78 (0, 0))) := Lib.hid ((WV.out.block _ (lt_of_block W0.out)).trans W0.out)
  have VE : Hid (V.heap[tb + 1]? = some (.cells #[.nilIface] 59 (0, 0))) := Lib.hid ((WV.out.block _ (lt_of_block W1.out)).trans W1.out)
  have VR : Hid (RdB V rb s 0 10240) := Lib.hid (R1.out.below VB.out)
  have ENV : Hid (RdEnv B V (rb + 1) rb s 0) := Lib.hid ⟨VQ.out, VR.out, HT.out.below BV.out, by omega, by omega, by omega, Nat.zero_le _, hs⟩
  have E : TEnv B (rb + 1) rb tb 4 78 V := ⟨⟨_, VR.out⟩, ⟨_, VT.out⟩, by omega, by omega, by omega, by decide, by decide⟩
  have REC : Hid (RecAt rb tb 78 4 V header0) := Lib.hid (rec_zero VT.out rfl (fun i hi => by
    match i, hi with
    | 0, _ => exact ⟨_, rfl, rfl⟩
    | 1, _ => exact ⟨_, rfl, rfl⟩
    | 2, _ => exact ⟨_, rfl, rfl⟩
    | 3, _ => exact ⟨_, rfl, rfl⟩))
  have HOF := Lib.hid (rofHeader_any (s := s) E)
  have HE := Lib.hid E
  have G : Hid (GOk header0 (headerGs s)) := Lib.hid (HeaderOk s)
  have HRBT := Lib.hid hrbt
  clear hV E hrb hs1 hWs hrbt hTW
  go_wp2_with fail
  refine HOF.out.mono ?_
  rintro e w2 ⟨u, rfl, ⟨g, c, l, rfl, hc, hF, hS⟩, hb⟩
  have hl : (headerGs s).length = l.length := hS.1
  have hg := (HE.out.below hb).apart hF.ex
  have H2 := Lib.hid (robject_any B (rb + 1) rb tb g 0 c header0 78 4 s w2 w2 l (headerGs s) 0 header0 hF.flds hc (show l.length ≤ 1000 by rw [← hl]; exact Nat.le_of_ble_eq_true rfl) hS (Chg.refl _ _ _) hg HE.out.nq HE.out.le HE.out.ne G.out.keys G.out.disj G.out.frames G.out.kinds (fun i => rfl) (REC.out.below hb) (ENV.out.below hb) (fun i hi o ho => rfl))
  have HB := Lib.hid hb
  clear hF hS hb hl hc hg HOF ef
  go_wp2_with fail
  refine H2.out.mono ?_
  intro e w3 hh
  cases hr : objR s (headerGs s) header0 0 with
  | error f =>
    rw [hr] at hh
    have HTH := Lib.hid (getIs_th hh)
    obtain ⟨fb, rfl, hf, hc3⟩ := getIs_err hh
    have HF := Lib.hid hf
    have HC := Lib.hid hc3
    have HR := Lib.hid hr
    clear hh hf hc3 hr H2
    go_wp2
    obtain ⟨cs, hcs, hcn⟩ := HTH.out
    have hce : w3.heap[tb + 1]? = some (.cells #[.nilIface] 59 (0, 0)) := (HC.out.block _ (Nat.lt_of_lt_of_le (lt_of_block VE.out) HB.out.size) (by have := HRBT.out; omega) (by omega)).trans ((HB.out.block _ (lt_of_block VE.out)).trans VE.out)
    refine leaves_cons (f := 144) (args := #[.pointer (some ⟨tb, 0, none⟩), .pointer (some ⟨tb + 1, 0, none⟩)]) (by simp) (by simp [go_sem]) ?_
    refine (read1Header_some tb (tb + 1) fb cs w3 hcs (arr4 hcn) hce (by omega)).mono ?_
    rintro e u' w4 ⟨rfl, rfl, HA⟩
    have y0 : ∀ o, w4.cell? ⟨tb, o, none⟩ = _ := block_cell HA.th
    have y1 : w4.cell? ⟨tb + 1, 0, none⟩ = some (.iface 127 (.pointer (some ⟨fb, 0, none⟩))) := block_cell HA.er 0
    refine ⟨_, by simp [results, Tryz.results90, go_sem, y0, y1]; rfl, ?_⟩
    refine ⟨?_, by
      rw [HR.out]
      refine ⟨fb, rfl, (HA.block fb (lt_of_block HF.out) (fun e => ?_) (fun e => ?_)).trans HF.out⟩
      · subst e; have h9 := hcs.symm.trans HF.out; cases h9
      · subst e; have h9 := hce.symm.trans HF.out; cases h9⟩
    have hsz := HTW.out
    have hb9 := HRBT.out
    refine ⟨HA.os.trans (HC.out.os.trans (HB.out.os.trans BV.out.os)), HA.tape.trans (HC.out.tape.trans (HB.out.tape.trans BV.out.tape)), HA.output.trans (HC.out.output.trans (HB.out.output.trans BV.out.output)), Nat.le_trans BV.out.size (Nat.le_trans HB.out.size (Nat.le_trans HC.out.size HA.size)), fun i hi => ?_⟩
    have l1 := Nat.lt_of_lt_of_le hi BV.out.size
    have l2 := Nat.lt_of_lt_of_le l1 HB.out.size
    exact (HA.block i (Nat.lt_of_lt_of_le l2 HC.out.size) (by omega) (by omega)).trans ((HC.out.block i l2 (by omega) (by omega)).trans ((HB.out.block i l1).trans (BV.out.block i hi)))
  | ok q =>
    rw [hr] at hh
    obtain ⟨rfl, hrd, hle, hx3, hc3⟩ := getIs_ok hh
    have HRD := Lib.hid hrd
    have HC := Lib.hid hc3
    have HR := Lib.hid hr
    have HKD : Hid (Kd header0 q.1) := Lib.hid (objR_kinds G.out.kinds hr (fun i => rfl))
    obtain ⟨_, hth, hlies⟩ := header_of_rec hx3 HKD.out
    have HTH := Lib.hid hth
    have HLI := Lib.hid hlies
    clear hh hrd hx3 hc3 hr H2 hth hlies
    obtain ⟨x, a⟩ := q
    have hts : tb < w3.heap.size := lt_of_block HTH.out
    have HQ3 : Hid (w3.heap[rb + 1]? = some (.cells #[.pointer (some ⟨rb, 0, none⟩)] 199 (0, 0))) := Lib.hid ((HC.out.block _ (Nat.lt_of_lt_of_le (lt_of_block VQ.out) HB.out.size) (by omega) (by have := HRBT.out; omega)).trans ((HB.out.block _ (lt_of_block VQ.out)).trans VQ.out))
    have HE3 : Hid (w3.heap[tb + 1]? = some (.cells #[.nilIface] 59 (0, 0))) := Lib.hid ((HC.out.block _ (Nat.lt_of_lt_of_le (lt_of_block VE.out) HB.out.size) (by have := HRBT.out; omega) (by omega)).trans ((HB.out.block _ (lt_of_block VE.out)).trans VE.out))
    have HET3 : Hid (ErrType w3) := Lib.hid (by
      have h1 := HET.out.below BV.out
      have h2 := h1.below HB.out
      unfold ErrType at h2 ⊢
      rw [World.cell?_of_block (w := w2) (HC.out.block _ (lt_of_cell h2) (show 0 ≠ rb by have := HRBT.out; have := HTW.out; omega) (show 0 ≠ tb by have := HTW.out; omega))]
      exact h2)
    go_upto_region 4 with fail
    obtain ⟨VO, hVO⟩ : ∃ VO : Nat → Option Nat, VO = fun j => if j = 6 then some tb else none := ⟨_, rfl⟩
    have vo6 : VO 6 = some tb := by rw [hVO]; rfl
    have von : ∀ j, j ≠ 6 → VO j = none := fun j h1 => by rw [hVO]; simp [h1]
    have vob : ∀ j b, b ≠ tb → VO j ≠ some b := fun j b hb => by
      by_cases h : j = 6
      · subst h; rw [vo6]; simp; exact fun e => hb e.symm
      · rw [von j h]; simp
    clear hVO
    refine wp_region_tailV 7 VO (fun i j b h1 h2 => by
        by_cases e1 : i = 6
        · by_cases e2 : j = 6
          · rw [e1, e2]
          · rw [von j e2] at h2; cases h2
        · rw [von i e1] at h1; cases h1) (fun _ _ _ => True) (fun _ => True) (fun _ _ _ _ _ => True) (fun _ _ => trivial) trivial
      (phis [fun u _ => u = .agg (cellsHeader x), fun u _ => u = .pointer (some ⟨rb + 1, 0, none⟩), fun u _ => u = .pointer (some ⟨rb + 1, 0, none⟩), fun u _ => u = .pointer (some ⟨rb + 1, 0, none⟩), fun u _ => u = .pointer (some ⟨rb, 0, none⟩), fun u w' => if a < s.size then ∃ fb, u = .iface 127 (.pointer (some ⟨fb, 0, none⟩)) ∧ FltB w' fb 5 a ∧ fb ≠ tb else u = .nilIface, fun _ w' => w'.heap[tb]? = some (.cells (cellsHeader x) 78 (0, 0))]) rfl (by kernel_rfl) (by kernel_rfl)
      (monoV_of ⟨monoV_eq, monoV_eq, monoV_eq, monoV_eq, monoV_eq, ?m5, ?m6, trivial⟩) (fun _ _ _ _ _ => trivial) (fun _ _ _ _ _ _ _ _ _ _ _ => trivial) (stepsV_of 7 ⟨?s0, ?s1, ?s2, ?s3, ?s4, ?s5, ?s6, trivial⟩) ?_
    case m5 =>
      intro j hj u w1 w2 he hp
      by_cases hlt : a < s.size
      · simp only [hlt, if_true] at hp ⊢
        obtain ⟨fb, h1, h2, h3⟩ := hp
        refine ⟨fb, h1, (he.1.block fb (lt_of_block h2) ?_).trans h2, h3⟩
        exact fun e => vob j fb h3 e.symm
      · simp only [hlt, if_false] at hp ⊢; exact hp
    case m6 =>
      intro j hj u w1 w2 he hp
      refine (he.1.block tb (lt_of_block hp) ?_).trans hp
      rw [von j hj]; simp
    case s0 =>
      refine stepV_val (v := .agg (cellsHeader x)) (fun _ _ => trivial) (fun _ _ _ _ => ⟨trivial, trivial⟩) (fun D av wv hE hO hD => ?_) (fun _ => rfl)
      have h6 : ¬ D 6 := hE.notyet 6 _ rfl { on := 0, ground := .data } (by simp) rfl hE.me
      have hb0 : wv.heap[tb]? = some (.cells (cellsHeader x) 78 (0, 0)) := (hE.late 6 h6 tb vo6 hts).trans HTH.out
      have k0 : wv.cell? ⟨tb, 0, none⟩ = some (.int .u64 (x 0).n) := block_cell hb0 0
      have k1 : wv.cell? ⟨tb, 1, none⟩ = some (.string (x 1).s) := block_cell hb0 1
      have k2 : wv.cell? ⟨tb, 2, none⟩ = some (.string (x 2).s) := block_cell hb0 2
      have k3 : wv.cell? ⟨tb, 3, none⟩ = some (.string (x 3).s) := block_cell hb0 3
      have h4 : av.eval (.tmp 4) = .pointer (some ⟨tb, 0, none⟩) := hO.2.2 4 rfl
      have f4 := (ev_form av 4).symm.trans h4
      refine ⟨rfl, ?_⟩
      simp [go_sem, f4, k0, k1, k2, k3]
    case s1 =>
      refine stepV_val (v := .pointer (some ⟨rb + 1, 0, none⟩)) (fun _ _ => trivial) (fun _ _ _ _ => ⟨trivial, trivial⟩) (fun D av wv hE hO hD => ?_) (fun _ => rfl)
      have h6 : av.eval (.tmp 6) = .pointer (some ⟨rb + 1, 0, none⟩) := hO.2.2 6 rfl
      have f6 := (ev_form av 6).symm.trans h6
      refine ⟨rfl, ?_⟩
      simp [go_sem, f6]
    case s2 =>
      refine stepV_val (v := .pointer (some ⟨rb + 1, 0, none⟩)) (fun _ _ => trivial) (fun _ _ _ _ => ⟨trivial, trivial⟩) (fun D av wv hE hO hD => ?_) (fun _ => rfl)
      have d17 : av.eval (.tmp 17) = .pointer (some ⟨rb + 1, 0, none⟩) := hD.1 rfl _ rfl
      have f17 := (ev_form av 17).symm.trans d17
      refine ⟨rfl, ?_⟩
      simp [go_sem, f17]
    case s3 =>
      refine stepV_val (v := .pointer (some ⟨rb + 1, 0, none⟩)) (fun _ _ => trivial) (fun _ _ _ _ => ⟨trivial, trivial⟩) (fun D av wv hE hO hD => ?_) (fun _ => rfl)
      have d18 : av.eval (.tmp 18) = .pointer (some ⟨rb + 1, 0, none⟩) := hD.1 rfl _ rfl
      have f18 := (ev_form av 18).symm.trans d18
      refine ⟨rfl, ?_⟩
      simp [go_sem, f18]
    case s4 =>
      refine stepV_val (v := .pointer (some ⟨rb, 0, none⟩)) (fun _ _ => trivial) (fun _ _ _ _ => ⟨trivial, trivial⟩) (fun D av wv hE hO hD => ?_) (fun _ => rfl)
      have d19 : av.eval (.tmp 19) = .pointer (some ⟨rb + 1, 0, none⟩) := hD.1 rfl _ rfl
      have f19 := (ev_form av 19).symm.trans d19
      have k0 : wv.cell? ⟨rb + 1, 0, none⟩ = some (.pointer (some ⟨rb, 0, none⟩)) := block_cell ((hE.ext.block (rb + 1) (lt_of_block HQ3.out) (fun j => vob j _ (by have := HRBT.out; omega))).trans HQ3.out) 0
      refine ⟨rfl, ?_⟩
      simp [go_sem, f19, k0]
    case s5 =>
      refine stepV_wp (fun D av wv hPP hE hO hD => ?_)
      have d20 : av.eval (.tmp 20) = .pointer (some ⟨rb, 0, none⟩) := hD.1 rfl _ rfl
      have f20 := (ev_form av 20).symm.trans d20
      have hrd : RdB wv rb s a 10240 := (hE.ext.block rb (lt_of_block HRD.out) (fun j => vob j _ (by have := HRBT.out; omega))).trans HRD.out
      have het : ErrType wv := by
        have h2 : ErrType w3.drew := HET3.out
        unfold ErrType at h2 ⊢
        rw [World.cell?_of_block (w := w3.drew) (hE.ext.block _ (lt_of_cell h2) (fun j => vob j _ (show 0 ≠ tb by have := HTW.out; omega)))]
        exact h2
      have hvs : w3.heap.size ≤ wv.heap.size := hE.ext.size
      refine ⟨rfl, wp_of_callR (f := 124) (args := #[.pointer (some ⟨rb, 0, none⟩)]) (R := fun u w2 => Below wv.heap.size wv w2 ∧ (if a < s.size then ∃ fb, u = .iface 127 (.pointer (some ⟨fb, 0, none⟩)) ∧ FltB w2 fb 5 a ∧ fb ≠ tb else u = .nilIface)) (by simp [go_sem, f20]) ((End_any wv rb s a 10240 het hrd hle hs).mono fun e w2 hh => ?_) (fun u w2 ⟨h1, h2⟩ => ⟨u, rfl, esV_of_ext h1 trivial, h2, fun _ _ _ _ _ => ⟨trivial, trivial⟩⟩)⟩
      obtain ⟨h1, h2⟩ := hh
      unfold leftOf at h2
      by_cases hlt : a < s.size
      · simp only [hlt, if_true] at h2 ⊢
        obtain ⟨fb, h3, h4, h5⟩ := h2
        exact ⟨_, h3, h1, fb, rfl, h5, by omega⟩
      · simp only [hlt, if_false] at h2 ⊢
        exact ⟨_, h2, h1, rfl⟩
    case s6 =>
      refine stepV_wp (fun D av wv hPP hE hO hD => ?_)
      have d16 : av.eval (.tmp 16) = .agg (cellsHeader x) := hD.1 rfl _ rfl
      have f16 := (ev_form av 16).symm.trans d16
      have h4 : av.eval (.tmp 4) = .pointer (some ⟨tb, 0, none⟩) := hO.2.2 4 rfl
      have f4 := (ev_form av 4).symm.trans h4
      have hq : wv.heap[tb]? = some (.cells (cellsHeader x) 78 (0, 0)) := (hE.own tb vo6 hts).trans HTH.out
      have k0 : wv.cell? ⟨tb, 0, none⟩ = some (.int .u64 (x 0).n) := block_cell hq 0
      have k1 : wv.cell? ⟨tb, 1, none⟩ = some (.string (x 1).s) := block_cell hq 1
      have k2 : wv.cell? ⟨tb, 2, none⟩ = some (.string (x 2).s) := block_cell hq 2
      have k3 : wv.cell? ⟨tb, 3, none⟩ = some (.string (x 3).s) := block_cell hq 3
      have hz : ∀ o, wv.frozen? ⟨tb, o, none⟩ = false := block_free hq
      have l0 : tb < wv.heap.size := lt_of_block hq
      refine ⟨rfl, ?_⟩
      unfold Oper.wp
      simp [go_sem, f4, f16, hz, l0, k0, k1, k2, k3]
      exact ⟨⟨by rw [vo6]; exact (extB_setIn (extB_setIn (extB_setIn (extB_setIn (ExtB_refl _ _) 0 _) 1 _) 2 _) 3 _), trivial⟩, undef, (block_setCell (block_setCell (block_setCell (block_setCell hq (o := 0) _) (o := 1) _) (o := 2) _) (o := 3) _), fun _ _ _ _ _ => ⟨trivial, trivial⟩⟩
    intro a' w' hE _ hO hall _
    have hA := act_of_outer (ds := [16, 17, 18, 19, 20, 21]) rfl hO (by kernel_rfl)
    have e16 : (fun u (_ : World) => u = .agg (cellsHeader x)) (a'.eval (.tmp 16)) w' := hall.1 _ rfl
    have e17 : (fun u (_ : World) => u = .pointer (some ⟨rb + 1, 0, none⟩)) (a'.eval (.tmp 17)) w' := hall.2.1 _ rfl
    have e18 : (fun u (_ : World) => u = .pointer (some ⟨rb + 1, 0, none⟩)) (a'.eval (.tmp 18)) w' := hall.2.2.1 _ rfl
    have e19 : (fun u (_ : World) => u = .pointer (some ⟨rb + 1, 0, none⟩)) (a'.eval (.tmp 19)) w' := hall.2.2.2.1 _ rfl
    have e20 : (fun u (_ : World) => u = .pointer (some ⟨rb, 0, none⟩)) (a'.eval (.tmp 20)) w' := hall.2.2.2.2.1 _ rfl
    have e21 : (fun u w' => if a < s.size then ∃ fb, u = .iface 127 (.pointer (some ⟨fb, 0, none⟩)) ∧ FltB w' fb 5 a ∧ fb ≠ tb else u = .nilIface) (a'.eval (.tmp 21)) w' := hall.2.2.2.2.2.1 _ rfl
    have z6 : w'.heap[tb]? = some (.cells (cellsHeader x) 78 (0, 0)) := hall.2.2.2.2.2.2.1 _ rfl
    obtain ⟨v21, hv21⟩ : ∃ v, a'.eval (.tmp 21) = v := ⟨_, rfl⟩
    rw [hv21] at e21
    simp only [List.foldl_cons, List.foldl_nil, Act.put, List.setIfInBounds_toArray, List.set_cons_succ, List.set_cons_zero, e16, e17, e18, e19, e20, hv21] at hA
    clear hO hall e16 e17 e18 e19 e20 hv21
    subst hA
    have HX4 : Hid (ExtS VO w3 w') := Lib.hid ⟨hE.os, hE.tape, hE.output, hE.size, hE.block⟩
    have HZ6 := Lib.hid z6
    have hbe : w'.heap[tb + 1]? = some (.cells #[.nilIface] 59 (0, 0)) := (HX4.out.block _ (lt_of_block HE3.out) (fun j => vob j _ (by omega))).trans HE3.out
    have HBE := Lib.hid hbe
    have g0 : w'.cell? ⟨tb + 1, 0, none⟩ = some .nilIface := block_cell hbe 0
    have g1 : w'.frozen? ⟨tb + 1, 0, none⟩ = false := block_free hbe 0
    have HVO : Hid (∀ j b, b ≠ tb → VO j ≠ some b) := Lib.hid vob
    have HFIN : ∀ v, Hid (Below w.heap.size w (w'.setCell ⟨tb + 1, 0, none⟩ v)) := fun v => Lib.hid (by
      have hsz := HTW.out
      have hb9 := HRBT.out
      refine ⟨HX4.out.os.trans (HC.out.os.trans (HB.out.os.trans BV.out.os)), HX4.out.tape.trans (HC.out.tape.trans (HB.out.tape.trans BV.out.tape)), HX4.out.output.trans (HC.out.output.trans (HB.out.output.trans BV.out.output)), by simpa using Nat.le_trans BV.out.size (Nat.le_trans HB.out.size (Nat.le_trans HC.out.size HX4.out.size)), fun i hi => ?_⟩
      have l1 := Nat.lt_of_lt_of_le hi BV.out.size
      have l2 := Nat.lt_of_lt_of_le l1 HB.out.size
      rw [Below.heap_setCell _ _ _ _ (show i ≠ tb + 1 by omega)]
      exact (HX4.out.block i (Nat.lt_of_lt_of_le l2 HC.out.size) (fun j => HVO.out j i (by omega))).trans ((HC.out.block i l2 (by omega) (by omega)).trans ((HB.out.block i l1).trans (BV.out.block i hi))))
    have HLF : ∀ v, Hid (LiesHeader rb tb (w'.setCell ⟨tb + 1, 0, none⟩ v) x) := fun v => Lib.hid (HLI.out.up (fun b h1 h2 => by
      have hb9 := HRBT.out
      rw [Below.heap_setCell _ _ _ _ (show b ≠ tb + 1 by omega)]
      exact HX4.out.block b h2 (fun j => HVO.out j b (by omega))))
    have HTF : ∀ v o, (w'.setCell ⟨tb + 1, 0, none⟩ v).cell? ⟨tb, o, none⟩ = (cellsHeader x)[o]? := fun v o => block_cell (block_setCell_ne HZ6.out (by show tb ≠ tb + 1; omega) v) o
    have HEF : ∀ v, (w'.setCell ⟨tb + 1, 0, none⟩ v).cell? ⟨tb + 1, 0, none⟩ = some v := fun v => block_cell (block_setCell HBE.out v) 0
    have HTFH := Lib.hid HTF
    have HEFH := Lib.hid HEF
    clear hE z6 hbe vo6 von vob HTF HEF
    by_cases hlt : a < s.size
    · simp only [hlt, if_true] at e21
      obtain ⟨fb, rfl, hf, hft⟩ := e21
      have HF := Lib.hid hf
      have HLT := Lib.hid hlt
      clear hf hlt
      go_wp2
      refine leaves_cons (f := 144) (args := #[.pointer (some ⟨tb, 0, none⟩), .pointer (some ⟨tb + 1, 0, none⟩)]) (by simp) (by simp [go_sem]) ?_
      refine (read1Header_idle _ _ _).mono ?_
      rintro e u' w'' ⟨rfl, rfl, rfl⟩
      have y0 := HTFH.out (.iface 127 (.pointer (some ⟨fb, 0, none⟩)))
      have y1 := HEFH.out (.iface 127 (.pointer (some ⟨fb, 0, none⟩)))
      refine ⟨_, by simp [results, Tryz.results90, go_sem, y0, y1]; rfl, ?_⟩
      refine ⟨(HFIN _).out, ?_⟩
      rw [HR.out]
      refine ⟨HKD.out, hle, ⟨rb, tb, by have := HRBT.out; have := HTW.out; omega, (HLF _).out⟩, ?_⟩
      rw [if_pos HLT.out]
      exact ⟨fb, rfl, block_setCell_ne HF.out (by intro e; subst e; have h9 := HBE.out.symm.trans HF.out; cases h9) _⟩
    · simp only [hlt, if_false] at e21
      subst e21
      have HLT := Lib.hid hlt
      clear hlt
      go_wp2
      refine leaves_cons (f := 144) (args := #[.pointer (some ⟨tb, 0, none⟩), .pointer (some ⟨tb + 1, 0, none⟩)]) (by simp) (by simp [go_sem]) ?_
      refine (read1Header_idle _ _ _).mono ?_
      rintro e u' w'' ⟨rfl, rfl, rfl⟩
      have y0 := HTFH.out .nilIface
      have y1 := HEFH.out .nilIface
      refine ⟨_, by simp [results, Tryz.results90, go_sem, y0, y1]; rfl, ?_⟩
      refine ⟨(HFIN _).out, ?_⟩
      rw [HR.out]
      refine ⟨HKD.out, hle, ⟨rb, tb, by have := HRBT.out; have := HTW.out; omega, (HLF _).out⟩, ?_⟩
      rw [if_neg HLT.out]
end Go.Proofs.YtihiaopilnjonaaGreatDoor
