/- Contracts of package unpack: the head of a thing. -/
import Derived.Test.YtmcmapcijncblaaDoorOwn
import Derived.Test.YtmcmapcijncblaaDoorRegion
import Derived.Test.YtmcmapcijncblaaDoorBits
import Derived.WalkMore
import Derived.Lib.ConvBytes
import Derived.Lib.Strings
namespace Go.Proofs.YtmcmapcijncblaaDoor
set_option linter.unusedSimpArgs false
set_option linter.unusedVariables false
open Go.RowKit

structure URow where
  lo : Int
  hi : Int
  size : Int
  least : Int
abbrev URow.val (r : URow) : Value := .agg #[.int .u8 r.lo, .int .u8 r.hi, .int .i64 r.size, .int .u64 r.least]
def URow.cells (r : URow) : List Value := [.int .u8 r.lo, .int .u8 r.hi, .int .i64 r.size, .int .u64 r.least]
theorem URow.cells_len (r : URow) : r.cells.length = 4 := rfl
theorem URow.cells_one (r : URow) : ∀ u ∈ r.cells, u.oneCell' = true := by intro u hu; simp only [URow.cells, List.mem_cons, List.not_mem_nil, or_false] at hu; rcases hu with rfl | rfl | rfl | rfl <;> rfl
def URow.zero : URow := ⟨0, 0, 0, 0⟩
def unth (l : List URow) (i : Nat) : URow := l.getD i URow.zero
theorem unth_eq (l : List URow) (i : Nat) (h : i < l.length) : unth l i = l[i] := by unfold unth; rw [List.getD_eq_getElem?_getD, List.getElem?_eq_getElem h]; rfl
structure URowAt (w : World) (b o : Nat) (r : URow) : Prop where
  c0 : w.cell? ⟨b, o, none⟩ = some (.int .u8 r.lo)
  c1 : w.cell? ⟨b, o + 1, none⟩ = some (.int .u8 r.hi)
  c2 : w.cell? ⟨b, o + 2, none⟩ = some (.int .i64 r.size)
  c3 : w.cell? ⟨b, o + 3, none⟩ = some (.int .u64 r.least)
theorem URowAt.below {w w' : World} {b o : Nat} {r : URow} (h : URowAt w b o r) (hb : Below w.heap.size w w') : URowAt w' b o r := by
  have hl := lt_of_cell h.c0
  have e : ∀ q, w'.cell? ⟨b, q, none⟩ = w.cell? ⟨b, q, none⟩ := fun q => hb.cell (p := ⟨b, q, none⟩) hl
  obtain ⟨c0, c1, c2, c3⟩ := h
  constructor <;> (rw [e]; assumption)
def URows (w : World) (a : Option Addr) (l : List URow) : Prop := ∀ i, i < len l → ∃ b off, a = some ⟨b, off, none⟩ ∧ URowAt w b (off + i * 4) (unth l i)
theorem URows.nil (w : World) (a : Option Addr) : URows w a [] := fun i hi => absurd hi (by simp [len])
theorem URows.below {w w' : World} {a : Option Addr} {l : List URow} (h : URows w a l) (hb : Below w.heap.size w w') : URows w' a l := fun i hi => by
  obtain ⟨b, off, rfl, hc⟩ := h i hi
  exact ⟨b, off, rfl, hc.below hb⟩
theorem URows.drew {w w' : World} {a : Option Addr} {l : List URow} (h : URows w a l) (hb : Drew w w') : URows w' a l := h.below (hb.below _)
theorem URows.take {w : World} {a : Option Addr} {l : List URow} (h : URows w a l) (k : Nat) : URows w a (l.take k) := fun i hi => by
  have hi2 : i < l.length ∧ i < k := by simp only [len, List.length_take] at hi; omega
  have hi3 : i < (l.take k).length := hi
  have e : unth (l.take k) i = unth l i := by rw [unth_eq l i hi2.1, unth_eq _ i hi3, List.getElem_take]
  rw [e]; exact h i hi2.1
theorem URows.drop {w : World} {b off : Nat} {l : List URow} (h : URows w (some ⟨b, off, none⟩) l) (k : Nat) : URows w (some ⟨b, off + k * 4, none⟩) (l.drop k) := fun i hi => by
  have hi2 : k + i < l.length := by simp only [len, List.length_drop] at hi; omega
  have hi3 : i < (l.drop k).length := hi
  have e : unth (l.drop k) i = unth l (k + i) := by rw [unth_eq l _ hi2, unth_eq _ i hi3, List.getElem_drop]
  obtain ⟨b', off', e2, hc⟩ := h (k + i) hi2
  cases e2
  exact ⟨b, _, rfl, by rw [e, show off + k * 4 + i * 4 = off + (k + i) * 4 by omega]; exact hc⟩
theorem URows.own {w : World} {base e n : Nat} {v : Value} {l : List URow} (h : w.ownsRow base e 4 v n (l.flatMap URow.cells)) : ∃ a cap, v = .slice a (len l) cap ∧ URows w a l ∧ len l ≤ cap := by
  have hn : len l = n := by have := h.1; rw [flat_length URow.cells 4 URow.cells_len] at this; rw [len_eq]; omega
  obtain ⟨h1, h2⟩ := h
  rcases h2 with ⟨rfl, h2⟩ | ⟨g, cap, cur, rfl, hg, hh, hc1, hc2, hc3, hc4⟩
  · obtain rfl : l = [] := List.eq_nil_of_length_eq_zero (by rw [← len_eq]; omega)
    exact ⟨none, 0, rfl, URows.nil _ _, Nat.le_refl _⟩
  · refine ⟨some ⟨g, 0, none⟩, cap, by rw [hn], fun i hi => ⟨g, 0, rfl, ?_⟩, by omega⟩
    have hown : w.ownsRow base e 4 (.slice (some ⟨g, 0, none⟩) n cap) n (l.flatMap URow.cells) := ⟨h1, .inr ⟨g, cap, cur, rfl, hg, hh, hc1, hc2, hc3, hc4⟩⟩
    have key : ∀ r, r < 4 → w.cell? ⟨g, 0 + i * 4 + r, none⟩ = (unth l i).cells[r]? := fun r hr => by
      have := hown.cellAt (i * 4 + r) (by rw [← hn]; omega)
      rw [Nat.zero_add, this, flat_get URow.cells 4 URow.cells_len l i r hi hr, unth_eq l i hi]
    exact ⟨key 0 (by decide), key 1 (by decide), key 2 (by decide), key 3 (by decide)⟩
theorem URows.block {w : World} {g : Nat} {l : List URow} {t : TypeId} {fr : Nat × Nat} (h : w.heap[g]? = some (.cells (l.flatMap URow.cells).toArray t fr)) : URows w (some ⟨g, 0, none⟩) l := fun i hi => ⟨g, 0, rfl, by
  have key : ∀ r, r < 4 → w.cell? ⟨g, 0 + i * 4 + r, none⟩ = (unth l i).cells[r]? := fun r hr => by
    rw [Nat.zero_add, block_cell h, List.getElem?_toArray, flat_get URow.cells 4 URow.cells_len l i r hi hr, unth_eq l i hi]
  exact ⟨key 0 (by decide), key 1 (by decide), key 2 (by decide), key 3 (by decide)⟩⟩

/-- A byte of a text, by its place. -/
def byte (s : ByteArray) (i : Nat) : Int := (s.data.toList.getD i 0).toNat
theorem byte_bd (s : ByteArray) (i : Nat) : 0 ≤ byte s i ∧ byte s i ≤ 255 := by unfold byte; have := UInt8.toNat_lt (s.data.toList.getD i 0); omega
theorem ext_size (s : ByteArray) {q : Nat} (h : 1 + q ≤ s.size) : (s.extract 1 (1 + q)).size = q := by simp [ByteArray.size_extract]; omega
theorem ext_byte (s : ByteArray) {q j : Nat} (h : 1 + q ≤ s.size) (hj : j < q) : byte (s.extract 1 (1 + q)) j = byte s (1 + j) := by
  unfold byte
  rw [Lib.extract_data, List.getD_eq_getElem?_getD, List.getD_eq_getElem?_getD, List.getElem?_take, if_pos (by omega), List.getElem?_drop]
theorem conv_bytes (w : World) (s : ByteArray) : ∃ cap w', (convert 9 22 (.string s)).run Tryd.prog w = .ok (.slice (some ⟨w.heap.size, 0, none⟩) s.size cap) w' ∧ Below w.heap.size w w' ∧ w'.heap.size = w.heap.size + 1 ∧ ∀ j, j < s.size → w'.cell? ⟨w.heap.size, j, none⟩ = some (.int .u8 (byte s j)) := by
  have h : Below w.heap.size w (w.drew.alloc (.cells (Lib.bytesCells w 5 s) 5)) := ((Below.refl _ _).drew).alloc (by simp) _
  exact ⟨_, _, Lib.run_convert_string_bytes w 9 22 5 s Tryd.underlying9 Tryd.underlying22 Tryd.underlying5, ⟨h.os, h.tape, h.output, by rw [Lib.bytesWorld_size]; omega, fun i hi => Lib.bytesWorld_at_old _ _ _ _ hi⟩, Lib.bytesWorld_size _ _ _, fun j hj => Lib.bytesWorld_cell w _ s j hj⟩

/-- What is given up, as the frames below hand it on. -/
def chainOf (k : Int) : List PanicEntry := [{ v := .iface 34 (.int .i64 k), recovered := false }]

theorem stop_any (k : Int) (w : World) : Calls Tryd.prog 37 #[.int .i64 k] w fun e w' => e = .panicked (chainOf k) ∧ w' = w := by
  go_enter Tryd.func37, Tryd.ntmps37
  go_wp2
  exact ⟨rfl, rfl, rfl⟩

/-- The number of so many bytes from the second one on. -/
def be (s : ByteArray) : Nat → Int
  | 0 => 0
  | k + 1 => be s k * 256 + byte s (1 + k)
/-- What the head of a thing of these rows is: an error's number, or the number and what follows. -/
def headOf (s : ByteArray) (rows : List URow) : Except Int (Int × ByteArray) :=
  if s.size = 0 then .error 4
  else match rows.find? (fun r => decide (r.lo ≤ byte s 0) && decide (byte s 0 ≤ r.hi)) with
    | none => .error 5
    | some r =>
      if (s.size : Int) < 1 + r.size then .error 4
      else if (if r.size = 0 then byte s 0 - r.lo else be s r.size.toNat) < r.least then .error 5
      else .ok (if r.size = 0 then byte s 0 - r.lo else be s r.size.toNat, s.extract (1 + r.size.toNat) s.size)

structure URow.Ok (r : URow) : Prop where
  lo0 : 0 ≤ r.lo
  hi1 : r.hi ≤ 255
  sz0 : 0 ≤ r.size
  sz1 : r.size ≤ 8
  le0 : 0 ≤ r.least
  le1 : r.least ≤ 4294967296

/-- What comes of it. -/
def HeadIs (res : Except Int (Int × ByteArray)) (w : World) (e : Ending) (w' : World) : Prop :=
  Below w.heap.size w w' ∧ match res with
    | .ok x => e = .returned (.agg #[.int .u64 x.1, .string x.2])
    | .error k => e = .panicked (chainOf k)
theorem headIs_ok {n : Int} {rest : ByteArray} {w w' : World} {e : Ending} (h : HeadIs (.ok (n, rest)) w e w') : e = .returned (.agg #[.int .u64 n, .string rest]) ∧ Below w.heap.size w w' := ⟨h.2, h.1⟩
theorem headIs_err {k : Int} {w w' : World} {e : Ending} (h : HeadIs (.error k) w e w') : e = .panicked (chainOf k) ∧ Below w.heap.size w w' := ⟨h.2, h.1⟩

theorem byte0 (s : ByteArray) (h : 0 < s.size) : (s[0].toNat : Int) = byte s 0 := by
  unfold byte
  rw [List.getD_eq_getElem?_getD, List.getElem?_eq_getElem (by simpa using h)]; rfl

theorem head_find {s : ByteArray} {l : List URow} {k : Nat} (hk : k < len l) (hn : ∀ j, j < k → ¬ ((unth l j).lo ≤ byte s 0 ∧ byte s 0 ≤ (unth l j).hi)) (hy : (unth l k).lo ≤ byte s 0 ∧ byte s 0 ≤ (unth l k).hi) :
    l.find? (fun r => decide (r.lo ≤ byte s 0) && decide (byte s 0 ≤ r.hi)) = some (unth l k) := by
  rw [unth_eq l k hk] at hy ⊢
  rw [List.find?_eq_some_iff_getElem]
  refine ⟨by simp [hy], k, hk, rfl, fun j hj => ?_⟩
  have hjl : j < l.length := Nat.lt_trans hj hk
  have := hn j hj
  rw [unth_eq l j hjl] at this
  simp only [Bool.not_eq_true', Bool.and_eq_false_iff, decide_eq_false_iff_not]
  by_cases h : l[j].lo ≤ byte s 0
  · exact .inr fun h2 => this ⟨h, h2⟩
  · exact .inl h
theorem head_none {s : ByteArray} {l : List URow} (hs : 0 < s.size) (hn : ∀ j, j < len l → ¬ ((unth l j).lo ≤ byte s 0 ∧ byte s 0 ≤ (unth l j).hi)) : headOf s l = .error 5 := by
  unfold headOf
  rw [if_neg (by omega)]
  have : l.find? (fun r => decide (r.lo ≤ byte s 0) && decide (byte s 0 ≤ r.hi)) = none := by
    rw [List.find?_eq_none]
    intro x hx
    obtain ⟨j, hj, rfl⟩ := List.getElem_of_mem hx
    have := hn j hj
    rw [unth_eq l j hj] at this
    simp only [Bool.and_eq_true, decide_eq_true_eq, not_and]
    exact fun h h2 => this ⟨h, h2⟩
  rw [this]
theorem head_row {s : ByteArray} {l : List URow} {r : URow} (hs : 0 < s.size) (h : l.find? (fun r => decide (r.lo ≤ byte s 0) && decide (byte s 0 ≤ r.hi)) = some r) :
    headOf s l = if (s.size : Int) < 1 + r.size then .error 4
      else if (if r.size = 0 then byte s 0 - r.lo else be s r.size.toNat) < r.least then .error 5
      else .ok (if r.size = 0 then byte s 0 - r.lo else be s r.size.toNat, s.extract (1 + r.size.toNat) s.size) := by
  unfold headOf
  rw [if_neg (by omega), h]

/-- The number, when so many bytes have been taken. -/
def numAt (s : ByteArray) (r : URow) (j : Nat) : Int := if r.size = 0 then byte s 0 - r.lo else be s j
theorem be_bd (s : ByteArray) : ∀ j, 0 ≤ be s j ∧ be s j < 256 ^ j
  | 0 => ⟨by simp [be], by simp [be]⟩
  | j + 1 => by
    have := be_bd s j
    have := byte_bd s (1 + j)
    rw [be, Int.pow_succ]
    omega
theorem numAt_bd {s : ByteArray} {r : URow} {j : Nat} (hj : (j : Int) ≤ 8) (h : r.Ok) (hlo : r.lo ≤ byte s 0) : 0 ≤ numAt s r j ∧ numAt s r j ≤ 18446744073709551615 := by
  unfold numAt
  have hb := byte_bd s 0
  have hl := h.lo0
  split
  · omega
  · have h1 := be_bd s j
    have h2 : (256 : Int) ^ j ≤ 256 ^ 8 := by
      obtain ⟨d, hd⟩ : ∃ d, 8 = j + d := ⟨8 - j, by omega⟩
      rw [hd, Int.pow_add]
      have h3 : (0 : Int) < 256 ^ j := Int.pow_pos (by decide)
      have h4 : (0 : Int) < 256 ^ d := Int.pow_pos (by decide)
      have h5 := Int.mul_le_mul_of_nonneg_left (show (1 : Int) ≤ 256 ^ d by omega) (Int.le_of_lt h3)
      rw [Int.mul_one] at h5; exact h5
    have h5 : (256 : Int) ^ 8 = 18446744073709551616 := by decide
    omega
theorem numAt_lt {s : ByteArray} {r : URow} {j : Nat} (hj : j ≤ 7) (h : r.Ok) (hlo : r.lo ≤ byte s 0) : numAt s r j ≤ 72057594037927935 := by
  unfold numAt
  have hb := byte_bd s 0
  have hl := h.lo0
  split
  · omega
  · have h1 := be_bd s j
    have h2 : (256 : Int) ^ j ≤ 256 ^ 7 := by
      obtain ⟨d, hd⟩ : ∃ d, 7 = j + d := ⟨7 - j, by omega⟩
      rw [hd, Int.pow_add]
      have h3 : (0 : Int) < 256 ^ j := Int.pow_pos (by decide)
      have h4 : (0 : Int) < 256 ^ d := Int.pow_pos (by decide)
      have h5 := Int.mul_le_mul_of_nonneg_left (show (1 : Int) ≤ 256 ^ d by omega) (Int.le_of_lt h3)
      rw [Int.mul_one] at h5; exact h5
    have h5 : (256 : Int) ^ 7 = 72057594037927936 := by decide
    omega
theorem numAt_succ (s : ByteArray) (r : URow) (j : Nat) (h : r.size ≠ 0) : numAt s r (j + 1) = numAt s r j * 256 + byte s (1 + j) := by
  unfold numAt; rw [if_neg h, if_neg h]; rfl

set_option maxRecDepth 100000 in
set_option maxHeartbeats 2000000 in
theorem head_any (s : ByteArray) (a : Option Addr) (cap : Nat) (l : List URow) (w : World) (hs : s.size ≤ 9223372036854775807) (hl0 : 0 < len l) (hl : len l ≤ 100) (hc : URows w a l) (hok : ∀ i, (unth l i).Ok) :
    Calls Tryd.prog 26 #[.string s, .slice a (len l) cap] w (HeadIs (headOf s l) w) := by
  have HC := Lib.hid hc
  have HO := Lib.hid hok
  clear hc hok
  by_cases h0 : s.size = 0
  · have he : s.toList.isEmpty = true := by rw [ByteArray.toList_eq]; cases s with | mk d => simp_all [ByteArray.size]
    have E : Hid (headOf s l = .error 4) := Lib.hid (by unfold headOf; rw [if_pos h0])
    clear h0
    go_enter Tryd.func26, Tryd.ntmps26
    go_wp2
    go_step3
    go_wp2_with fail
    refine (stop_any 4 _).mono ?_
    rintro e w1 ⟨rfl, rfl⟩
    go_wp2
    rw [E.out]
    exact ⟨rfl, by (repeat (first | exact Below.refl _ _ | assumption | (refine bdrew ?_) | (refine bdrewN ?_ _) | (refine balloc ?_ _) | (refine bset ?_ (by first | omega | (simp; done) | (simp; omega)) _) | (refine bnext ?_ (by assumption)))), rfl⟩
  have he : s.toList.isEmpty = false := by rw [ByteArray.toList_eq]; cases s with | mk d => simp_all [ByteArray.size]
  have hs0 : 0 < s.size := by omega
  clear h0
  go_enter Tryd.func26, Tryd.ntmps26
  go_wp2
  go_step3
  go_wp2
  go_step3
  go_wp2
  go_loopw [16] (fun i wr => ∃ k : Nat, k < len l ∧ i = .int .i64 k ∧ Below w.heap.size w wr ∧ Hid (∀ j, j < k → ¬ ((unth l j).lo ≤ byte s 0 ∧ byte s 0 ≤ (unth l j).hi)) ∧
    Hid (wr.heap[w.heap.size]? = some (.cells #[.int .u64 0, .string ⟨#[]⟩] 71 (0, 0))) ∧ Hid (wr.heap[w.heap.size + 1]? = some (.cells #[.int .u8 0, .int .u8 0, .int .i64 0, .int .u64 0] 96 (0, 0)))) (fun i _ => len l - (intOf i).toNat)
  case atStart => exact ⟨0, hl0, rfl, (by (repeat (first | exact Below.refl _ _ | assumption | (refine bdrew ?_) | (refine bdrewN ?_ _) | (refine balloc ?_ _) | (refine bset ?_ (by first | omega | (simp; done) | (simp; omega)) _) | (refine bnext ?_ (by assumption))))), fun j hj => absurd hj (by omega), (by (repeat (first | exact alloc_new_at _ (by repeat (first | rfl | refine alloc_size _ ?_)) | refine block_alloc ?_ _))), (by (repeat (first | exact alloc_new_at _ (by repeat (first | rfl | refine alloc_size _ ?_)) | refine block_alloc ?_ _)))⟩
  case round =>
    obtain ⟨k, hk, rfl, hd, hn, hB0, hB1⟩ := hrel
    have hlt := hk
    obtain ⟨b, off, rfl, ⟨c0, c1, c2, c3⟩⟩ := HC.out.below hd k hlt
    have b0 : (k : Int) < len l := by omega
    have b1 : k < len l := by omega
    obtain ⟨z, hz⟩ : ∃ z, z = byte s 0 := ⟨_, rfl⟩
    have hz' : (s[0].toNat : Int) = z := by rw [hz]; exact byte0 s hs0
    have o1 := HO.out k
    have z0 : 0 ≤ z := by rw [hz]; unfold byte; omega
    have z1 : z ≤ 255 := by rw [hz]; unfold byte; have := UInt8.toNat_lt (s.data.toList.getD 0 0); omega
    have HZ := Lib.hid hz
    have sz : w.heap.size + 1 < wr.heap.size := lt_of_block hB1.out
    go_wp2_with fail
    obtain ⟨W, hW⟩ : ∃ W, wr.alloc (.cells #[.int .u8 (unth l k).lo, .int .u8 (unth l k).hi, .int .i64 (unth l k).size, .int .u64 (unth l k).least] 96) = W := ⟨_, rfl⟩
    have HB0 := Lib.hid (block_alloc hB0.out (.cells #[.int .u8 (unth l k).lo, .int .u8 (unth l k).hi, .int .i64 (unth l k).size, .int .u64 (unth l k).least] 96))
    have HB1 := Lib.hid (block_alloc hB1.out (.cells #[.int .u8 (unth l k).lo, .int .u8 (unth l k).hi, .int .i64 (unth l k).size, .int .u64 (unth l k).least] 96))
    have HBN := Lib.hid (heap_alloc_new wr (.cells #[.int .u8 (unth l k).lo, .int .u8 (unth l k).hi, .int .i64 (unth l k).size, .int .u64 (unth l k).least] 96))
    have HD := Lib.hid (balloc hd (.cells #[.int .u8 (unth l k).lo, .int .u8 (unth l k).hi, .int .i64 (unth l k).size, .int .u64 (unth l k).least] 96))
    rw [hW] at HB0 HB1 HBN HD ⊢
    have q0 : W.cell? ⟨wr.heap.size, 0, none⟩ = some (.int .u8 (unth l k).lo) := block_cell HBN.out 0
    have q1 : W.cell? ⟨wr.heap.size, 1, none⟩ = some (.int .u8 (unth l k).hi) := block_cell HBN.out 1
    clear hW hd hz hB0 hB1 c0 c1 c2 c3
    by_cases m1 : (unth l k).lo ≤ z
    · have M1 : decide ((unth l k).lo ≤ z) = true := by simpa using m1
      by_cases m2 : z ≤ (unth l k).hi
      · obtain ⟨x2, hx2⟩ : ∃ x2, x2 = true := ⟨_, rfl⟩
        have M2 : decide (z ≤ (unth l k).hi) = x2 := by rw [hx2]; simpa using m2
        --REGION sextant/unpack.head 7 head7a
        refine wp_region_all 1000 (none) (phis [fun u _ => u = (.string s), fun u _ => u = (.int .u8 z), fun u _ => u = (.pointer (some ⟨wr.heap.size, 0, none⟩)), fun u _ => u = (.int .u8 (unth l k).lo), fun u _ => u = (.bool true), fun u _ => u = (.bool true), fun u _ => u = (.string s), fun u _ => u = (.int .u8 z), fun u _ => u = (.pointer (some ⟨wr.heap.size, 1, none⟩)), fun u _ => u = (.int .u8 (unth l k).hi), fun u _ => u = (.bool x2), fun u _ => u = (.bool x2), fun u _ => u = (.bool x2)]) rfl (by kernel_rfl) (mono_of ⟨mono_eq, mono_eq, mono_eq, mono_eq, mono_eq, mono_eq, mono_eq, mono_eq, mono_eq, mono_eq, mono_eq, mono_eq, mono_eq, trivial⟩) (steps_of 13 ⟨?s0, ?s1, ?s2, ?s3, ?s4, ?s5, ?s6, ?s7, ?s8, ?s9, ?s10, ?s11, ?s12, trivial⟩) ?_
        case s0 =>
          refine step_val (v := (.string s)) (fun av wv hE hS hO hD => ?_) (fun _ => rfl)
          have h0 : av.eval (.tmp 0) = (.string s) := hO.2.2 0 rfl
          have f0 := (ev_form av 0).symm.trans h0
          refine ⟨rfl, ?_⟩
          simp [go_sem, f0, hz', hs0, M1, M2]
        case s1 =>
          refine step_val (v := (.int .u8 z)) (fun av wv hE hS hO hD => ?_) (fun _ => rfl)
          have d22 : av.eval (.tmp 22) = (.string s) := hD.1 rfl _ rfl
          have f22 := (ev_form av 22).symm.trans d22
          refine ⟨rfl, ?_⟩
          simp [go_sem, f22, hz', hs0, M1, M2]
        case s2 =>
          refine step_val (v := (.pointer (some ⟨wr.heap.size, 0, none⟩))) (fun av wv hE hS hO hD => ?_) (fun _ => rfl)
          have h7 : av.eval (.tmp 7) = (.pointer (some ⟨wr.heap.size, 0, none⟩)) := hO.2.2 7 rfl
          have f7 := (ev_form av 7).symm.trans h7
          refine ⟨rfl, ?_⟩
          simp [go_sem, f7, hz', hs0, M1, M2]
        case s3 =>
          refine step_val (v := (.int .u8 (unth l k).lo)) (fun av wv hE hS hO hD => ?_) (fun _ => rfl)
          have d24 : av.eval (.tmp 24) = (.pointer (some ⟨wr.heap.size, 0, none⟩)) := hD.1 rfl _ rfl
          have f24 := (ev_form av 24).symm.trans d24
          have q0 := extB_cell hE (by simp) q0
          have q1 := extB_cell hE (by simp) q1
          refine ⟨rfl, ?_⟩
          simp [go_sem, f24, q0, q1, hz', hs0, M1, M2]
        case s4 =>
          refine step_val (v := (.bool true)) (fun av wv hE hS hO hD => ?_) (fun _ => rfl)
          have d23 : av.eval (.tmp 23) = (.int .u8 z) := hD.1 rfl _ rfl
          have f23 := (ev_form av 23).symm.trans d23
          have d25 : av.eval (.tmp 25) = (.int .u8 (unth l k).lo) := hD.2.1 rfl _ rfl
          have f25 := (ev_form av 25).symm.trans d25
          refine ⟨rfl, ?_⟩
          simp [go_sem, f23, f25, hz', hs0, M1, M2]
        case s5 =>
          refine step_val (v := (.bool true)) (fun av wv hE hS hO hD => ?_) (fun _ => rfl)
          have d26 : av.eval (.tmp 26) = (.bool true) := hD.1 rfl _ rfl
          have f26 := (ev_form av 26).symm.trans d26
          refine ⟨rfl, ?_⟩
          simp [go_sem, f26, hz', hs0, M1, M2]
        case s6 =>
          refine step_val (v := (.string s)) (fun av wv hE hS hO hD => ?_) (fun _ => rfl)
          have h0 : av.eval (.tmp 0) = (.string s) := hO.2.2 0 rfl
          have f0 := (ev_form av 0).symm.trans h0
          have d27 : av.eval (.tmp 27) = (.bool true) := hD.1 rfl _ rfl
          have f27 := (ev_form av 27).symm.trans d27
          refine ⟨(wanted_of (d := 27) (b := true) (want := true) rfl rfl rfl d27), ?_⟩
          simp [go_sem, f0, f27, hz', hs0, M1, M2]
        case s7 =>
          refine step_val (v := (.int .u8 z)) (fun av wv hE hS hO hD => ?_) (fun _ => rfl)
          have d28 : av.eval (.tmp 28) = (.string s) := hD.1 rfl _ rfl
          have f28 := (ev_form av 28).symm.trans d28
          have d27 : av.eval (.tmp 27) = (.bool true) := hD.2.1 rfl _ rfl
          have f27 := (ev_form av 27).symm.trans d27
          refine ⟨(wanted_of (d := 27) (b := true) (want := true) rfl rfl rfl d27), ?_⟩
          simp [go_sem, f28, f27, hz', hs0, M1, M2]
        case s8 =>
          refine step_val (v := (.pointer (some ⟨wr.heap.size, 1, none⟩))) (fun av wv hE hS hO hD => ?_) (fun _ => rfl)
          have h7 : av.eval (.tmp 7) = (.pointer (some ⟨wr.heap.size, 0, none⟩)) := hO.2.2 7 rfl
          have f7 := (ev_form av 7).symm.trans h7
          have d27 : av.eval (.tmp 27) = (.bool true) := hD.1 rfl _ rfl
          have f27 := (ev_form av 27).symm.trans d27
          refine ⟨(wanted_of (d := 27) (b := true) (want := true) rfl rfl rfl d27), ?_⟩
          simp [go_sem, f7, f27, hz', hs0, M1, M2]
        case s9 =>
          refine step_val (v := (.int .u8 (unth l k).hi)) (fun av wv hE hS hO hD => ?_) (fun _ => rfl)
          have d30 : av.eval (.tmp 30) = (.pointer (some ⟨wr.heap.size, 1, none⟩)) := hD.1 rfl _ rfl
          have f30 := (ev_form av 30).symm.trans d30
          have d27 : av.eval (.tmp 27) = (.bool true) := hD.2.1 rfl _ rfl
          have f27 := (ev_form av 27).symm.trans d27
          have q0 := extB_cell hE (by simp) q0
          have q1 := extB_cell hE (by simp) q1
          refine ⟨(wanted_of (d := 27) (b := true) (want := true) rfl rfl rfl d27), ?_⟩
          simp [go_sem, f30, f27, q0, q1, hz', hs0, M1, M2]
        case s10 =>
          refine step_val (v := (.bool x2)) (fun av wv hE hS hO hD => ?_) (fun _ => rfl)
          have d29 : av.eval (.tmp 29) = (.int .u8 z) := hD.1 rfl _ rfl
          have f29 := (ev_form av 29).symm.trans d29
          have d31 : av.eval (.tmp 31) = (.int .u8 (unth l k).hi) := hD.2.1 rfl _ rfl
          have f31 := (ev_form av 31).symm.trans d31
          have d27 : av.eval (.tmp 27) = (.bool true) := hD.2.2.1 rfl _ rfl
          have f27 := (ev_form av 27).symm.trans d27
          refine ⟨(wanted_of (d := 27) (b := true) (want := true) rfl rfl rfl d27), ?_⟩
          simp [go_sem, f29, f31, f27, hz', hs0, M1, M2]
        case s11 =>
          refine step_val (v := (.bool x2)) (fun av wv hE hS hO hD => ?_) (fun _ => rfl)
          have d27 : av.eval (.tmp 27) = (.bool true) := hD.1 rfl _ rfl
          have f27 := (ev_form av 27).symm.trans d27
          have d32 : av.eval (.tmp 32) = (.bool x2) := hD.2.1 rfl _ rfl
          have f32 := (ev_form av 32).symm.trans d32
          refine ⟨rfl, ?_⟩
          simp [go_sem, f27, f32, hz', hs0, M1, M2]
        case s12 =>
          refine step_val (v := (.bool x2)) (fun av wv hE hS hO hD => ?_) (fun _ => rfl)
          have d33 : av.eval (.tmp 33) = (.bool x2) := hD.1 rfl _ rfl
          have f33 := (ev_form av 33).symm.trans d33
          refine ⟨rfl, ?_⟩
          simp [go_sem, f33, hz', hs0, M1, M2]
        intro a' w' hE hO hall
        have hA := act_of_outer (ds := [22, 23, 24, 25, 26, 27, 28, 29, 30, 31, 32, 33, 21]) rfl hO (by kernel_rfl)
        have e22 : (fun u _ => u = (.string s)) (a'.eval (.tmp 22)) w' := hall.1 _ rfl
        have e23 : (fun u _ => u = (.int .u8 z)) (a'.eval (.tmp 23)) w' := hall.2.1 _ rfl
        have e24 : (fun u _ => u = (.pointer (some ⟨wr.heap.size, 0, none⟩))) (a'.eval (.tmp 24)) w' := hall.2.2.1 _ rfl
        have e25 : (fun u _ => u = (.int .u8 (unth l k).lo)) (a'.eval (.tmp 25)) w' := hall.2.2.2.1 _ rfl
        have e26 : (fun u _ => u = (.bool true)) (a'.eval (.tmp 26)) w' := hall.2.2.2.2.1 _ rfl
        have e27 : (fun u _ => u = (.bool true)) (a'.eval (.tmp 27)) w' := hall.2.2.2.2.2.1 _ rfl
        have e28 : (fun u _ => u = (.string s)) (a'.eval (.tmp 28)) w' := hall.2.2.2.2.2.2.1 _ rfl
        have e29 : (fun u _ => u = (.int .u8 z)) (a'.eval (.tmp 29)) w' := hall.2.2.2.2.2.2.2.1 _ rfl
        have e30 : (fun u _ => u = (.pointer (some ⟨wr.heap.size, 1, none⟩))) (a'.eval (.tmp 30)) w' := hall.2.2.2.2.2.2.2.2.1 _ rfl
        have e31 : (fun u _ => u = (.int .u8 (unth l k).hi)) (a'.eval (.tmp 31)) w' := hall.2.2.2.2.2.2.2.2.2.1 _ rfl
        have e32 : (fun u _ => u = (.bool x2)) (a'.eval (.tmp 32)) w' := hall.2.2.2.2.2.2.2.2.2.2.1 _ rfl
        have e33 : (fun u _ => u = (.bool x2)) (a'.eval (.tmp 33)) w' := hall.2.2.2.2.2.2.2.2.2.2.2.1 _ rfl
        have e21 : (fun u _ => u = (.bool x2)) (a'.eval (.tmp 21)) w' := hall.2.2.2.2.2.2.2.2.2.2.2.2.1 _ rfl
        simp only [List.foldl_cons, List.foldl_nil, Act.put, List.setIfInBounds_toArray, List.set_cons_succ, List.set_cons_zero, e22, e23, e24, e25, e26, e27, e28, e29, e30, e31, e32, e33, e21] at hA
        clear hO hall e22 e23 e24 e25 e26 e27 e28 e29 e30 e31 e32 e33 e21
        subst hA
        --ENDREGION
        have F : Hid (l.find? (fun r => decide (r.lo ≤ byte s 0) && decide (byte s 0 ≤ r.hi)) = some (unth l k)) := Lib.hid (head_find b1 hn.out (by rw [← HZ.out]; exact ⟨m1, m2⟩))
        subst hx2
        have B7 := Lib.hid (bnext HD.out (of_drew hE))
        have X0 := Lib.hid (extB_block hE (by simp) HB0.out)
        have X1 := Lib.hid (extB_block hE (by simp) HB1.out)
        have XN := Lib.hid (extB_block hE (by simp) HBN.out)
        clear hE hn M1 M2 m2 q0 q1
        obtain ⟨r, hr⟩ : ∃ r, unth l k = r := ⟨_, rfl⟩
        rw [hr] at XN F o1 m1
        have FR := Lib.hid (head_row hs0 F.out)
        have p0 : w'.cell? ⟨wr.heap.size, 0, none⟩ = some (.int .u8 r.lo) := block_cell XN.out 0
        have p1 : w'.cell? ⟨wr.heap.size, 1, none⟩ = some (.int .u8 r.hi) := block_cell XN.out 1
        have p2 : w'.cell? ⟨wr.heap.size, 2, none⟩ = some (.int .i64 r.size) := block_cell XN.out 2
        have p3 : w'.cell? ⟨wr.heap.size, 3, none⟩ = some (.int .u64 r.least) := block_cell XN.out 3
        have x0 := block_cell X1.out
        have x1 := block_free X1.out
        clear hr
        go_upto_region 12 with fail
        obtain ⟨V, hV⟩ : ∃ V, (((w'.setCell ⟨w.heap.size + 1, 0, none⟩ (.int .u8 r.lo)).setCell ⟨w.heap.size + 1, 1, none⟩ (.int .u8 r.hi)).setCell ⟨w.heap.size + 1, 2, none⟩ (.int .i64 r.size)).setCell ⟨w.heap.size + 1, 3, none⟩ (.int .u64 r.least) = V := ⟨_, rfl⟩
        have VB : Hid (Below w.heap.size w V) := Lib.hid (by rw [← hV]; exact bset (bset (bset (bset B7.out (by simp) _) (by simp) _) (by simp) _) (by simp) _)
        have V0 : Hid (V.heap[w.heap.size]? = some (.cells #[.int .u64 0, .string ⟨#[]⟩] 71 (0, 0))) := Lib.hid (by
          rw [← hV]; exact block_setCell_ne (block_setCell_ne (block_setCell_ne (block_setCell_ne X0.out (by simp) _) (by simp) _) (by simp) _) (by simp) _)
        have V1 : V.heap[w.heap.size + 1]? = some (.cells #[.int .u8 r.lo, .int .u8 r.hi, .int .i64 r.size, .int .u64 r.least] 96 (0, 0)) := by
          rw [← hV]; exact block_setCell (block_setCell (block_setCell (block_setCell X1.out _) _) _) _
        rw [hV]
        have v0 : V.cell? ⟨w.heap.size + 1, 0, none⟩ = some (.int .u8 r.lo) := block_cell V1 0
        have v2 : V.cell? ⟨w.heap.size + 1, 2, none⟩ = some (.int .i64 r.size) := block_cell V1 2
        have v3 : V.cell? ⟨w.heap.size + 1, 3, none⟩ = some (.int .u64 r.least) := block_cell V1 3
        have HV1 := Lib.hid V1
        clear hV V1 p0 p1 p2 p3 x0 x1 HB0 HB1 HBN X0 X1 XN B7 HD HC hlt b0 b1 hk
        have k1 := o1.sz0
        have k2 := o1.sz1
        have k3 := o1.lo0
        have i1 : IntKind.i64.wrap (1 + r.size) = 1 + r.size := IntWalk.i64_in _ (by omega)
        by_cases c1 : (s.size : Int) < 1 + r.size
        · have E : Hid (headOf s l = .error 4) := Lib.hid (by rw [FR.out, if_pos c1])
          go_wp2_with fail
          refine (stop_any 4 _).mono ?_
          rintro e w1 ⟨rfl, rfl⟩
          go_wp2
          rw [E.out]
          exact ⟨rfl, VB.out, rfl⟩
        · have i2 : IntKind.u8.wrap (z - r.lo) = z - r.lo := IntWalk.u8_in _ (by omega)
          have i3 : IntKind.u64.wrap (z - r.lo) = z - r.lo := IntWalk.u64_in _ (by omega)
          obtain ⟨q, hq⟩ : ∃ q : Nat, r.size = q := ⟨r.size.toNat, by omega⟩
          by_cases c2 : r.size = 0
          · have c2' : (r.size == 0) = true := by simpa using c2
            have HQ := Lib.hid hq
            have C2 := Lib.hid c2
            clear hq c2
            go_upto_region 16 with fail
            --REGION sextant/unpack.head 16 head16
            refine wp_region_all 1000 (none) (phis [fun u _ => u = (.string s), fun u _ => u = (.int .u8 z), fun u _ => u = (.pointer (some ⟨w.heap.size + 1, 0, none⟩)), fun u _ => u = (.int .u8 r.lo), fun u _ => u = (.int .u8 (z - r.lo)), fun u _ => u = (.int .u64 (z - r.lo)), fun u _ => u = (.int .u64 (z - r.lo))]) rfl (by kernel_rfl) (mono_of ⟨mono_eq, mono_eq, mono_eq, mono_eq, mono_eq, mono_eq, mono_eq, trivial⟩) (steps_of 7 ⟨?s0, ?s1, ?s2, ?s3, ?s4, ?s5, ?s6, trivial⟩) ?_
            case s0 =>
              refine step_val (v := (.string s)) (fun av wv hE hS hO hD => ?_) (fun _ => rfl)
              have h0 : av.eval (.tmp 0) = (.string s) := hO.2.2 0 rfl
              have f0 := (ev_form av 0).symm.trans h0
              refine ⟨rfl, ?_⟩
              simp [go_sem, f0, hz', hs0, i2, i3]
            case s1 =>
              refine step_val (v := (.int .u8 z)) (fun av wv hE hS hO hD => ?_) (fun _ => rfl)
              have d53 : av.eval (.tmp 53) = (.string s) := hD.1 rfl _ rfl
              have f53 := (ev_form av 53).symm.trans d53
              refine ⟨rfl, ?_⟩
              simp [go_sem, f53, hz', hs0, i2, i3]
            case s2 =>
              refine step_val (v := (.pointer (some ⟨w.heap.size + 1, 0, none⟩))) (fun av wv hE hS hO hD => ?_) (fun _ => rfl)
              have h5 : av.eval (.tmp 5) = (.pointer (some ⟨w.heap.size + 1, 0, none⟩)) := hO.2.2 5 rfl
              have f5 := (ev_form av 5).symm.trans h5
              refine ⟨rfl, ?_⟩
              simp [go_sem, f5, hz', hs0, i2, i3]
            case s3 =>
              refine step_val (v := (.int .u8 r.lo)) (fun av wv hE hS hO hD => ?_) (fun _ => rfl)
              have d55 : av.eval (.tmp 55) = (.pointer (some ⟨w.heap.size + 1, 0, none⟩)) := hD.1 rfl _ rfl
              have f55 := (ev_form av 55).symm.trans d55
              have v0 := extB_cell hE (by simp) v0
              refine ⟨rfl, ?_⟩
              simp [go_sem, f55, v0, hz', hs0, i2, i3]
            case s4 =>
              refine step_val (v := (.int .u8 (z - r.lo))) (fun av wv hE hS hO hD => ?_) (fun _ => rfl)
              have d54 : av.eval (.tmp 54) = (.int .u8 z) := hD.1 rfl _ rfl
              have f54 := (ev_form av 54).symm.trans d54
              have d56 : av.eval (.tmp 56) = (.int .u8 r.lo) := hD.2.1 rfl _ rfl
              have f56 := (ev_form av 56).symm.trans d56
              refine ⟨rfl, ?_⟩
              simp [go_sem, f54, f56, hz', hs0, i2, i3]
            case s5 =>
              refine step_val (v := (.int .u64 (z - r.lo))) (fun av wv hE hS hO hD => ?_) (fun _ => rfl)
              have d57 : av.eval (.tmp 57) = (.int .u8 (z - r.lo)) := hD.1 rfl _ rfl
              have f57 := (ev_form av 57).symm.trans d57
              refine ⟨rfl, ?_⟩
              simp [go_sem, f57, hz', hs0, i2, i3]
            case s6 =>
              refine step_val (v := (.int .u64 (z - r.lo))) (fun av wv hE hS hO hD => ?_) (fun _ => rfl)
              have d58 : av.eval (.tmp 58) = (.int .u64 (z - r.lo)) := hD.1 rfl _ rfl
              have f58 := (ev_form av 58).symm.trans d58
              refine ⟨rfl, ?_⟩
              simp [go_sem, f58, hz', hs0, i2, i3]
            intro a' w' hE hO hall
            have hA := act_of_outer (ds := [53, 54, 55, 56, 57, 58, 8]) rfl hO (by kernel_rfl)
            have e53 : (fun u _ => u = (.string s)) (a'.eval (.tmp 53)) w' := hall.1 _ rfl
            have e54 : (fun u _ => u = (.int .u8 z)) (a'.eval (.tmp 54)) w' := hall.2.1 _ rfl
            have e55 : (fun u _ => u = (.pointer (some ⟨w.heap.size + 1, 0, none⟩))) (a'.eval (.tmp 55)) w' := hall.2.2.1 _ rfl
            have e56 : (fun u _ => u = (.int .u8 r.lo)) (a'.eval (.tmp 56)) w' := hall.2.2.2.1 _ rfl
            have e57 : (fun u _ => u = (.int .u8 (z - r.lo))) (a'.eval (.tmp 57)) w' := hall.2.2.2.2.1 _ rfl
            have e58 : (fun u _ => u = (.int .u64 (z - r.lo))) (a'.eval (.tmp 58)) w' := hall.2.2.2.2.2.1 _ rfl
            have e8 : (fun u _ => u = (.int .u64 (z - r.lo))) (a'.eval (.tmp 8)) w' := hall.2.2.2.2.2.2.1 _ rfl
            simp only [List.foldl_cons, List.foldl_nil, Act.put, List.setIfInBounds_toArray, List.set_cons_succ, List.set_cons_zero, e53, e54, e55, e56, e57, e58, e8] at hA
            clear hO hall e53 e54 e55 e56 e57 e58 e8
            subst hA
            --ENDREGION
            have VB2 := Lib.hid (bnext VB.out (of_drew hE))
            have V12 := Lib.hid (extB_block hE (by simp) HV1.out)
            have V02 := Lib.hid (extB_block hE (by simp) V0.out)
            have v2 : w'.cell? ⟨w.heap.size + 1, 2, none⟩ = some (.int .i64 r.size) := block_cell V12.out 2
            clear hE VB V0 HV1 v0 v3 i2 i3
            go_upto_region 17 with fail
            have qs : 1 + q ≤ s.size := by have := HQ.out; omega
            have hxs : (s.extract 1 (1 + q)).size = q := ext_size s qs
            obtain ⟨bc, Y, hcv, hY1, hY2, hY3⟩ := conv_bytes w' (s.extract 1 (1 + q))
            rw [hxs] at hcv hY3
            have HY3 : Hid (∀ j, j < q → Y.cell? ⟨(World.heap w').size, j, none⟩ = some (.int .u8 (byte s (1 + j)))) := Lib.hid (fun j hj => by rw [hY3 j hj, ext_byte s qs hj])
            have YB := Lib.hid (bnext VB2.out hY1)
            have Y1 := Lib.hid ((hY1.block _ (lt_of_block V12.out)).trans V12.out)
            have Y0 := Lib.hid ((hY1.block _ (lt_of_block V02.out)).trans V02.out)
            have YS : w.heap.size + 1 < Y.heap.size := lt_of_block Y1.out
            clear hY1 hY2 hY3 hxs
            have i5 : (1 + r.size).toNat = 1 + q := by have := HQ.out; omega
            have i6 : r.size.toNat = q := by have := HQ.out; omega
            have q8 : q ≤ 8 := by have := HQ.out; omega
            have j1 : 1 ≤ (s.size : Int) := by omega
            have j2 : 1 + r.size ≤ (s.size : Int) := by omega
            have j3 : 1 ≤ 1 + r.size := by omega
            go_wp2_with fail
            clear hcv
            go_loopg [8, 66] q (fun g n i wx => ∃ j : Nat, g + j = q ∧ i = .int .i64 j ∧ n = .int .u64 (numAt s r j) ∧ wx = Y)
            case atStart => exact ⟨0, rfl, rfl, (by unfold numAt; rw [if_pos C2.out, ← HZ.out]), rfl⟩
            case round =>
              obtain ⟨j, hj, rfl, rfl, rfl⟩ := hrel
              have vb := numAt_bd (s := s) (r := r) (j := j) (by have := HQ.out; omega) o1 (by rw [← HZ.out]; exact m1)
              by_cases hjq : j < q
              · have b0 : (j : Int) < q := by omega
                have cc := HY3.out j hjq
                have vs := Lib.hid (numAt_succ s r j (by have := HQ.out; omega))
                have cb := byte_bd s (1 + j)
                have vb2 := numAt_lt (s := s) (r := r) (j := j) (by omega) o1 (by rw [← HZ.out]; exact m1)
                obtain ⟨c, hc⟩ : ∃ c, byte s (1 + j) = c := ⟨_, rfl⟩
                obtain ⟨v, hv⟩ : ∃ v, numAt s r j = v := ⟨_, rfl⟩
                rw [hc] at cc cb
                rw [hv] at vb vb2
                have hor := shl_or v c vb.1 vb2 cb.1 cb.2
                go_wp2
                go_roundg (gk - 1)
                case rel => exact ⟨j + 1, by omega, by go_num, (by rw [vs.out, hv, hc, ← hor]), rfl⟩
                case measure => omega
              · obtain rfl : j = q := by omega
                have E0 : headOf s l = if numAt s r j < r.least then .error 5 else .ok (numAt s r j, s.extract (1 + j) s.size) := by
                  rw [FR.out, if_neg (by omega), i6]; rfl
                obtain ⟨v, hv⟩ : ∃ v, numAt s r j = v := ⟨_, rfl⟩
                rw [hv] at vb E0 ⊢
                have g2 : wr.cell? ⟨w.heap.size + 1, 2, none⟩ = some (.int .i64 r.size) := block_cell Y1.out 2
                have g3 : wr.cell? ⟨w.heap.size + 1, 3, none⟩ = some (.int .u64 r.least) := block_cell Y1.out 3
                have y0 : ∀ o, wr.cell? ⟨w.heap.size, o, none⟩ = _ := block_cell Y0.out
                have y1 : ∀ o, wr.frozen? ⟨w.heap.size, o, none⟩ = false := block_free Y0.out
                clear hv
                by_cases hv : v < r.least
                · have E : Hid (headOf s l = .error 5) := Lib.hid (by rw [E0, if_pos hv])
                  clear E0
                  go_wp2_with fail
                  refine (stop_any 5 _).mono ?_
                  rintro e w1 ⟨rfl, rfl⟩
                  go_wp2
                  rw [E.out]
                  exact ⟨rfl, YB.out, rfl⟩
                · have E : Hid (headOf s l = .ok (v, s.extract (1 + j) s.size)) := Lib.hid (by rw [E0, if_neg hv])
                  clear E0
                  go_wp2_with fail
                  try rw [Exit.noGoto_ret]
                  refine bodyPost_ret (v := .agg #[.int .u64 v, .string (s.extract (1 + j) s.size)]) (by simp [results, Tryd.results26, go_sem, y0]) rfl ?_
                  rw [E.out]
                  exact ⟨(by have := YB.out; (repeat (first | exact Below.refl _ _ | assumption | (refine bdrew ?_) | (refine bdrewN ?_ _) | (refine balloc ?_ _) | (refine bset ?_ (by first | omega | (simp; done) | (simp; omega)) _) | (refine bnext ?_ (by assumption))))), rfl⟩
          · have c2' : (r.size == 0) = false := by simpa using c2
            have HQ := Lib.hid hq
            have C2 := Lib.hid c2
            clear hq c2
            have qs : 1 + q ≤ s.size := by have := HQ.out; omega
            have hxs : (s.extract 1 (1 + q)).size = q := ext_size s qs
            obtain ⟨bc, Y, hcv, hY1, hY2, hY3⟩ := conv_bytes V (s.extract 1 (1 + q))
            rw [hxs] at hcv hY3
            have HY3 : Hid (∀ j, j < q → Y.cell? ⟨(World.heap V).size, j, none⟩ = some (.int .u8 (byte s (1 + j)))) := Lib.hid (fun j hj => by rw [hY3 j hj, ext_byte s qs hj])
            have YB := Lib.hid (bnext VB.out hY1)
            have Y1 := Lib.hid ((hY1.block _ (lt_of_block HV1.out)).trans HV1.out)
            have Y0 := Lib.hid ((hY1.block _ (lt_of_block V0.out)).trans V0.out)
            have YS : w.heap.size + 1 < Y.heap.size := lt_of_block Y1.out
            clear hY1 hY2 hY3 hxs
            have i5 : (1 + r.size).toNat = 1 + q := by have := HQ.out; omega
            have i6 : r.size.toNat = q := by have := HQ.out; omega
            have q8 : q ≤ 8 := by have := HQ.out; omega
            have j1 : 1 ≤ (s.size : Int) := by omega
            have j2 : 1 + r.size ≤ (s.size : Int) := by omega
            have j3 : 1 ≤ 1 + r.size := by omega
            go_wp2_with fail
            clear hcv
            go_loopg [8, 66] q (fun g n i wx => ∃ j : Nat, g + j = q ∧ i = .int .i64 j ∧ n = .int .u64 (numAt s r j) ∧ wx = Y)
            case atStart => exact ⟨0, rfl, rfl, (by unfold numAt; rw [if_neg C2.out]; rfl), rfl⟩
            case round =>
              obtain ⟨j, hj, rfl, rfl, rfl⟩ := hrel
              have vb := numAt_bd (s := s) (r := r) (j := j) (by have := HQ.out; omega) o1 (by rw [← HZ.out]; exact m1)
              by_cases hjq : j < q
              · have b0 : (j : Int) < q := by omega
                have cc := HY3.out j hjq
                have vs := Lib.hid (numAt_succ s r j (by have := HQ.out; omega))
                have cb := byte_bd s (1 + j)
                have vb2 := numAt_lt (s := s) (r := r) (j := j) (by omega) o1 (by rw [← HZ.out]; exact m1)
                obtain ⟨c, hc⟩ : ∃ c, byte s (1 + j) = c := ⟨_, rfl⟩
                obtain ⟨v, hv⟩ : ∃ v, numAt s r j = v := ⟨_, rfl⟩
                rw [hc] at cc cb
                rw [hv] at vb vb2
                have hor := shl_or v c vb.1 vb2 cb.1 cb.2
                go_wp2
                go_roundg (gk - 1)
                case rel => exact ⟨j + 1, by omega, by go_num, (by rw [vs.out, hv, hc, ← hor]), rfl⟩
                case measure => omega
              · obtain rfl : j = q := by omega
                have E0 : headOf s l = if numAt s r j < r.least then .error 5 else .ok (numAt s r j, s.extract (1 + j) s.size) := by
                  rw [FR.out, if_neg (by omega), i6]; rfl
                obtain ⟨v, hv⟩ : ∃ v, numAt s r j = v := ⟨_, rfl⟩
                rw [hv] at vb E0 ⊢
                have g2 : wr.cell? ⟨w.heap.size + 1, 2, none⟩ = some (.int .i64 r.size) := block_cell Y1.out 2
                have g3 : wr.cell? ⟨w.heap.size + 1, 3, none⟩ = some (.int .u64 r.least) := block_cell Y1.out 3
                have y0 : ∀ o, wr.cell? ⟨w.heap.size, o, none⟩ = _ := block_cell Y0.out
                have y1 : ∀ o, wr.frozen? ⟨w.heap.size, o, none⟩ = false := block_free Y0.out
                clear hv
                by_cases hv : v < r.least
                · have E : Hid (headOf s l = .error 5) := Lib.hid (by rw [E0, if_pos hv])
                  clear E0
                  go_wp2_with fail
                  refine (stop_any 5 _).mono ?_
                  rintro e w1 ⟨rfl, rfl⟩
                  go_wp2
                  rw [E.out]
                  exact ⟨rfl, YB.out, rfl⟩
                · have E : Hid (headOf s l = .ok (v, s.extract (1 + j) s.size)) := Lib.hid (by rw [E0, if_neg hv])
                  clear E0
                  go_wp2_with fail
                  try rw [Exit.noGoto_ret]
                  refine bodyPost_ret (v := .agg #[.int .u64 v, .string (s.extract (1 + j) s.size)]) (by simp [results, Tryd.results26, go_sem, y0]) rfl ?_
                  rw [E.out]
                  exact ⟨(by have := YB.out; (repeat (first | exact Below.refl _ _ | assumption | (refine bdrew ?_) | (refine bdrewN ?_ _) | (refine balloc ?_ _) | (refine bset ?_ (by first | omega | (simp; done) | (simp; omega)) _) | (refine bnext ?_ (by assumption))))), rfl⟩
      · obtain ⟨x2, hx2⟩ : ∃ x2, x2 = false := ⟨_, rfl⟩
        have M2 : decide (z ≤ (unth l k).hi) = x2 := by rw [hx2]; simpa using m2
        --REGION sextant/unpack.head 7 head7a
        refine wp_region_all 1000 (none) (phis [fun u _ => u = (.string s), fun u _ => u = (.int .u8 z), fun u _ => u = (.pointer (some ⟨wr.heap.size, 0, none⟩)), fun u _ => u = (.int .u8 (unth l k).lo), fun u _ => u = (.bool true), fun u _ => u = (.bool true), fun u _ => u = (.string s), fun u _ => u = (.int .u8 z), fun u _ => u = (.pointer (some ⟨wr.heap.size, 1, none⟩)), fun u _ => u = (.int .u8 (unth l k).hi), fun u _ => u = (.bool x2), fun u _ => u = (.bool x2), fun u _ => u = (.bool x2)]) rfl (by kernel_rfl) (mono_of ⟨mono_eq, mono_eq, mono_eq, mono_eq, mono_eq, mono_eq, mono_eq, mono_eq, mono_eq, mono_eq, mono_eq, mono_eq, mono_eq, trivial⟩) (steps_of 13 ⟨?s0, ?s1, ?s2, ?s3, ?s4, ?s5, ?s6, ?s7, ?s8, ?s9, ?s10, ?s11, ?s12, trivial⟩) ?_
        case s0 =>
          refine step_val (v := (.string s)) (fun av wv hE hS hO hD => ?_) (fun _ => rfl)
          have h0 : av.eval (.tmp 0) = (.string s) := hO.2.2 0 rfl
          have f0 := (ev_form av 0).symm.trans h0
          refine ⟨rfl, ?_⟩
          simp [go_sem, f0, hz', hs0, M1, M2]
        case s1 =>
          refine step_val (v := (.int .u8 z)) (fun av wv hE hS hO hD => ?_) (fun _ => rfl)
          have d22 : av.eval (.tmp 22) = (.string s) := hD.1 rfl _ rfl
          have f22 := (ev_form av 22).symm.trans d22
          refine ⟨rfl, ?_⟩
          simp [go_sem, f22, hz', hs0, M1, M2]
        case s2 =>
          refine step_val (v := (.pointer (some ⟨wr.heap.size, 0, none⟩))) (fun av wv hE hS hO hD => ?_) (fun _ => rfl)
          have h7 : av.eval (.tmp 7) = (.pointer (some ⟨wr.heap.size, 0, none⟩)) := hO.2.2 7 rfl
          have f7 := (ev_form av 7).symm.trans h7
          refine ⟨rfl, ?_⟩
          simp [go_sem, f7, hz', hs0, M1, M2]
        case s3 =>
          refine step_val (v := (.int .u8 (unth l k).lo)) (fun av wv hE hS hO hD => ?_) (fun _ => rfl)
          have d24 : av.eval (.tmp 24) = (.pointer (some ⟨wr.heap.size, 0, none⟩)) := hD.1 rfl _ rfl
          have f24 := (ev_form av 24).symm.trans d24
          have q0 := extB_cell hE (by simp) q0
          have q1 := extB_cell hE (by simp) q1
          refine ⟨rfl, ?_⟩
          simp [go_sem, f24, q0, q1, hz', hs0, M1, M2]
        case s4 =>
          refine step_val (v := (.bool true)) (fun av wv hE hS hO hD => ?_) (fun _ => rfl)
          have d23 : av.eval (.tmp 23) = (.int .u8 z) := hD.1 rfl _ rfl
          have f23 := (ev_form av 23).symm.trans d23
          have d25 : av.eval (.tmp 25) = (.int .u8 (unth l k).lo) := hD.2.1 rfl _ rfl
          have f25 := (ev_form av 25).symm.trans d25
          refine ⟨rfl, ?_⟩
          simp [go_sem, f23, f25, hz', hs0, M1, M2]
        case s5 =>
          refine step_val (v := (.bool true)) (fun av wv hE hS hO hD => ?_) (fun _ => rfl)
          have d26 : av.eval (.tmp 26) = (.bool true) := hD.1 rfl _ rfl
          have f26 := (ev_form av 26).symm.trans d26
          refine ⟨rfl, ?_⟩
          simp [go_sem, f26, hz', hs0, M1, M2]
        case s6 =>
          refine step_val (v := (.string s)) (fun av wv hE hS hO hD => ?_) (fun _ => rfl)
          have h0 : av.eval (.tmp 0) = (.string s) := hO.2.2 0 rfl
          have f0 := (ev_form av 0).symm.trans h0
          have d27 : av.eval (.tmp 27) = (.bool true) := hD.1 rfl _ rfl
          have f27 := (ev_form av 27).symm.trans d27
          refine ⟨(wanted_of (d := 27) (b := true) (want := true) rfl rfl rfl d27), ?_⟩
          simp [go_sem, f0, f27, hz', hs0, M1, M2]
        case s7 =>
          refine step_val (v := (.int .u8 z)) (fun av wv hE hS hO hD => ?_) (fun _ => rfl)
          have d28 : av.eval (.tmp 28) = (.string s) := hD.1 rfl _ rfl
          have f28 := (ev_form av 28).symm.trans d28
          have d27 : av.eval (.tmp 27) = (.bool true) := hD.2.1 rfl _ rfl
          have f27 := (ev_form av 27).symm.trans d27
          refine ⟨(wanted_of (d := 27) (b := true) (want := true) rfl rfl rfl d27), ?_⟩
          simp [go_sem, f28, f27, hz', hs0, M1, M2]
        case s8 =>
          refine step_val (v := (.pointer (some ⟨wr.heap.size, 1, none⟩))) (fun av wv hE hS hO hD => ?_) (fun _ => rfl)
          have h7 : av.eval (.tmp 7) = (.pointer (some ⟨wr.heap.size, 0, none⟩)) := hO.2.2 7 rfl
          have f7 := (ev_form av 7).symm.trans h7
          have d27 : av.eval (.tmp 27) = (.bool true) := hD.1 rfl _ rfl
          have f27 := (ev_form av 27).symm.trans d27
          refine ⟨(wanted_of (d := 27) (b := true) (want := true) rfl rfl rfl d27), ?_⟩
          simp [go_sem, f7, f27, hz', hs0, M1, M2]
        case s9 =>
          refine step_val (v := (.int .u8 (unth l k).hi)) (fun av wv hE hS hO hD => ?_) (fun _ => rfl)
          have d30 : av.eval (.tmp 30) = (.pointer (some ⟨wr.heap.size, 1, none⟩)) := hD.1 rfl _ rfl
          have f30 := (ev_form av 30).symm.trans d30
          have d27 : av.eval (.tmp 27) = (.bool true) := hD.2.1 rfl _ rfl
          have f27 := (ev_form av 27).symm.trans d27
          have q0 := extB_cell hE (by simp) q0
          have q1 := extB_cell hE (by simp) q1
          refine ⟨(wanted_of (d := 27) (b := true) (want := true) rfl rfl rfl d27), ?_⟩
          simp [go_sem, f30, f27, q0, q1, hz', hs0, M1, M2]
        case s10 =>
          refine step_val (v := (.bool x2)) (fun av wv hE hS hO hD => ?_) (fun _ => rfl)
          have d29 : av.eval (.tmp 29) = (.int .u8 z) := hD.1 rfl _ rfl
          have f29 := (ev_form av 29).symm.trans d29
          have d31 : av.eval (.tmp 31) = (.int .u8 (unth l k).hi) := hD.2.1 rfl _ rfl
          have f31 := (ev_form av 31).symm.trans d31
          have d27 : av.eval (.tmp 27) = (.bool true) := hD.2.2.1 rfl _ rfl
          have f27 := (ev_form av 27).symm.trans d27
          refine ⟨(wanted_of (d := 27) (b := true) (want := true) rfl rfl rfl d27), ?_⟩
          simp [go_sem, f29, f31, f27, hz', hs0, M1, M2]
        case s11 =>
          refine step_val (v := (.bool x2)) (fun av wv hE hS hO hD => ?_) (fun _ => rfl)
          have d27 : av.eval (.tmp 27) = (.bool true) := hD.1 rfl _ rfl
          have f27 := (ev_form av 27).symm.trans d27
          have d32 : av.eval (.tmp 32) = (.bool x2) := hD.2.1 rfl _ rfl
          have f32 := (ev_form av 32).symm.trans d32
          refine ⟨rfl, ?_⟩
          simp [go_sem, f27, f32, hz', hs0, M1, M2]
        case s12 =>
          refine step_val (v := (.bool x2)) (fun av wv hE hS hO hD => ?_) (fun _ => rfl)
          have d33 : av.eval (.tmp 33) = (.bool x2) := hD.1 rfl _ rfl
          have f33 := (ev_form av 33).symm.trans d33
          refine ⟨rfl, ?_⟩
          simp [go_sem, f33, hz', hs0, M1, M2]
        intro a' w' hE hO hall
        have hA := act_of_outer (ds := [22, 23, 24, 25, 26, 27, 28, 29, 30, 31, 32, 33, 21]) rfl hO (by kernel_rfl)
        have e22 : (fun u _ => u = (.string s)) (a'.eval (.tmp 22)) w' := hall.1 _ rfl
        have e23 : (fun u _ => u = (.int .u8 z)) (a'.eval (.tmp 23)) w' := hall.2.1 _ rfl
        have e24 : (fun u _ => u = (.pointer (some ⟨wr.heap.size, 0, none⟩))) (a'.eval (.tmp 24)) w' := hall.2.2.1 _ rfl
        have e25 : (fun u _ => u = (.int .u8 (unth l k).lo)) (a'.eval (.tmp 25)) w' := hall.2.2.2.1 _ rfl
        have e26 : (fun u _ => u = (.bool true)) (a'.eval (.tmp 26)) w' := hall.2.2.2.2.1 _ rfl
        have e27 : (fun u _ => u = (.bool true)) (a'.eval (.tmp 27)) w' := hall.2.2.2.2.2.1 _ rfl
        have e28 : (fun u _ => u = (.string s)) (a'.eval (.tmp 28)) w' := hall.2.2.2.2.2.2.1 _ rfl
        have e29 : (fun u _ => u = (.int .u8 z)) (a'.eval (.tmp 29)) w' := hall.2.2.2.2.2.2.2.1 _ rfl
        have e30 : (fun u _ => u = (.pointer (some ⟨wr.heap.size, 1, none⟩))) (a'.eval (.tmp 30)) w' := hall.2.2.2.2.2.2.2.2.1 _ rfl
        have e31 : (fun u _ => u = (.int .u8 (unth l k).hi)) (a'.eval (.tmp 31)) w' := hall.2.2.2.2.2.2.2.2.2.1 _ rfl
        have e32 : (fun u _ => u = (.bool x2)) (a'.eval (.tmp 32)) w' := hall.2.2.2.2.2.2.2.2.2.2.1 _ rfl
        have e33 : (fun u _ => u = (.bool x2)) (a'.eval (.tmp 33)) w' := hall.2.2.2.2.2.2.2.2.2.2.2.1 _ rfl
        have e21 : (fun u _ => u = (.bool x2)) (a'.eval (.tmp 21)) w' := hall.2.2.2.2.2.2.2.2.2.2.2.2.1 _ rfl
        simp only [List.foldl_cons, List.foldl_nil, Act.put, List.setIfInBounds_toArray, List.set_cons_succ, List.set_cons_zero, e22, e23, e24, e25, e26, e27, e28, e29, e30, e31, e32, e33, e21] at hA
        clear hO hall e22 e23 e24 e25 e26 e27 e28 e29 e30 e31 e32 e33 e21
        subst hA
        --ENDREGION
        have NM : Hid (¬ ((unth l k).lo ≤ byte s 0 ∧ byte s 0 ≤ (unth l k).hi)) := Lib.hid (by rw [← HZ.out]; exact fun h => m2 h.2)
        subst hx2
        clear M1 M2 m1 m2 q0 q1
        have B7 := Lib.hid (bnext HD.out (of_drew hE))
        have X0 := Lib.hid (extB_block hE (by simp) HB0.out)
        have X1 := Lib.hid (extB_block hE (by simp) HB1.out)
        clear hE
        by_cases hlast : k + 1 = len l
        · have e1 : ((k : Int) == (len l : Int) - 1) = true := by simp; omega
          have e2 : IntKind.i64.wrap ((len l : Int) - 1) = (len l : Int) - 1 := IntWalk.i64_in _ (by omega)
          have E : Hid (headOf s l = .error 5) := Lib.hid (head_none (by omega) (fun j hj => by
            by_cases e : j = k
            · subst e; exact NM.out
            · exact hn.out j (by omega)))
          go_wp2_with fail
          refine (stop_any 5 _).mono ?_
          rintro e w1 ⟨rfl, rfl⟩
          go_wp2
          rw [E.out]
          exact ⟨rfl, B7.out, rfl⟩
        · have e1 : ((k : Int) == (len l : Int) - 1) = false := by simp; omega
          have e2 : IntKind.i64.wrap ((len l : Int) - 1) = (len l : Int) - 1 := IntWalk.i64_in _ (by omega)
          go_wp2
          go_roundw
          case rel => exact ⟨k + 1, by omega, by go_num, B7.out, (fun j hj => by
            by_cases e : j = k
            · subst e; exact NM.out
            · exact hn.out j (by omega)), X0.out, X1.out⟩
          case measure => simp [intOf]; omega
    · have M1 : decide ((unth l k).lo ≤ z) = false := by simpa using m1
      --REGION sextant/unpack.head 7 head7b
      refine wp_region_all 1000 (none) (phis [fun u _ => u = (.string s), fun u _ => u = (.int .u8 z), fun u _ => u = (.pointer (some ⟨wr.heap.size, 0, none⟩)), fun u _ => u = (.int .u8 (unth l k).lo), fun u _ => u = (.bool false), fun u _ => u = (.bool false), fun u _ => u = undef, fun u _ => u = undef, fun u _ => u = undef, fun u _ => u = undef, fun u _ => u = undef, fun u _ => u = (.bool false), fun u _ => u = (.bool false)]) rfl (by kernel_rfl) (mono_of ⟨mono_eq, mono_eq, mono_eq, mono_eq, mono_eq, mono_eq, mono_eq, mono_eq, mono_eq, mono_eq, mono_eq, mono_eq, mono_eq, trivial⟩) (steps_of 13 ⟨?s0, ?s1, ?s2, ?s3, ?s4, ?s5, ?s6, ?s7, ?s8, ?s9, ?s10, ?s11, ?s12, trivial⟩) ?_
      case s0 =>
        refine step_val (v := (.string s)) (fun av wv hE hS hO hD => ?_) (fun _ => rfl)
        have h0 : av.eval (.tmp 0) = (.string s) := hO.2.2 0 rfl
        have f0 := (ev_form av 0).symm.trans h0
        refine ⟨rfl, ?_⟩
        simp [go_sem, f0, hz', hs0, M1]
      case s1 =>
        refine step_val (v := (.int .u8 z)) (fun av wv hE hS hO hD => ?_) (fun _ => rfl)
        have d22 : av.eval (.tmp 22) = (.string s) := hD.1 rfl _ rfl
        have f22 := (ev_form av 22).symm.trans d22
        refine ⟨rfl, ?_⟩
        simp [go_sem, f22, hz', hs0, M1]
      case s2 =>
        refine step_val (v := (.pointer (some ⟨wr.heap.size, 0, none⟩))) (fun av wv hE hS hO hD => ?_) (fun _ => rfl)
        have h7 : av.eval (.tmp 7) = (.pointer (some ⟨wr.heap.size, 0, none⟩)) := hO.2.2 7 rfl
        have f7 := (ev_form av 7).symm.trans h7
        refine ⟨rfl, ?_⟩
        simp [go_sem, f7, hz', hs0, M1]
      case s3 =>
        refine step_val (v := (.int .u8 (unth l k).lo)) (fun av wv hE hS hO hD => ?_) (fun _ => rfl)
        have d24 : av.eval (.tmp 24) = (.pointer (some ⟨wr.heap.size, 0, none⟩)) := hD.1 rfl _ rfl
        have f24 := (ev_form av 24).symm.trans d24
        have q0 := extB_cell hE (by simp) q0
        have q1 := extB_cell hE (by simp) q1
        refine ⟨rfl, ?_⟩
        simp [go_sem, f24, q0, q1, hz', hs0, M1]
      case s4 =>
        refine step_val (v := (.bool false)) (fun av wv hE hS hO hD => ?_) (fun _ => rfl)
        have d23 : av.eval (.tmp 23) = (.int .u8 z) := hD.1 rfl _ rfl
        have f23 := (ev_form av 23).symm.trans d23
        have d25 : av.eval (.tmp 25) = (.int .u8 (unth l k).lo) := hD.2.1 rfl _ rfl
        have f25 := (ev_form av 25).symm.trans d25
        refine ⟨rfl, ?_⟩
        simp [go_sem, f23, f25, hz', hs0, M1]
      case s5 =>
        refine step_val (v := (.bool false)) (fun av wv hE hS hO hD => ?_) (fun _ => rfl)
        have d26 : av.eval (.tmp 26) = (.bool false) := hD.1 rfl _ rfl
        have f26 := (ev_form av 26).symm.trans d26
        refine ⟨rfl, ?_⟩
        simp [go_sem, f26, hz', hs0, M1]
      case s6 =>
        refine step_skip (fun av wv hE hS hO hD => ?_) (fun _ => rfl)
        have h0 : av.eval (.tmp 0) = (.string s) := hO.2.2 0 rfl
        have f0 := (ev_form av 0).symm.trans h0
        have d27 : av.eval (.tmp 27) = (.bool false) := hD.1 rfl _ rfl
        have f27 := (ev_form av 27).symm.trans d27
        exact (wanted_of (d := 27) (b := false) (want := true) rfl rfl rfl d27)
      case s7 =>
        refine step_skip (fun av wv hE hS hO hD => ?_) (fun _ => rfl)
        have d28 : av.eval (.tmp 28) = (undef) := hD.1 rfl _ rfl
        have f28 := (ev_form av 28).symm.trans d28
        have d27 : av.eval (.tmp 27) = (.bool false) := hD.2.1 rfl _ rfl
        have f27 := (ev_form av 27).symm.trans d27
        exact (wanted_of (d := 27) (b := false) (want := true) rfl rfl rfl d27)
      case s8 =>
        refine step_skip (fun av wv hE hS hO hD => ?_) (fun _ => rfl)
        have h7 : av.eval (.tmp 7) = (.pointer (some ⟨wr.heap.size, 0, none⟩)) := hO.2.2 7 rfl
        have f7 := (ev_form av 7).symm.trans h7
        have d27 : av.eval (.tmp 27) = (.bool false) := hD.1 rfl _ rfl
        have f27 := (ev_form av 27).symm.trans d27
        exact (wanted_of (d := 27) (b := false) (want := true) rfl rfl rfl d27)
      case s9 =>
        refine step_skip (fun av wv hE hS hO hD => ?_) (fun _ => rfl)
        have d30 : av.eval (.tmp 30) = (undef) := hD.1 rfl _ rfl
        have f30 := (ev_form av 30).symm.trans d30
        have d27 : av.eval (.tmp 27) = (.bool false) := hD.2.1 rfl _ rfl
        have f27 := (ev_form av 27).symm.trans d27
        exact (wanted_of (d := 27) (b := false) (want := true) rfl rfl rfl d27)
      case s10 =>
        refine step_skip (fun av wv hE hS hO hD => ?_) (fun _ => rfl)
        have d29 : av.eval (.tmp 29) = (undef) := hD.1 rfl _ rfl
        have f29 := (ev_form av 29).symm.trans d29
        have d31 : av.eval (.tmp 31) = (undef) := hD.2.1 rfl _ rfl
        have f31 := (ev_form av 31).symm.trans d31
        have d27 : av.eval (.tmp 27) = (.bool false) := hD.2.2.1 rfl _ rfl
        have f27 := (ev_form av 27).symm.trans d27
        exact (wanted_of (d := 27) (b := false) (want := true) rfl rfl rfl d27)
      case s11 =>
        refine step_val (v := (.bool false)) (fun av wv hE hS hO hD => ?_) (fun _ => rfl)
        have d27 : av.eval (.tmp 27) = (.bool false) := hD.1 rfl _ rfl
        have f27 := (ev_form av 27).symm.trans d27
        have d32 : av.eval (.tmp 32) = (undef) := hD.2.1 rfl _ rfl
        have f32 := (ev_form av 32).symm.trans d32
        refine ⟨rfl, ?_⟩
        simp [go_sem, f27, f32, hz', hs0, M1]
      case s12 =>
        refine step_val (v := (.bool false)) (fun av wv hE hS hO hD => ?_) (fun _ => rfl)
        have d33 : av.eval (.tmp 33) = (.bool false) := hD.1 rfl _ rfl
        have f33 := (ev_form av 33).symm.trans d33
        refine ⟨rfl, ?_⟩
        simp [go_sem, f33, hz', hs0, M1]
      intro a' w' hE hO hall
      have hA := act_of_outer (ds := [22, 23, 24, 25, 26, 27, 28, 29, 30, 31, 32, 33, 21]) rfl hO (by kernel_rfl)
      have e22 : (fun u _ => u = (.string s)) (a'.eval (.tmp 22)) w' := hall.1 _ rfl
      have e23 : (fun u _ => u = (.int .u8 z)) (a'.eval (.tmp 23)) w' := hall.2.1 _ rfl
      have e24 : (fun u _ => u = (.pointer (some ⟨wr.heap.size, 0, none⟩))) (a'.eval (.tmp 24)) w' := hall.2.2.1 _ rfl
      have e25 : (fun u _ => u = (.int .u8 (unth l k).lo)) (a'.eval (.tmp 25)) w' := hall.2.2.2.1 _ rfl
      have e26 : (fun u _ => u = (.bool false)) (a'.eval (.tmp 26)) w' := hall.2.2.2.2.1 _ rfl
      have e27 : (fun u _ => u = (.bool false)) (a'.eval (.tmp 27)) w' := hall.2.2.2.2.2.1 _ rfl
      have e28 : (fun u _ => u = undef) (a'.eval (.tmp 28)) w' := hall.2.2.2.2.2.2.1 _ rfl
      have e29 : (fun u _ => u = undef) (a'.eval (.tmp 29)) w' := hall.2.2.2.2.2.2.2.1 _ rfl
      have e30 : (fun u _ => u = undef) (a'.eval (.tmp 30)) w' := hall.2.2.2.2.2.2.2.2.1 _ rfl
      have e31 : (fun u _ => u = undef) (a'.eval (.tmp 31)) w' := hall.2.2.2.2.2.2.2.2.2.1 _ rfl
      have e32 : (fun u _ => u = undef) (a'.eval (.tmp 32)) w' := hall.2.2.2.2.2.2.2.2.2.2.1 _ rfl
      have e33 : (fun u _ => u = (.bool false)) (a'.eval (.tmp 33)) w' := hall.2.2.2.2.2.2.2.2.2.2.2.1 _ rfl
      have e21 : (fun u _ => u = (.bool false)) (a'.eval (.tmp 21)) w' := hall.2.2.2.2.2.2.2.2.2.2.2.2.1 _ rfl
      simp only [List.foldl_cons, List.foldl_nil, Act.put, List.setIfInBounds_toArray, List.set_cons_succ, List.set_cons_zero, e22, e23, e24, e25, e26, e27, e28, e29, e30, e31, e32, e33, e21] at hA
      clear hO hall e22 e23 e24 e25 e26 e27 e28 e29 e30 e31 e32 e33 e21
      subst hA
      --ENDREGION
      have NM : Hid (¬ ((unth l k).lo ≤ byte s 0 ∧ byte s 0 ≤ (unth l k).hi)) := Lib.hid (by rw [← HZ.out]; exact fun h => m1 h.1)
      clear M1 m1 q0 q1
      have B7 := Lib.hid (bnext HD.out (of_drew hE))
      have X0 := Lib.hid (extB_block hE (by simp) HB0.out)
      have X1 := Lib.hid (extB_block hE (by simp) HB1.out)
      clear hE
      by_cases hlast : k + 1 = len l
      · have e1 : ((k : Int) == (len l : Int) - 1) = true := by simp; omega
        have e2 : IntKind.i64.wrap ((len l : Int) - 1) = (len l : Int) - 1 := IntWalk.i64_in _ (by omega)
        have E : Hid (headOf s l = .error 5) := Lib.hid (head_none (by omega) (fun j hj => by
          by_cases e : j = k
          · subst e; exact NM.out
          · exact hn.out j (by omega)))
        go_wp2_with fail
        refine (stop_any 5 _).mono ?_
        rintro e w1 ⟨rfl, rfl⟩
        go_wp2
        rw [E.out]
        exact ⟨rfl, B7.out, rfl⟩
      · have e1 : ((k : Int) == (len l : Int) - 1) = false := by simp; omega
        have e2 : IntKind.i64.wrap ((len l : Int) - 1) = (len l : Int) - 1 := IntWalk.i64_in _ (by omega)
        go_wp2
        go_roundw
        case rel => exact ⟨k + 1, by omega, by go_num, B7.out, (fun j hj => by
          by_cases e : j = k
          · subst e; exact NM.out
          · exact hn.out j (by omega)), X0.out, X1.out⟩
        case measure => simp [intOf]; omega
end Go.Proofs.YtmcmapcijncblaaDoor
