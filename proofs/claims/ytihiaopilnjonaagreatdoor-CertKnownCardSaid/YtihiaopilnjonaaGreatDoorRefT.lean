/- The reference of layer 7: Slot, Part. -/
import Derived.Test.YtihiaopilnjonaaGreatDoorRefS
namespace Go.Proofs.YtihiaopilnjonaaGreatDoor
open Go.RowKit
set_option linter.unusedSimpArgs false
set_option linter.unusedVariables false

/-- Texts that are short. -/
def Short (l : List ByteArray) : Prop := len l ≤ 60000 ∧ ∀ i, i < len l → (sth l i).size < 65536
set_option maxRecDepth 100000 in
set_option maxHeartbeats 4000000 in
theorem rlaysig_any (B : Nat) (idx : Int) (a1 a2 : Option Addr) (k1 k2 : Nat) (wots path : List ByteArray) (w : World) (hi : U64i idx) (hs1 : Strs B w a1 wots) (hs2 : Strs B w a2 path) (hw : Short wots) (hp : Short path) :
    Calls Tryz.prog 139 #[.agg #[.int .u64 idx, .slice a1 (len wots) k1, .slice a2 (len path) k2]] w fun e w' => e = .returned (.string (rlayP (sigPs idx wots path))) ∧ Below w.heap.size w w' := by
  have HS1 := Lib.hid hs1
  have HS2 := Lib.hid hs2
  have hd1 := dgsR_len wots hw.2 hw.1
  have hd2 := dgsR_len path hp.2 hp.1
  have HW := Lib.hid hw
  have HPA := Lib.hid hp
  clear hs1 hs2 hw hp
  go_enter Tryz.func139, Tryz.ntmps139
  go_upto_region 2 with fail
  obtain ⟨V, hV⟩ : ∃ V, (w.alloc (.cells #[.int .u64 idx, .slice a1 (len wots) k1, .slice a2 (len path) k2] 42)).alloc (.cells #[.int .u64 0, .string ⟨#[]⟩] 141) = V := ⟨_, rfl⟩
  have HB : Hid (Below w.heap.size w V) := Lib.hid (by rw [← hV]; (repeat (first | exact Below.refl _ _ | assumption | (refine bdrew ?_) | (refine bdrewN ?_ _) | (refine balloc ?_ _) | (refine bset ?_ (by first | omega | (simp; done) | (simp; omega)) _) | (refine bnext ?_ (by assumption)))))
  have HP : Hid (V.heap[w.heap.size]? = some (.cells #[.int .u64 idx, .slice a1 (len wots) k1, .slice a2 (len path) k2] 42 (0, 0))) := Lib.hid (by rw [← hV]; exact block_alloc (heap_alloc_new _ _) _)
  have HY : Hid (LyB V (w.heap.size + 1) []) := Lib.hid (by rw [← hV]; exact alloc_new_at _ (by simp))
  have cP : ∀ o, V.cell? ⟨w.heap.size, o, none⟩ = _ := block_cell HP.out
  rw [hV]
  clear hV
  have HZ : Hid ((catK []).size ≤ 0 * 25000000000) := Lib.hid (by decide)
  go_wp2_with fail
  refine (rnum_any idx V hi.1 hi.2).mono ?_
  rintro e w1 ⟨rfl, hb⟩
  have HP := Lib.hid ((hb.block _ (lt_of_block HP.out)).trans HP.out)
  have HY := Lib.hid (HY.out.below hb)
  have HB := Lib.hid (bnext HB.out hb)
  clear hb
  try clear cP
  go_wp2_with fail
  refine (put_any _ _ ⟨#[105]⟩ (numR idx) w1 HY.out (by decide) (by simp) (by have := HZ.out; omega) (by have := numR_len idx; omega)).mono ?_
  rintro e w2 ⟨rfl, hx, hl⟩
  have HZ := putZ (k := ⟨#[105]⟩) (v := numR idx) HZ rfl (by have := numR_len idx; omega)
  have HP := Lib.hid (extB_block hx (by simp) HP.out)
  have HY := Lib.hid hl
  have HB := Lib.hid (HB.out.trans (extB_to hx (by omega) HB.out.size))
  have cP : ∀ o, World.cell? w2 ⟨w.heap.size, o, none⟩ = _ := block_cell HP.out
  clear hx hl
  go_wp2_with fail
  refine (rdigests_any B a2 k2 path w2 (HS2.out.below HB.out) HPA.out.1 HPA.out.2).mono ?_
  rintro e w3 ⟨rfl, hb⟩
  have HP := Lib.hid ((hb.block _ (lt_of_block HP.out)).trans HP.out)
  have HY := Lib.hid (HY.out.below hb)
  have HB := Lib.hid (bnext HB.out hb)
  clear hb
  try clear cP
  go_wp2_with fail
  refine (put_any _ _ ⟨#[112]⟩ (dgsR path) w3 HY.out (by decide) (by simp) (by have := HZ.out; omega) (by have := hd2; omega)).mono ?_
  rintro e w4 ⟨rfl, hx, hl⟩
  have HZ := putZ (k := ⟨#[112]⟩) (v := dgsR path) HZ rfl (by have := hd2; omega)
  have HP := Lib.hid (extB_block hx (by simp) HP.out)
  have HY := Lib.hid hl
  have HB := Lib.hid (HB.out.trans (extB_to hx (by omega) HB.out.size))
  have cP : ∀ o, World.cell? w4 ⟨w.heap.size, o, none⟩ = _ := block_cell HP.out
  clear hx hl
  go_wp2_with fail
  refine (rdigests_any B a1 k1 wots w4 (HS1.out.below HB.out) HW.out.1 HW.out.2).mono ?_
  rintro e w5 ⟨rfl, hb⟩
  have HP := Lib.hid ((hb.block _ (lt_of_block HP.out)).trans HP.out)
  have HY := Lib.hid (HY.out.below hb)
  have HB := Lib.hid (bnext HB.out hb)
  clear hb
  try clear cP
  go_wp2_with fail
  refine (put_any _ _ ⟨#[118]⟩ (dgsR wots) w5 HY.out (by decide) (by simp) (by have := HZ.out; omega) (by have := hd1; omega)).mono ?_
  rintro e w6 ⟨rfl, hx, hl⟩
  have HZ := putZ (k := ⟨#[118]⟩) (v := dgsR wots) HZ rfl (by have := hd1; omega)
  have HP := Lib.hid (extB_block hx (by simp) HP.out)
  have HY := Lib.hid hl
  have HB := Lib.hid (HB.out.trans (extB_to hx (by omega) HB.out.size))
  have cP : ∀ o, World.cell? w6 ⟨w.heap.size, o, none⟩ = _ := block_cell HP.out
  clear hx hl
  go_wp2_with fail
  refine (rwhole_any _ _ w6 HY.out (by simp) (by have := HZ.out; omega)).mono ?_
  rintro e w11 ⟨rfl, hb⟩
  have HB := Lib.hid (bnext HB.out hb)
  clear hb cP
  go_wp2
  go_ret
  exact ⟨rfl, HB.out⟩
theorem rlayP_len (ps : BPs) : (rlayP ps).size ≤ 9 + (catK ps).size := by
  show (mapP _ ++ catK _).size ≤ _
  rw [ByteArray.size_append]
  have : (mapP (rkept ps).length).size ≤ 9 := laidP_len 4 _ ByteArray.empty
  omega
theorem sigPs_len (idx : Int) {wots path : List ByteArray} (hw : Short wots) (hp : Short path) : (rlayP (sigPs idx wots path)).size ≤ 9000000000 := by
  have h0 := rlayP_len (sigPs idx wots path)
  have h1 : (catK (sigPs idx wots path)).size ≤ _ := catK_le ([] ++ [(⟨#[105]⟩, numR idx)] ++ [(⟨#[112]⟩, dgsR path)]) ⟨#[118]⟩ (dgsR wots)
  have h2 := catK_le ([] ++ [(⟨#[105]⟩, numR idx)]) ⟨#[112]⟩ (dgsR path)
  have h3 := catK_le [] ⟨#[105]⟩ (numR idx)
  have h4 := numR_len idx
  have h5 := dgsR_len wots hw.2 hw.1
  have h6 := dgsR_len path hp.2 hp.1
  have e0 : (catK []).size = 0 := rfl
  have e1 : (⟨#[105]⟩ : ByteArray).size = 1 := rfl
  have e2 : (⟨#[112]⟩ : ByteArray).size = 1 := rfl
  have e3 : (⟨#[118]⟩ : ByteArray).size = 1 := rfl
  omega
theorem smallR_len {s : ByteArray} {n : Nat} (h : s.size ≤ n) : (smallR s).size ≤ n := by
  unfold smallR; split
  · exact Nat.zero_le _
  · exact h
set_option maxRecDepth 100000 in
set_option maxHeartbeats 4000000 in
theorem rlayslot_any (B : Nat) (L : Int) (q : Bool) (idx : Int) (a1 a2 : Option Addr) (k1 k2 : Nat) (wots path : List ByteArray) (w : World) (hi : U64i idx) (hL : U64i L) (hs1 : Strs B w a1 wots) (hs2 : Strs B w a2 path) (hw : Short wots) (hp : Short path) :
    Calls Tryz.prog 75 #[.agg #[.int .u64 L, .bool q, .int .u64 idx, .slice a1 (len wots) k1, .slice a2 (len path) k2]] w fun e w' => e = .returned (.string (rlayP (slotPs L q idx wots path))) ∧ Below w.heap.size w w' := by
  have HS1 := Lib.hid hs1
  have HS2 := Lib.hid hs2
  have hd1 : (smallR (rlayP (sigPs idx wots path))).size ≤ 9000000000 := smallR_len (sigPs_len idx hw hp)
  have HW := Lib.hid hw
  have HPA := Lib.hid hp
  clear hs1 hs2 hw hp
  go_enter Tryz.func75, Tryz.ntmps75
  go_upto_region 2 with fail
  obtain ⟨V, hV⟩ : ∃ V, (w.alloc (.cells #[.int .u64 L, .bool q, .int .u64 idx, .slice a1 (len wots) k1, .slice a2 (len path) k2] 44)).alloc (.cells #[.int .u64 0, .string ⟨#[]⟩] 141) = V := ⟨_, rfl⟩
  have HB : Hid (Below w.heap.size w V) := Lib.hid (by rw [← hV]; (repeat (first | exact Below.refl _ _ | assumption | (refine bdrew ?_) | (refine bdrewN ?_ _) | (refine balloc ?_ _) | (refine bset ?_ (by first | omega | (simp; done) | (simp; omega)) _) | (refine bnext ?_ (by assumption)))))
  have HP : Hid (V.heap[w.heap.size]? = some (.cells #[.int .u64 L, .bool q, .int .u64 idx, .slice a1 (len wots) k1, .slice a2 (len path) k2] 44 (0, 0))) := Lib.hid (by rw [← hV]; exact block_alloc (heap_alloc_new _ _) _)
  have HY : Hid (LyB V (w.heap.size + 1) []) := Lib.hid (by rw [← hV]; exact alloc_new_at _ (by simp))
  have cP : ∀ o, V.cell? ⟨w.heap.size, o, none⟩ = _ := block_cell HP.out
  rw [hV]
  clear hV
  have HZ : Hid ((catK []).size ≤ 0 * 25000000000) := Lib.hid (by decide)
  go_wp2_with fail
  refine (rlaysig_any B idx a1 a2 k1 k2 wots path V hi (HS1.out.below HB.out) (HS2.out.below HB.out) HW.out HPA.out).mono ?_
  rintro e w1 ⟨rfl, hb⟩
  have HP := Lib.hid ((hb.block _ (lt_of_block HP.out)).trans HP.out)
  have HY := Lib.hid (HY.out.below hb)
  have HB := Lib.hid (bnext HB.out hb)
  clear hb
  try clear cP
  go_wp2_with fail
  refine (rsmall_any _ w1).mono ?_
  rintro e w1b ⟨rfl, hb⟩
  have HP := Lib.hid ((hb.block _ (lt_of_block HP.out)).trans HP.out)
  have HY := Lib.hid (HY.out.below hb)
  have HB := Lib.hid (bnext HB.out hb)
  clear hb
  try clear cP
  go_wp2_with fail
  refine (put_any _ _ ⟨#[103]⟩ (smallR (rlayP (sigPs idx wots path))) w1b HY.out (by decide) (by simp) (by have := HZ.out; omega) (by have := hd1; omega)).mono ?_
  rintro e w2 ⟨rfl, hx, hl⟩
  have HZ := putZ (k := ⟨#[103]⟩) (v := smallR (rlayP (sigPs idx wots path))) HZ rfl (by have := hd1; omega)
  have HP := Lib.hid (extB_block hx (by simp) HP.out)
  have HY := Lib.hid hl
  have HB := Lib.hid (HB.out.trans (extB_to hx (by omega) HB.out.size))
  have cP : ∀ o, World.cell? w2 ⟨w.heap.size, o, none⟩ = _ := block_cell HP.out
  clear hx hl
  go_wp2_with fail
  refine (rnum_any L w2 hL.1 hL.2).mono ?_
  rintro e w3 ⟨rfl, hb⟩
  have HP := Lib.hid ((hb.block _ (lt_of_block HP.out)).trans HP.out)
  have HY := Lib.hid (HY.out.below hb)
  have HB := Lib.hid (bnext HB.out hb)
  clear hb
  try clear cP
  go_wp2_with fail
  refine (put_any _ _ ⟨#[108]⟩ (numR L) w3 HY.out (by decide) (by simp) (by have := HZ.out; omega) (by have := numR_len L; omega)).mono ?_
  rintro e w4 ⟨rfl, hx, hl⟩
  have HZ := putZ (k := ⟨#[108]⟩) (v := numR L) HZ rfl (by have := numR_len L; omega)
  have HP := Lib.hid (extB_block hx (by simp) HP.out)
  have HY := Lib.hid hl
  have HB := Lib.hid (HB.out.trans (extB_to hx (by omega) HB.out.size))
  have cP : ∀ o, World.cell? w4 ⟨w.heap.size, o, none⟩ = _ := block_cell HP.out
  clear hx hl
  cases q with
  | true =>
    go_wp2_with fail
    refine (rnum_any 1 w4 (by decide) (by decide)).mono ?_
    rintro e w5 ⟨rfl, hb⟩
    have HP := Lib.hid ((hb.block _ (lt_of_block HP.out)).trans HP.out)
    have HY := Lib.hid (HY.out.below hb)
    have HB := Lib.hid (bnext HB.out hb)
    clear hb
    try clear cP
    go_wp2_with fail
    refine (put_any _ _ ⟨#[115]⟩ (numR 1) w5 HY.out (by decide) (by simp) (by have := HZ.out; omega) (by have := numR_len 1; omega)).mono ?_
    rintro e w6 ⟨rfl, hx, hl⟩
    have HZ := putZ (k := ⟨#[115]⟩) (v := numR 1) HZ rfl (by have := numR_len 1; omega)
    have HP := Lib.hid (extB_block hx (by simp) HP.out)
    have HY := Lib.hid hl
    have HB := Lib.hid (HB.out.trans (extB_to hx (by omega) HB.out.size))
    have cP : ∀ o, World.cell? w6 ⟨w.heap.size, o, none⟩ = _ := block_cell HP.out
    clear hx hl
    go_wp2_with fail
    refine (rwhole_any _ _ w6 HY.out (by simp) (by have := HZ.out; omega)).mono ?_
    rintro e w11 ⟨rfl, hb⟩
    have HB := Lib.hid (bnext HB.out hb)
    clear hb cP
    go_wp2
    go_ret
    exact ⟨rfl, HB.out⟩
  | false =>
    have HY2 : Hid (LyB w4 (w.heap.size + 1) (slotPs L false idx wots path)) := Lib.hid (by
      have e : rkept (slotPs L false idx wots path) = rkept ([] ++ [((⟨#[103]⟩ : ByteArray), smallR (rlayP (sigPs idx wots path)))] ++ [((⟨#[108]⟩ : ByteArray), numR L)]) :=
        rkept_none ([] ++ [((⟨#[103]⟩ : ByteArray), smallR (rlayP (sigPs idx wots path)))] ++ [((⟨#[108]⟩ : ByteArray), numR L)]) ⟨#[115]⟩ ⟨#[]⟩ rfl
      unfold LyB catK
      rw [e]
      exact HY.out)
    have hz2 : (catK (slotPs L false idx wots path)).size ≤ 3 * 25000000000 := by
      have := catK_le ([] ++ [((⟨#[103]⟩ : ByteArray), smallR (rlayP (sigPs idx wots path)))] ++ [((⟨#[108]⟩ : ByteArray), numR L)]) ⟨#[115]⟩ ⟨#[]⟩
      have h0 := HZ.out
      have e3 : (⟨#[115]⟩ : ByteArray).size = 1 := rfl
      have e4 : (⟨#[]⟩ : ByteArray).size = 0 := rfl
      exact Nat.le_trans this (by omega)
    go_wp2_with fail
    refine (rwhole_any _ _ w4 HY2.out (by simp [slotPs]) (by omega)).mono ?_
    rintro e w11 ⟨rfl, hb⟩
    have HB := Lib.hid (bnext HB.out hb)
    clear hb
    go_wp2
    go_ret
    exact ⟨rfl, HB.out⟩
end Go.Proofs.YtihiaopilnjonaaGreatDoor
