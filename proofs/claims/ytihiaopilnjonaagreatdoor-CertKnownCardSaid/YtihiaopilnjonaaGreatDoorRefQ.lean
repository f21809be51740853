/- The reference of layer 7: a map's pairs. -/
import Derived.Test.YtihiaopilnjonaaGreatDoorRefP
import Derived.Laws.Strings
import Derived.Test.YtihiaopilnjonaaGreatDoorRegion
import Derived.Test.YtihiaopilnjonaaGreatDoorWireF
namespace Go.Proofs.YtihiaopilnjonaaGreatDoor
open Go.RowKit
set_option linter.unusedSimpArgs false
set_option linter.unusedVariables false

abbrev BPs := List (ByteArray × ByteArray)
def catK (ps : BPs) : ByteArray := catB ((rkept ps).map fun p => strP p.1 ++ p.2)
/-- A Laying, in the heap. -/
def LyB (w : World) (b : Nat) (ps : BPs) : Prop := w.heap[b]? = some (.cells #[.int .u64 ((rkept ps).length : Nat), .string (catK ps)] 141 (0, 0))
theorem LyB.below {w w' : World} {b : Nat} {ps : BPs} (h : LyB w b ps) (hb : Below w.heap.size w w') : LyB w' b ps := by
  unfold LyB; rw [hb.block b (lt_of_block h)]; exact h
theorem rkept_none (ps : BPs) (key : ByteArray) (v : ByteArray) (h : v.size = 0) : rkept (ps ++ [(key, v)]) = rkept ps := by
  unfold rkept; rw [List.filter_append, List.filter_cons_of_neg (by simp [h])]; simp
theorem rkept_some (ps : BPs) (key : ByteArray) (v : ByteArray) (h : v.size ≠ 0) : rkept (ps ++ [(key, v)]) = rkept ps ++ [(key, v)] := by
  unfold rkept; rw [List.filter_append, List.filter_cons_of_pos (by simp [h])]; simp
theorem catK_some (ps : BPs) (key : ByteArray) (v : ByteArray) (h : v.size ≠ 0) : catK (ps ++ [(key, v)]) = catK ps ++ strP key ++ v := by
  unfold catK; rw [rkept_some ps key v h, List.map_append, catB_app]; simp [catB, ByteArray.append_assoc]
theorem extB_below {b : Nat} {w w1 : World} (h : Below w.heap.size w w1) : ExtB (some b) w w1 := ⟨h.os, h.tape, h.output, h.size, fun i hi _ => h.block i hi⟩
theorem extB_set {b : Nat} {w w1 : World} (h : ExtB (some b) w w1) (o : Nat) (v : Value) : ExtB (some b) w (w1.setCell ⟨b, o, none⟩ v) := by
  refine ⟨h.os, h.tape, h.output, by rw [show (w1.setCell ⟨b, o, none⟩ v).heap.size = w1.heap.size by simp]; exact h.size, fun i hi hne => ?_⟩
  rw [Below.heap_setCell _ _ _ _ (by rintro e; exact hne (by rw [e]))]; exact h.block i hi hne
theorem extB_to {b n : Nat} {w w1 : World} (h : ExtB (some b) w w1) (hn : n ≤ b) (hw : n ≤ w.heap.size) : Below n w w1 := ⟨h.os, h.tape, h.output, h.size, fun i hi => h.block i (by omega) (by rintro e; cases e; omega)⟩
theorem full5 {t : ByteArray} (h : t.size ≠ 0) : t.toList.isEmpty = false := by
  rw [ByteArray.toList_eq]; cases t with | mk d => simp_all [ByteArray.size]
set_option maxRecDepth 100000 in
set_option maxHeartbeats 2000000 in
theorem put_any (b : Nat) (ps : BPs) (key v : ByteArray) (w : World) (h : LyB w b ps) (hk : key.size < 65536) (hn : ps.length ≤ 1000) (hs : (catK ps).size ≤ 30000000000000) (hv : v.size ≤ 10000000000000) :
    Calls Tryz.prog 81 #[.pointer (some ⟨b, 0, none⟩), .string key, .string v] w fun e w' => e = .returned (.tuple #[]) ∧ ExtB (some b) w w' ∧ LyB w' b (ps ++ [(key, v)]) := by
  have H := Lib.hid h
  have HN := Lib.hid hn
  by_cases h0 : v.size = 0
  · have hv0 : v = ⟨#[]⟩ := by
      have : v = ByteArray.empty := ba_ext (by have := ba_len v; rw [h0] at this; rw [List.length_eq_zero_iff.1 this]; rfl)
      exact this
    have HV0 := Lib.hid h0
    clear h0
    subst hv0
    clear h hn
    go_enter Tryz.func81, Tryz.ntmps81
    go_wp2
    refine bodyPost_ret (results_none rfl _ _ _) rfl ?_
    exact ⟨rfl, extB_below (by (repeat (first | exact Below.refl _ _ | assumption | (refine bdrew ?_) | (refine bdrewN ?_ _) | (refine balloc ?_ _) | (refine bset ?_ (by first | omega | (simp; done) | (simp; omega)) _) | (refine bnext ?_ (by assumption))))), by unfold LyB catK; rw [rkept_none _ _ _ rfl]; exact H.out.below (by (repeat (first | exact Below.refl _ _ | assumption | (refine bdrew ?_) | (refine bdrewN ?_ _) | (refine balloc ?_ _) | (refine bset ?_ (by first | omega | (simp; done) | (simp; omega)) _) | (refine bnext ?_ (by assumption)))))⟩
  · have e1 : v.toList.isEmpty = false := full5 h0
    have HV := Lib.hid h0
    have HL := Lib.hid (rlaidtext_any 2 0 key w (.inr rfl) hk)
    obtain ⟨K, hK⟩ : ∃ K, laidP 2 key.size key = K := ⟨_, rfl⟩
    have hKs : K.size ≤ 70000 := by
      rw [← hK]; unfold laidP; rw [if_pos (.inr rfl)]
      have := headP_len 2 key.size
      rw [ByteArray.size_append, baL_size]; omega
    have HKK : Hid (strP key = K) := Lib.hid hK
    rw [hK] at HL
    obtain ⟨C, hC⟩ : ∃ C, catK ps = C := ⟨_, rfl⟩
    have HC := Lib.hid hC
    rw [hC] at hs
    have hr : (rkept ps).length ≤ 1000 := Nat.le_trans (List.length_filter_le _ _) hn
    obtain ⟨m, hm⟩ : ∃ m, (rkept ps).length = m := ⟨_, rfl⟩
    have HM := Lib.hid hm
    rw [hm] at hr
    have yy : IntKind.u64.wrap ((m : Int) + 1) = ((m + 1 : Nat) : Int) := by rw [IntWalk.u64_in _ (by omega)]; omega
    clear h hn h0 hk hK hC hm
    go_enter Tryz.func81, Tryz.ntmps81
    go_wp2_with fail
    refine HL.out.mono ?_
    rintro e w1 ⟨rfl, hb⟩
    have HB := Lib.hid hb
    have hblk := H.out.below hb
    unfold LyB at hblk
    rw [HC.out, HM.out] at hblk
    have c0 : w1.cell? ⟨b, 0, none⟩ = some (.int .u64 m) := block_cell hblk 0
    have c1 : w1.cell? ⟨b, 1, none⟩ = some (.string C) := block_cell hblk 1
    have f0 : ∀ o, w1.frozen? ⟨b, o, none⟩ = false := block_free hblk
    have HBK := Lib.hid hblk
    clear hb hblk
    go_wp2_with fail
    go_upto_region 3 with fail
    obtain ⟨V, hV⟩ : ∃ V, w1.setCell ⟨b, 1, none⟩ (.string (C ++ K ++ v)) = V := ⟨_, rfl⟩
    have hVb : V.heap[b]? = some (.cells #[.int .u64 m, .string (C ++ K ++ v)] 141 (0, 0)) := by rw [← hV]; exact block_setCell HBK.out _
    have HVE : Hid (ExtB (some b) w V) := Lib.hid (by rw [← hV]; exact extB_set (extB_below HB.out) _ _)
    have c0 : V.cell? ⟨b, 0, none⟩ = some (.int .u64 m) := block_cell hVb 0
    have f0 : ∀ o, V.frozen? ⟨b, o, none⟩ = false := block_free hVb
    have HBK := Lib.hid hVb
    rw [hV]
    clear hV hVb
    go_wp2
    go_end0
    refine ⟨rfl, extB_set HVE.out _ _, ?_⟩
    unfold LyB
    rw [rkept_some _ _ _ HV.out, catK_some _ _ _ HV.out, HC.out, HKK.out, List.length_append, HM.out]
    exact block_setCell HBK.out _
end Go.Proofs.YtihiaopilnjonaaGreatDoor
