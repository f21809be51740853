/- Package wire: object. -/
import Derived.Test.YtihiaopilnjonaaGreatDoorWireH
namespace Go.Proofs.YtihiaopilnjonaaGreatDoor
open Go.RowKit
set_option linter.unusedSimpArgs false
set_option linter.unusedVariables false

set_option maxRecDepth 100000 in
theorem fobject_any (B : Nat) (key : ByteArray) (g c : Nat) (W0 : World) (l : List FVal) (fs : List FSpec) (w : World) (hk : key.size < 65536) (hF : FRow w g l) (hn : len l ≤ 1000) (h0 : 0 < len l) (hS : FSems B W0 l fs) (hK : Keep8 B W0 w) :
    Calls Tryz.prog 107 #[.string key, .slice (some ⟨g, 0, none⟩) (len l) c] w fun e w' => ∃ v : FVal, e = .returned v.val ∧ FSem B w' v (objSpec key fs) ∧ Below w.heap.size w w' := by
  have HF := Lib.hid hF
  have HS := Lib.hid hS
  have HK := Lib.hid hK
  have eg := (says_must (w := w) hS).1
  have HA := Lib.hid (anyMust_iff fs (len l) hS.1)
  clear hF hS hK
  go_enter Tryz.func107, Tryz.ntmps107
  go_wp2_with fail
  obtain ⟨bx, hbx⟩ : ∃ bx, w.heap.size = bx := ⟨_, rfl⟩
  obtain ⟨V1, hV1⟩ : ∃ V1, (w.alloc (.cells #[.slice (some ⟨g, 0, none⟩) (len l) c] 113)).alloc (.cells #[.string ⟨#[]⟩, .bool false, .nilFunc, .nilFunc, .nilFunc, .nilFunc] 172) = V1 := ⟨_, rfl⟩
  have HB1 : Hid (Below w.heap.size w V1) := Lib.hid (by rw [← hV1]; (repeat (first | exact Below.refl _ _ | assumption | (refine bdrew ?_) | (refine bdrewN ?_ _) | (refine balloc ?_ _) | (refine bset ?_ (by first | omega | (simp; done) | (simp; omega)) _) | (refine bnext ?_ (by assumption)))))
  have HX1 : Hid (V1.heap[bx]? = some (.cells #[.slice (some ⟨g, 0, none⟩) (len l) c] 113 (0, 0))) := Lib.hid (by rw [← hV1, ← hbx]; exact block_alloc (heap_alloc_new _ _) _)
  have HT1 : Hid (V1.heap[bx + 1]? = some (.cells #[.string ⟨#[]⟩, .bool false, .nilFunc, .nilFunc, .nilFunc, .nilFunc] 172 (0, 0))) := Lib.hid (by rw [← hV1, ← hbx]; exact alloc_new_at _ (by simp))
  rw [hbx]
  try rw [hV1]
  have HBX := Lib.hid hbx
  clear hV1 hbx
  refine (containsf_any (some ⟨g, 0, none⟩) c l 177 #[] _ V1 (HF.out.below HB1.out).flds hn (says_must HS.out)).mono ?_
  rintro e w2 ⟨q, rfl, hq, hb2⟩
  have HQ : Hid (q = fs.any fun f => f.must) := Lib.hid (by
    rw [Bool.eq_iff_iff, hq]; exact HA.out.symm)
  have HB2 := Lib.hid hb2
  have HX2 : Hid (w2.heap[bx]? = some (.cells #[.slice (some ⟨g, 0, none⟩) (len l) c] 113 (0, 0))) := Lib.hid ((hb2.block _ (lt_of_block HX1.out)).trans HX1.out)
  have hT2 : w2.heap[bx + 1]? = some (.cells #[.string ⟨#[]⟩, .bool false, .nilFunc, .nilFunc, .nilFunc, .nilFunc] 172 (0, 0)) := (hb2.block _ (lt_of_block HT1.out)).trans HT1.out
  have HT2 := Lib.hid hT2
  have hfr : ∀ o, w2.frozen? ⟨bx + 1, o, none⟩ = false := block_free hT2
  have hcl : ∀ o, w2.cell? ⟨bx + 1, o, none⟩ = _ := block_cell hT2
  have lx : bx < w2.heap.size := lt_of_block HX2.out
  clear hb2 hq hT2
  go_wp2
  obtain ⟨V, hV⟩ : ∃ V, ((((((w2.setCell ⟨bx + 1, 0, none⟩ (.string key)).setCell ⟨bx + 1, 1, none⟩ (.bool q)).setCell ⟨bx + 1, 2, none⟩ (.func (.func 178) #[] #[.pointer (some ⟨bx, 0, none⟩)])).setCell ⟨bx + 1, 3, none⟩ (.func (.func 180) #[] #[.pointer (some ⟨bx, 0, none⟩)])).setCell ⟨bx + 1, 4, none⟩ (.func (.func 181) #[] #[.pointer (some ⟨bx, 0, none⟩)])).setCell ⟨bx + 1, 5, none⟩ (.func (.func 182) #[] #[.pointer (some ⟨bx, 0, none⟩)])) = V := ⟨_, rfl⟩
  have hV5 := (block_setCell (block_setCell (block_setCell (block_setCell (block_setCell (block_setCell HT2.out (o := 0) (.string key)) (o := 1) (.bool q)) (o := 2) (.func (.func 178) #[] #[.pointer (some ⟨bx, 0, none⟩)])) (o := 3) (.func (.func 180) #[] #[.pointer (some ⟨bx, 0, none⟩)])) (o := 4) (.func (.func 181) #[] #[.pointer (some ⟨bx, 0, none⟩)])) (o := 5) (.func (.func 182) #[] #[.pointer (some ⟨bx, 0, none⟩)]))
  rw [hV] at hV5
  have d : ∀ o, V.cell? ⟨bx + 1, o, none⟩ = _ := block_cell hV5
  have hne : bx ≠ bx + 1 := by omega
  have VX : V.heap[bx]? = some (.cells #[.slice (some ⟨g, 0, none⟩) (len l) c] 113 (0, 0)) := by
    rw [← hV, Below.heap_setCell _ _ _ _ hne, Below.heap_setCell _ _ _ _ hne, Below.heap_setCell _ _ _ _ hne, Below.heap_setCell _ _ _ _ hne, Below.heap_setCell _ _ _ _ hne, Below.heap_setCell _ _ _ _ hne]; exact HX2.out
  have hwx := HBX.out
  have HBW : Below bx w w2 := by rw [← hwx]; exact bnext HB1.out HB2.out
  have hbel : Below w.heap.size w V := by
    rw [← hV, hwx]
    exact ((((((HBW.setCell (Nat.le_succ_of_le (Nat.le_refl _)) _).setCell (Nat.le_succ_of_le (Nat.le_refl _)) _).setCell (Nat.le_succ_of_le (Nat.le_refl _)) _).setCell (Nat.le_succ_of_le (Nat.le_refl _)) _).setCell (Nat.le_succ_of_le (Nat.le_refl _)) _).setCell (Nat.le_succ_of_le (Nat.le_refl _)) _)
  rw [hV]
  have C0 : CellAt B V bx 0 (.slice (some ⟨g, 0, none⟩) (len l) c) := cellAt_new VX (by decide) rfl
  have HKV : Keep8 B W0 V := HK.out.next hbel
  have HFV : FRow V g l := HF.out.below hbel
  have HSV : FSems B V l fs := HS.out.later HKV
  refine bodyPost_ret (v := .agg #[.string key, .bool q, .func (.func 178) #[] #[.pointer (some ⟨bx, 0, none⟩)], .func (.func 180) #[] #[.pointer (some ⟨bx, 0, none⟩)], .func (.func 181) #[] #[.pointer (some ⟨bx, 0, none⟩)], .func (.func 182) #[] #[.pointer (some ⟨bx, 0, none⟩)]]) ?_ rfl ⟨⟨key, q, 178, #[.pointer (some ⟨bx, 0, none⟩)], 180, #[.pointer (some ⟨bx, 0, none⟩)], 181, #[.pointer (some ⟨bx, 0, none⟩)], 182, #[.pointer (some ⟨bx, 0, none⟩)]⟩, rfl, ?_, hbel⟩
  · simp [results, Tryz.results107, go_sem, d]
  · exact ⟨rfl, HQ.out, hk, enters_of Tryz.func178 (by kernel_rfl) rfl, enters_of Tryz.func180 (by kernel_rfl) rfl, enters_of Tryz.func181 (by kernel_rfl) rfl, fun w' hw => obj2_any B bx g c V l fs w' (C0.keep hw) (HFV.keep hw).flds hn HSV hw, fun w' hw => obj3_any B bx g c V l fs w' (C0.keep hw) (HFV.keep hw).flds hn HSV hw, fun hm1 he w' b base s hw hb ht hB hW hs => obj4_any B b base bx g c V l fs s w' (C0.keep hw) (HFV.keep hw).flds hn h0 HSV hm1 hw hb ht hB hW hs⟩
end Go.Proofs.YtihiaopilnjonaaGreatDoor
