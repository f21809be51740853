/- Package wire: Slot, Part. -/
import Derived.Test.YtihiaopilnjonaaGreatDoorWireK
namespace Go.Proofs.YtihiaopilnjonaaGreatDoor
open Go.RowKit
set_option linter.unusedSimpArgs false
set_option linter.unusedVariables false

set_option maxRecDepth 100000 in
theorem wslot_any (B : Nat) (L : Int) (q : Bool) (idx : Int) (a1 a2 : Option Addr) (k1 k2 : Nat) (wots path : List ByteArray) (w : World) (ht : PTab B w) (hs1 : Strs B w a1 wots) (hs2 : Strs B w a2 path) (h0 : 0 ≤ idx) (h1 : idx ≤ 18446744073709551615) (hL0 : 0 ≤ L) (hL1 : L ≤ 18446744073709551615) (hw : len wots ≤ 100000) (hp : len path ≤ 100000)
    (hsz : (layP (slotSpecs L q idx wots path)).size ≤ 60000000000000) :
    Calls Tryz.prog 24 #[.agg #[.int .u64 L, .bool q, .int .u64 idx, .slice a1 (len wots) k1, .slice a2 (len path) k2]] w (LaidIs (slotSpecs L q idx wots path) w) := by
  have HT := Lib.hid ht
  have HS1 := Lib.hid hs1
  have HS2 := Lib.hid hs2
  clear ht hs1 hs2
  go_enter Tryz.func24, Tryz.ntmps24
  go_wp2_with fail
  obtain ⟨V, hV⟩ : ∃ V, w.alloc (.cells #[.int .u64 L, .bool q, .int .u64 idx, .slice a1 (len wots) k1, .slice a2 (len path) k2] 44) = V := ⟨_, rfl⟩
  have HB : Hid (Below w.heap.size w V) := Lib.hid (by rw [← hV]; (repeat (first | exact Below.refl _ _ | assumption | (refine bdrew ?_) | (refine bdrewN ?_ _) | (refine balloc ?_ _) | (refine bset ?_ (by first | omega | (simp; done) | (simp; omega)) _) | (refine bnext ?_ (by assumption)))))
  have hblk : V.heap[w.heap.size]? = some (.cells #[.int .u64 L, .bool q, .int .u64 idx, .slice a1 (len wots) k1, .slice a2 (len path) k2] 44 (0, 0)) := by rw [← hV]; exact heap_alloc_new _ _
  have HSL : Hid (SlotAt B V w.heap.size 0 L q idx wots path) := Lib.hid ⟨cellAt_new hblk (by decide) rfl, cellAt_new hblk (by decide) rfl, ⟨cellAt_new hblk (by decide) rfl, ⟨a1, k1, cellAt_new hblk (by decide) rfl, HS1.out.below HB.out⟩, ⟨a2, k2, cellAt_new hblk (by decide) rfl, HS2.out.below HB.out⟩⟩⟩
  have HTV := Lib.hid (HT.out.keep HB.out HT.out.size)
  try rw [hV]
  clear hV hblk HT
  refine (ofslot_any B w.heap.size 0 L q idx wots path V HTV.out.size HSL.out h0 h1 hL0 hL1 hw hp).mono ?_
  rintro e w1 ⟨g, c, l, rfl, hF, hS, hb⟩
  have HF := Lib.hid hF
  have HS := Lib.hid hS
  have HB1 : Hid (Below w.heap.size w w1) := Lib.hid (bnext HB.out hb)
  have HT1 := Lib.hid (HTV.out.keep hb HTV.out.size)
  have hl : len l = 3 := hS.1.symm
  have HL := Lib.hid hl
  clear hF hS hb hl HTV HSL
  go_wp2_with fail
  refine (wlaid_any B g 0 c w1 l (slotSpecs L q idx wots path) w1 HF.out.flds (by rw [HL.out]; decide) (by rw [HL.out]; decide) HS.out (Keep8.refl HT1.out.size) HT1.out hsz).mono ?_
  rintro e w2 ⟨rfl, hb2⟩
  have HB2 : Hid (Below w.heap.size w w2) := Lib.hid (bnext HB1.out hb2)
  clear hb2
  cases hm : allMay (slotSpecs L q idx wots path) with
  | true =>
    have HM := Lib.hid hm
    clear hm
    rw [if_pos rfl]
    go_wp2
    go_ret2
    exact ⟨by rw [HM.out]; rfl, HB2.out⟩
  | false =>
    have HM := Lib.hid hm
    clear hm
    rw [if_neg (by decide)]
    go_wp2
    go_ret2
    exact ⟨by rw [HM.out]; rfl, HB2.out⟩
set_option maxRecDepth 100000 in
theorem wpart_any (B : Nat) (root : ByteArray) (weight first life keys : Int) (w : World) (ht : PTab B w) (hr : root.size ≤ 9223372036854775807) (hw : U64i weight) (hf : U64i first) (hl : U64i life) (hk : U64i keys)
    (hsz : (layP (partSpecs root weight first life keys)).size ≤ 60000000000000) :
    Calls Tryz.prog 25 #[.agg #[.string root, .int .u64 weight, .int .u64 first, .int .u64 life, .int .u64 keys]] w (LaidIs (partSpecs root weight first life keys) w) := by
  have HT := Lib.hid ht
  clear ht
  go_enter Tryz.func25, Tryz.ntmps25
  go_wp2_with fail
  obtain ⟨V, hV⟩ : ∃ V, w.alloc (.cells #[.string root, .int .u64 weight, .int .u64 first, .int .u64 life, .int .u64 keys] 46) = V := ⟨_, rfl⟩
  have HB : Hid (Below w.heap.size w V) := Lib.hid (by rw [← hV]; (repeat (first | exact Below.refl _ _ | assumption | (refine bdrew ?_) | (refine bdrewN ?_ _) | (refine balloc ?_ _) | (refine bset ?_ (by first | omega | (simp; done) | (simp; omega)) _) | (refine bnext ?_ (by assumption)))))
  have hblk : V.heap[w.heap.size]? = some (.cells #[.string root, .int .u64 weight, .int .u64 first, .int .u64 life, .int .u64 keys] 46 (0, 0)) := by rw [← hV]; exact heap_alloc_new _ _
  have HSL : Hid (PartAt B V w.heap.size 0 root weight first life keys) := Lib.hid ⟨cellAt_new hblk (by decide) rfl, cellAt_new hblk (by decide) rfl, cellAt_new hblk (by decide) rfl, cellAt_new hblk (by decide) rfl, cellAt_new hblk (by decide) rfl⟩
  have HTV := Lib.hid (HT.out.keep HB.out HT.out.size)
  try rw [hV]
  clear hV hblk HT
  refine (ofpart_any B w.heap.size 0 root weight first life keys V HTV.out.size HSL.out hr hw hf hl hk).mono ?_
  rintro e w1 ⟨g, c, l, rfl, hF, hS, hb⟩
  have HF := Lib.hid hF
  have HS := Lib.hid hS
  have HB1 : Hid (Below w.heap.size w w1) := Lib.hid (bnext HB.out hb)
  have HT1 := Lib.hid (HTV.out.keep hb HTV.out.size)
  have hl : len l = 5 := hS.1.symm
  have HL := Lib.hid hl
  clear hF hS hb hl HTV HSL
  go_wp2_with fail
  refine (wlaid_any B g 0 c w1 l (partSpecs root weight first life keys) w1 HF.out.flds (by rw [HL.out]; decide) (by rw [HL.out]; decide) HS.out (Keep8.refl HT1.out.size) HT1.out hsz).mono ?_
  rintro e w2 ⟨rfl, hb2⟩
  have HB2 : Hid (Below w.heap.size w w2) := Lib.hid (bnext HB1.out hb2)
  clear hb2
  cases hm : allMay (partSpecs root weight first life keys) with
  | true =>
    have HM := Lib.hid hm
    clear hm
    rw [if_pos rfl]
    go_wp2
    go_ret2
    exact ⟨by rw [HM.out]; rfl, HB2.out⟩
  | false =>
    have HM := Lib.hid hm
    clear hm
    rw [if_neg (by decide)]
    go_wp2
    go_ret2
    exact ⟨by rw [HM.out]; rfl, HB2.out⟩
end Go.Proofs.YtihiaopilnjonaaGreatDoor
