/- The statements of layer 20: works. -/
import Derived.Test.YtbeppkokkbgddaaRvN
import Derived.Test.YtbeppkokkbgddaaRvE
import Derived.Test.YtbeppkokkbgddaaSame
namespace Go.Proofs.Ytbeppkokkbgddaa
open Go.RowKit
set_option linter.unusedSimpArgs false
set_option linter.unusedVariables false

theorem ups_of {E : List Int} (h : E.Pairwise (fun x y => x < y)) : Ups E := fun i j hij hj => by
  have hj' : j < E.length := hj
  have hi' : i < E.length := by omega
  rw [nth_eq E i hi', nth_eq E j hj']
  exact List.pairwise_iff_getElem.1 h i j hi' hj' hij
theorem u64s_lit {w : World} {b : Nat} {l : List Int} {t : TypeId} {fr : Nat × Nat} (h : w.heap[b]? = some (.cells (l.map (Value.int .u64)).toArray t fr)) : U64s w (some ⟨b, 0, none⟩) l := fun i hi => by
  refine ⟨b, 0, rfl, ?_⟩
  have hi' : i < l.length := hi
  rw [block_cell h, nth_eq l i hi']
  simp [hi']
theorem bls_lit {w : World} {b : Nat} {l : List Bool} {t : TypeId} {fr : Nat × Nat} (h : w.heap[b]? = some (.cells (l.map Value.bool).toArray t fr)) : Bls w (some ⟨b, 0, none⟩) l := fun i hi => by
  refine ⟨b, 0, rfl, ?_⟩
  rw [block_cell h]
  simp [hi]

set_option maxRecDepth 100000 in
set_option maxHeartbeats 4000000 in
theorem works20_any (w : World) : Calls Try.prog 29 #[] w fun e w' => e = .returned (.bool true) ∧ Below w.heap.size w w' := by
  go_enter Try.func29, Try.ntmps29
  go_wp2_with fail
  obtain ⟨V, hV⟩ : ∃ V, (w.alloc (.cells #[.int .u64 5, .int .u64 3, .int .u64 2] 22)).alloc (.cells #[.bool true, .bool false, .bool true] 4) = V := ⟨_, rfl⟩
  have VB : Hid (Below w.heap.size w V) := Lib.hid (by rw [← hV]; (repeat (first | exact Below.refl _ _ | assumption | (refine bdrew ?_) | (refine bdrewN ?_ _) | (refine balloc ?_ _) | (refine bset ?_ (by first | omega | (simp; done) | (simp; omega)) _) | (refine bnext ?_ (by assumption)))))
  have V0 : Hid (V.heap[w.heap.size]? = some (.cells (List.map (Value.int .u64) [5, 3, 2]).toArray 22 (0, 0))) := Lib.hid (by rw [← hV]; exact block_alloc (heap_alloc_new _ _) _)
  have V1 : Hid (V.heap[w.heap.size + 1]? = some (.cells (List.map Value.bool [true, false, true]).toArray 4 (0, 0))) := Lib.hid (by rw [← hV]; exact alloc_new_at _ (by simp))
  try rw [hV]
  clear hV
  refine (new_any (some ⟨w.heap.size, 0, none⟩) (some ⟨w.heap.size + 1, 0, none⟩) 3 3 [5, 3, 2] [true, false, true] V (u64s_lit V0.out) (bls_lit V1.out) rfl (by decide) (by decide)).mono ?_
  rintro e w1 h
  rcases h with ⟨⟨k, hk, h2⟩, -, -⟩ | ⟨-, B, rfl, hB, hlay, hb⟩
  · exfalso
    have hk3 : k ≤ 3 := hk
    have : k = 0 ∨ k = 1 ∨ k = 2 ∨ k = 3 := by omega
    rcases this with rfl | rfl | rfl | rfl <;> revert h2 <;> decide
  have HLay := Lib.hid hlay
  have HB1 : Hid (Below w.heap.size w w1) := Lib.hid (bnext VB.out hb)
  clear hlay hb
  have eE : endK [5, 3, 2] [true, false, true] (len ([5, 3, 2] : List Int)) = [5, 7] := by decide
  have eW : whoK [true, false, true] (len ([5, 3, 2] : List Int)) = [0, 2] := by decide
  have HLay2 : Hid (LayB w1 B [5, 7] [0, 2] (allK [5, 3, 2] [true, false, true] (len ([5, 3, 2] : List Int)))) := Lib.hid (by have := HLay.out; rw [eE, eW] at this; exact this)
  clear HLay eE eW
  go_wp2_with fail
  obtain ⟨V2, hV2⟩ : ∃ V2, w1.alloc (.cells #[.int .u64 6, .int .u64 0, .int .u64 4, .int .u64 5, .int .u64 0] 22) = V2 := ⟨_, rfl⟩
  have V2B : Hid (Below w1.heap.size w1 V2) := Lib.hid (by rw [← hV2]; exact balloc (Below.refl _ _) _)
  have V20 : Hid (V2.heap[w1.heap.size]? = some (.cells (List.map (Value.int .u64) [6, 0, 4, 5, 0]).toArray 22 (0, 0))) := Lib.hid (by rw [← hV2]; exact heap_alloc_new _ _)
  try rw [hV2]
  clear hV2
  refine (choose_any B [5, 7] [0, 2] _ [6, 0, 4, 5, 0] (some ⟨w1.heap.size, 0, none⟩) 5 V2 (u64s_lit V20.out) (by decide) (HLay2.out.below V2B.out) rfl (by decide) (ups_of (by decide))).mono ?_
  rintro e w2 h
  rcases h with ⟨-, v1, v2, rfl, o1, o2, hb2⟩ | ⟨⟨c, hc, hc2⟩, -, -⟩
  · have ep : List.map (fallN [5, 7] [0, 2]) [6, 0, 4, 5, 0] = [2, 0, 0, 2, 0] := by decide
    have er : srt (insAll [2, 0, 0, 2, 0]) = [0, 2] := srt_of (insAll_all _).1 (by decide) (fun k => by rw [(insAll_all _).2.1]; simp; omega)
    rw [ep] at o1 o2
    rw [er] at o2
    obtain ⟨a1, c1, h1, u1, _, _⟩ := own_u64 o1
    obtain ⟨a2, c2, h2, u2, _, _⟩ := own_u64 o2
    subst h1
    subst h2
    have U1 := Lib.hid u1
    have U2 := Lib.hid u2
    have HB2 : Hid (Below w.heap.size w w2) := Lib.hid (bnext (bnext HB1.out V2B.out) hb2)
    clear ep er o1 o2 u1 u2 hb2
    have l5 : len ([2, 0, 0, 2, 0] : List Int) = 5 := rfl
    have l2 : len ([0, 2] : List Int) = 2 := rfl
    go_wp2_with fail
    obtain ⟨V3, hV3⟩ : ∃ V3, w2.alloc (.cells #[.int .u64 2, .int .u64 0, .int .u64 0, .int .u64 2, .int .u64 0] 22) = V3 := ⟨_, rfl⟩
    have V3B : Hid (Below w2.heap.size w2 V3) := Lib.hid (by rw [← hV3]; exact balloc (Below.refl _ _) _)
    have V30 : Hid (V3.heap[w2.heap.size]? = some (.cells (List.map (Value.int .u64) [2, 0, 0, 2, 0]).toArray 22 (0, 0))) := Lib.hid (by rw [← hV3]; exact heap_alloc_new _ _)
    try rw [hV3]
    clear hV3
    refine (numbers_any a1 (some ⟨w2.heap.size, 0, none⟩) c1 5 [2, 0, 0, 2, 0] [2, 0, 0, 2, 0] V3 (U1.out.below V3B.out) (u64s_lit V30.out) (by decide) (by decide)).mono ?_
    rintro e w3 ⟨rfl, hd3⟩
    rw [show numbersB [2, 0, 0, 2, 0] [2, 0, 0, 2, 0] = true from rfl]
    have B3 : Hid (Below w2.heap.size w2 w3) := Lib.hid (bnext V3B.out (hd3.below _))
    clear hd3
    go_wp2_with fail
    obtain ⟨V4, hV4⟩ : ∃ V4, w3.alloc (.cells #[.int .u64 0, .int .u64 2] 22) = V4 := ⟨_, rfl⟩
    have V4B : Hid (Below w3.heap.size w3 V4) := Lib.hid (by rw [← hV4]; exact balloc (Below.refl _ _) _)
    have V40 : Hid (V4.heap[w3.heap.size]? = some (.cells (List.map (Value.int .u64) [0, 2]).toArray 22 (0, 0))) := Lib.hid (by rw [← hV4]; exact heap_alloc_new _ _)
    try rw [hV4]
    clear hV4
    refine (numbers_any a2 (some ⟨w3.heap.size, 0, none⟩) c2 2 [0, 2] [0, 2] V4 ((U2.out.below B3.out).below V4B.out) (u64s_lit V40.out) (by decide) (by decide)).mono ?_
    rintro e w4 ⟨rfl, hd4⟩
    rw [show numbersB [0, 2] [0, 2] = true from rfl]
    have B4 : Hid (Below w.heap.size w w4) := Lib.hid (bnext (bnext (bnext HB2.out B3.out) V4B.out) (hd4.below _))
    clear hd4
    go_wp2_with fail
    refine (falls_any 6 5 2 _ (by decide) (by decide) (by decide) (by decide)).mono ?_
    rintro e w5 ⟨rfl, rfl⟩
    rw [show fallsB 6 5 2 = true from by decide]
    go_wp2_with fail
    refine (falls_any 7 5 2 _ (by decide) (by decide) (by decide) (by decide)).mono ?_
    rintro e w5 ⟨rfl, rfl⟩
    rw [show fallsB 7 5 2 = false from by decide]
    go_wp2
    go_ret
    exact ⟨rfl, B4.out⟩
  · exfalso
    simp at hc
    rcases hc with rfl | rfl | rfl | rfl | rfl <;> exact hc2 (by decide)
end Go.Proofs.Ytbeppkokkbgddaa
