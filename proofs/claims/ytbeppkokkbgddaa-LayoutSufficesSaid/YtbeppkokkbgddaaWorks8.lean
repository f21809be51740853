/- The statements of layer 8: works. -/
import Derived.Test.YtbeppkokkbgddaaSame
import Derived.Test.YtbeppkokkbgddaaPlaces
namespace Go.Proofs.Ytbeppkokkbgddaa
open Go.RowKit
set_option linter.unusedSimpArgs false
set_option linter.unusedVariables false

theorem row_lit {ks l m : List Int} (h : needK ks = l) (hm : m.Pairwise (fun x y => x < y)) (he : ∀ k, k ∈ l ↔ k ∈ m) : rowK ks = m := by
  unfold rowK
  exact srt_of (needK_nodup ks) hm (fun k => by rw [h]; exact he k)
theorem rows8 : rowsOf [5, 0] 3 = [[1, 4], [1, 3], []] := by
  have e : rowsOf [5, 0] 3 = [rowK (insAll [5, 0]), rowK (insAll [2, 0]), rowK (insAll [1, 0])] := by
    simp [rowsOf, List.range_succ_eq_map]
  rw [e, row_lit (l := [4, 1]) (m := [1, 4]) (by decide) (by decide) (fun k => by simp; omega), row_lit (l := [3, 1]) (m := [1, 3]) (by decide) (by decide) (fun k => by simp; omega), row_lit (l := []) (m := []) (by decide) (by decide) (fun k => Iff.rfl)]

/-- A slice over a block that is known whole. -/
theorem u64s_block {w : World} {b : Nat} {l : List Int} {t : TypeId} {fr : Nat × Nat} (h : w.heap[b]? = some (.cells (l.map (Value.int .u64)).toArray t fr)) : U64s w (some ⟨b, 0, none⟩) l := fun i hi => by
  refine ⟨b, 0, rfl, ?_⟩
  have hi' : i < l.length := hi
  rw [Nat.zero_add, block_cell h, nth_eq l i hi']
  simp [hi']
theorem rows2_cons {w : World} {b : Nat} {cs : Array Value} {t : TypeId} {fr : Nat × Nat} {rs : List (List Int)} (h : w.heap[b]? = some (.cells cs t fr)) (hr : ∀ i, i < rs.length → ∃ ai ci, cs[i]? = some (.slice ai (len (rnth rs i)) ci) ∧ U64s w ai (rnth rs i) ∧ len (rnth rs i) ≤ ci) : Rows2 w (some ⟨b, 0, none⟩) rs := fun i hi => by
  obtain ⟨ai, ci, h1, h2, h3⟩ := hr i hi
  exact ⟨b, 0, ai, ci, rfl, by rw [Nat.zero_add, block_cell h]; exact h1, h2, h3⟩

set_option maxRecDepth 100000 in
set_option maxHeartbeats 2000000 in
theorem works8_any (w : World) : Calls Try.prog 21 #[] w fun e w' => e = .returned (.bool true) ∧ Below w.heap.size w w' := by
  go_enter Try.func21, Try.ntmps21
  go_wp2_with fail
  obtain ⟨V, hV⟩ : ∃ V, w.alloc (.cells #[.int .u64 5, .int .u64 0] 22) = V := ⟨_, rfl⟩
  have VB : Hid (Below w.heap.size w V) := Lib.hid (by rw [← hV]; (repeat (first | exact Below.refl _ _ | assumption | (refine bdrew ?_) | (refine bdrewN ?_ _) | (refine balloc ?_ _) | (refine bset ?_ (by first | omega | (simp; done) | (simp; omega)) _) | (refine bnext ?_ (by assumption)))))
  have V0 : Hid (V.heap[w.heap.size]? = some (.cells (List.map (Value.int .u64) [5, 0]).toArray 22 (0, 0))) := Lib.hid (by rw [← hV]; exact heap_alloc_new _ _)
  rw [hV]
  clear hV
  have hf : farB [5, 0] 3 = false := by decide
  refine (needs12_any (some ⟨w.heap.size, 0, none⟩) 2 [5, 0] 3 V (u64s_block V0.out) (by decide) (by decide) (fun k hk => by simp at hk; unfold U64; omega) (by decide) hf).mono ?_
  rintro e w1 ⟨v, vals, rfl, hr, hrs, hb⟩
  rw [rows8] at hrs
  obtain ⟨a, cap, rfl, h2, h3, h4⟩ := rows2_of hr hrs
  have R2 := Lib.hid h2
  have B1 := Lib.hid (bnext VB.out hb)
  clear hr hrs hb h2 hf
  go_wp2_with fail
  refine (depth_any 5 _ (by decide) (by decide)).mono ?_
  rintro e w2 ⟨rfl, rfl⟩
  rw [show depthZ 5 = 3 by decide]
  go_wp2_with fail
  refine (leaf_any 6 3 _ (by decide) (by decide)).mono ?_
  rintro e w2 ⟨rfl, rfl⟩
  rw [show turnedZ 6 3 = 3 by decide]
  go_wp2_with fail
  refine (element_any 4 3 _ (by decide) (by decide)).mono ?_
  rintro e w2 ⟨rfl, rfl⟩
  rw [show turnedZ 4 3 = 1 by decide]
  go_wp2_with fail
  obtain ⟨z, hz⟩ : ∃ z, w1.heap.size = z := ⟨_, rfl⟩
  rw [hz]
  obtain ⟨X, hX⟩ : ∃ X, ((w1.alloc (.cells #[.int .u64 1, .int .u64 4] 22)).alloc (.cells #[.int .u64 1, .int .u64 3] 22)).alloc (.cells #[.slice (some ⟨z, 0, none⟩) 2 2, .slice (some ⟨z + 1, 0, none⟩) 2 2, .slice none 0 0] 28) = X := ⟨_, rfl⟩
  have s1 : (w1.alloc (.cells #[.int .u64 1, .int .u64 4] 22)).heap.size = z + 1 := by simp; omega
  have s2 : ((w1.alloc (.cells #[.int .u64 1, .int .u64 4] 22)).alloc (.cells #[.int .u64 1, .int .u64 3] 22)).heap.size = z + 2 := by simp; omega
  have X0 : X.heap[z]? = some (.cells (List.map (Value.int .u64) [1, 4]).toArray 22 (0, 0)) := by rw [← hX]; exact block_alloc (block_alloc (alloc_new_at _ hz) _) _
  have X1 : X.heap[z + 1]? = some (.cells (List.map (Value.int .u64) [1, 3]).toArray 22 (0, 0)) := by rw [← hX]; exact block_alloc (alloc_new_at _ s1) _
  have X2 : X.heap[z + 2]? = some (.cells #[.slice (some ⟨z, 0, none⟩) 2 2, .slice (some ⟨z + 1, 0, none⟩) 2 2, .slice none 0 0] 28 (0, 0)) := by rw [← hX]; exact alloc_new_at _ s2
  have XB : Below w1.heap.size w1 X := by rw [← hX]; exact balloc (balloc (balloc (Below.refl _ _) _) _) _
  have HL : Hid (Rows2 X (some ⟨z + 2, 0, none⟩) [[1, 4], [1, 3], []]) := Lib.hid (rows2_cons X2 (fun i hi => by
    rcases (by simp at hi; omega : i = 0 ∨ i = 1 ∨ i = 2) with rfl | rfl | rfl
    · exact ⟨_, _, rfl, u64s_block X0, by decide⟩
    · exact ⟨_, _, rfl, u64s_block X1, by decide⟩
    · exact ⟨_, _, rfl, U64s.nil _ _, by decide⟩))
  have HX := Lib.hid (bnext B1.out XB)
  have HR := Lib.hid (R2.out.below XB)
  rw [hX]
  clear hX s1 s2 X0 X1 X2 XB hz
  refine (same_any a (some ⟨z + 2, 0, none⟩) cap 3 [[1, 4], [1, 3], []] [[1, 4], [1, 3], []] X HR.out HL.out (by decide) (by decide) (fun i => by
    rcases (by omega : i = 0 ∨ i = 1 ∨ i = 2 ∨ 3 ≤ i) with rfl | rfl | rfl | h
    · decide
    · decide
    · decide
    · unfold rnth; rw [List.getD_eq_getElem?_getD, List.getElem?_eq_none (by simpa using h)]; decide)).mono ?_
  rintro e w3 ⟨rfl, hd⟩
  have HD := Lib.hid (bnext HX.out (hd.below _))
  clear hd
  rw [show sameB [[1, 4], [1, 3], []] [[1, 4], [1, 3], []] = true by decide]
  go_wp2
  go_ret
  exact ⟨rfl, HD.out⟩
end Go.Proofs.Ytbeppkokkbgddaa
