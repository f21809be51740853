/- The statement LayoutNeeds: the law. -/
import Derived.Test.YtbeppkokkbgddaaRefNB
import Derived.Test.YtbeppkokkbgddaaWorks8
namespace Go.Proofs.Ytbeppkokkbgddaa
open Go.RowKit
set_option linter.unusedSimpArgs false
set_option linter.unusedVariables false

theorem rnth_needsL (leaves : List Int) (d : Int) (hlen : len leaves ≤ 100) (i : Nat) : len (rnth (needsL leaves d) i) ≤ 9223372036854775807 := by
  have key : ∀ r ∈ needsL leaves d, r.length ≤ 100 := by
    intro r hr
    unfold needsL at hr
    split at hr
    · unfold rowsOf at hr
      obtain ⟨j, hj, rfl⟩ := List.mem_map.1 hr
      unfold rowK
      rw [srt_len]
      refine Nat.le_trans (needK_len _) (Nat.le_trans (insAll_all _).2.2 ?_)
      rw [List.length_map]; exact hlen
    · cases hr
  by_cases hi : i < (needsL leaves d).length
  · rw [rnth_eq _ i hi, len_eq]
    have := key _ (List.getElem_mem hi); omega
  · have : rnth (needsL leaves d) i = [] := by
      unfold rnth; rw [List.getD_eq_getElem?_getD, List.getElem?_eq_none (by omega)]; rfl
    rw [this]; exact Nat.zero_le _
theorem len_needsL (leaves : List Int) (d : Int) : len (needsL leaves d) ≤ 16 := by
  unfold needsL
  split
  · rename_i h
    rw [len_eq]; unfold rowsOf; rw [List.length_map, List.length_range]; have := h.2.1; omega
  · exact Nat.zero_le _

set_option maxRecDepth 100000 in
set_option maxHeartbeats 1000000 in
theorem needs_law (a : Option Addr) (c : Nat) (l : List Int) (d : Int) (w : World) (hl : U64s w a l) (hc : len l ≤ c) (hc2 : c ≤ 9223372036854775807) (hu : ∀ i, 0 ≤ nth l i ∧ nth l i < 18446744073709551616) :
    Calls Try.prog 4 #[.slice a (len l) c, .int .i64 d] w fun e w' => e = .returned (.bool true) ∧ Below w.heap.size w w' := by
  obtain ⟨m, hm⟩ : ∃ m : Nat, min (len l : Int) 20 = (m : Int) := ⟨min (len l) 20, by omega⟩
  have hm1 : m ≤ len l ∧ m ≤ 20 := by omega
  obtain ⟨L, hL⟩ : ∃ L, l.take m = L := ⟨_, rfl⟩
  have hmL : len L = m := by rw [← hL, len_eq, List.length_take]; have : l.length = len l := rfl; omega
  have HUL : Hid (U64s w a L) := Lib.hid (fun i hi => by
    obtain ⟨b, off, e, h⟩ := hl i (by omega)
    refine ⟨b, off, e, ?_⟩
    have hi' : i < l.length := by have : l.length = len l := rfl; omega
    have hi2 : i < L.length := hi
    rw [nth_eq L i hi2]
    rw [nth_eq l i hi'] at h
    subst hL
    rw [List.getElem_take]; exact h)
  have HUU : Hid (∀ k ∈ L, U64 k) := Lib.hid (fun k hk => by
    have hk2 : k ∈ l := by rw [← hL] at hk; exact List.mem_of_mem_take hk
    obtain ⟨i, hi, rfl⟩ := List.getElem_of_mem hk2
    have := hu i
    rw [nth_eq l i hi] at this
    unfold U64; omega)
  subst hmL
  have mm := hm
  clear hL hl hu hm
  go_enter Try.func4, Try.ntmps4
  go_wp2_with fail
  refine (needs_any a c L d _ HUL.out (by omega) HUU.out).mono ?_
  rintro e w1 ⟨v1, vals1, rfl, h1, h2, h3⟩
  have H1 := Lib.hid h1
  have H2 := Lib.hid h2
  have H3 := Lib.hid h3
  clear h1 h2 h3
  go_wp2_with fail
  refine (refNeeds_any a c L d _ (HUL.out.below H3.out) (by omega) HUU.out).mono ?_
  rintro e w2 ⟨v2, vals2, rfl, h1, h2, h3⟩
  have H4 := Lib.hid h1
  have H5 := Lib.hid h2
  have H6 : Hid (Below w.heap.size w w2) := Lib.hid (bnext H3.out h3)
  obtain ⟨a1, c1, e1, r1, -⟩ := rows2_of (own_below H1.out h3) (H2.out.below h3)
  obtain ⟨a2, c2, e2, r2, -⟩ := rows2_of H4.out H5.out
  subst e1 e2
  have R1 := Lib.hid r1
  have R2 := Lib.hid r2
  clear h1 h2 h3 r1 r2
  go_wp2_with fail
  refine (same_any a1 a2 c1 c2 (needsL L d) (needsL L d) w2 R1.out R2.out (Nat.le_trans (len_needsL _ _) (by decide)) (Nat.le_trans (len_needsL _ _) (by decide)) (rnth_needsL L d (by omega))).mono ?_
  rintro e w3 ⟨rfl, hw3⟩
  rw [show sameB (needsL L d) (needsL L d) = true from decide_eq_true rfl]
  have H7 : Hid (Below w.heap.size w w3) := Lib.hid (bnext H6.out (hw3.below _))
  clear hw3
  go_wp2_with fail
  refine (works8_any _).mono ?_
  rintro e w4 ⟨rfl, hb⟩
  have HB := Lib.hid (bnext H7.out hb)
  clear hb
  go_wp2
  go_ret
  exact ⟨rfl, HB.out⟩
end Go.Proofs.Ytbeppkokkbgddaa
