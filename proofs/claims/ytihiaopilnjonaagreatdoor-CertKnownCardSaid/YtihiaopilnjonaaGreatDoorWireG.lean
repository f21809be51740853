/- Package wire: lists of digests as fields; a map as a field. -/
import Derived.Test.YtihiaopilnjonaaGreatDoorWireF
namespace Go.Proofs.YtihiaopilnjonaaGreatDoor
open Go.RowKit
set_option linter.unusedSimpArgs false
set_option linter.unusedVariables false

theorem CellAt.but {B : Nat} {w w' : World} {b o t : Nat} {x : Value} (h : CellAt B w b o x) (hb : b ≠ t) (hk : ∀ k : Nat, k ≠ t → w'.heap[k]? = w.heap[k]?) : CellAt B w' b o x := by
  have e := hk b hb
  refine ⟨?_, by rw [e]; exact h.ex⟩
  have : w'.cell? ⟨b, o, none⟩ = w.cell? ⟨b, o, none⟩ := by unfold World.cell?; rw [e]
  rw [this]; exact h.cell
set_option maxRecDepth 100000 in
theorem fmany_any (B : Nat) (key : ByteArray) (pb po c most : Nat) (a : Option Addr) (l : List ByteArray) (w : World) (hk : key.size < 65536) (hBw : B ≤ w.heap.size) (hc : CellAt B w pb po (.slice a (len l) c)) (hl : Strs B w a l) (hn : len l ≤ 100000) (hm : most ≤ 60000) (t : Nat) (htw : t < w.heap.size) (htp : pb ≠ t) (hta : ∀ i, i < len l → ∃ g o, a = some ⟨g, o, none⟩ ∧ g ≠ t) :
    Calls Tryz.prog 210 #[.string key, .pointer (some ⟨pb, po, none⟩), .int .i64 most, .func (.func 211) #[] #[], .func (.func 212) #[] #[], .func (.func 213) #[] #[]] w fun e w' => ∃ v : FVal, e = .returned v.val ∧ (∀ V2 : World, (∀ k : Nat, k ≠ t → V2.heap[k]? = w'.heap[k]?) → FSem B V2 v ⟨key, false, decide (len l = 0), mayB l most, dgsP l⟩) ∧ Below w.heap.size w w' := by
  have HC := Lib.hid hc
  have HL := Lib.hid hl
  clear hc hl
  go_enter Tryz.func210, Tryz.ntmps210
  go_wp2
  obtain ⟨bx, hbx⟩ : ∃ bx, w.heap.size = bx := ⟨_, rfl⟩
  obtain ⟨V, hV⟩ : ∃ V, (((((((w.alloc (.cells #[.pointer (some ⟨pb, po, none⟩)] 230)).alloc (.cells #[.int .i64 most] 3)).alloc (.cells #[.func (.func 211) #[] #[]] 301)).alloc (.cells #[.func (.func 212) #[] #[]] 302)).alloc (.cells #[.func (.func 213) #[] #[]] 303)).alloc (.cells #[.string key, .bool false, .func (.func 247) #[] #[.pointer (some ⟨w.heap.size, 0, none⟩)], .func (.func 248) #[] #[.pointer (some ⟨w.heap.size, 0, none⟩), .pointer (some ⟨w.heap.size + 1, 0, none⟩), .pointer (some ⟨w.heap.size + 1 + 1, 0, none⟩)], .func (.func 251) #[] #[.pointer (some ⟨w.heap.size, 0, none⟩), .pointer (some ⟨w.heap.size + 1 + 1 + 1, 0, none⟩)], .func (.func 252) #[] #[.pointer (some ⟨w.heap.size + 1, 0, none⟩), .pointer (some ⟨w.heap.size + 1 + 1 + 1 + 1, 0, none⟩), .pointer (some ⟨w.heap.size, 0, none⟩)]] 172)).alloc (.cells #[.string key, .bool false, .func (.func 247) #[] #[.pointer (some ⟨w.heap.size, 0, none⟩)], .func (.func 248) #[] #[.pointer (some ⟨w.heap.size, 0, none⟩), .pointer (some ⟨w.heap.size + 1, 0, none⟩), .pointer (some ⟨w.heap.size + 1 + 1, 0, none⟩)], .func (.func 251) #[] #[.pointer (some ⟨w.heap.size, 0, none⟩), .pointer (some ⟨w.heap.size + 1 + 1 + 1, 0, none⟩)], .func (.func 252) #[] #[.pointer (some ⟨w.heap.size + 1, 0, none⟩), .pointer (some ⟨w.heap.size + 1 + 1 + 1 + 1, 0, none⟩), .pointer (some ⟨w.heap.size, 0, none⟩)]] 172)) = V := ⟨_, rfl⟩
  have VB : Below w.heap.size w V := by rw [← hV]; (repeat (first | exact Below.refl _ _ | assumption | (refine bdrew ?_) | (refine bdrewN ?_ _) | (refine balloc ?_ _) | (refine bset ?_ (by first | omega | (simp; done) | (simp; omega)) _) | (refine bnext ?_ (by assumption))))
  have V0 : V.heap[bx]? = some (.cells #[.pointer (some ⟨pb, po, none⟩)] 230 (0, 0)) := by rw [← hV, ← hbx]; exact block_alloc (block_alloc (block_alloc (block_alloc (block_alloc (block_alloc (heap_alloc_new _ _) _) _) _) _) _) _
  have V1 : V.heap[bx + 1]? = some (.cells #[.int .i64 most] 3 (0, 0)) := by rw [← hV, ← hbx]; exact block_alloc (block_alloc (block_alloc (block_alloc (block_alloc (alloc_new_at _ (by simp)) _) _) _) _) _
  have V2 : V.heap[bx + 1 + 1]? = some (.cells #[.func (.func 211) #[] #[]] 301 (0, 0)) := by rw [← hV, ← hbx]; exact block_alloc (block_alloc (block_alloc (block_alloc (alloc_new_at _ (by simp)) _) _) _) _
  have V3 : V.heap[bx + 1 + 1 + 1]? = some (.cells #[.func (.func 212) #[] #[]] 302 (0, 0)) := by rw [← hV, ← hbx]; exact block_alloc (block_alloc (block_alloc (alloc_new_at _ (by simp)) _) _) _
  have V5 : V.heap[bx + 1 + 1 + 1 + 1 + 1]? = some (.cells #[.string key, .bool false, .func (.func 247) #[] #[.pointer (some ⟨bx, 0, none⟩)], .func (.func 248) #[] #[.pointer (some ⟨bx, 0, none⟩), .pointer (some ⟨bx + 1, 0, none⟩), .pointer (some ⟨bx + 1 + 1, 0, none⟩)], .func (.func 251) #[] #[.pointer (some ⟨bx, 0, none⟩), .pointer (some ⟨bx + 1 + 1 + 1, 0, none⟩)], .func (.func 252) #[] #[.pointer (some ⟨bx + 1, 0, none⟩), .pointer (some ⟨bx + 1 + 1 + 1 + 1, 0, none⟩), .pointer (some ⟨bx, 0, none⟩)]] 172 (0, 0)) := by rw [← hV, ← hbx]; exact block_alloc (alloc_new_at _ (by simp)) _
  have d : ∀ o, V.cell? ⟨bx + 1 + 1 + 1 + 1 + 1, o, none⟩ = _ := block_cell V5
  rw [hV]
  simp only [hbx]
  clear hV
  have hbt : bx ≠ t ∧ bx + 1 ≠ t ∧ bx + 1 + 1 ≠ t ∧ bx + 1 + 1 + 1 ≠ t := by omega
  have C0 : CellAt B V bx 0 (.pointer (some ⟨pb, po, none⟩)) := cellAt_new V0 (by decide) rfl
  have C1 : CellAt B V (bx + 1) 0 (.int .i64 most) := cellAt_new V1 (by decide) rfl
  have C2 : CellAt B V (bx + 1 + 1) 0 (.func (.func 211) #[] #[]) := cellAt_new V2 (by decide) rfl
  have C3 : CellAt B V (bx + 1 + 1 + 1) 0 (.func (.func 212) #[] #[]) := cellAt_new V3 (by decide) rfl
  have CP : CellAt B V pb po (.slice a (len l) c) := HC.out.below VB
  have SL : Strs B V a l := HL.out.below VB
  refine bodyPost_ret (v := .agg #[.string key, .bool false, .func (.func 247) #[] #[.pointer (some ⟨bx, 0, none⟩)], .func (.func 248) #[] #[.pointer (some ⟨bx, 0, none⟩), .pointer (some ⟨bx + 1, 0, none⟩), .pointer (some ⟨bx + 1 + 1, 0, none⟩)], .func (.func 251) #[] #[.pointer (some ⟨bx, 0, none⟩), .pointer (some ⟨bx + 1 + 1 + 1, 0, none⟩)], .func (.func 252) #[] #[.pointer (some ⟨bx + 1, 0, none⟩), .pointer (some ⟨bx + 1 + 1 + 1 + 1, 0, none⟩), .pointer (some ⟨bx, 0, none⟩)]]) ?_ rfl ⟨⟨key, false, 247, #[.pointer (some ⟨bx, 0, none⟩)], 248, #[.pointer (some ⟨bx, 0, none⟩), .pointer (some ⟨bx + 1, 0, none⟩), .pointer (some ⟨bx + 1 + 1, 0, none⟩)], 251, #[.pointer (some ⟨bx, 0, none⟩), .pointer (some ⟨bx + 1 + 1 + 1, 0, none⟩)], 252, #[.pointer (some ⟨bx + 1, 0, none⟩), .pointer (some ⟨bx + 1 + 1 + 1 + 1, 0, none⟩), .pointer (some ⟨bx, 0, none⟩)]⟩, rfl, ?_, by rw [← hbx]; exact VB⟩
  · simp [results, Tryz.results210, go_sem, d]
  · intro V2 hV2
    have D0 := C0.but hbt.1 hV2
    have D1 := C1.but hbt.2.1 hV2
    have D2 := C2.but hbt.2.2.1 hV2
    have D3 := C3.but hbt.2.2.2 hV2
    have DP := CP.but htp hV2
    have DS : Strs B V2 a l := fun i hi => by
      obtain ⟨g, o, e, hg⟩ := hta i hi
      obtain ⟨g', o', e', hc⟩ := SL i hi
      subst e; cases e'
      exact ⟨g, o, rfl, hc.but hg hV2⟩
    exact ⟨rfl, rfl, hk, enters_of Tryz.func247 (by kernel_rfl) rfl, enters_of Tryz.func248 (by kernel_rfl) rfl, enters_of Tryz.func251 (by kernel_rfl) rfl, fun w' hw => many1_any B bx pb po (len l) c a w' (D0.keep hw) (DP.keep hw), fun w' hw => many2_any B bx (bx + 1) (bx + 1 + 1) pb po c most a l w' (D0.keep hw) (DP.keep hw) (D1.keep hw) (D2.keep hw) (DS.keep hw) hn, fun hm1 he w' b base s hw hb ht hB hW hs => many3_any B b base bx (bx + 1 + 1 + 1) pb po c a l s V2 w' D0 DP D3 DS (by have := (size32 hm1).1; omega) (size32 hm1).2 hw hb ht hB hW hs⟩
end Go.Proofs.YtihiaopilnjonaaGreatDoor
