/- Contracts of the reference of layer 21: Positions, Shape. -/
import Derived.Test.YtihiaopilnjonaaGreatDoorCertG
import Derived.Deep.RegionHeld3
import Derived.Deep.LoopGhost
namespace Go.Proofs.YtihiaopilnjonaaGreatDoor
open Go.RowKit

abbrev CertV.cells (c : CertV) : Array Value := #[.string c.root, .int .u64 c.signed, .slice c.ra (len c.revs) c.rc, .slice c.ca (len c.coins) c.cc, .slice c.sa c.sn c.sc, .slice c.pa c.pn c.pc]

set_option maxRecDepth 100000 in
set_option maxHeartbeats 400000 in
theorem refPositions_any (c : CertV) (w : World) (hlen : len c.revs ≤ 17592186044416) (hc : Revs w c.ra c.revs) :
    Calls Tryz.prog 20 #[c.val] w
      fun e w' => ∃ v, e = .returned v ∧ w'.ownsRow w.heap.size 23 1 v (len c.revs) ((posOf c.revs).map (Value.int .u64)) ∧ Below w.heap.size w w' := by
  have HC := Lib.hid (hc.below (balloc (Below.refl _ _) (.cells c.cells 28)))
  have k2 : (w.alloc (.cells c.cells 28)).cell? ⟨w.heap.size, 2, none⟩ = some (.slice c.ra (len c.revs) c.rc) := by simp
  have hbw : Below w.heap.size w (w.alloc (.cells c.cells 28)) := balloc (Below.refl _ _) _
  have hz : w.heap.size < (w.alloc (.cells c.cells 28)).heap.size := by simp
  clear hc
  obtain ⟨i0, hi, hz0, hz1, hz2⟩ := info_parts info_u64
  go_enter Tryz.func20, Tryz.ntmps20
  go_wp2
  generalize (w.alloc (.cells c.cells 28)) = w1 at *
  have K2 := Lib.hid k2
  clear k2
  go_loopw [3, 4] (fun v i wr => ∃ m : Nat, m ≤ len c.revs ∧ i = .int .i64 m ∧ Below w1.heap.size w1 wr ∧ Hid (wr.ownsRow w1.heap.size 23 1 v m ((posOf (c.revs.take m)).map (Value.int .u64)))) (fun _ i _ => len c.revs - (intOf i).toNat)
  case atStart => exact ⟨0, Nat.zero_le _, rfl, Below.refl _ _, World.ownsRow_nil _ _ _ _⟩
  case round =>
    obtain ⟨m, hm, rfl, hd, hk⟩ := hrel
    have k2 : wr.cell? ⟨w.heap.size, 2, none⟩ = some (.slice c.ra (len c.revs) c.rc) := by rw [hd.cell (p := ⟨w.heap.size, 2, none⟩) hz]; exact K2.out
    by_cases hlt : m < len c.revs
    · obtain ⟨b, off, hra, hrat⟩ := HC.out.below hd m hlt
      have c0 := hrat.c0
      clear hrat
      go_wp2_with (at_builtin; refine wpList_append_own _ rfl _ _ 25 rfl w1.heap.size 23 i0 (.int .u64 0) 1 8 Tryz.underlying25 hi hz0 hz1 hz2 rfl (by decide) _ _ _ rfl (hk.out.alloc _) ⟨wr.heap.size, 0, none⟩ 1 1 [.int .u64 (rnth c.revs m).pos] rfl rfl ?c1 ?c2 ?c3 ?c4 ?c5 ?_)
      case c1 => exact alloc_cells _ #[_] _
      case c2 => intro u hu; simp at hu; subst hu; rfl
      case c3 => unfold maxLen; omega
      case c4 => omega
      case c5 => have := hd.size; simp; omega
      intro v' w2 hown' hgrow _
      have hb2 : Below w1.heap.size w1 w2 := grownBy_below (balloc hd _) hgrow (fun k hk' => (hk.out.lt k hk').1)
      have HO2 := Lib.hid hown'
      clear hown' hgrow c0 k2
      go_wp2
      go_roundw
      case rel => exact ⟨m + 1, by omega, by go_num, hb2, (by
        have e : c.revs.take (m + 1) = c.revs.take m ++ [rnth c.revs m] := by rw [List.take_succ_eq_append_getElem hlt, rnth_eq c.revs m hlt]
        have h := HO2.out
        show World.ownsRow _ _ _ _ _ _ _
        rw [e]; unfold posOf at h ⊢; simpa using h)⟩
      case measure => simp [intOf]; omega
    · go_wp2
      go_ret
      obtain rfl : m = len c.revs := by omega
      have h := hk.out
      rw [take_len] at h
      exact ⟨_, rfl, ⟨h.1, h.2.imp id (fun ⟨g, cap, cur, h1, h2, h3⟩ => ⟨g, cap, cur, h1, by omega, h3⟩)⟩, bnext hbw hd⟩

theorem subB_true {a b : List Int} {n : Nat} (hn : len a ≤ n) (h : ∀ j, j < n → memB (nth a j) b = true) : subB a b = true := by
  unfold subB; simp only [decide_eq_true_eq]
  intro x hx
  obtain ⟨i, hi, e⟩ := List.getElem_of_mem hx
  have := h i (by rw [len_eq] at hn; omega)
  rw [nth_eq a i hi, e] at this
  unfold memB at this; simpa using this
theorem subB_false {a b : List Int} {i : Nat} (hi : i < len a) (h : memB (nth a i) b = false) : subB a b = false := by
  unfold subB; simp only [decide_eq_false_iff_not]
  intro H
  have := H (nth a i) (by rw [nth_eq a i hi]; exact List.getElem_mem hi)
  unfold memB at h; simp only [decide_eq_false_iff_not] at h; exact h this

theorem nth_posOf {l : List Rev} {i : Nat} (h : i < len l) : nth (posOf l) i = (rnth l i).pos := by
  rw [nth_eq _ i (by simp only [posOf, List.length_map]; exact h), rnth_eq l i h]; simp only [posOf, List.getElem_map]; rfl

theorem outB_nil (n : Int) : outB [] n = false := rfl
theorem outB_one (r : Rev) (n : Int) : outB [r] n = !withinB r.L r.wt n := by
  unfold outB outIdx
  cases h : withinB r.L r.wt n <;> simp [List.findIdx?_cons, h]

theorem lastB_eq {c : CertV} {k : Nat} (h : len c.revs = k + 1) : lastB c = !withinB (rnth c.revs k).L (rnth c.revs k).wt c.signed := by
  unfold lastB
  have hlt : k < c.revs.length := by rw [← len_eq]; omega
  have e1 : c.revs.length - 1 = k := by rw [← len_eq]; omega
  rw [e1, List.drop_eq_getElem_cons hlt, List.drop_eq_nil_of_le (by rw [← len_eq]; omega), ← rnth_eq c.revs k hlt, outB_one]
theorem lastB_nil {c : CertV} (h : len c.revs = 0) : lastB c = false := by
  unfold lastB
  rw [List.eq_nil_of_length_eq_zero h]; rfl

/-- The i-th reveal stands as it should. -/
def okAt (c : CertV) (i : Nat) : Prop :=
  (i + 1 < len c.revs → (rnth c.revs i).pos < (rnth c.revs (i + 1)).pos ∧ withinB (rnth c.revs i).L (rnth c.revs i).wt (rnth c.revs (i + 1)).L = true) ∧
  (i + 1 = len c.revs → withinB (rnth c.revs i).L (rnth c.revs i).wt c.signed = true)

theorem shapeOf_ok {c : CertV} {most : Int} {n : Nat} (h1 : moreB c most = false) (h2 : subB (posOf c.revs) c.coins = true) (h3 : subB c.coins (posOf c.revs) = true)
    (hn : len c.revs ≤ n) (h : ∀ j, j < n → okAt c j) : shapeOf c most = 0 := by
  have r1 : riseB (posOf c.revs) = true := by
    refine riseB_true (n := len (posOf c.revs)) (Nat.le_refl _) fun i hi => ?_
    rw [len_posOf] at hi
    rw [nth_posOf (by omega), nth_posOf (by omega)]
    exact ((h i (by omega)).1 hi).1
  have r2 : apartB c.revs = true := apartB_true (n := len c.revs) (Nat.le_refl _) fun i hi => ((h i (by omega)).1 hi).2
  have r3 : lastB c = false := by
    rcases Nat.eq_zero_or_pos (len c.revs) with h0 | h0
    · exact lastB_nil h0
    · rw [lastB_eq (k := len c.revs - 1) (by omega), (h (len c.revs - 1) (by omega)).2 (by omega)]; rfl
  unfold shapeOf; simp [h1, h2, h3, r1, r2, r3]
theorem shapeOf_rise {c : CertV} {most : Int} {i : Nat} (h1 : moreB c most = false) (h2 : subB (posOf c.revs) c.coins = true) (h3 : subB c.coins (posOf c.revs) = true)
    (hi : i + 1 < len c.revs) (h : nth (posOf c.revs) (i + 1) ≤ nth (posOf c.revs) i) : shapeOf c most = 5 := by
  have r1 : riseB (posOf c.revs) = false := riseB_false (i := i) (by rw [len_posOf]; exact hi) (by omega)
  unfold shapeOf; simp [h1, h2, h3, r1]
theorem shapeOf_apart {c : CertV} {most : Int} {i : Nat} (h1 : moreB c most = false) (h2 : subB (posOf c.revs) c.coins = true) (h3 : subB c.coins (posOf c.revs) = true)
    (hi : i + 1 < len c.revs) (h : withinB (rnth c.revs i).L (rnth c.revs i).wt (rnth c.revs (i + 1)).L = false) : shapeOf c most = 5 := by
  unfold shapeOf; simp [h1, h2, h3, apartB_false hi h]
theorem shapeOf_last {c : CertV} {most : Int} {i : Nat} (h1 : moreB c most = false) (h2 : subB (posOf c.revs) c.coins = true) (h3 : subB c.coins (posOf c.revs) = true)
    (hi : i + 1 = len c.revs) (h : withinB (rnth c.revs i).L (rnth c.revs i).wt c.signed = false) : shapeOf c most = 5 := by
  unfold shapeOf; simp [h1, h2, h3, lastB_eq hi.symm, h]
theorem withinB_f1 {L wt n : Int} (h : wt = 0) : withinB L wt n = false := by unfold withinB; simp; omega
theorem withinB_f2 {L wt n : Int} (h : n < L) (h0 : 0 ≤ wt) : withinB L wt n = false := by unfold withinB; simp; omega
theorem withinB_f3 {L wt n : Int} (h : ((wt == 0) = true ∨ n < L) ∨ n - L < wt) (h0 : 0 ≤ wt) : withinB L wt n = false := by unfold withinB; simp at h ⊢; omega
theorem withinB_t {L wt n : Int} (h : ((wt == 0) = false ∧ L ≤ n) ∧ wt ≤ n - L) (h0 : 0 ≤ wt) : withinB L wt n = true := by unfold withinB; simp at h ⊢; omega
theorem withinB_false {L wt n : Int} (h : wt = 0 ∨ n < L ∨ n - L < wt) (h0 : 0 ≤ wt) : withinB L wt n = false := by unfold withinB; simp; omega
theorem withinB_true {L wt n : Int} (h : ¬ wt = 0) (h2 : wt ≤ n - L) (h0 : 0 ≤ wt) : withinB L wt n = true := by unfold withinB; simp; omega

end Go.Proofs.YtihiaopilnjonaaGreatDoor
