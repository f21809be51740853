/- Package wire: digests; a map as a field. -/
import Derived.Test.YtihiaopilnjonaaGreatDoorWireG
namespace Go.Proofs.YtihiaopilnjonaaGreatDoor
open Go.RowKit
set_option linter.unusedSimpArgs false
set_option linter.unusedVariables false

set_option maxRecDepth 100000 in
theorem fdigests_any (B : Nat) (key : ByteArray) (pb po c most : Nat) (a : Option Addr) (l : List ByteArray) (w : World) (hk : key.size < 65536) (hBw : B ≤ w.heap.size) (hc : CellAt B w pb po (.slice a (len l) c)) (hl : Strs B w a l) (hn : len l ≤ 100000) (hm : most ≤ 60000) :
    Calls Tryz.prog 145 #[.string key, .pointer (some ⟨pb, po, none⟩), .int .i64 most] w fun e w' => ∃ v : FVal, e = .returned v.val ∧ FSem B w' v ⟨key, false, decide (len l = 0), mayB l most, dgsP l⟩ ∧ Below w.heap.size w w' := by
  have HM : Hid (∀ w', Below w.heap.size w w' → w.heap.size < w'.heap.size → Calls Tryz.prog 210 #[.string key, .pointer (some ⟨pb, po, none⟩), .int .i64 most, .func (.func 211) #[] #[], .func (.func 212) #[] #[], .func (.func 213) #[] #[]] w' fun e w'' => ∃ v : FVal, e = .returned v.val ∧ (∀ V2 : World, (∀ k : Nat, k ≠ w.heap.size → V2.heap[k]? = w''.heap[k]?) → FSem B V2 v ⟨key, false, decide (len l = 0), mayB l most, dgsP l⟩) ∧ Below w'.heap.size w' w'') :=
    Lib.hid (fun w' hb hlt => fmany_any B key pb po c most a l w' hk (Nat.le_trans hBw hb.size) (hc.below hb) (hl.below hb) hn hm w.heap.size hlt (by have := hc.lt; omega) (fun i hi => by
      obtain ⟨g, o, e, hg⟩ := hl i hi
      exact ⟨g, o, e, by have := hg.lt; omega⟩))
  clear hc hl hBw
  go_enter Tryz.func145, Tryz.ntmps145
  go_wp2_with fail
  refine (HM.out _ (balloc (Below.refl _ _) _) (by simp)).mono ?_
  rintro e w1 ⟨v, rfl, hs, hb⟩
  have HS := Lib.hid hs
  have HB : Hid (Below w.heap.size w w1) := Lib.hid (bnext (balloc (Below.refl _ _) _) hb)
  have hblk := (hb.block w.heap.size (by simp)).trans (heap_alloc_new w _)
  have hfr : ∀ o, w1.frozen? ⟨w.heap.size, o, none⟩ = false := block_free hblk
  have hcl : ∀ o, w1.cell? ⟨w.heap.size, o, none⟩ = _ := block_cell hblk
  have HBK := Lib.hid hblk
  clear hs hb hblk
  unfold FVal.val
  go_wp2
  obtain ⟨V, hV⟩ : ∃ V, (((((w1.setCell ⟨w.heap.size, 0, none⟩ (.string v.key)).setCell ⟨w.heap.size, 1, none⟩ (.bool v.must)).setCell ⟨w.heap.size, 2, none⟩ (.func (.func v.ef) #[] v.ec)).setCell ⟨w.heap.size, 3, none⟩ (.func (.func v.mf) #[] v.mc)).setCell ⟨w.heap.size, 4, none⟩ (.func (.func v.pf) #[] v.pc)).setCell ⟨w.heap.size, 5, none⟩ (.func (.func v.gf) #[] v.gc) = V := ⟨_, rfl⟩
  have hV5 := block_setCell (block_setCell (block_setCell (block_setCell (block_setCell (block_setCell HBK.out (o := 0) (.string v.key)) (o := 1) (.bool v.must)) (o := 2) (.func (.func v.ef) #[] v.ec)) (o := 3) (.func (.func v.mf) #[] v.mc)) (o := 4) (.func (.func v.pf) #[] v.pc)) (o := 5) (.func (.func v.gf) #[] v.gc)
  rw [hV] at hV5
  have d : ∀ o, V.cell? ⟨w.heap.size, o, none⟩ = _ := block_cell hV5
  have hbut : ∀ k : Nat, k ≠ w.heap.size → V.heap[k]? = w1.heap[k]? := fun k hk => by
    rw [← hV, Below.heap_setCell _ _ _ _ hk, Below.heap_setCell _ _ _ _ hk, Below.heap_setCell _ _ _ _ hk, Below.heap_setCell _ _ _ _ hk, Below.heap_setCell _ _ _ _ hk, Below.heap_setCell _ _ _ _ hk]
  have hbel : Below w.heap.size w V := by
    rw [← hV]
    exact (((((HB.out.setCell (Nat.le_refl _) _).setCell (Nat.le_refl _) _).setCell (Nat.le_refl _) _).setCell (Nat.le_refl _) _).setCell (Nat.le_refl _) _).setCell (Nat.le_refl _) _
  rw [hV]
  refine bodyPost_ret (v := v.val) ?_ rfl ⟨v, rfl, HS.out V hbut, hbel⟩
  simp [results, Tryz.results145, go_sem, d, FVal.val]

/-- A row of fields in a block of its own. -/
structure FRow (w : World) (g : Nat) (l : List FVal) : Prop where
  flds : Flds w (some ⟨g, 0, none⟩) l
  ex : ∃ cur, w.heap[g]? = some (.cells cur 172 (0, 0))
theorem FRow.keep {B : Nat} {w w' : World} {g : Nat} {l : List FVal} (h : FRow w g l) (hk : Keep8 B w w') : FRow w' g l := by
  obtain ⟨h1, cur, h2⟩ := h
  have h3 := hk.keep g _ h2 (not8_cells (by decide))
  exact ⟨flds_keep h1 (h3.trans h2.symm), cur, h3⟩
theorem FRow.below {w w' : World} {g : Nat} {l : List FVal} (h : FRow w g l) (hk : Below w.heap.size w w') : FRow w' g l := by
  obtain ⟨h1, cur, h2⟩ := h
  have h3 := hk.block g (lt_of_block h2)
  exact ⟨flds_keep h1 h3, cur, h3.trans h2⟩
theorem FRow.lt {w : World} {g : Nat} {l : List FVal} (h : FRow w g l) : g < w.heap.size := by
  obtain ⟨h1, cur, h2⟩ := h; exact lt_of_block h2

def objSpec (key : ByteArray) (fs : List FSpec) : FSpec := ⟨key, fs.any fun f => f.must, fs.all fun f => f.empty, allMay fs, layP fs⟩
theorem allEmpty_iff (fs : List FSpec) (n : Nat) (h : len fs = n) : ((fs.all fun f => f.empty) = false ↔ ∃ i, i < n ∧ (!(spth fs i).empty) = true) := by
  subst h
  rw [List.all_eq_false]
  constructor
  · rintro ⟨x, hx, hm⟩
    obtain ⟨i, hi, rfl⟩ := List.getElem_of_mem hx
    exact ⟨i, hi, by rw [spth_eq fs i hi]; simpa using hm⟩
  · rintro ⟨i, hi, hm⟩
    have hi' : i < fs.length := hi
    exact ⟨fs[i], List.getElem_mem _, by rw [spth_eq fs i hi'] at hm; simpa using hm⟩
theorem anyMust_iff (fs : List FSpec) (n : Nat) (h : len fs = n) : ((fs.any fun f => f.must) = true ↔ ∃ i, i < n ∧ (spth fs i).must = true) := by
  subst h
  rw [List.any_eq_true]
  constructor
  · rintro ⟨x, hx, hm⟩
    obtain ⟨i, hi, rfl⟩ := List.getElem_of_mem hx
    exact ⟨i, hi, by rw [spth_eq fs i hi]; exact hm⟩
  · rintro ⟨i, hi, hm⟩
    have hi' : i < fs.length := hi
    exact ⟨fs[i], List.getElem_mem _, by rw [spth_eq fs i hi'] at hm; exact hm⟩

set_option maxRecDepth 100000 in
theorem obj2_any (B bx g c : Nat) (W0 : World) (l : List FVal) (fs : List FSpec) (w : World) (h1 : CellAt B w bx 0 (.slice (some ⟨g, 0, none⟩) (len l) c)) (hl : Flds w (some ⟨g, 0, none⟩) l) (hn : len l ≤ 1000) (hS : FSems B W0 l fs) (hk : Keep8 B W0 w) :
    Calls Tryz.prog 178 #[.pointer (some ⟨bx, 0, none⟩)] w fun e w' => e = .returned (.bool (fs.all fun f => f.empty)) ∧ Below w.heap.size w w' := by
  have c1 := h1.cell
  have H := Lib.hid (containsf_any (some ⟨g, 0, none⟩) c l 179 #[] _ w hl hn (says_full hS hk))
  have HI := Lib.hid (allEmpty_iff fs (len l) hS.1)
  clear h1 hl hS hk
  go_enter Tryz.func178, Tryz.ntmps178
  go_wp2_with fail
  refine H.out.mono ?_
  rintro e w1 ⟨b, rfl, hb1, hb⟩
  have HB := Lib.hid hb
  have HE : Hid ((!b) = (fs.all fun f => f.empty)) := Lib.hid (by
    have h := HI.out
    cases b with
    | true => rw [h.2 (hb1.1 rfl)]; rfl
    | false =>
      cases hm : (fs.all fun f => f.empty) with
      | true => rfl
      | false => exact absurd (hb1.2 (h.1 hm)) (by decide))
  clear hb hb1
  go_wp2
  go_ret
  exact ⟨ret_bool HE.out, HB.out⟩
theorem obj3_any (B bx g c : Nat) (W0 : World) (l : List FVal) (fs : List FSpec) (w : World) (h1 : CellAt B w bx 0 (.slice (some ⟨g, 0, none⟩) (len l) c)) (hl : Flds w (some ⟨g, 0, none⟩) l) (hn : len l ≤ 1000) (hS : FSems B W0 l fs) (hk : Keep8 B W0 w) :
    Calls Tryz.prog 180 #[.pointer (some ⟨bx, 0, none⟩)] w fun e w' => e = .returned (.bool (allMay fs)) ∧ Below w.heap.size w w' := by
  have c1 := h1.cell
  have H := Lib.hid (all_any B W0 (some ⟨g, 0, none⟩) c l fs w hl hn hS hk)
  clear h1 hl hS hk
  go_enter Tryz.func180, Tryz.ntmps180
  go_wp2_with fail
  refine H.out.mono ?_
  rintro e w1 ⟨rfl, hb⟩
  have HB := Lib.hid hb
  clear hb
  go_wp2
  go_ret
  exact ⟨rfl, HB.out⟩
theorem obj4_any (B b base bx g c : Nat) (W0 : World) (l : List FVal) (fs : List FSpec) (s : ByteArray) (w : World) (h1 : CellAt B w bx 0 (.slice (some ⟨g, 0, none⟩) (len l) c)) (hl : Flds w (some ⟨g, 0, none⟩) l) (hn : len l ≤ 1000) (h0 : 0 < len l) (hS : FSems B W0 l fs) (hm : allMay fs = true) (hk : Keep8 B W0 w) (hb0 : W0.heap.size ≤ b)
    (ht : PTab B w) (hB : B ≤ base) (hW : WrB w b base s) (hs : s.size + (layP fs).size ≤ 60000000000000) :
    Calls Tryz.prog 181 #[.pointer (some ⟨b, 0, none⟩), .pointer (some ⟨bx, 0, none⟩)] w fun e w' => e = .returned (.tuple #[]) ∧ WrB w' b base (s ++ layP fs) ∧ WK base b w w' := by
  have c1 := h1.cell
  have H := Lib.hid (lay_any B b base g 0 c W0 l fs s w hl hn h0 hS hm hk hb0 ht hB hW hs)
  clear h1 hl hS hk ht hW
  go_enter Tryz.func181, Tryz.ntmps181
  go_wp2_with fail
  refine H.out.mono ?_
  rintro e w1 ⟨rfl, h3, h4⟩
  have H3 := Lib.hid h3
  have H4 := Lib.hid h4
  clear h3 h4
  go_wp2
  go_end0
  exact ⟨rfl, H3.out, H4.out⟩
end Go.Proofs.YtihiaopilnjonaaGreatDoor
