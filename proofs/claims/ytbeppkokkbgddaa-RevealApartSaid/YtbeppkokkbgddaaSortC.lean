/- slices.Sort and slices.Sorted of uint64 numbers, of whatever length. -/
import Derived.Test.YtbeppkokkbgddaaSortB
import Derived.Test.YtbeppkokkbgddaaSB13
import Derived.Test.YtbeppkokkbgddaaSB7
import Derived.Test.YtbeppkokkbgddaaSB11
import Derived.Test.YtbeppkokkbgddaaSBC4
import Derived.Test.YtbeppkokkbgddaaSBA6
import Derived.Sort.AssemblyPlain
import Derived.Sort.LotC
namespace Go.Proofs.Ytbeppkokkbgddaa
open Go.RowKit Go.Sort
set_option linter.unusedSimpArgs false
set_option linter.unusedVariables false

theorem callees13 : Callees13 where
  ins := insertion_any
  brk := so_breakPatterns_int
  piv := so_choosePivot_int
  par := so_partialInsertionSort_int
  peq := so_partitionEqualOrdered_int
  prt := so_partitionOrdered_int
theorem plain13 : Plain13 where
  swo := swo_ltInt
  ins := insertionSort_holds
  par := partialInsertionSort_holds
  prt := partition_holds _
  peq := partitionEqual_holds _
  pdq := pdq_sorts _

theorem sort_srt (l : List Int) : Sort.sort ltInt l.toArray = (srt l).toArray := by
  show _ = (l.mergeSort fun x y => decide (x ≤ y)).toArray
  rw [← sortInt l]

theorem pdq_any (blk off cap : Nat) (l : List Int) (w : World) (hH : Holds (Value.int .u64) w blk off l.toArray) (hblk : blk < w.heap.size) (hsz : l.length < 4611686018427387904) :
    Calls Try.prog 69 #[.slice (some ⟨blk, off, none⟩) l.length cap, .int .i64 0, .int .i64 l.length, .int .i64 (Lib.bitLen l.length : Nat)] w fun e w' => e = .returned (.tuple #[]) ∧ ∃ n os, w' = grow (putRow (Value.int .u64) (Sort.ahead w n) blk off (srt l).toArray) os := by
  have hs : l.toArray.size = l.length := by simp
  have hb := bitLen_eq l.length (by omega)
  have hle : bitsLen l.length ≤ 62 := (bitsLen_le_iff _ 62).2 (by omega)
  have h := so_pdqsort_int callees13 plain13 (l.length + 1) blk off cap 0 l.toArray.size (bitsLen l.length) l.toArray w (by omega) hH hblk (Nat.zero_le _) (Nat.le_refl _) (by omega) (by omega) (.inl rfl)
  have e : pdq ltInt l.toArray 0 l.toArray.size (bitsLen l.length) true true = (srt l).toArray := by
    rw [← sort_srt]; unfold Sort.sort; rw [hs]
  rw [e, hs] at h
  rw [hb]
  exact h

theorem grown_block {w : World} {g n : Nat} {cur : Array Value} {e : TypeId} {fr : Nat × Nat} {os : Array Obj} (d : Array Int) (hb : w.heap[g]? = some (.cells cur e fr)) :
    (grow (putRow (Value.int .u64) (Sort.ahead w n) g 0 d) os).heap[g]? = some (.cells (putCells (Value.int .u64) 0 d cur) e fr) := by
  have hg : g < w.heap.size := (Array.getElem?_eq_some_iff.1 hb).1
  rw [heap_grow_old _ _ (by simpa [putRow, mapBlock, Sort.ahead] using hg)]
  exact put_block d hb
theorem grown_grown {w : World} {g n : Nat} {os : Array Obj} (d : Array Int) : w.grownBy (grow (putRow (Value.int .u64) (Sort.ahead w n) g 0 d) os) (some g) := by
  refine ⟨rfl, rfl, rfl, by simp [grow, putRow, mapBlock, Sort.ahead], fun k hk hne => ?_⟩
  rw [heap_grow_old _ _ (by simpa [putRow, mapBlock, Sort.ahead] using hk)]
  have : g ≠ k := fun e => hne (by rw [e])
  simp [putRow, mapBlock, Sort.ahead, Array.getElem?_modify, this]
theorem grown_own {w : World} {base g cap n : Nat} {e : TypeId} {os : Array Obj} {cur : Array Value} {ss ts : List Int} (hl : ts.length = ss.length) (hbase : base ≤ g) (hb : w.heap[g]? = some (.cells cur e (0, 0)))
    (h1 : ss.length ≤ cap) (h2 : cap ≤ maxLen) (h3 : cur.size = cap * 1) :
    (grow (putRow (Value.int .u64) (Sort.ahead w n) g 0 ts.toArray) os).ownsRow base e 1 (.slice (some ⟨g, 0, none⟩) ss.length cap) ss.length (ts.map (Value.int .u64)) :=
  ⟨by simp [hl], .inr ⟨g, cap, _, rfl, hbase, grown_block _ hb, h1, h2, by simp [putCells, h3], by rw [Nat.mul_one, ← hl]; exact put_take cur ts (by omega)⟩⟩

set_option maxRecDepth 100000 in
theorem sort_any (w : World) (base : Nat) (v : Value) (xs : List Int) (hown : w.ownsRow base 22 1 v xs.length (xs.map (Value.int .u64))) (h12 : xs.length < 4611686018427387904) :
    Calls Try.prog 56 #[v] w (SortedIs base v xs w) := by
  have hbl := fun x w h0 h1 => Try.bits_Len x w h0 h1
  obtain ⟨h1, h2⟩ := hown
  rcases h2 with ⟨rfl, h2⟩ | ⟨g, cap, cur, rfl, hg, hh, hc1, hc2, hc3, hc4⟩
  · obtain rfl : xs = [] := List.eq_nil_of_length_eq_zero h2
    clear h1 h2 h12
    go_enter Try.func56, Try.ntmps56
    go_wp2_with fail
    refine (hbl 0 _ (by decide) (by decide)).mono ?_
    rintro e w' ⟨rfl, rfl⟩
    go_wp2_with fail
    refine (pdq_nil _ _).mono ?_
    rintro e w'' ⟨rfl, rfl⟩
    go_wp2
    go_end0
    exact ⟨rfl, (by rw [show srt [] = [] by simp [srt]]; exact World.ownsRow_nil _ _ _ _), ⟨rfl, rfl, rfl, Nat.le_refl _, fun _ _ _ => rfl⟩⟩
  · have HO : Hid (Holds (Value.int .u64) w g 0 xs.toArray) := Lib.hid (holds_row hh (by rw [Nat.mul_one] at hc4; exact hc4))
    have HH := Lib.hid hh
    have H3 := Lib.hid hc3
    have hlt : g < w.heap.size := (Array.getElem?_eq_some_iff.1 hh).1
    have HP : Hid (∀ W : World, W = w → Calls Try.prog 69 #[.slice (some ⟨g, 0, none⟩) xs.length cap, .int .i64 0, .int .i64 xs.length, .int .i64 (Lib.bitLen xs.length : Nat)] W fun e w' => e = .returned (.tuple #[]) ∧ ∃ n os, w' = grow (putRow (Value.int .u64) (Sort.ahead w n) g 0 (srt xs).toArray) os) := Lib.hid (fun W hW => by rw [hW]; exact pdq_any g 0 cap xs w HO.out hlt h12)
    have hx62 : (xs.length : Int) < 4611686018427387904 := by omega
    clear hh hc3 hc4 h1
    go_enter Try.func56, Try.ntmps56
    go_wp2_with fail
    refine (hbl xs.length _ (by omega) (by omega)).mono ?_
    rintro e w' ⟨rfl, rfl⟩
    go_wp2_with fail
    refine (HP.out _ rfl).mono ?_
    rintro e w'' ⟨rfl, n, os, hw⟩
    have HW := Lib.hid hw
    clear hw
    go_wp2
    go_end0
    refine ⟨rfl, ?_, ?_⟩
    · have := HW.out
      rw [this]
      have h3 := H3.out
      exact grown_own (by rw [srt_len]) hg HH.out hc1 hc2 h3
    · rw [HW.out]; exact grown_grown _

set_option maxRecDepth 100000 in
theorem sorted_any (w : World) (gf N : Nat) (lb : Array Value) (S : List Int → Prop) (Px : Int → World → Prop) (hpx : ∀ k W W', Px k W → Px k W') (eg : ∀ args w, (callFunc gf args).run Try.prog w = .ok (.enter gf args) w)
    (hseq : SeqP Fence.wide 4 Try.prog gf lb (fun k : Int => #[.int .u64 k]) Px S N w) (hN : N ≤ 1000000) (h12 : ∀ xs, S xs → xs.length < 4611686018427387904) :
    Calls Try.prog 45 #[.func (.func gf) #[] lb] w (SortedOf S w) := by
  have HS := Lib.hid hseq
  have HP := Lib.hid hpx
  have HG := Lib.hid eg
  have H12 := Lib.hid h12
  clear hseq hpx eg h12
  go_enter Try.func45, Try.ntmps45
  go_wp2_with fail
  refine (collect_any w gf N lb S Px HP.out HG.out HS.out hN).mono ?_
  rintro e w1 ⟨v, xs, rfl, hS, hr, hb⟩
  have H1 := Lib.hid hS
  have H2 : Hid (w1.ownsRow w.heap.size 22 1 v xs.length (xs.map (Value.int .u64))) := Lib.hid hr
  have H3 := Lib.hid hb
  clear hS hr hb
  go_wp2_with fail
  refine (sort_any w1 w.heap.size v xs H2.out (H12.out xs H1.out)).mono ?_
  rintro e w2 ⟨rfl, hr, hg⟩
  have H4 := Lib.hid hr
  have H5 : Hid (Below w.heap.size w w2) := Lib.hid (grownBy_below H3.out hg (fun k hk => by
    have := H2.out.2
    rcases this with ⟨rfl, _⟩ | ⟨g, cap, cur, rfl, hg1, _⟩
    · simp [Value.ownBlock] at hk
    · obtain rfl : g = k := by simpa [Value.ownBlock] using hk
      exact hg1))
  clear hr hg
  go_wp2
  go_ret
  exact ⟨v, xs, rfl, H1.out, H4.out, H5.out⟩
end Go.Proofs.Ytbeppkokkbgddaa
