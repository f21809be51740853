/- slices.Sort and slices.Sorted, of at most twelve uint64 numbers. -/
import Derived.Test.YtbeppkokkbgddaaSortA
import Derived.Test.YtbeppkokkbgddaaCollect
namespace Go.Proofs.Ytbeppkokkbgddaa
open Go.RowKit Go.Sort
set_option linter.unusedSimpArgs false
set_option linter.unusedVariables false

/-- The numbers, rising. -/
def srt (l : List Int) : List Int := l.mergeSort fun x y => decide (x ≤ y)
theorem srt_len (l : List Int) : (srt l).length = l.length := by unfold srt; exact List.length_mergeSort l
theorem srt_mem (l : List Int) (k : Int) : k ∈ srt l ↔ k ∈ l := by unfold srt; exact List.mem_mergeSort
theorem srt_up (l : List Int) : (srt l).Pairwise (fun a b => a ≤ b) := by
  have := List.pairwise_mergeSort (le := fun x y : Int => decide (x ≤ y)) (fun a b c h1 h2 => by simp only [decide_eq_true_eq] at *; omega) (fun a b => by simp only [Bool.or_eq_true, decide_eq_true_eq]; omega) l
  simpa [srt] using this
theorem srt_nodup {l : List Int} (h : l.Nodup) : (srt l).Nodup := (List.mergeSort_perm l _).symm.nodup h
/-- A rising list without doubles is one of its numbers' set alone. -/
theorem rising_eq : ∀ {a b : List Int}, a.Pairwise (fun x y => x < y) → b.Pairwise (fun x y => x < y) → (∀ k, k ∈ a ↔ k ∈ b) → a = b
  | [], [], _, _, _ => rfl
  | [], y :: b, _, _, h => absurd ((h y).2 (List.mem_cons_self ..)) (by simp)
  | x :: a, [], _, _, h => absurd ((h x).1 (List.mem_cons_self ..)) (by simp)
  | x :: a, y :: b, ha, hb, h => by
    rw [List.pairwise_cons] at ha hb
    have hxy : x = y := by
      rcases List.mem_cons.1 ((h x).1 (List.mem_cons_self ..)) with e | hx
      · exact e
      · rcases List.mem_cons.1 ((h y).2 (List.mem_cons_self ..)) with e | hy
        · exact e.symm
        · have := ha.1 y hy; have := hb.1 x hx; omega
    subst hxy
    rw [rising_eq ha.2 hb.2 (fun k => by
      have hk := h k
      simp only [List.mem_cons] at hk
      constructor
      · intro hm
        rcases hk.1 (.inr hm) with e | h2
        · subst e; have := ha.1 k hm; omega
        · exact h2
      · intro hm
        rcases hk.2 (.inr hm) with e | h2
        · subst e; have := hb.1 k hm; omega
        · exact h2)]
theorem srt_rising {l : List Int} (h : l.Nodup) : (srt l).Pairwise (fun x y => x < y) := by
  have h1 := srt_up l
  have h2 := srt_nodup h
  have := List.Pairwise.and h1 h2
  exact this.imp (fun h => by have := h.1; have := h.2; omega)
theorem srt_of {l m : List Int} (h : l.Nodup) (hm : m.Pairwise (fun x y => x < y)) (he : ∀ k, k ∈ l ↔ k ∈ m) : srt l = m := rising_eq (srt_rising h) hm (fun k => (srt_mem l k).trans (he k))

theorem ins_srt (l : List Int) : Sort.insertionSort ltInt l.toArray 0 l.toArray.size = (srt l).toArray := by
  obtain ⟨hP, hSo⟩ := insertionSort_holds (lt := ltInt) swo_ltInt l.toArray 0 l.toArray.size (Nat.zero_le _) (Nat.le_refl _)
  have h := sorted_unique_holds swo_ltInt (fun x y h1 h2 => by simp only [ltInt, decide_eq_false_iff_not] at h1 h2; omega) l.toArray _ hP hSo
  apply Array.toList_inj.1
  rw [h]
  unfold srt
  congr 1
  funext x y
  simp only [ltInt]
  by_cases hxy : x ≤ y
  · have : ¬ y < x := by omega
    simp [hxy]
  · have : y < x := by omega
    simp [hxy, this]

theorem holds_row {w : World} {g : Nat} {cur : Array Value} {e : TypeId} {ss : List Int} (hb : w.heap[g]? = some (.cells cur e (0, 0))) (ht : cur.toList.take ss.length = ss.map (Value.int .u64)) : Holds (Value.int .u64) w g 0 ss.toArray := by
  intro j hj
  have hj' : j < ss.length := by simpa using hj
  refine ⟨?_, by simp [World.frozen?, hb]⟩
  have h1 : (cur.toList.take ss.length)[j]? = (ss.map (Value.int .u64))[j]? := by rw [ht]
  rw [List.getElem?_take_of_lt hj'] at h1
  simp only [World.cell?, hb, Nat.zero_add]
  simp only [Option.isSome_none, Bool.false_eq_true, if_false]
  rw [← Array.getElem?_toList, h1]
  simp [hj']
theorem put_block {w : World} {g n : Nat} {cur : Array Value} {e : TypeId} {fr : Nat × Nat} (d : Array Int) (hb : w.heap[g]? = some (.cells cur e fr)) :
    (putRow (Value.int .u64) (Sort.ahead w n) g 0 d).heap[g]? = some (.cells (putCells (Value.int .u64) 0 d cur) e fr) := by
  simp [putRow, mapBlock, Sort.ahead, Array.getElem?_modify, hb, onCells]
theorem put_grown {w : World} {g n : Nat} (d : Array Int) : w.grownBy (putRow (Value.int .u64) (Sort.ahead w n) g 0 d) (some g) := by
  refine ⟨rfl, rfl, rfl, by simp [putRow, mapBlock, Sort.ahead], fun k hk hne => ?_⟩
  have : g ≠ k := fun e => hne (by rw [e])
  simp [putRow, mapBlock, Sort.ahead, Array.getElem?_modify, this]
theorem put_take (cur : Array Value) (ts : List Int) (h : ts.length ≤ cur.size) : (putCells (Value.int .u64) 0 ts.toArray cur).toList.take ts.length = ts.map (Value.int .u64) := by
  apply List.ext_getElem?
  intro j
  by_cases hj : j < ts.length
  · rw [List.getElem?_take_of_lt hj, Array.getElem?_toList]
    simp [putCells, hj, show j < cur.size by omega]
  · rw [List.getElem?_take_eq_none (by omega), List.getElem?_eq_none (by simp; omega)]
theorem put_own {w : World} {base g cap n : Nat} {e : TypeId} {cur : Array Value} {ss ts : List Int} (hl : ts.length = ss.length) (hbase : base ≤ g) (hb : w.heap[g]? = some (.cells cur e (0, 0)))
    (h1 : ss.length ≤ cap) (h2 : cap ≤ maxLen) (h3 : cur.size = cap * 1) :
    (putRow (Value.int .u64) (Sort.ahead w n) g 0 ts.toArray).ownsRow base e 1 (.slice (some ⟨g, 0, none⟩) ss.length cap) ss.length (ts.map (Value.int .u64)) :=
  ⟨by simp [hl], .inr ⟨g, cap, _, rfl, hbase, put_block _ hb, h1, h2, by simp [putCells, h3], by rw [Nat.mul_one, ← hl]; exact put_take cur ts (by omega)⟩⟩

theorem insertion_nil (w : World) : Calls Try.prog 74 #[.slice none 0 0, .int .i64 0, .int .i64 0] w fun e w' => e = .returned (.tuple #[]) ∧ w = w' := by
  go_enter Try.func74, Try.ntmps74
  go_wp2_with fail
  refine wp_loop_rounds 1 ?_
  rw [rounds_succ]
  go_wp2
  go_end0
  exact ⟨rfl, rfl⟩
set_option maxRecDepth 100000 in
theorem pdq_nil (w : World) (lim : Nat) : Calls Try.prog 69 #[.slice none 0 0, .int .i64 0, .int .i64 0, .int .i64 lim] w fun e w' => e = .returned (.tuple #[]) ∧ w = w' := by
  go_enter Try.func69, Try.ntmps69
  go_wp2_with fail
  refine wp_loop_rounds 1 ?_
  rw [rounds_succ]
  go_wp2_with fail
  refine (insertion_nil w).mono ?_
  rintro e w' ⟨rfl, rfl⟩
  go_wp2
  refine bodyPost_ret (results_none rfl _ _ _) rfl ?_
  exact ⟨rfl, rfl⟩

/-- What is sorted in place. -/
def SortedIs (base : Nat) (v : Value) (xs : List Int) (w : World) (e : Ending) (w' : World) : Prop :=
  e = .returned (.tuple #[]) ∧ w'.ownsRow base 22 1 v xs.length ((srt xs).map (Value.int .u64)) ∧ w.grownBy w' v.ownBlock

set_option maxRecDepth 100000 in
theorem sort12_any (w : World) (base : Nat) (v : Value) (xs : List Int) (hown : w.ownsRow base 22 1 v xs.length (xs.map (Value.int .u64))) (h12 : xs.length ≤ 12) :
    Calls Try.prog 56 #[v] w (SortedIs base v xs w) := by
  have hbl := fun x w h0 h1 => Try.bits_Len x w h0 h1
  obtain ⟨h1, h2⟩ := hown
  rcases h2 with ⟨rfl, h2⟩ | ⟨g, cap, cur, rfl, hg, hh, hc1, hc2, hc3, hc4⟩
  · obtain rfl : xs = [] := List.eq_nil_of_length_eq_zero h2
    clear h1 h2 h12
    go_enter Try.func56, Try.ntmps56
    go_wp2_with fail
    refine (hbl 0 _ (by decide) (by decide)).mono ?_
    rintro e w' ⟨rfl, rfl⟩
    go_wp2_with fail
    refine (pdq_nil _ _).mono ?_
    rintro e w'' ⟨rfl, rfl⟩
    go_wp2
    go_end0
    exact ⟨rfl, (by rw [show srt [] = [] by simp [srt]]; exact World.ownsRow_nil _ _ _ _), ⟨rfl, rfl, rfl, Nat.le_refl _, fun _ _ _ => rfl⟩⟩
  · have HO : Hid (Holds (Value.int .u64) w g 0 xs.toArray) := Lib.hid (holds_row hh (by rw [Nat.mul_one] at hc4; exact hc4))
    have HH := Lib.hid hh
    have H3 := Lib.hid hc3
    have hz : (xs.length : Int) ≤ 12 := by omega
    have hsz : xs.toArray.size = xs.length := by simp
    have hx : xs.toArray.size ≤ 12 := by omega
    have P := fun (W : World) (lim : Nat) (hW : W = w) => pdq12_any g 0 cap lim xs.toArray W (by rw [hW]; exact HO.out) hx
    rw [hsz] at P
    have HP := Lib.hid P
    clear P hh hc3 hc4 h1 hsz hx
    go_enter Try.func56, Try.ntmps56
    go_wp2_with fail
    refine (hbl xs.length _ (by omega) (by omega)).mono ?_
    rintro e w' ⟨rfl, rfl⟩
    go_wp2_with fail
    refine (HP.out _ _ rfl).mono ?_
    rintro e w'' ⟨rfl, n, hw⟩
    have HW := Lib.hid hw
    clear hw
    go_wp2
    go_end0
    refine ⟨rfl, ?_, ?_⟩
    · have := HW.out
      have hsz : xs.toArray.size = xs.length := by simp
      rw [← hsz, ins_srt] at this
      rw [this]
      have h3 := H3.out
      exact put_own (by rw [srt_len]) hg HH.out hc1 hc2 h3
    · rw [HW.out]; exact put_grown _

/-- What is collected and sorted. -/
def SortedOf (S : List Int → Prop) (w : World) (e : Ending) (w' : World) : Prop :=
  ∃ (v : Value) (xs : List Int), e = .returned v ∧ S xs ∧ w'.ownsRow w.heap.size 22 1 v xs.length ((srt xs).map (Value.int .u64)) ∧ Below w.heap.size w w'

set_option maxRecDepth 100000 in
theorem sorted12_any (w : World) (gf N : Nat) (lb : Array Value) (S : List Int → Prop) (Px : Int → World → Prop) (hpx : ∀ k W W', Px k W → Px k W') (eg : ∀ args w, (callFunc gf args).run Try.prog w = .ok (.enter gf args) w)
    (hseq : SeqP Fence.wide 4 Try.prog gf lb (fun k : Int => #[.int .u64 k]) Px S N w) (hN : N ≤ 1000000) (h12 : ∀ xs, S xs → xs.length ≤ 12) :
    Calls Try.prog 45 #[.func (.func gf) #[] lb] w (SortedOf S w) := by
  have HS := Lib.hid hseq
  have HP := Lib.hid hpx
  have HG := Lib.hid eg
  have H12 := Lib.hid h12
  clear hseq hpx eg h12
  go_enter Try.func45, Try.ntmps45
  go_wp2_with fail
  refine (collect_any w gf N lb S Px HP.out HG.out HS.out hN).mono ?_
  rintro e w1 ⟨v, xs, rfl, hS, hr, hb⟩
  have H1 := Lib.hid hS
  have H2 : Hid (w1.ownsRow w.heap.size 22 1 v xs.length (xs.map (Value.int .u64))) := Lib.hid hr
  have H3 := Lib.hid hb
  clear hS hr hb
  go_wp2_with fail
  refine (sort12_any w1 w.heap.size v xs H2.out (H12.out xs H1.out)).mono ?_
  rintro e w2 ⟨rfl, hr, hg⟩
  have H4 := Lib.hid hr
  have H5 : Hid (Below w.heap.size w w2) := Lib.hid (grownBy_below H3.out hg (fun k hk => by
    have := H2.out.2
    rcases this with ⟨rfl, _⟩ | ⟨g, cap, cur, rfl, hg1, _⟩
    · simp [Value.ownBlock] at hk
    · obtain rfl : g = k := by simpa [Value.ownBlock] using hk
      exact hg1))
  clear hr hg
  go_wp2
  go_ret
  exact ⟨v, xs, rfl, H1.out, H4.out, H5.out⟩
end Go.Proofs.Ytbeppkokkbgddaa
